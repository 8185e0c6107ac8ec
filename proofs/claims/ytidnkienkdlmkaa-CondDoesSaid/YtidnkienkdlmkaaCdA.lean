/-
  cond: what lies in memory; contracts of slices.IndexFunc at its waiters, of at, none, put, Grow, Concat. Condition: few waiters.
-/
import Derived.Test.YtidnkienkdlmkaaChCat
import Derived.Test.YtidnkienkdlmkaaChQ
import Derived.Test.YtidnkienkdlmkaaMxDrop
import Derived.Test.YtidnkienkdlmkaaMxTurn
namespace Go.Proofs.Ytidnkienkdlmkaa
open Go.RowKit Go.Sh

/-- Who waits for a condition, and the block of its mutex. -/
structure WC : Type where
  who : Int
  m : Nat
instance : Inhabited WC := ⟨⟨0, 0⟩⟩
abbrev CW (x : WC) : List Value := [.int .i64 x.who, .pointer (some ⟨x.m, 0, none⟩)]
theorem CW_len (x : WC) : (CW x).length = 2 := rfl
theorem CW_one (x : WC) : ∀ u ∈ CW x, u.oneCell' = true := fun u h => by simp at h; rcases h with rfl | rfl <;> rfl
theorem Try.info128 : (Try.prog.info? 128).map (fun i => (i.zero, i.size, i.bytes)) = some (some (.agg #[.int .i64 0, .pointer none]), 2, 16) := by kernel_rfl

theorem rd_cw {w : World} {v : Value} {xs : List WC} (h : Rd w CW v xs) : ∃ ao cap, v = .slice ao xs.length cap ∧ ∀ i (hi : i < xs.length), ∃ g off, ao = some ⟨g, off, none⟩ ∧ g < w.heap.size ∧ w.cell? ⟨g, off + i * 2, none⟩ = some (.int .i64 xs[i].who) ∧ w.cell? ⟨g, off + i * 2 + 1, none⟩ = some (.pointer (some ⟨xs[i].m, 0, none⟩)) := by
  rcases h with ⟨rfl, ao, cap, rfl⟩ | ⟨g, off, cap, rfl, hc⟩
  · exact ⟨ao, cap, rfl, fun i hi => by simp at hi⟩
  · refine ⟨_, cap, rfl, fun i hi => ?_⟩
    have h0 := hc (i * 2 + 0) (.int .i64 xs[i].who) (by rw [flatMap_get CW_len xs i 0 (by omega), List.getElem?_eq_getElem hi]; rfl)
    have h1 := hc (i * 2 + 1) (.pointer (some ⟨xs[i].m, 0, none⟩)) (by rw [flatMap_get CW_len xs i 1 (by omega), List.getElem?_eq_getElem hi]; rfl)
    rw [← Nat.add_assoc] at h0 h1
    exact ⟨g, off, rfl, World.block_lt_of_cell? _ _ h0, h0, h1⟩

/-- The closure of at. -/
theorem atc105 (x : WC) (who : Int) (Bw : Nat) (w : World) (hw : w.cell? ⟨Bw, 0, none⟩ = some (.int .i64 who)) :
    Calls Try.prog 105 #[.agg #[.int .i64 x.who, .pointer (some ⟨x.m, 0, none⟩)], .pointer (some ⟨Bw, 0, none⟩)] w fun e w' => e = .returned (.bool (x.who == who)) ∧ w' = w.alloc (.cells #[.int .i64 x.who, .pointer (some ⟨x.m, 0, none⟩)] 128) := by
  have hlt := World.block_lt_of_cell? _ _ hw
  go_enter Try.func105, Try.ntmps105
  go_wp2
  go_ret
  exact ⟨rfl, rfl⟩

/-- Where a thread waits. -/
def qidx (xs : List WC) (who : Int) : Int := idx (xs.map WC.who) who

def IdxPostQ (B : Nat) (w0 w : World) (F : List (Nat × Obj)) (r : Int) (e : Ending) (w' : World) : Prop := e = .returned (.int .i64 r) ∧ Own B w0 w' F ∧ Below w.heap.size w w'

set_option maxRecDepth 100000 in
set_option maxHeartbeats 1000000 in
theorem idxf104 (B : Nat) (w0 : World) (F : List (Nat × Obj)) (xs : List WC) (v : Value) (who : Int) (Bw : Nat) (w : World) (hR : Rd w CW v xs) (hO : Own B w0 w F) (hw : w.cell? ⟨Bw, 0, none⟩ = some (.int .i64 who)) (hx : xs.length ≤ 100000) :
    Calls Try.prog 104 #[v, .func (.func 105) #[] #[.pointer (some ⟨Bw, 0, none⟩)]] w (IdxPostQ B w0 w F (qidx xs who)) := by
  obtain ⟨ao, cap, rfl, hc⟩ := rd_cw hR
  have eg : ∀ args w, (callFunc 105 args).run Try.prog w = .ok (.enter 105 args) w := enters_of Try.func105 (by kernel_rfl) rfl
  have HC := Lib.hid hc
  have HW := Lib.hid hw
  have hbw := World.block_lt_of_cell? _ _ hw
  have HB0 := Lib.hid (Below.refl w.heap.size w)
  clear hR hc hw
  go_enter Try.func104, Try.ntmps104
  go_wp2
  go_loopw [5, 8] (fun _ i wr => ∃ k : Nat, k ≤ xs.length ∧ i = .int .i64 k ∧ Hid (∀ j, j < k → (xs.map WC.who)[j]?.getD 0 ≠ who) ∧ Own B w0 wr F ∧ Hid (Below w.heap.size w wr)) (fun _ i _ => xs.length - (intOf i).toNat)
  case atStart => exact ⟨0, Nat.zero_le _, rfl, Lib.hid fun _ h => by omega, hO, HB0⟩
  case round =>
    obtain ⟨k, hk, rfl, HN, hO1, HB⟩ := hrel
    by_cases hlt : k < xs.length
    · obtain ⟨g, off, rfl, hg, e0, e1⟩ := HC.out k hlt
      have c0 := (HB.out.cell (p := ⟨g, off + k * 2, none⟩) hg).trans e0
      have c1 := (HB.out.cell (p := ⟨g, off + k * 2 + 1, none⟩) hg).trans e1
      have hwc := (HB.out.cell (p := ⟨Bw, 0, none⟩) hbw).trans HW.out
      have hki : (k : Int) < xs.length := by omega
      have hO2 := hO1.junk (.cells #[.int .i64 xs[k].who, .pointer (some ⟨xs[k].m, 0, none⟩)] 128)
      have hb2 := Lib.hid (HB.out.trans ((Below.refl _ wr).alloc HB.out.size (.cells #[.int .i64 xs[k].who, .pointer (some ⟨xs[k].m, 0, none⟩)] 128)))
      clear e0 e1 hO hO1
      by_cases hq : xs[k].who = who
      · have hqb : (xs[k].who == who) = true := by simpa using hq
        have HR := Lib.hid (show qidx xs who = k from idx_at (by simpa using hlt) (by simp [hq]) HN.out)
        clear hq
        go_wp2_with (go_at_fn 105; refine (atc105 xs[k] who Bw _ hwc).mono ?_; rintro e w' ⟨rfl, rfl⟩; rw [hqb])
        go_ret
        exact ⟨by rw [HR.out]; rfl, hO2, hb2.out⟩
      · have hqb : (xs[k].who == who) = false := by simpa using hq
        have HQ := Lib.hid hq
        clear hq
        go_wp2_with (go_at_fn 105; refine (atc105 xs[k] who Bw _ hwc).mono ?_; rintro e w' ⟨rfl, rfl⟩; rw [hqb])
        exact ⟨⟨k + 1, by omega, by go_num, Lib.hid fun j hj => by
          rcases Nat.lt_succ_iff_lt_or_eq.1 hj with h' | rfl
          · exact HN.out j h'
          · simpa [hlt] using HQ.out, hO2, hb2⟩, by simp [intOf]; omega⟩
    · obtain rfl : k = xs.length := by omega
      have HR := Lib.hid (show qidx xs who = -1 from idx_none (fun j hj => HN.out j (by simpa using hj)))
      go_wp2
      go_ret
      exact ⟨by rw [HR.out]; rfl, hO1, HB.out⟩


theorem at70 (B : Nat) (w0 : World) (F : List (Nat × Obj)) (xs : List WC) (v : Value) (bc : Nat) (who : Int) (w : World) (hc : w.cell? ⟨bc, 0, none⟩ = some v) (hR : Rd w CW v xs) (hO : Own B w0 w F) (hx : xs.length ≤ 100000) :
    Calls Try.prog 70 #[.pointer (some ⟨bc, 0, none⟩), .int .i64 who] w (IdxPostQ B w0 w F (qidx xs who)) := by
  obtain ⟨ao, cap, rfl, _⟩ := rd_cw hR
  have hlt := World.block_lt_of_cell? _ _ hc
  have hb2 : Below w.heap.size w (w.alloc (.cells #[.int .i64 who] 3)) := (Below.refl _ w).alloc (Nat.le_refl _) _
  have hR2 := hR.later hb2
  have hO2 := hO.junk (.cells #[.int .i64 who] 3)
  have HB := Lib.hid hb2
  have HR := Lib.hid hR2
  have HO := Lib.hid hO2
  clear hR hR2 hb2 hO hO2
  go_enter Try.func70, Try.ntmps70
  go_wp2_with (go_at_call 104; refine (idxf104 B w0 F xs _ who w.heap.size _ HR.out HO.out (by simp) hx).mono ?_; rintro e w' ⟨rfl, hO3, hb3⟩)
  go_ret
  exact ⟨rfl, hO3, HB.out.trans (hb3.mono (by simp))⟩

/-- The condition in block b. -/
abbrev kobj (v : Value) : Obj := Obj.cells #[v, .bool true] 73 (0, 0)
def Kx (b : Nat) (q : List WC) (L : List (Nat × Obj)) : Prop := ∃ v Lq, L = (b, kobj v) :: Lq ∧ Sl 128 2 CW v q Lq ∧ q.length ≤ 256

theorem knone (b : Nat) (m : Bool) (w : World) (h : w.cell? ⟨b, 1, none⟩ = some (.bool m)) : Calls Try.prog 69 #[.pointer (some ⟨b, 0, none⟩)] w fun e w' => e = .returned (.bool (!m)) ∧ w = w' := by
  go_enter Try.func69, Try.ntmps69
  go_wp2
  go_ret
  exact ⟨rfl, rfl⟩

theorem knone_nil (w : World) : Calls Try.prog 69 #[.pointer none] w fun e w' => e = .returned (.bool true) ∧ w = w' := by
  go_enter Try.func69, Try.ntmps69
  go_wp2
  go_ret
  exact ⟨rfl, rfl⟩

theorem knew38 (w : World) : Calls Try.prog 38 #[] w fun e w' => e = .returned (.pointer (some ⟨w.heap.size, 0, none⟩)) ∧ w' = w.alloc (kobj (.slice none 0 0)) := by
  go_enter Try.func38, Try.ntmps38
  go_wp2
  go_ret
  exact ⟨rfl, rfl⟩

theorem Kx.new (b : Nat) : Kx b [] [(b, kobj (.slice none 0 0))] := ⟨_, [], rfl, Sl.nil, by simp⟩

set_option maxRecDepth 100000 in
set_option maxHeartbeats 2000000 in
theorem put71 (B : Nat) (w0 : World) (b f : Nat) (T : TypeId) (cur : Array Value) (xs : List WC) (x : WC) (v : Value) (Lq F : List (Nat × Obj)) (w : World) (hS : Sl 128 2 CW v xs Lq) (hc : cur[f]? = some v) (hO : Own B w0 w (Lq ++ ((b, Obj.cells cur T (0, 0)) :: F))) (hx : xs.length ≤ 1000) :
    Calls Try.prog 71 #[.pointer (some ⟨b, f, none⟩), .agg #[.int .i64 x.who, .pointer (some ⟨x.m, 0, none⟩)]] w (PutPost 128 2 CW B w0 b f T cur F (xs ++ [x])) := by
  obtain ⟨i0, hi, hz0, hz1, hz2⟩ := info_parts Try.info128
  obtain ⟨ao, cap, rfl, hcap, hcm⟩ := hS.form
  have hb : w.heap[b]? = some (Obj.cells cur T (0, 0)) := hO.get (b, Obj.cells cur T (0, 0)) (by simp)
  have hcell : w.cell? ⟨b, f, none⟩ = some (.slice ao xs.length cap) := by rw [cell_of_get hb, hc]
  have hlt := lt_of_get hb
  have hlt1 : b < w.heap.size + 1 := by omega
  have hlt2 : b < w.heap.size + 1 + 1 := by omega
  have HO := Lib.hid ((hO.junk (.cells #[.int .i64 x.who, .pointer (some ⟨x.m, 0, none⟩)] 128)).allocAt (.cells #[.int .i64 x.who, .pointer (some ⟨x.m, 0, none⟩)] 128) (n := w.heap.size + 1) (by simp))
  have HS := Lib.hid hS
  have HC := Lib.hid hc
  clear hO hS hb hc
  go_enter Try.func71, Try.ntmps71
  go_wp2_with fail
  go_region_law (refine step_append_sl rfl (.tmp 8) (.tmp 10) 69 rfl _ _ _ Try.underlying69 hi hz0 hz1 hz2 rfl CW_len CW_one rfl HS.out (by exact HO.out.tail.drew) ⟨w.heap.size + 1, 0, none⟩ [x] 1 1 rfl rfl (news_blk (C := #[.int .i64 x.who, .pointer (some ⟨x.m, 0, none⟩)]) (t := 128) (fr := (0, 0)) (by exact HO.out.drew.head)) (by decide) (by unfold maxLen; omega) (by omega) ?_; intro g off cap' w1 L1 hS1 hO1 hgl1 hge1; have hb1 : w1.heap[b]? = some (Obj.cells cur T (0, 0)) := hO1.get (b, Obj.cells cur T (0, 0)) (by simp); have k0 : w1.cell? ⟨b, f, none⟩ = some (.slice ao xs.length cap) := (cell_of_get hb1 f).trans HC.out; have k1 : w1.frozen? ⟨b, f, none⟩ = false := free_of_get hb1 f; clear hb1)
  all_goals
    have hO2 := ((hO1.perm List.perm_middle).set f (.slice (some ⟨g, off, none⟩) (xs.length + 1) cap')).perm List.perm_middle.symm
    clear hO1 k0 k1
    go_wp2
    go_end0
    exact ⟨rfl, _, L1, by simpa using hS1, hO2⟩



set_option maxRecDepth 100000 in
theorem grow119 (B : Nat) (w0 : World) (F : List (Nat × Obj)) (n : Nat) (m : Int) (hm : (n : Int) = m) (w : World) (hO : Own B w0 w F) (hn : n ≤ 1000000) :
    Calls Try.prog 119 #[.slice none 0 0, .int .i64 m] w (NewSl 128 2 CW B w0 F ([] : List WC)) := by
  subst hm
  obtain ⟨i0, hi, hz0, hz1, hz2⟩ := info_parts Try.info128
  by_cases h0 : n = 0
  · subst h0
    go_enter Try.func119, Try.ntmps119
    go_wp2
    go_ret
    exact ⟨_, [], rfl, Sl.nil, hO⟩
  · have hz := zeros_fitC (e := 128) (enc := CW) (.agg #[.int .i64 0, .pointer none]) rfl n hO (by unfold maxLen; omega)
    have hr := fun ty => Lib.run_append_nil_zeros (P := Try.prog) w 69 3 ty 128 i0 (.agg #[.int .i64 0, .pointer none]) .i64 .i64 Try.underlying69 Try.underlying3 hi hz0 n (by omega) (by omega) (by omega) (by rw [hz2]; omega)
    have h1 : (0 : Int) < n := by omega
    have HR := Lib.hid hr
    have HZ := Lib.hid hz
    clear hr hz
    go_enter Try.func119, Try.ntmps119
    go_wp2_with (at_builtin; refine Lib.wpList_append_run _ rfl (.tmp 20) (.tmp 21) 69 3 rfl _ _ rfl rfl _ _ (HR.out _) ?_)
    go_ret
    exact ⟨_, _, rfl, HZ.out.1, HZ.out.2⟩

set_option maxRecDepth 100000 in
set_option maxHeartbeats 1000000 in
theorem concat107 (B : Nat) (w0 : World) (F : List (Nat × Obj)) (blk : Nat) (v1 v2 : Value) (xs ys : List WC) (L1 L2 : List (Nat × Obj)) (w : World) (hb : (blk, Obj.cells #[v1, v2] 69 (0, 0)) ∈ F)
    (h1 : Sl 128 2 CW v1 xs L1) (hL1 : ∀ p ∈ L1, p ∈ F) (h2 : Sl 128 2 CW v2 ys L2) (hL2 : ∀ p ∈ L2, p ∈ F) (hO : Own B w0 w F) (hx : xs.length ≤ 100000) (hy : ys.length ≤ 100000) :
    Calls Try.prog 107 #[.slice (some ⟨blk, 0, none⟩) 2 2] w (NewSl 128 2 CW B w0 F (xs ++ ys)) := by
  obtain ⟨i0, hi, hz0, hz1, hz2⟩ := info_parts Try.info128
  obtain ⟨a1, c1, rfl, hc1, _⟩ := h1.form
  obtain ⟨a2, c2, rfl, hc2, _⟩ := h2.form
  have k0 : w.cell? ⟨blk, 0, none⟩ = some (.slice a1 xs.length c1) := cell_of_get (hO.get _ hb) 0
  have k1 : w.cell? ⟨blk, 1, none⟩ = some (.slice a2 ys.length c2) := cell_of_get (hO.get _ hb) 1
  go_enter Try.func107, Try.ntmps107
  go_wp2
  refine wp_loop_rounds 3 ?_
  rw [rounds_succ]
  go_wp2
  rw [rounds_succ]
  go_wp2
  rw [rounds_succ]
  go_wp2_with fail
  refine (grow119 B w0 F (xs.length + ys.length) _ (by simp) _ hO (by omega)).mono ?_
  rintro e w1 ⟨v, L', rfl, hS, hO1⟩
  obtain ⟨a0, c0, rfl, hc0, _⟩ := hS.form
  have k2 : w1.cell? ⟨blk, 0, none⟩ = some (.slice a1 xs.length c1) := cell_of_get (hO1.get _ (List.mem_append_right _ hb)) 0
  clear k0 k1
  go_wp2
  refine wp_loop_rounds 3 ?_
  rw [rounds_succ]
  go_wp2_with (at_builtin; refine wpList_append_all rfl (.tmp 31) (.tmp 32) 69 rfl _ _ _ Try.underlying69 hi hz0 hz1 hz2 rfl CW_len CW_one rfl hS (F := F) hO1 _ rfl xs L1 h1 hL1 ?h1 ?h2 ?h3)
  case h1 => simp [maxLen]; omega
  case h2 => simp; omega
  case h3 =>
    intro ao' cap' w2 L2' hS2 hO2 _
    clear k2
    have k3 : w2.cell? ⟨blk, 1, none⟩ = some (.slice a2 ys.length c2) := cell_of_get (hO2.get _ (List.mem_append_right _ hb)) 1
    go_wp2
    rw [rounds_succ]
    go_wp2_with (at_builtin; refine wpList_append_all rfl (.tmp 31) (.tmp 32) 69 rfl _ _ _ Try.underlying69 hi hz0 hz1 hz2 rfl CW_len CW_one rfl hS2 (F := F) hO2 _ rfl ys L2 h2 hL2 ?h4 ?h5 ?h6)
    case h4 => simp [maxLen]; omega
    case h5 => omega
    case h6 =>
      intro ao' cap' w2 L2' hS2 hO2 _
      clear k3
      go_wp2
      rw [rounds_succ]
      go_wp2
      go_ret
      exact ⟨_, _, rfl, hS2, hO2⟩


end Go.Proofs.Ytidnkienkdlmkaa
