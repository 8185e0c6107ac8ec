/-
  The document's channel: contracts of Close, Without, Drop. Conditions: at most 64 values, 256 waiters.
-/
import Derived.Test.YtidnkienkdlmkaaRxB
import Derived.Test.YtidnkienkdlmkaaChClose
import Derived.Test.YtidnkienkdlmkaaChDrop
namespace Go.Proofs.Ytidnkienkdlmkaa
open Go.RowKit Go.Sh
attribute [local go_sem ↓] Go.wp_at_zero Go.wp_at_succ

def RClosePost (B : Nat) (w0 : World) (b : Nat) (F : List (Nat × Obj)) (r : CR) (e : Ending) (w' : World) : Prop :=
  ∃ wk Lk L', e = .returned (outV r.done r.v.t r.v.n r.fault wk) ∧ Sl 38 4 W4 wk r.wakes Lk ∧ Rcx b r.st L' ∧ Own B w0 w' (L' ++ (Lk ++ F))

theorem rclose_mk {B : Nat} {w0 : World} {b : Nat} {F L' Lk : List (Nat × Obj)} {r r' : CR} {e : Ending} {w' : World} (wk : Value) (HR : Hid (r = r')) (he : e = .returned (outV r'.done r'.v.t r'.v.n r'.fault wk))
    (hk : Sl 38 4 W4 wk r'.wakes Lk) (hM : Rcx b r'.st L') (hO : Own B w0 w' (L' ++ (Lk ++ F))) : RClosePost B w0 b F r e w' := by
  rw [HR.out]
  exact ⟨wk, Lk, L', he, hk, hM, hO⟩

def RcRel (B : Nat) (w0 : World) (X : Nat) (F : List (Nat × Obj)) (pre : List Wk) (xs : List W3) (i : Value) (wr : World) : Prop :=
  ∃ (k : Nat) (wk : Value) (Lo : List (Nat × Obj)), k ≤ xs.length ∧ i = .int .i64 k ∧ Sl 38 4 W4 wk (pre ++ (xs.take k).map wakeC) Lo ∧ Own B w0 wr (Lo ++ (X, outX wk) :: F)

set_option maxRecDepth 100000 in
set_option maxHeartbeats 2000000 in
theorem rcclose_shut (B : Nat) (w0 : World) (b : Nat) (s : CS) (L F : List (Nat × Obj)) (w : World) (hX : Rcx b s L) (hO : Own B w0 w (L ++ F)) (h2 : s.shut = true) :
    Calls Try.prog 98 #[.pointer (some ⟨b, 0, none⟩)] w (RClosePost B w0 b F (closeC s)) := by
  have HR := Lib.hid (show closeC s = ⟨false, ⟨0, 0⟩, 11, [], 0, s⟩ by simp [closeC, h2])
  have HX := Lib.hid hX
  obtain ⟨v1, v2, v3, L1, L2, L3, hC, rfl⟩ := hX
  have hb := hO.get (b, rcobj s.room v1 v2 v3 s.shut) (by simp)
  obtain ⟨c0, c1, c2, c3, c4⟩ := rc5 hb
  have cl := lt_of_get hb
  rw [h2] at c4
  have HO := Lib.hid (hO.junk (Obj.cells #[.bool false, .int .i64 0, .int .i64 0, .int .i64 11, .slice none 0 0] 33 (0, 0)))
  clear hC hO hb h2
  go_enter Try.func98, Try.ntmps98
  go_wp2
  exact bodyPost_ret (v := outV false 0 0 11 (.slice none 0 0)) (by simp [results, Try.results98, go_sem]) rfl (rclose_mk (Lk := []) _ HR rfl Sl.nil HX.out HO.out)

set_option maxRecDepth 100000 in
set_option maxHeartbeats 4000000 in
theorem rcclose_open (B : Nat) (w0 : World) (b : Nat) (s : CS) (L F : List (Nat × Obj)) (w : World) (hX : Rcx b s L) (hO : Own B w0 w (L ++ F)) (h2 : s.shut = false) :
    Calls Try.prog 98 #[.pointer (some ⟨b, 0, none⟩)] w (RClosePost B w0 b F (closeC s)) := by
  obtain ⟨i0, hi, hz0, hz1, hz2⟩ := info_parts Try.info38
  have HR := Lib.hid (show closeC s = ⟨true, ⟨0, 0⟩, 0, (s.rcv ++ s.snd).map wakeC, 0, ⟨s.room, s.vals, [], [], true⟩⟩ by simp [closeC, h2])
  obtain ⟨v1, v2, v3, L1, L2, L3, hC, rfl⟩ := hX
  obtain ⟨a2, q2, rfl, _, _⟩ := hC.s2.form
  obtain ⟨a3, q3, rfl, _, _⟩ := hC.s3.form
  have l2 := hC.l2
  have l3 := hC.l3
  have hOZ := own_flat hO
  have hO1 := (hOZ.allocAt outZ (n := w.heap.size) rfl).allocAt (outX (.slice none 0 0)) (n := w.heap.size + 1) (by simp)
  have hb := hOZ.head
  have d4 : w.cell? ⟨b, 4, none⟩ = some (.bool s.shut) := cell_of_get hb 4
  have dl := lt_of_get hb
  rw [h2] at d4
  have hXZ : w.heap.size + 1 ≠ w.heap.size := by omega
  have HC := Lib.hid hC
  clear hO hC hb h2 hOZ
  go_enter Try.func98, Try.ntmps98
  go_upto_region 4 with fail
  obtain ⟨Z, hZe⟩ : ∃ Z, w.heap.size = Z := ⟨_, rfl⟩
  obtain ⟨X, hXe⟩ : ∃ X, Z + 1 = X := ⟨_, rfl⟩
  rw [hZe, hXe] at hO1 hXZ
  rw [hZe, hXe]
  generalize (w.alloc (.cells #[.bool false, .int .i64 0, .int .i64 0, .int .i64 0, .slice none 0 0] 33)).alloc (.cells #[.bool true, .int .i64 0, .int .i64 0, .int .i64 0, .slice none 0 0] 33) = W at hO1 ⊢
  clear hZe hXe d4 dl
  have hZX : Z ≠ X := fun e => hXZ e.symm
  have hbX : b ≠ X := fun e => hO1.notMem (by simp [e])
  have hXb : X ≠ b := fun e => hbX e.symm
  have hbZ : b ≠ Z := fun e => hO1.tail.notMem (by simp [e])
  have hZb : Z ≠ b := fun e => hbZ e.symm
  have HO1 := Lib.hid hO1
  clear hO1
  have HRD3 := Lib.hid (show ∀ (wr : World) Lo wk, Own B w0 wr (Lo ++ (X, outX wk) :: ((Z, outZ) :: (b, rcobj s.room v1 (.slice a2 s.snd.length q2) (.slice a3 s.rcv.length q3) s.shut) :: (L1 ++ (L2 ++ (L3 ++ F))))) → ∀ i (hi : i < s.rcv.length), ∃ g off, a3 = some ⟨g, off, none⟩ ∧ g < wr.heap.size ∧ wr.cell? ⟨g, off + i * 3, none⟩ = some (.int .i64 s.rcv[i].who) by
    intro wr Lo wk h i hi
    obtain ⟨ao', cap', he, hc⟩ := rd_c3 (Sl_rd (w := wr) HC.out.s3 (fun p hp => h.get p (by simp [hp])))
    simp only [Value.slice.injEq, true_and] at he
    obtain ⟨rfl, rfl⟩ := he
    obtain ⟨g, off, h1, h2, h3, _⟩ := hc i hi
    exact ⟨g, off, h1, h2, h3⟩)
  have HRD2 := Lib.hid (show ∀ (wr : World) Lo wk, Own B w0 wr (Lo ++ (X, outX wk) :: ((Z, outZ) :: (b, rcobj s.room v1 (.slice a2 s.snd.length q2) (.slice a3 s.rcv.length q3) s.shut) :: (L1 ++ (L2 ++ (L3 ++ F))))) → ∀ i (hi : i < s.snd.length), ∃ g off, a2 = some ⟨g, off, none⟩ ∧ g < wr.heap.size ∧ wr.cell? ⟨g, off + i * 3, none⟩ = some (.int .i64 s.snd[i].who) by
    intro wr Lo wk h i hi
    obtain ⟨ao', cap', he, hc⟩ := rd_c3 (Sl_rd (w := wr) HC.out.s2 (fun p hp => h.get p (by simp [hp])))
    simp only [Value.slice.injEq, true_and] at he
    obtain ⟨rfl, rfl⟩ := he
    obtain ⟨g, off, h1, h2, h3, _⟩ := hc i hi
    exact ⟨g, off, h1, h2, h3⟩)
  go_wp2
  go_loopw [4] (fun i wr => RcRel B w0 X ((Z, outZ) :: (b, rcobj s.room v1 (.slice a2 s.snd.length q2) (.slice a3 s.rcv.length q3) s.shut) :: (L1 ++ (L2 ++ (L3 ++ F)))) [] s.rcv i wr) (fun i _ => s.rcv.length - (intOf i).toNat)
  case atStart => exact ⟨0, _, [], Nat.zero_le _, rfl, Sl.nil, HO1.out⟩
  case round =>
    clear HO1
    obtain ⟨k, wk, Lo, hk, rfl, hS, hO⟩ := hrel
    obtain ⟨so, sc, rfl, hsc, _⟩ := hS.form
    obtain ⟨ys, hys⟩ : ∃ ys, ys = [] ++ (s.rcv.take k).map wakeC := ⟨_, rfl⟩
    rw [← hys] at hS hsc hO
    have hlk : ys.length ≤ 1000 := by rw [hys]; simp; omega
    have HYS := Lib.hid hys
    clear hys
    have hx := hO.get (X, outX (.slice so ys.length sc)) (by simp)
    have x4 : wr.cell? ⟨X, 4, none⟩ = some (.slice so ys.length sc) := cell_of_get hx 4
    have xl := lt_of_get hx
    have hcb := hO.get (b, rcobj s.room v1 (.slice a2 s.snd.length q2) (.slice a3 s.rcv.length q3) s.shut) (by simp)
    have c3 : wr.cell? ⟨b, 3, none⟩ = some (.slice a3 s.rcv.length q3) := cell_of_get hcb 3
    have cl := lt_of_get hcb
    by_cases hlt : k < s.rcv.length
    · obtain ⟨g, off, rfl, hg, c0⟩ := HRD3.out wr Lo _ hO k hlt
      have xl1 : X < wr.heap.size + 1 := by omega
      have hg1 : g < wr.heap.size + 1 := by omega
      have hki : (k : Int) < s.rcv.length := by omega
      have hk0 : (0 : Int) ≤ (k : Int) := by omega
      have HA := Lib.hid ((hO.allocAt (wk38 s.rcv[k].who 0 0 11) (n := wr.heap.size) rfl))
      have hsn := Lib.hid (show ys ++ [wakeC s.rcv[k]] = [] ++ (s.rcv.take (k + 1)).map wakeC by
        rw [HYS.out, List.take_succ_eq_append_getElem hlt, List.map_append, List.append_assoc]; rfl)
      have hsl := Lib.hid (show ys.length + 1 = ([] ++ (s.rcv.take (k + 1)).map wakeC).length by rw [← hsn.out]; simp)
      have HS := Lib.hid hS
      clear hx hO hcb hS
      go_wp2
      go_region_law (refine step_append_sl rfl (.tmp 22) (.tmp 32) 31 rfl _ _ _ Try.underlying31 hi hz0 hz1 hz2 rfl W4_len W4_one rfl HS.out (by exact HA.out.tail.drew) ⟨wr.heap.size, 0, none⟩ [wakeC s.rcv[k]] 1 1 rfl rfl (news_blk (C := #[.int .i64 s.rcv[k].who, .int .i64 0, .int .i64 0, .int .i64 11]) (t := 38) (fr := (0, 0)) (by exact HA.out.drew.head)) (by decide) (by unfold maxLen; omega) (by omega) ?_; intro g' off' cap' w3 L3' hS3 hO4 _ _; have hO5 := hO4.shuf [L3', [_], _] [1, 0, 2] rfl rfl; have k0 : w3.cell? ⟨X, 4, none⟩ = some (.slice so ys.length sc) := cell_of_get hO5.head 4; have k1 : w3.frozen? ⟨X, 4, none⟩ = false := free_of_get hO5.head 4; have kl := lt_of_get hO5.head)
      all_goals
        rw [hsn.out] at hS3
        have HS3 := Lib.hid hS3
        have HO6 := Lib.hid (Own.shuf (hO5.setTo 4 (.slice (some ⟨g', off', none⟩) (ys.length + 1) cap') rfl) [[_], L3', _] [1, 0, 2] rfl rfl)
        clear hO4 hO5 hS3
        go_wp2
        exact ⟨⟨k + 1, _, L3', by omega, by go_num, HS3.out, HO6.out⟩, by simp [intOf]; omega⟩
    · obtain rfl : k = s.rcv.length := by omega
      have HS : Hid (Sl 38 4 W4 (.slice so ys.length sc) ([] ++ s.rcv.map wakeC) Lo) := Lib.hid (by rw [show [] ++ s.rcv.map wakeC = ys by rw [HYS.out, List.take_of_length_le (Nat.le_refl _)]]; exact hS)
      obtain ⟨pre, hpre⟩ : ∃ pre, s.rcv.map wakeC = pre := ⟨_, rfl⟩
      have hprl : pre.length ≤ 256 := by rw [← hpre]; simp; omega
      have HSp : Hid (Sl 38 4 W4 (.slice so ys.length sc) pre Lo) := Lib.hid (by rw [← hpre]; simpa using HS.out)
      have HR2 : Hid (closeC s = ⟨true, ⟨0, 0⟩, 0, pre ++ s.snd.map wakeC, 0, ⟨s.room, s.vals, [], [], true⟩⟩) := Lib.hid (by rw [HR.out, ← hpre]; simp)
      have HO := Lib.hid hO
      clear HR hS hlk hx hcb hO hpre HS
      have HR := HR2
      clear HR2
      go_wp2
      go_loopw [5] (fun i wr => RcRel B w0 X ((Z, outZ) :: (b, rcobj s.room v1 (.slice a2 s.snd.length q2) (.slice a3 s.rcv.length q3) s.shut) :: (L1 ++ (L2 ++ (L3 ++ F)))) pre s.snd i wr) (fun i _ => s.snd.length - (intOf i).toNat)
      case atStart => exact ⟨0, _, Lo, Nat.zero_le _, rfl, by simpa using HSp.out, HO.out⟩
      case round =>
        clear HO HSp
        obtain ⟨k, wk, Lo, hk, rfl, hS, hO⟩ := hrel
        obtain ⟨so, sc, rfl, hsc, _⟩ := hS.form
        obtain ⟨ys, hys⟩ : ∃ ys, ys = pre ++ (s.snd.take k).map wakeC := ⟨_, rfl⟩
        rw [← hys] at hS hsc hO
        have hlk : ys.length ≤ 1000 := by rw [hys]; simp; omega
        have HYS := Lib.hid hys
        clear hys
        have hx := hO.get (X, outX (.slice so ys.length sc)) (by simp)
        have x4 : wr.cell? ⟨X, 4, none⟩ = some (.slice so ys.length sc) := cell_of_get hx 4
        have xl := lt_of_get hx
        have hcb := hO.get (b, rcobj s.room v1 (.slice a2 s.snd.length q2) (.slice a3 s.rcv.length q3) s.shut) (by simp)
        have c2 : wr.cell? ⟨b, 2, none⟩ = some (.slice a2 s.snd.length q2) := cell_of_get hcb 2
        have cl := lt_of_get hcb
        by_cases hlt : k < s.snd.length
        · obtain ⟨g, off, rfl, hg, c0⟩ := HRD2.out wr Lo _ hO k hlt
          have xl1 : X < wr.heap.size + 1 := by omega
          have hg1 : g < wr.heap.size + 1 := by omega
          have hki : (k : Int) < s.snd.length := by omega
          have hk0 : (0 : Int) ≤ (k : Int) := by omega
          have HA := Lib.hid ((hO.allocAt (wk38 s.snd[k].who 0 0 11) (n := wr.heap.size) rfl))
          have hsn := Lib.hid (show ys ++ [wakeC s.snd[k]] = pre ++ (s.snd.take (k + 1)).map wakeC by
            rw [HYS.out, List.take_succ_eq_append_getElem hlt, List.map_append, List.append_assoc]; rfl)
          have hsl := Lib.hid (show ys.length + 1 = (pre ++ (s.snd.take (k + 1)).map wakeC).length by rw [← hsn.out]; simp)
          have HS := Lib.hid hS
          clear hx hO hcb hS
          go_wp2
          go_region_law (refine step_append_sl rfl (.tmp 45) (.tmp 55) 31 rfl _ _ _ Try.underlying31 hi hz0 hz1 hz2 rfl W4_len W4_one rfl HS.out (by exact HA.out.tail.drew) ⟨wr.heap.size, 0, none⟩ [wakeC s.snd[k]] 1 1 rfl rfl (news_blk (C := #[.int .i64 s.snd[k].who, .int .i64 0, .int .i64 0, .int .i64 11]) (t := 38) (fr := (0, 0)) (by exact HA.out.drew.head)) (by decide) (by unfold maxLen; omega) (by omega) ?_; intro g' off' cap' w3 L3' hS3 hO4 _ _; have hO5 := hO4.shuf [L3', [_], _] [1, 0, 2] rfl rfl; have k0 : w3.cell? ⟨X, 4, none⟩ = some (.slice so ys.length sc) := cell_of_get hO5.head 4; have k1 : w3.frozen? ⟨X, 4, none⟩ = false := free_of_get hO5.head 4; have kl := lt_of_get hO5.head)
          all_goals
            rw [hsn.out] at hS3
            have HS3 := Lib.hid hS3
            have HO6 := Lib.hid (Own.shuf (hO5.setTo 4 (.slice (some ⟨g', off', none⟩) (ys.length + 1) cap') rfl) [[_], L3', _] [1, 0, 2] rfl rfl)
            clear hO4 hO5 hS3
            go_wp2
            exact ⟨⟨k + 1, _, L3', by omega, by go_num, HS3.out, HO6.out⟩, by simp [intOf]; omega⟩
        · obtain rfl : k = s.snd.length := by omega
          have HS : Hid (Sl 38 4 W4 (.slice so ys.length sc) (pre ++ s.snd.map wakeC) Lo) := Lib.hid (by rw [show pre ++ s.snd.map wakeC = ys by rw [HYS.out, List.take_of_length_le (Nat.le_refl _)]]; exact hS)
          have hyl : ys.length ≤ 1000 := hlk
          obtain ⟨x0, x1, x2, x3, x4⟩ := z5 hx
          obtain ⟨c0, c1, c2, c3, c4⟩ := rc5 hcb
          have cf := free_of_get hcb
          have hz := hO.get (Z, outZ) (by simp)
          obtain ⟨z0, z1, z2, z3, z4⟩ := z5 hz
          have zf := free_of_get hz
          have zl := lt_of_get hz
          have hO7 := hO.shuf [Lo, [_], [_], [_], L1, L2, L3, F] [3, 2, 4, 0, 7, 1, 5, 6] rfl rfl
          have hO8 := out5 ((((hO7.setTo 3 (.slice none 0 0) rfl).setTo 2 (.slice none 0 0) rfl).setTo 4 (.bool true) rfl).shuf [[_], [_], _] [1, 0, 2] rfl rfl) (.bool true) (.int .i64 0) (.int .i64 0) (.int .i64 0) (.slice so ys.length sc)
          have HR8 := Lib.hid (z5 hO8.head)
          have HO8 := Lib.hid (show Own B w0 _ ((((b, rcobj s.room v1 (.slice none 0 0) (.slice none 0 0) true) :: (L1 ++ ([] ++ []))) ++ (Lo ++ F)) ++ ([(X, outX (.slice so ys.length sc))] ++ (L2 ++ L3))) from by simpa [cat, List.append_assoc] using hO8.tail).left
          clear hS hlk hx hcb hz hO hO7 hO8
          go_wp2
          obtain ⟨r0, r1, r2, r3, r4⟩ := HR8.out
          refine bodyPost_ret (v := outV true 0 0 0 (.slice so ys.length sc)) (by simp [results, Try.results98, go_sem, r0, r1, r2, r3, r4]) rfl ?_
          exact rclose_mk _ HR rfl HS.out ⟨v1, .slice none 0 0, .slice none 0 0, L1, [], [], ⟨HC.out.s1, Sl.nil, Sl.nil, HC.out.l1, Nat.zero_le _, Nat.zero_le _, HC.out.r0, HC.out.r1⟩, rfl⟩ HO8.out

theorem rcclose (B : Nat) (w0 : World) (b : Nat) (s : CS) (L F : List (Nat × Obj)) (w : World) (hX : Rcx b s L) (hO : Own B w0 w (L ++ F)) :
    Calls Try.prog 98 #[.pointer (some ⟨b, 0, none⟩)] w (RClosePost B w0 b F (closeC s)) := by
  cases h2 : s.shut with
  | true => exact rcclose_shut B w0 b s L F w hX hO h2
  | false => exact rcclose_open B w0 b s L F w hX hO h2

set_option maxRecDepth 100000 in
set_option maxHeartbeats 2000000 in
theorem rcwithout118 (B : Nat) (w0 : World) (F : List (Nat × Obj)) (xs : List W3) (i : Nat) (v : Value) (Lq : List (Nat × Obj)) (w : World) (hS : Sl 174 3 C3 v xs Lq) (hL : ∀ p ∈ Lq, p ∈ F) (hO : Own B w0 w F) (hi : i < xs.length) (hx : xs.length ≤ 1000) :
    Calls Try.prog 118 #[v, .int .i64 i] w (NewSl 174 3 C3 B w0 F (xs.take i ++ xs.drop (i + 1))) := by
  obtain ⟨i0, hinf, hz0, hz1, hz2⟩ := info_parts Try.info174
  obtain ⟨zs, hz⟩ : ∃ zs, xs.take i ++ xs.drop (i + 1) = zs := ⟨_, rfl⟩
  rw [hz]
  have HZ := Lib.hid hz
  have HL := Lib.hid (show i + (xs.length - (i + 1)) = zs.length by rw [← hz]; simp; omega)
  clear hz
  rcases hS with ⟨_, rfl, _⟩ | ⟨g, off, cap, cur, rfl, rfl, hcap, hcm, hsz, hcur⟩
  · simp at hi
  · have hs : Sl 174 3 C3 (.slice (some ⟨g, off, none⟩) xs.length cap) xs [(g, Obj.cells cur 174 (0, 0))] := .inr ⟨g, off, cap, cur, rfl, rfl, hcap, hcm, hsz, hcur⟩
    have ht := hs.take C3_len i (by omega)
    obtain ⟨off', hoff, hd'⟩ := hs.dropIf C3_len (i + 1) (by omega) (cap = i + 1) id
    have HT := Lib.hid ht
    have HD := Lib.hid hd'
    have HCM := Lib.hid hcm
    have HOFF := Lib.hid hoff
    have HG := Lib.hid (show ∀ p ∈ [(g, Obj.cells cur 174 (0, 0))], p ∈ F from hL)
    have HO := Lib.hid hO.drew
    clear hcm hsz hcur hs hoff ht hd' hL hO
    have hi0 : (0 : Int) ≤ i := by omega
    have hi1 : (i : Int) + 1 ≤ xs.length := by omega
    have hic : i ≤ cap := by omega
    go_enter Try.func118, Try.ntmps118
    go_wp2
    have e1 : IntKind.i64.wrap ((i : Int) + 1) = (i : Int) + 1 := IntWalk.i64_in _ (by omega)
    have e2 : (0 : Int) ≤ (i : Int) + 1 := by omega
    have e3 : ((i : Int) + 1).toNat = i + 1 := by omega
    go_region_law (first | (refine step_append_all rfl (.const (.slice none 0 0)) (.tmp 7) 154 rfl _ _ _ Try.underlying154 hinf hz0 hz1 hz2 rfl C3_len C3_one rfl (Sl.nil (e := 174) (k := 3) (enc := C3)) HO.out _ rfl (xs.take i) [(g, Obj.cells cur 174 (0, 0))] (by exact HT.out) (by exact HG.out) (by simp only [List.length_nil, List.length_take, maxLen]; omega) (by simp only [List.length_nil, List.length_take]; omega) i (by simp only [List.length_nil, List.length_take]; omega) ?_; intro ao1 cap1 w1 L1 hS1 hO1 hge1; have HS1 := Lib.hid hS1; clear hS1) | (refine step_append_all rfl (.tmp 8) (.tmp 12) 154 rfl _ _ _ Try.underlying154 hinf hz0 hz1 hz2 rfl C3_len C3_one rfl (by exact HS1.out) hO1 _ rfl (xs.drop (i + 1)) [(g, Obj.cells cur 174 (0, 0))] (by rw [HOFF.out]; exact HD.out) (by exact HG.out) (by simp only [List.nil_append, List.length_drop, List.length_take, maxLen]; omega) (by simp only [List.nil_append, List.length_drop, List.length_take]; omega) zs.length (by rw [← HL.out]; simp only [List.nil_append, List.length_drop, List.length_take]; omega) ?_; intro ao2 cap2 w2 L2 hS2 hO2 hge2; rw [List.nil_append, HZ.out] at hS2; have HS2 := Lib.hid hS2; have HO2 := Lib.hid hO2; clear hS2 hO2))
    all_goals
      clear hO1
      rw [HOFF.out]
      go_wp2
      go_ret
      exact ⟨_, L2, rfl, HS2.out, HO2.out⟩

def RCDropPost (B : Nat) (w0 : World) (b : Nat) (F : List (Nat × Obj)) (r : Int × CS) (e : Ending) (w' : World) : Prop :=
  e = .returned (.int .i64 r.1) ∧ ∃ L', Rcx b r.2 L' ∧ Own B w0 w' (L' ++ F)

set_option maxRecDepth 100000 in
set_option maxHeartbeats 2000000 in
theorem rcdrop99 (B : Nat) (w0 : World) (b : Nat) (s : CS) (L F : List (Nat × Obj)) (who : Int) (w : World) (hX : Rcx b s L) (hO : Own B w0 w (L ++ F)) :
    Calls Try.prog 99 #[.pointer (some ⟨b, 0, none⟩), .int .i64 who] w (RCDropPost B w0 b F (dropC s who)) := by
  have HX := Lib.hid hX
  obtain ⟨v1, v2, v3, hb, _, h2, h3⟩ := hX.rd2 (fun p hp => hO.get p (List.mem_append_left _ hp))
  obtain ⟨_, l2, l3, _, _⟩ := hX.len
  obtain ⟨c0, c1, c2, c3, c4⟩ := rc5 hb
  have cl := lt_of_get hb
  have H2 := Lib.hid h2
  have H3 := Lib.hid h3
  have HO := Lib.hid hO
  clear hX hb h2 h3 hO
  rcases widx_cases s.snd who with ⟨hi, hq⟩ | ⟨i, hil, hi, hq⟩
  · rcases widx_cases s.rcv who with ⟨hi2, hq2⟩ | ⟨i2, hil2, hi2, hq2⟩
    · have HR := Lib.hid (show dropC s who = (6, s) by simp [dropC, hq, hq2])
      have HI := Lib.hid hi
      have HI2 := Lib.hid hi2
      clear hi hq hi2 hq2
      go_enter Try.func99, Try.ntmps99
      go_wp2_with (first | (go_at_call 117; (with_reducible refine (at117 s.snd who v2 _ (by omega) H2.out).mono ?_); rintro e w' ⟨rfl, rfl⟩; rw [HI.out]) | (go_at_call 117; (with_reducible refine (at117 s.rcv who v3 _ (by omega) H3.out).mono ?_); rintro e w' ⟨rfl, rfl⟩; rw [HI2.out]))
      go_ret
      rw [HR.out]
      exact ⟨rfl, L, HX.out, HO.out⟩
    · obtain ⟨zs, hzs⟩ : ∃ zs, s.rcv.take i2 ++ s.rcv.drop (i2 + 1) = zs := ⟨_, rfl⟩
      have HR := Lib.hid (show dropC s who = (0, ⟨s.room, s.vals, s.snd, zs, s.shut⟩) by simp [dropC, hq, hq2, outW, hi2, hzs])
      have hzl : zs.length ≤ 256 := by rw [← hzs]; simp; omega
      have HZS := Lib.hid hzs
      clear hzs
      have HI := Lib.hid hi
      have HI2 := Lib.hid hi2
      have hp : (0 : Int) ≤ i2 := by omega
      clear hi hq hi2 hq2
      obtain ⟨u1, u2, u3, L1, L2, L3, hC, rfl⟩ := HX.out
      have hb := HO.out.get (b, rcobj s.room u1 u2 u3 s.shut) (by simp)
      obtain ⟨d0, d1, d2, d3, d4⟩ := rc5 hb
      obtain rfl : u2 = v2 := by rw [c2] at d2; simpa using d2.symm
      obtain rfl : u3 = v3 := by rw [c3] at d3; simpa using d3.symm
      have HC := Lib.hid hC
      have hO1 := own_flat HO.out
      have HO1 := Lib.hid hO1
      clear hb d0 d1 d2 d3 d4 hC hO1
      go_enter Try.func99, Try.ntmps99
      go_wp2_with (first | (go_at_call 117; (with_reducible refine (at117 s.snd who u2 _ (by omega) H2.out).mono ?_); rintro e w' ⟨rfl, rfl⟩; rw [HI.out]) | (go_at_call 117; (with_reducible refine (at117 s.rcv who u3 _ (by omega) H3.out).mono ?_); rintro e w' ⟨rfl, rfl⟩; rw [HI2.out]))
      refine (rcwithout118 B w0 _ s.rcv i2 u3 L3 _ HC.out.s3 (fun p hp => by simp [hp]) HO1.out hil2 (by omega)).mono ?_
      rw [HZS.out]
      rintro e w2 ⟨v', L', rfl, hS', hO2⟩
      obtain ⟨av, cv, rfl, _, _⟩ := hS'.form
      have hO3 := hO2.shuf [L', [_], L1, L2, L3, F] [1, 2, 3, 0, 5, 4] rfl rfl
      have k3 : w2.cell? ⟨b, 3, none⟩ = some u3 := cell_of_get hO3.head 3
      have kf := free_of_get hO3.head
      have kl := lt_of_get hO3.head
      have HS' := Lib.hid hS'
      have HO4 := Lib.hid (own_drop (R := L3) (hO3.setTo 3 (.slice av zs.length cv) rfl))
      clear c0 c1 c2 c3 c4 cl hO2 hO3 hS'
      go_wp2
      go_ret
      rw [HR.out]
      exact ⟨rfl, _, ⟨u1, u2, _, L1, L2, L', ⟨HC.out.s1, HC.out.s2, HS'.out, HC.out.l1, HC.out.l2, hzl, HC.out.r0, HC.out.r1⟩, rfl⟩, HO4.out⟩
  · obtain ⟨zs, hzs⟩ : ∃ zs, s.snd.take i ++ s.snd.drop (i + 1) = zs := ⟨_, rfl⟩
    have HR := Lib.hid (show dropC s who = (0, ⟨s.room, s.vals, zs, s.rcv, s.shut⟩) by simp [dropC, hq, outW, hi, hzs])
    have hzl : zs.length ≤ 256 := by rw [← hzs]; simp; omega
    have HZS := Lib.hid hzs
    clear hzs
    have HI := Lib.hid hi
    have hp : (0 : Int) ≤ i := by omega
    clear hi hq
    obtain ⟨u1, u2, u3, L1, L2, L3, hC, rfl⟩ := HX.out
    have hb := HO.out.get (b, rcobj s.room u1 u2 u3 s.shut) (by simp)
    obtain ⟨d0, d1, d2, d3, d4⟩ := rc5 hb
    obtain rfl : u2 = v2 := by rw [c2] at d2; simpa using d2.symm
    have HC := Lib.hid hC
    have hO1 := own_flat HO.out
    have HO1 := Lib.hid hO1
    clear hb d0 d1 d2 d3 d4 hC hO1
    go_enter Try.func99, Try.ntmps99
    go_wp2_with (first | (go_at_call 117; (with_reducible refine (at117 s.snd who u2 _ (by omega) H2.out).mono ?_); rintro e w' ⟨rfl, rfl⟩; rw [HI.out]))
    refine (rcwithout118 B w0 _ s.snd i u2 L2 _ HC.out.s2 (fun p hp => by simp [hp]) HO1.out hil (by omega)).mono ?_
    rw [HZS.out]
    rintro e w2 ⟨v', L', rfl, hS', hO2⟩
    obtain ⟨av, cv, rfl, _, _⟩ := hS'.form
    have hO3 := hO2.shuf [L', [_], L1, L2, L3, F] [1, 2, 0, 4, 5, 3] rfl rfl
    have k2 : w2.cell? ⟨b, 2, none⟩ = some u2 := cell_of_get hO3.head 2
    have kf := free_of_get hO3.head
    have kl := lt_of_get hO3.head
    have HS' := Lib.hid hS'
    have HO4 := Lib.hid (own_drop (R := L2) (hO3.setTo 2 (.slice av zs.length cv) rfl))
    clear c0 c1 c2 c3 c4 cl hO2 hO3 hS'
    go_wp2
    go_ret
    rw [HR.out]
    exact ⟨rfl, _, ⟨u1, _, u3, L1, L', L3, ⟨HC.out.s1, HS'.out, HC.out.s3, HC.out.l1, hzl, HC.out.l3, HC.out.r0, HC.out.r1⟩, rfl⟩, HO4.out⟩

end Go.Proofs.Ytidnkienkdlmkaa
