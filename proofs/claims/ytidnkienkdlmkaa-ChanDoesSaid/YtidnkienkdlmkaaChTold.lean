/-
  Contract of shuttlelaw15.told, over whatever iterator, and over a channel's. Condition: few elements.
-/
import Derived.Test.YtidnkienkdlmkaaChAll
namespace Go.Proofs.Ytidnkienkdlmkaa
open Go.RowKit Go.Shelf Go.Sh

attribute [local go_sem] Oper.semAt_some

/-- A row that the call owns, among what it owned already. -/
theorem row_own2 {B : Nat} {w0 w w' : World} {F : List (Nat × Obj)} (hO : Sh.Own B w0 w F) (hb : Below w.heap.size w w') {v : Value} {xs : List V2} {base : Nat} (hbase : w.heap.size ≤ base) (hr : w'.ownsRow base 30 2 v xs.length (xs.flatMap C2)) :
    ∃ L, Sl 30 2 C2 v xs L ∧ Sh.Own B w0 w' (L ++ F) := by
  have hF : Sh.Own B w0 w' F := hO.carry (hb.mono hO.size) hb.size (fun p hp => hb.block p.1 (hO.lt hp))
  rcases hr.2 with ⟨rfl, h0⟩ | ⟨g, cap, cur, rfl, hg, hh, h1, h2, h3, h4⟩
  · obtain rfl : xs = [] := List.length_eq_zero_iff.1 h0
    exact ⟨[], Sl.nil, hF⟩
  · refine ⟨[(g, .cells cur 30 (0, 0))], .inr ⟨g, 0, cap, cur, rfl, rfl, h1, h2, by omega, by simpa using h4⟩, ⟨hF.below, hF.size, ?_, ?_, ?_⟩⟩
    · intro p hp
      rcases List.mem_cons.1 hp with rfl | hp
      · have := hO.size; show B ≤ g; omega
      · exact hF.base p hp
    · refine List.nodup_cons.2 ⟨fun hm => ?_, hF.nodup⟩
      obtain ⟨p, hp, e⟩ := List.mem_map.1 hm
      have := hO.lt hp
      have e' : p.1 = g := e
      omega
    · intro p hp
      rcases List.mem_cons.1 hp with rfl | hp
      · exact hh
      · exact hF.get p hp

/-- A variable's block of two cells. -/
def Box2 (W : World) (B : Nat) (x : V2) : Prop := W.heap[B]? = some (.cells #[.int .i64 x.t, .int .i64 x.n] 30 (0, 0))
theorem box2_own {β : Type} (B : Nat) (x : V2) : Own (fun (_ : β) W => Box2 W B x) := fun s X Y row hs hg hrow =>
  (hg.block B (Array.getElem?_eq_some_iff.1 hs).1 (fun e' => by obtain ⟨o, ho, hc⟩ := hrow B e'.symm; rw [show X.heap[B]? = _ from hs] at ho; cases ho; cases hc)).trans hs

set_option maxRecDepth 100000 in
set_option maxHeartbeats 2000000 in
theorem told46_in (B : Nat) (w0 : World) (F : List (Nat × Obj)) (gf : Nat) (lb : Array Value) (xs : List V2) (m : Nat) (w : World) (hO : Sh.Own B w0 w F) (hx : xs.length ≤ 100000)
    (eg : ∀ args w, (callFunc gf args).run Try.prog w = .ok (.enter gf args) w)
    (hseq : SeqStopsK Fence.wide 3 Try.prog gf lb (fun x : V2 => #[.agg #[.int .i64 x.t, .int .i64 x.n]]) (Below (w.heap.size + 1)) (fun ys => ys = xs) (fun pre => pre <+: xs) xs.length ((w.alloc (.cells #[.int .i64 m] 3)).alloc (.cells #[.slice none 0 0] 98))) :
    CallsIn Fence.wide 4 Try.prog 46 #[.func (.func gf) #[] lb, .int .i64 m] w (NewSl 30 2 C2 B w0 F (xs.take m)) := by
  obtain ⟨i0, hi, hz0, hz1, hz2⟩ := info_parts Try.info30
  have hnil : ∀ w, (binOp .eql 101 (.func (.func gf) #[] lb) .nilFunc).run Try.prog w = .ok (.bool false) w := fun w => by kernel_rfl
  have HS := Lib.hid hseq
  have HE := Lib.hid eg
  clear hseq eg
  refine callsIn_of_wp_marks Try.func46 rfl trivial ?_ rfl
  simp only [Try.ntmps46, List.size_toArray, List.length_cons, List.length_nil, Nat.reduceAdd, Nat.reduceSub, Array.replicate_succ, Array.replicate_zero, List.push_toArray, List.append_toArray, List.nil_append, List.cons_append]
  gi_wp2
  clear hnil
  have bO := Boxed.new (w.alloc (.cells #[.int .i64 m] 3)) 98 (.slice none 0 0)
  rw [World.size_alloc] at bO
  have hB0 : Below (w.heap.size + 1) (w.alloc (.cells #[.int .i64 m] 3)) ((w.alloc (.cells #[.int .i64 m] 3)).alloc (.cells #[.slice none 0 0] 98)) := (Below.refl _ _).alloc (by simp) _
  have hcm : (w.alloc (.cells #[.int .i64 m] 3)).cell? ⟨w.heap.size, 0, none⟩ = some (.int .i64 m) := by simp
  have hwb : Below w.heap.size w (w.alloc (.cells #[.int .i64 m] 3)) := (Below.refl _ w).alloc (Nat.le_refl _) _
  have hsz1 : (w.alloc (.cells #[.int .i64 m] 3)).heap.size = w.heap.size + 1 := by simp
  have hsz2 : ((w.alloc (.cells #[.int .i64 m] 3)).alloc (.cells #[.slice none 0 0] 98)).heap.size = w.heap.size + 2 := by simp
  generalize hw1 : w.alloc (.cells #[.int .i64 m] 3) = w1 at *
  generalize hw2 : w1.alloc (.cells #[.slice none 0 0] 98) = w2 at *
  clear hw1 hw2
  have HSZ1 := Lib.hid hsz1
  have HSZ2 := Lib.hid hsz2
  clear hsz1 hsz2
  refine wpIn_rangeFunc_ownH rfl (by omega) (gf := gf) (lb := lb) rfl trivial HE.out HS.out belowK_t (belowK_b (by rw [HSZ2.out]; omega)) (Below.refl _ _) (fun _ => rfl)
    (fun pre W => (∃ v, Boxed W (w.heap.size + 1) 98 v ∧ W.ownsRow (w.heap.size + 1) 30 2 v pre.length (pre.flatMap C2) ∧ pre.length ≤ m) ∧ Below (w.heap.size + 1) w1 W)
    (fun c pre W => (c = .exit 0 ∧ ∃ pre0 x, pre = pre0 ++ [x] ∧ pre0.length = m) ∧ (∃ v, Boxed W (w.heap.size + 1) 98 v ∧ W.ownsRow (w.heap.size + 1) 30 2 v (pre.take m).length ((pre.take m).flatMap C2) ∧ True) ∧ Below (w.heap.size + 1) w1 W)
    (OwnFrom.and (Own.from (holdsRow_own (w.heap.size + 1) (w.heap.size + 1) 98 30 2 (fun (pre : List V2) => pre.length) (fun (pre : List V2) => pre.flatMap C2) (fun (pre : List V2) _ => pre.length ≤ m)) _) (ownFrom_below (by rw [HSZ1.out]; omega) (by rw [HSZ2.out]; omega)))
    (fun c => OwnFrom.and (ownFrom_pure _ _) (OwnFrom.and (Own.from (holdsRow_own (w.heap.size + 1) (w.heap.size + 1) 98 30 2 (fun (pre : List V2) => (pre.take m).length) (fun (pre : List V2) => (pre.take m).flatMap C2) (fun _ _ => True)) _) (ownFrom_below (by rw [HSZ1.out]; omega) (by rw [HSZ2.out]; omega))))
    ⟨⟨_, bO, World.ownsRow_nil _ _ _ _, by simp⟩, hB0⟩
    (fun x a' W => ∃ Bx, Box2 W Bx x ∧ a' = { tmps := #[.func (.func gf) #[] lb, .int .i64 m, undef, .pointer (some ⟨w.heap.size, 0, none⟩), .slice none 0 0, .pointer (some ⟨w.heap.size + 1, 0, none⟩), .pointer (some ⟨Bx, 0, none⟩), .func (.func gf) #[] lb, .bool false, .func (.func gf) #[] lb, .agg #[.int .i64 x.t, .int .i64 x.n], undef, undef, undef, undef, undef, undef, undef, undef, undef], defers := [] })
    (fun x a' => fun s X Y row ⟨Bx, h1, h2⟩ hg hr => ⟨Bx, (Own.from (box2_own (β := Unit) Bx x) _) s X Y row h1 hg hr, h2⟩) ?assign ?body ?done ?stop
  case assign =>
    rintro l pre x W K ⟨⟨v, hv, hrow, hpm⟩, hB⟩ hK
    have hsz := hB.size
    rw [HSZ1.out] at hsz
    gi_wp2
    exact hK _ _ ((KeepsOthers.alloc _ _).from _) ((Below.refl _ W).alloc hsz _) ⟨⟨v, hv.alloc _, hrow.alloc _, hpm⟩, hB.alloc hsz _⟩ ⟨W.heap.size, World.alloc_heap_new W _, rfl⟩
  case body =>
    rintro l pre x a' W hl ⟨rr, hrr⟩ ⟨⟨v, hv, hrow, hpm⟩, hB⟩ ⟨Bx, hbx, rfl⟩ hlt
    have hc := hv.cell
    have hmc : W.cell? ⟨w.heap.size, 0, none⟩ = some (.int .i64 m) := (hB.cell (p := ⟨w.heap.size, 0, none⟩) (by show w.heap.size < w.heap.size + 1; omega)).trans hcm
    have b0 : W.cell? ⟨Bx, 0, none⟩ = some (.int .i64 x.t) := cell_of_get hbx 0
    have b1 : W.cell? ⟨Bx, 1, none⟩ = some (.int .i64 x.n) := cell_of_get hbx 1
    obtain ⟨ao, cap, rfl⟩ : ∃ ao cap, v = .slice ao pre.length cap := by
      rcases hrow.2 with ⟨rfl, h0⟩ | ⟨g, cap, cur, rfl, _⟩
      · exact ⟨none, 0, by rw [h0]⟩
      · exact ⟨_, _, rfl⟩
    have hB2 := hB.size
    rw [HSZ1.out] at hB2
    clear hrr
    by_cases hpl : m ≤ pre.length
    · have ht : (pre ++ [x]).take m = pre := by rw [List.take_append_of_le_length (by omega), List.take_of_length_le (by omega)]
      have HT := Lib.hid ht
      clear ht
      gi_wp2
      exact ⟨KeepsFrom.refl _ _, ⟨rfl, pre, x, rfl, by omega⟩, ⟨_, hv, by rw [HT.out]; exact hrow, trivial⟩, hB⟩
    · gi_wp2_with (gi_at_builtin; refine wpListIn_append_own _ rfl _ _ 98 rfl (w.heap.size + 1) 30 i0 (.agg #[.int .i64 0, .int .i64 0]) 2 16 Try.underlying98 hi hz0 hz1 hz2 rfl (by decide) _ _ _ rfl (hrow.alloc _) ⟨W.heap.size, 0, none⟩ 1 1 [.int .i64 x.t, .int .i64 x.n] rfl rfl (news_blk (C := #[.int .i64 x.t, .int .i64 x.n]) (t := 30) (fr := (0, 0)) (World.alloc_heap_new W _)) (by simp [Value.oneCell']) (by unfold maxLen; omega) (by omega) (by simp; omega) ?_; intro v' w1' hown' hgrow _; obtain ⟨g', cap', rfl⟩ := ownsRow_succ hown'; obtain ⟨hv1, hv2, hr2, hk2, hb2⟩ := hv.appended (by decide) hrow hB2 (Nat.le_refl _) hown' hgrow; have hc1 := hv1.cell; have hf1 := hv1.frozen)
      exact ⟨hk2.from _, hb2, ⟨_, hv2, by simpa using hr2, by simp; omega⟩, hB.trans hb2⟩
  case done =>
    rintro D ys W hD rfl ⟨⟨v, hv, hrow, hpm⟩, hB⟩ hK
    have hc := hv.cell
    have ht := Lib.hid (List.take_of_length_le hpm)
    rw [HSZ2.out] at hD
    obtain ⟨L, hS, hO'⟩ := row_own2 hO ((hwb.trans (hB.mono (by omega))).trans (belowK_b (w := w) (n₀ := w.heap.size) (Nat.le_refl _) W D _ (.deferred none) (by omega) hK rfl rfl)) (by omega) (ownsRow_putObj hrow _ hK rfl)
    gi_wp2
    refine ⟨by simp, .inl ⟨_, _, rfl, run_takeDeferred hK, ?_⟩⟩
    exact ⟨_, results_tmp rfl _ _ _, v, L, rfl, by rw [ht.out]; exact hS, hO'⟩
  case stop =>
    rintro D c pre W hD hpre ⟨⟨rfl, pre0, x, rfl, hm0⟩, ⟨v, hv, hrow, _⟩, hB⟩ hK
    have hc := hv.cell
    have ht := Lib.hid (show xs.take m = (pre0 ++ [x]).take m by
      obtain ⟨t, rfl⟩ := hpre
      rw [List.take_append_of_le_length (by simp; omega)])
    rw [HSZ2.out] at hD
    obtain ⟨L, hS, hO'⟩ := row_own2 hO ((hwb.trans (hB.mono (by omega))).trans (belowK_b (w := w) (n₀ := w.heap.size) (Nat.le_refl _) W D _ (.deferred none) (by omega) hK rfl rfl)) (by omega) (ownsRow_putObj hrow _ hK rfl)
    gi_wp2
    refine ⟨by simp, .inl ⟨_, _, rfl, run_takeDeferred hK, ?_⟩⟩
    exact ⟨_, results_tmp rfl _ _ _, v, L, rfl, by rw [ht.out]; exact hS, hO'⟩

theorem told46 (B : Nat) (w0 : World) (F : List (Nat × Obj)) (b : Nat) (s : CS) (L : List (Nat × Obj)) (Bp m : Nat) (w : World) (hX : Cx b s L) (hO : Sh.Own B w0 w F) (hL : ∀ p ∈ L, p ∈ F)
    (hBp : w.cell? ⟨Bp, 0, none⟩ = some (.pointer (some ⟨b, 0, none⟩))) :
    Calls Try.prog 46 #[.func (.func 87) #[] #[.pointer (some ⟨Bp, 0, none⟩)], .int .i64 m] w (NewSl 30 2 C2 B w0 F (s.vals.take m)) := by
  obtain ⟨v1, v2, v3, L1, L2, L3, hC, rfl⟩ := hX
  have hq : w.heap[b]? = some (cobj s.room v1 v2 v3 s.shut) := c_get hO hL
  have hlt := lt_of_get hq
  have lp : Bp < w.heap.size := World.block_lt_of_cell? _ _ hBp
  have hb2 : Below w.heap.size w ((w.alloc (.cells #[.int .i64 m] 3)).alloc (.cells #[.slice none 0 0] 98)) := ((Below.refl _ w).alloc (Nat.le_refl _) _).alloc (by simp) _
  have l1 := hC.l1
  obtain ⟨ao, cap, hv, _, _⟩ := hC.s1.form
  refine callsIn_wide.1 (told46_in B w0 F 87 _ s.vals m w hO (by omega) (enters_of Try.func87 (by kernel_rfl) rfl) ?_)
  intro l J Jx W hW hJ hJx hY h0
  have hbW := hb2.trans (hW.mono (by simp; omega))
  refine callc_ok l Bp b (w.heap.size + 1) s.vals ao cap J Jx W.heap.size hJ hY W (by have := hW.size; simp at this; omega) ((hbW.cell (p := ⟨Bp, 0, none⟩) lp).trans hBp) ((hbW.cell (p := ⟨b, 0, none⟩) hlt).trans (cell_of_get hq 0)) ((hbW.cell (p := ⟨b, 2, none⟩) hlt).trans (by rw [← hv]; exact cell_of_get hq 2)) (by omega) ?_ h0
  intro j hj
  have hr : Rd w C2 v1 s.vals := Sl_rd hC.s1 (fun p hp => hO.get p (hL p (by simp [hp])))
  rcases hr with ⟨h1, _⟩ | ⟨g, off, cap', h1, h2⟩
  · rw [h1] at hj; simp at hj
  · rw [hv] at h1
    simp only [Value.slice.injEq, true_and] at h1
    have hc0 := h2 (j * 2 + 0) (.int .i64 s.vals[j].t) (by rw [flatMap_get C2_len s.vals j 0 (by omega), List.getElem?_eq_getElem hj]; rfl)
    have hc1 := h2 (j * 2 + 1) (.int .i64 s.vals[j].n) (by rw [flatMap_get C2_len s.vals j 1 (by omega), List.getElem?_eq_getElem hj]; rfl)
    rw [← Nat.add_assoc] at hc0 hc1
    have hg : g < w.heap.size := World.block_lt_of_cell? _ _ hc0
    exact ⟨g, off, h1.1, by omega, (hbW.cell (p := ⟨g, off + j * 2, none⟩) hg).trans hc0, (hbW.cell (p := ⟨g, off + j * 2 + 1, none⟩) hg).trans hc1⟩

end Go.Proofs.Ytidnkienkdlmkaa
