/-
  Contract of shuttlelaw19.told, over whatever iterator. Condition: few elements.
-/
import Derived.Test.YtojcojoleodjmaaRqAll
import Derived.RangeFuncBox
import Derived.Maps.AppendAt
namespace Go.Proofs.Ytojcojoleodjmaa
open Go.RowKit Go.Shelf Go.Sh

attribute [local go_sem] Oper.semAt_some

/-- A row that the call owns, among what it owned already. -/
theorem row_own {B : Nat} {w0 w w' : World} {F : List (Nat × Obj)} (hO : Sh.Own B w0 w F) (hb : Below w.heap.size w w') {v : Value} {xs : List Int} {base : Nat} (hbase : w.heap.size ≤ base) (hr : w'.ownsRow base 3 1 v xs.length (xs.map (Value.int .i64))) :
    ∃ L, Sl 3 1 I v xs L ∧ Sh.Own B w0 w' (L ++ F) := by
  have hF : Sh.Own B w0 w' F := hO.carry (hb.mono hO.size) hb.size (fun p hp => hb.block p.1 (hO.lt hp))
  rcases hr.2 with ⟨rfl, h0⟩ | ⟨g, cap, cur, rfl, hg, hh, h1, h2, h3, h4⟩
  · obtain rfl : xs = [] := List.length_eq_zero_iff.1 h0
    exact ⟨[], Sl.nil, hF⟩
  · refine ⟨[(g, .cells cur 3 (0, 0))], .inr ⟨g, 0, cap, cur, rfl, rfl, h1, h2, by omega, by rw [flatI]; simpa using h4⟩, ⟨hF.below, hF.size, ?_, ?_, ?_⟩⟩
    · intro p hp
      rcases List.mem_cons.1 hp with rfl | hp
      · have := hO.size; show B ≤ g; omega
      · exact hF.base p hp
    · refine List.nodup_cons.2 ⟨fun hm => ?_, hF.nodup⟩
      obtain ⟨p, hp, e⟩ := List.mem_map.1 hm
      have := hO.lt hp
      have e' : p.1 = g := e
      omega
    · intro p hp
      rcases List.mem_cons.1 hp with rfl | hp
      · exact hh
      · exact hF.get p hp

set_option maxRecDepth 100000 in
set_option maxHeartbeats 2000000 in
theorem told_in (B : Nat) (w0 : World) (F : List (Nat × Obj)) (gf : Nat) (lb : Array Value) (xs : List Int) (m : Nat) (w : World) (hO : Sh.Own B w0 w F) (hx : xs.length ≤ 100000)
    (eg : ∀ args w, (callFunc gf args).run Try.prog w = .ok (.enter gf args) w)
    (hseq : SeqStopsK Fence.wide 3 Try.prog gf lb (fun x : Int => #[Value.int .i64 x]) (Below (w.heap.size + 1)) (fun ys => ys = xs) (fun pre => pre <+: xs) xs.length ((w.alloc (.cells #[.int .i64 m] 3)).alloc (.cells #[.slice none 0 0] 28))) :
    CallsIn Fence.wide 4 Try.prog 21 #[.func (.func gf) #[] lb, .int .i64 m] w (NewSl 3 1 I B w0 F (xs.take m)) := by
  obtain ⟨i0, hi, hz0, hz1, hz2⟩ := info_parts Try.info3
  have hnil : ∀ w, (binOp .eql 45 (.func (.func gf) #[] lb) .nilFunc).run Try.prog w = .ok (.bool false) w := fun w => by kernel_rfl
  have HS := Lib.hid hseq
  have HE := Lib.hid eg
  clear hseq eg
  refine callsIn_of_wp_marks Try.func21 rfl trivial ?_ rfl
  simp only [Try.ntmps21, List.size_toArray, List.length_cons, List.length_nil, Nat.reduceAdd, Nat.reduceSub, Array.replicate_succ, Array.replicate_zero, List.push_toArray, List.append_toArray, List.nil_append, List.cons_append]
  gi_wp2
  clear hnil
  have bO := Boxed.new (w.alloc (.cells #[.int .i64 m] 3)) 28 (.slice none 0 0)
  rw [World.size_alloc] at bO
  have hB0 : Below (w.heap.size + 1) (w.alloc (.cells #[.int .i64 m] 3)) ((w.alloc (.cells #[.int .i64 m] 3)).alloc (.cells #[.slice none 0 0] 28)) := (Below.refl _ _).alloc (by simp) _
  have hcm : (w.alloc (.cells #[.int .i64 m] 3)).cell? ⟨w.heap.size, 0, none⟩ = some (.int .i64 m) := by simp
  have hwb : Below w.heap.size w (w.alloc (.cells #[.int .i64 m] 3)) := (Below.refl _ w).alloc (Nat.le_refl _) _
  have hsz1 : (w.alloc (.cells #[.int .i64 m] 3)).heap.size = w.heap.size + 1 := by simp
  have hsz2 : ((w.alloc (.cells #[.int .i64 m] 3)).alloc (.cells #[.slice none 0 0] 28)).heap.size = w.heap.size + 2 := by simp
  generalize hw1 : w.alloc (.cells #[.int .i64 m] 3) = w1 at *
  generalize hw2 : w1.alloc (.cells #[.slice none 0 0] 28) = w2 at *
  clear hw1 hw2
  have HSZ1 := Lib.hid hsz1
  have HSZ2 := Lib.hid hsz2
  clear hsz1 hsz2
  refine wpIn_rangeFunc_ownG rfl (by omega) (gf := gf) (lb := lb) rfl trivial HE.out HS.out belowK_t (belowK_b (by rw [HSZ2.out]; omega)) (Below.refl _ _) (fun _ => rfl)
    (fun pre W => (∃ v, Boxed W (w.heap.size + 1) 28 v ∧ W.ownsRow (w.heap.size + 1) 3 1 v pre.length (pre.map (Value.int .i64)) ∧ pre.length ≤ m) ∧ Below (w.heap.size + 1) w1 W)
    (fun c pre W => (c = .exit 0 ∧ ∃ pre0 x, pre = pre0 ++ [x] ∧ pre0.length = m) ∧ (∃ v, Boxed W (w.heap.size + 1) 28 v ∧ W.ownsRow (w.heap.size + 1) 3 1 v (pre.take m).length ((pre.take m).map (Value.int .i64)) ∧ True) ∧ Below (w.heap.size + 1) w1 W)
    (OwnFrom.and (Own.from (holdsRow_own (w.heap.size + 1) (w.heap.size + 1) 28 3 1 (fun (pre : List Int) => pre.length) (fun (pre : List Int) => pre.map (Value.int .i64)) (fun (pre : List Int) _ => pre.length ≤ m)) _) (ownFrom_below (by rw [HSZ1.out]; omega) (by rw [HSZ2.out]; omega)))
    (fun c => OwnFrom.and (ownFrom_pure _ _) (OwnFrom.and (Own.from (holdsRow_own (w.heap.size + 1) (w.heap.size + 1) 28 3 1 (fun (pre : List Int) => (pre.take m).length) (fun (pre : List Int) => (pre.take m).map (Value.int .i64)) (fun _ _ => True)) _) (ownFrom_below (by rw [HSZ1.out]; omega) (by rw [HSZ2.out]; omega))))
    ⟨⟨_, bO, World.ownsRow_nil _ _ _ _, by simp⟩, hB0⟩
    (fun x => { tmps := #[.func (.func gf) #[] lb, .int .i64 m, undef, .pointer (some ⟨w.heap.size, 0, none⟩), .slice none 0 0, .pointer (some ⟨w.heap.size + 1, 0, none⟩), .int .i64 x, .func (.func gf) #[] lb, .bool false, .func (.func gf) #[] lb, .int .i64 x, undef, undef, undef, undef, undef, undef, undef, undef, undef], defers := [] }) ?assign ?body ?done ?stop
  case assign =>
    intro l x W K hK
    gi_wp2
    exact hK
  case body =>
    rintro l pre x W ⟨⟨v, hv, hrow, hpm⟩, hB⟩ hlt
    have hc := hv.cell
    have hmc : W.cell? ⟨w.heap.size, 0, none⟩ = some (.int .i64 m) := (hB.cell (p := ⟨w.heap.size, 0, none⟩) (by show w.heap.size < w.heap.size + 1; omega)).trans hcm
    obtain ⟨ao, cap, rfl⟩ : ∃ ao cap, v = .slice ao pre.length cap := by
      rcases hrow.2 with ⟨rfl, h0⟩ | ⟨g, cap, cur, rfl, _⟩
      · exact ⟨none, 0, by rw [h0]⟩
      · exact ⟨_, _, rfl⟩
    have hB2 := hB.size
    rw [HSZ1.out] at hB2
    by_cases hpl : m ≤ pre.length
    · have ht : (pre ++ [x]).take m = pre := by rw [List.take_append_of_le_length (by omega), List.take_of_length_le (by omega)]
      have HT := Lib.hid ht
      clear ht
      gi_wp2
      exact ⟨KeepsFrom.refl _ _, ⟨rfl, pre, x, rfl, by omega⟩, ⟨_, hv, by rw [HT.out]; exact hrow, trivial⟩, hB⟩
    · gi_wp2_with (gi_at_builtin; refine wpListIn_append_own _ rfl _ _ 28 rfl (w.heap.size + 1) 3 i0 (.int .i64 0) 1 8 Try.underlying28 hi hz0 hz1 hz2 rfl (by decide) _ _ _ rfl (hrow.alloc _) ⟨W.heap.size, 0, none⟩ 1 1 [.int .i64 x] rfl rfl (cell_one_new _ _ _) (by simp [Value.oneCell']) (by unfold maxLen; omega) (by omega) (by simp; omega) ?_; intro v' w1' hown' hgrow _; obtain ⟨g', cap', rfl⟩ := ownsRow_succ hown'; obtain ⟨hv1, hv2, hr2, hk2, hb2⟩ := hv.appended (by decide) hrow hB2 (Nat.le_refl _) hown' hgrow; have hc1 := hv1.cell; have hf1 := hv1.frozen)
      exact ⟨hk2.from _, hb2, ⟨_, hv2, by simpa using hr2, by simp; omega⟩, hB.trans hb2⟩
  case done =>
    rintro D ys W hD rfl ⟨⟨v, hv, hrow, hpm⟩, hB⟩ hK
    have hc := hv.cell
    have ht := Lib.hid (List.take_of_length_le hpm)
    rw [HSZ2.out] at hD
    obtain ⟨L, hS, hO'⟩ := row_own hO ((hwb.trans (hB.mono (by omega))).trans (belowK_b (w := w) (n₀ := w.heap.size) (Nat.le_refl _) W D _ (.deferred none) (by omega) hK rfl rfl)) (by omega) (ownsRow_putObj hrow _ hK rfl)
    gi_wp2
    refine ⟨by simp, .inl ⟨_, _, rfl, run_takeDeferred hK, ?_⟩⟩
    exact ⟨_, results_tmp rfl _ _ _, v, L, rfl, by rw [ht.out]; exact hS, hO'⟩
  case stop =>
    rintro D c pre W hD hpre ⟨⟨rfl, pre0, x, rfl, hm0⟩, ⟨v, hv, hrow, _⟩, hB⟩ hK
    have hc := hv.cell
    have ht := Lib.hid (show xs.take m = (pre0 ++ [x]).take m by
      obtain ⟨t, rfl⟩ := hpre
      rw [List.take_append_of_le_length (by simp; omega)])
    rw [HSZ2.out] at hD
    obtain ⟨L, hS, hO'⟩ := row_own hO ((hwb.trans (hB.mono (by omega))).trans (belowK_b (w := w) (n₀ := w.heap.size) (Nat.le_refl _) W D _ (.deferred none) (by omega) hK rfl rfl)) (by omega) (ownsRow_putObj hrow _ hK rfl)
    gi_wp2
    refine ⟨by simp, .inl ⟨_, _, rfl, run_takeDeferred hK, ?_⟩⟩
    exact ⟨_, results_tmp rfl _ _ _, v, L, rfl, by rw [ht.out]; exact hS, hO'⟩

/-- What is told of a worker's, at most m. -/
def toldL (n : Nat) (ls : Nat → List Int) (worker : Int) (m : Nat) : List Int := if mayQ n worker = 1 then [] else (ls worker.toNat).take m

theorem told_q (B : Nat) (w0 : World) (F : List (Nat × Obj)) (b n : Nat) (vs : Nat → Value) (Ls : Nat → List (Nat × Obj)) (ls : Nat → List Int) (st worker : Int) (Bp Bw m : Nat) (w : World) (hQ : Qs vs Ls n ls) (hO : Sh.Own B w0 w F) (hL : ∀ p ∈ qown b n vs Ls st, p ∈ F)
    (hBp : w.cell? ⟨Bp, 0, none⟩ = some (.pointer (some ⟨b, 0, none⟩))) (hBw : w.cell? ⟨Bw, 0, none⟩ = some (.int .i64 worker)) :
    Calls Try.prog 21 #[.func (.func 51) #[] #[.pointer (some ⟨Bp, 0, none⟩), .pointer (some ⟨Bw, 0, none⟩)], .int .i64 m] w (NewSl 3 1 I B w0 F (toldL n ls worker m)) := by
  have hq : w.heap[b]? = some (qobj n vs st) := hO.get (b, qobj n vs st) (hL _ List.mem_cons_self)
  have hlt := lt_of_get hq
  have lp : Bp < w.heap.size := World.block_lt_of_cell? _ _ hBp
  have lw : Bw < w.heap.size := World.block_lt_of_cell? _ _ hBw
  have hb2 : Below w.heap.size w ((w.alloc (.cells #[.int .i64 m] 3)).alloc (.cells #[.slice none 0 0] 28)) := ((Below.refl _ w).alloc (Nat.le_refl _) _).alloc (by simp) _
  rcases mayQ_cases n worker with hm | ⟨hm, k, rfl, hk⟩
  · have ht : toldL n ls worker m = ([] : List Int).take m := by unfold toldL; rw [if_pos hm]; simp
    rw [ht]
    refine callsIn_wide.1 (told_in B w0 F 51 _ [] m w hO (by simp) (enters_of Try.func51 (by kernel_rfl) rfl) ?_)
    intro l J Jx W hW hJ hJx hY h0
    have hbW := hb2.trans (hW.mono (by simp; omega))
    refine (allc_bad l Bp Bw b n vs st worker J W ((hbW.cell (p := ⟨Bp, 0, none⟩) lp).trans hBp) ((hbW.cell (p := ⟨Bw, 0, none⟩) lw).trans hBw) ((hbW.block b hlt).trans hq) hQ.pos hm h0).mono ?_
    rintro e W' ⟨h1, h2⟩
    exact ⟨h1, .inl ⟨[], rfl, h2⟩⟩
  · have hk16 : k < 16 := by have := hQ.top; omega
    have ht : toldL n ls k m = (ls k).take m := by unfold toldL; rw [hm, if_neg (by decide), Int.toNat_natCast]
    rw [ht]
    have hlk := hQ.len k hk16
    obtain ⟨ao, cap, hv, _, _⟩ := (hQ.sl k hk16).form
    refine callsIn_wide.1 (told_in B w0 F 51 _ (ls k) m w hO (by omega) (enters_of Try.func51 (by kernel_rfl) rfl) ?_)
    intro l J Jx W hW hJ hJx hY h0
    have hbW := hb2.trans (hW.mono (by simp; omega))
    refine allc_ok l Bp Bw b n k (w.heap.size + 1) vs st (ls k) ao cap J Jx W.heap.size hJ hY W ((hbW.cell (p := ⟨Bp, 0, none⟩) lp).trans hBp) ((hbW.cell (p := ⟨Bw, 0, none⟩) lw).trans hBw) ((hbW.block b hlt).trans hq) hQ.pos hk hk16 hv (by omega) ?_ h0
    intro j hj
    have hr : Rd w I (vs k) (ls k) := Sl_rd (hQ.sl k hk16) (fun p hp => hO.get p (hL p (List.mem_cons_of_mem _ (mem_fam hk16 hp))))
    rcases hr with ⟨h1, _⟩ | ⟨g, off, cap', h1, h2⟩
    · rw [h1] at hj; simp at hj
    · rw [hv] at h1
      simp only [Value.slice.injEq, true_and] at h1
      have hc := h2 j (.int .i64 (ls k)[j]) (by rw [flatI]; simp [List.getElem?_eq_getElem hj])
      have hg : g < w.heap.size := World.block_lt_of_cell? _ _ hc
      exact ⟨g, off, h1.1, by omega, (hbW.cell (p := ⟨g, off + j, none⟩) hg).trans hc⟩

end Go.Proofs.Ytojcojoleodjmaa
