/-
  All, its closure (the iterator over a worker's queue). Condition: the queues lie below n₀.
-/
import Derived.RangeFuncNested
import Derived.RangeFuncBound
import Derived.RangeFuncCalls
import Derived.RangeFuncLeaves
import Derived.Shelf.Abstract
import Derived.Shelf.RegionOpen
import Derived.WalkKit
import Derived.OwnWalkIn
import Derived.TacticsInMore
import Derived.LoopNIn
import Derived.LoopIn
import Derived.Test.YtojcojoleodjmaaRqCont
namespace Go.Proofs.Ytojcojoleodjmaa
open Go.RowKit Go.Shelf Go.Sh

attribute [local go_sem] Oper.semAt_some

/-- All: the receiver and the worker are boxed. -/
theorem all22 (p : Option Addr) (worker : Int) (w : World) :
    Calls Try.prog 22 #[.pointer p, .int .i64 worker] w fun e w' => e = .returned (.func (.func 51) #[] #[.pointer (some ⟨w.heap.size, 0, none⟩), .pointer (some ⟨w.heap.size + 1, 0, none⟩)]) ∧ w' = (w.alloc (.cells #[.pointer p] 23)).alloc (.cells #[.int .i64 worker] 3) := by
  go_enter Try.func22, Try.ntmps22
  go_wp2
  go_ret
  exact ⟨by simp, rfl⟩

set_option maxRecDepth 100000 in
set_option maxHeartbeats 1000000 in
theorem allc_bad (l Bp Bw b n : Nat) (vs : Nat → Value) (st worker : Int) (J : List Int → World → Prop) (W : World) (hBp : W.cell? ⟨Bp, 0, none⟩ = some (.pointer (some ⟨b, 0, none⟩))) (hBw : W.cell? ⟨Bw, 0, none⟩ = some (.int .i64 worker))
    (hq : W.heap[b]? = some (qobj n vs st)) (hn : 1 ≤ n) (hm : mayQ n worker = 1) (h0 : J [] W) :
    CallsIn Fence.wide 3 Try.prog 51 #[.func (.yield l) #[] #[], .pointer (some ⟨Bp, 0, none⟩), .pointer (some ⟨Bw, 0, none⟩)] W fun e W' => (∃ v, e = .returned v) ∧ J [] W' := by
  have HM := Lib.hid hm
  have HQ := Lib.hid hq
  have H0 := Lib.hid h0
  clear hm hq h0
  refine callsIn_of_wp Try.func51 rfl trivial ?_ rfl
  simp only [Try.ntmps51, List.size_toArray, List.length_cons, List.length_nil, Nat.reduceAdd, Nat.reduceSub, Array.replicate_succ, Array.replicate_zero, List.push_toArray, List.append_toArray, List.nil_append, List.cons_append]
  gi_wp2_with (refine ⟨trivial, ?_⟩; gi_at_call 45; refine (callsIn_wide.2 (may_q b n vs st worker _ HQ.out hn)).mono ?_; rintro e w' ⟨rfl, rfl⟩; rw [HM.out])
  refine bodyPost_ret (results_none rfl _ _ _) rfl ?_
  exact ⟨⟨_, rfl⟩, H0.out⟩

set_option maxRecDepth 100000 in
set_option maxHeartbeats 1000000 in
theorem allc_ok (l Bp Bw b n k n₀ : Nat) (vs : Nat → Value) (st : Int) (xs : List Int) (ao : Option Addr) (cap : Nat) (J Jx : List Int → World → Prop) (B0 : Nat) (hJ : AbidesFrom B0 J)
    (hY : ∀ pre x W, J pre W → pre.length < xs.length → YieldAt Fence.wide 2 Try.prog l #[.int .i64 x] W fun e W' =>
      (e = .returned (.bool true) ∧ J (pre ++ [x]) W' ∧ Below n₀ W W') ∨ (e = .returned (.bool false) ∧ Jx (pre ++ [x]) W'))
    (W : World) (hBp : W.cell? ⟨Bp, 0, none⟩ = some (.pointer (some ⟨b, 0, none⟩))) (hBw : W.cell? ⟨Bw, 0, none⟩ = some (.int .i64 k))
    (hq : W.heap[b]? = some (qobj n vs st)) (hn : 1 ≤ n) (hk : k < n) (hk16 : k < 16) (hv : vs k = .slice ao xs.length cap) (hxl : xs.length ≤ 100000)
    (hx : ∀ j (hj : j < xs.length), ∃ g off, ao = some ⟨g, off, none⟩ ∧ g < n₀ ∧ W.cell? ⟨g, off + j, none⟩ = some (.int .i64 xs[j])) (h0 : J [] W) :
    CallsIn Fence.wide 3 Try.prog 51 #[.func (.yield l) #[] #[], .pointer (some ⟨Bp, 0, none⟩), .pointer (some ⟨Bw, 0, none⟩)] W fun e W' => (∃ v, e = .returned v) ∧ ((∃ ys, ys = xs ∧ J ys W') ∨ (∃ pre, pre <+: xs ∧ Jx pre W')) := by
  have HM := Lib.hid (mayQ_ok hk)
  have HQ := Lib.hid hq
  have hck : W.cell? ⟨b, 1 + k, none⟩ = some (.slice ao xs.length cap) := by rw [q_cell hq hk16, hv]
  have hki : (k : Int) < 16 := by omega
  have HX := Lib.hid hx
  have hJd : ∀ W, J [] W → J [] W.drew := fun W h => hJ [] W W.drew none h ⟨rfl, rfl, rfl, Nat.le_refl _, fun _ _ _ => rfl⟩ (fun r e => by cases e)
  have H0 := Lib.hid (hJd W h0)
  have HY := Lib.hid hY
  clear hq h0 hv hx hJd hY hJ
  refine callsIn_of_wp Try.func51 rfl trivial ?_ rfl
  simp only [Try.ntmps51, List.size_toArray, List.length_cons, List.length_nil, Nat.reduceAdd, Nat.reduceSub, Array.replicate_succ, Array.replicate_zero, List.push_toArray, List.append_toArray, List.nil_append, List.cons_append]
  gi_wp2_with (refine ⟨trivial, ?_⟩; gi_at_call 45; refine (callsIn_wide.2 (may_q b n vs st k _ HQ.out hn)).mono ?_; rintro e w' ⟨rfl, rfl⟩; rw [HM.out])
  gi_region
  all_goals gi_wp2
  gi_loopw [17] (fun i wr => ∃ j : Nat, j ≤ xs.length ∧ i = .int .i64 j ∧ J (xs.take j) wr ∧ Below n₀ W wr) (fun i _ => xs.length - (intOf i).toNat)
  case atStart => exact ⟨0, Nat.zero_le _, rfl, H0.out, (Below.refl n₀ W).drew⟩
  case round =>
    obtain ⟨j, hj, rfl, hJs, hB⟩ := hrel
    by_cases hlt : j < xs.length
    · obtain ⟨g, off, rfl, hg, hc⟩ := HX.out j hlt
      have hc' := (hB.cell (p := ⟨g, off + j, none⟩) hg).trans hc
      obtain ⟨fn, tmps, assign, body, hy, hR⟩ := HY.out (xs.take j) xs[j] wr hJs (by simp; omega)
      have HB := Lib.hid hB
      have hnx := Lib.hid (show xs.take j ++ [xs[j]] = xs.take (j + 1) by simp)
      clear hc hB hJs hBp hBw hck
      gi_wp2
      refine hR.mono ?_
      rintro e W3 (⟨rfl, hJ3, hk3⟩ | ⟨rfl, hJx3⟩)
      · gi_wp2
        go_roundw
        case rel => exact ⟨j + 1, by omega, by go_num, by rw [← hnx.out]; exact hJ3, HB.out.trans hk3⟩
        case measure => simp [intOf]; omega
      · gi_wp2
        refine bodyPost_ret (results_none rfl _ _ _) rfl ?_
        exact ⟨⟨_, rfl⟩, .inr ⟨_, by rw [hnx.out]; exact List.take_prefix _ _, hJx3⟩⟩
    · obtain rfl : j = xs.length := by omega
      have HJ := Lib.hid hJs
      clear hJs
      gi_wp2
      go_end0
      exact ⟨⟨_, rfl⟩, .inl ⟨_, by simp, HJ.out⟩⟩

end Go.Proofs.Ytojcojoleodjmaa
