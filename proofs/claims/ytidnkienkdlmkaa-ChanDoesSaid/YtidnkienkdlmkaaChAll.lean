/-
  chanq.All, its closure (the iterator over a channel's values). Condition: the channel lies below n₀.
-/
import Derived.RangeFuncNested
import Derived.RangeFuncBound
import Derived.RangeFuncCalls
import Derived.RangeFuncLeaves
import Derived.RangeFuncBox
import Derived.Shelf.Abstract
import Derived.Shelf.RegionOpen
import Derived.WalkKit
import Derived.OwnWalkIn
import Derived.TacticsInMore
import Derived.LoopNIn
import Derived.LoopIn
import Derived.Maps.AppendAt
import Derived.Test.YtidnkienkdlmkaaChB
namespace Go.Proofs.Ytidnkienkdlmkaa
open Go.RowKit Go.Shelf Go.Sh

attribute [local go_sem] Oper.semAt_some

theorem all47 (p : Option Addr) (w : World) :
    Calls Try.prog 47 #[.pointer p] w fun e w' => e = .returned (.func (.func 87) #[] #[.pointer (some ⟨w.heap.size, 0, none⟩)]) ∧ w' = w.alloc (.cells #[.pointer p] 91) := by
  go_enter Try.func47, Try.ntmps47
  go_wp2
  go_ret
  exact ⟨by simp, rfl⟩

set_option maxRecDepth 100000 in
set_option maxHeartbeats 1000000 in
theorem callc_none (l Bp : Nat) (p : Option Addr) (J : List V2 → World → Prop) (W : World) (hBp : W.cell? ⟨Bp, 0, none⟩ = some (.pointer p))
    (hn : Calls Try.prog 88 #[.pointer p] W fun e w' => e = .returned (.bool true) ∧ W = w') (h0 : J [] W) :
    CallsIn Fence.wide 3 Try.prog 87 #[.func (.yield l) #[] #[], .pointer (some ⟨Bp, 0, none⟩)] W fun e W' => (∃ v, e = .returned v) ∧ J [] W' := by
  have HN := Lib.hid hn
  have H0 := Lib.hid h0
  clear hn h0
  refine callsIn_of_wp Try.func87 rfl trivial ?_ rfl
  simp only [Try.ntmps87, List.size_toArray, List.length_cons, List.length_nil, Nat.reduceAdd, Nat.reduceSub, Array.replicate_succ, Array.replicate_zero, List.push_toArray, List.append_toArray, List.nil_append, List.cons_append]
  gi_wp2_with (refine ⟨trivial, ?_⟩; gi_at_call 88; refine (callsIn_wide.2 HN.out).mono ?_; rintro e w' ⟨rfl, rfl⟩)
  refine bodyPost_ret (results_none rfl _ _ _) rfl ?_
  exact ⟨⟨_, rfl⟩, H0.out⟩

set_option maxRecDepth 100000 in
set_option maxHeartbeats 2000000 in
theorem callc_ok (l Bp b n₀ : Nat) (xs : List V2) (ao : Option Addr) (cap : Nat) (J Jx : List V2 → World → Prop) (B0 : Nat) (hJ : AbidesFrom B0 J)
    (hY : ∀ pre x W, J pre W → pre.length < xs.length → YieldAt Fence.wide 2 Try.prog l #[.agg #[.int .i64 x.t, .int .i64 x.n]] W fun e W' =>
      (e = .returned (.bool true) ∧ J (pre ++ [x]) W' ∧ Below n₀ W W') ∨ (e = .returned (.bool false) ∧ Jx (pre ++ [x]) W'))
    (W : World) (hn₀ : n₀ ≤ W.heap.size) (hBp : W.cell? ⟨Bp, 0, none⟩ = some (.pointer (some ⟨b, 0, none⟩))) (hc0 : W.cell? ⟨b, 0, none⟩ = some (.bool true)) (hc2 : W.cell? ⟨b, 2, none⟩ = some (.slice ao xs.length cap)) (hxl : xs.length ≤ 100000)
    (hx : ∀ j (hj : j < xs.length), ∃ g off, ao = some ⟨g, off, none⟩ ∧ g < n₀ ∧ W.cell? ⟨g, off + j * 2, none⟩ = some (.int .i64 xs[j].t) ∧ W.cell? ⟨g, off + j * 2 + 1, none⟩ = some (.int .i64 xs[j].n)) (h0 : J [] W) :
    CallsIn Fence.wide 3 Try.prog 87 #[.func (.yield l) #[] #[], .pointer (some ⟨Bp, 0, none⟩)] W fun e W' => (∃ v, e = .returned v) ∧ ((∃ ys, ys = xs ∧ J ys W') ∨ (∃ pre, pre <+: xs ∧ Jx pre W')) := by
  have HX := Lib.hid hx
  have H0 := Lib.hid h0
  have HY := Lib.hid hY
  have HC0 := Lib.hid hc0
  have HJA := Lib.hid (show ∀ (s : List V2) (X : World) (o : Obj), J s X → J s (X.alloc o) from fun s X o h => hJ s X (X.alloc o) none h (World.grownBy_alloc X o none) (fun r e => by cases e))
  clear h0 hx hY hJ
  refine callsIn_of_wp Try.func87 rfl trivial ?_ rfl
  simp only [Try.ntmps87, List.size_toArray, List.length_cons, List.length_nil, Nat.reduceAdd, Nat.reduceSub, Array.replicate_succ, Array.replicate_zero, List.push_toArray, List.append_toArray, List.nil_append, List.cons_append]
  gi_wp2_with (refine ⟨trivial, ?_⟩; gi_at_call 88; refine (callsIn_wide.2 (cnone b true _ HC0.out)).mono ?_; rintro e w' ⟨rfl, rfl⟩)
  gi_loopw [13] (fun i wr => ∃ j : Nat, j ≤ xs.length ∧ i = .int .i64 j ∧ J (xs.take j) wr ∧ Below n₀ W wr) (fun i _ => xs.length - (intOf i).toNat)
  case atStart => exact ⟨0, Nat.zero_le _, rfl, H0.out, Below.refl n₀ W⟩
  case round =>
    obtain ⟨j, hj, rfl, hJs, hB⟩ := hrel
    by_cases hlt : j < xs.length
    · obtain ⟨g, off, rfl, hg, e0, e1⟩ := HX.out j hlt
      have c0 := (hB.cell (p := ⟨g, off + j * 2, none⟩) hg).trans e0
      have c1 := (hB.cell (p := ⟨g, off + j * 2 + 1, none⟩) hg).trans e1
      have hji : (j : Int) < xs.length := by omega
      have hJ2 := HJA.out _ _ (.cells #[.int .i64 xs[j].t, .int .i64 xs[j].n] 30) hJs
      have hB2 := hB.alloc (Nat.le_trans hn₀ hB.size) (.cells #[.int .i64 xs[j].t, .int .i64 xs[j].n] 30)
      obtain ⟨fn, tmps, assign, body, hy, hR⟩ := HY.out (xs.take j) xs[j] _ hJ2 (by simp; omega)
      have HB := Lib.hid hB2
      have hnx := Lib.hid (show xs.take j ++ [xs[j]] = xs.take (j + 1) by simp)
      clear e0 e1 hB hB2 hJs hJ2 hBp
      gi_wp2
      refine hR.mono ?_
      rintro e W3 (⟨rfl, hJ3, hk3⟩ | ⟨rfl, hJx3⟩)
      · gi_wp2
        go_roundw
        case rel => exact ⟨j + 1, by omega, by go_num, by rw [← hnx.out]; exact hJ3, HB.out.trans hk3⟩
        case measure => simp [intOf]; omega
      · gi_wp2
        refine bodyPost_ret (results_none rfl _ _ _) rfl ?_
        exact ⟨⟨_, rfl⟩, .inr ⟨_, by rw [hnx.out]; exact List.take_prefix _ _, hJx3⟩⟩
    · obtain rfl : j = xs.length := by omega
      have HJ := Lib.hid hJs
      clear hJs
      gi_wp2
      go_end0
      exact ⟨⟨_, rfl⟩, .inl ⟨_, by simp, HJ.out⟩⟩

end Go.Proofs.Ytidnkienkdlmkaa
