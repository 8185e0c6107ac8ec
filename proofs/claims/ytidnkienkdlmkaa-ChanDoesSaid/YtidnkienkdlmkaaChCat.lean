/-
  Contracts of slices.Grow (of nil) and Concat (of two) of waiters. Conditions: the lengths are small.
-/
import Derived.Test.YtidnkienkdlmkaaChDel
import Derived.Test.YtidnkienkdlmkaaIntsB
namespace Go.Proofs.Ytidnkienkdlmkaa
open Go.RowKit Go.Sh

theorem zeros_fitC {α : Type} {B : Nat} {w0 w : World} {F : List (Nat × Obj)} {e k : Nat} {enc : α → List Value} (z : Value) (hz : z.cells.size = k) (n : Nat) (hO : Own B w0 w F) (hn : n ≤ maxLen) :
    Sl e k enc (.slice (some ⟨w.drew.heap.size, 0, none⟩) 0 (grownCap w n 0 e)) ([] : List α) [(w.drew.heap.size, .cells (Builtin.zeroCells z.cells n ++ Builtin.zeroCells z.cells (grownCap w n 0 e - n)) e (0, 0))] ∧
    Own B w0 (w.drew.alloc (.cells (Builtin.zeroCells z.cells n ++ Builtin.zeroCells z.cells (grownCap w n 0 e - n)) e)) ((w.drew.heap.size, .cells (Builtin.zeroCells z.cells n ++ Builtin.zeroCells z.cells (grownCap w n 0 e - n)) e (0, 0)) :: F) := by
  have h1 := grownCap_ge w n 0 e
  have h2 := grownCap_le_maxLen w n 0 e hn
  refine ⟨.inr ⟨_, 0, _, _, rfl, rfl, by simp, h2, ?_, by simp⟩, hO.drew.alloc _⟩
  rw [Array.size_append, size_zeroCells, size_zeroCells, hz, Nat.zero_add, ← Nat.add_mul, show n + (grownCap w n 0 e - n) = grownCap w n 0 e by omega]
  exact Nat.le_refl _

set_option maxRecDepth 100000 in
theorem grow111 (B : Nat) (w0 : World) (F : List (Nat × Obj)) (n : Nat) (m : Int) (hm : (n : Int) = m) (w : World) (hO : Own B w0 w F) (hn : n ≤ 1000000) :
    Calls Try.prog 111 #[.slice none 0 0, .int .i64 m] w (NewSl 136 3 C3 B w0 F ([] : List W3)) := by
  subst hm
  obtain ⟨i0, hi, hz0, hz1, hz2⟩ := info_parts Try.info136
  by_cases h0 : n = 0
  · subst h0
    go_enter Try.func111, Try.ntmps111
    go_wp2
    go_ret
    exact ⟨_, [], rfl, Sl.nil, hO⟩
  · have hz := zeros_fitC (e := 136) (enc := C3) (.agg #[.int .i64 0, .int .i64 0, .int .i64 0]) rfl n hO (by unfold maxLen; omega)
    have hr := fun ty => Lib.run_append_nil_zeros (P := Try.prog) w 109 3 ty 136 i0 (.agg #[.int .i64 0, .int .i64 0, .int .i64 0]) .i64 .i64 Try.underlying109 Try.underlying3 hi hz0 n (by omega) (by omega) (by omega) (by rw [hz2]; omega)
    have h1 : (0 : Int) < n := by omega
    have HR := Lib.hid hr
    have HZ := Lib.hid hz
    clear hr hz
    go_enter Try.func111, Try.ntmps111
    go_wp2_with (at_builtin; refine Lib.wpList_append_run _ rfl (.tmp 20) (.tmp 21) 109 3 rfl _ _ rfl rfl _ _ (HR.out _) ?_)
    go_ret
    exact ⟨_, _, rfl, HZ.out.1, HZ.out.2⟩

set_option maxRecDepth 100000 in
set_option maxHeartbeats 1000000 in
theorem concat90 (B : Nat) (w0 : World) (F : List (Nat × Obj)) (blk : Nat) (v1 v2 : Value) (xs ys : List W3) (L1 L2 : List (Nat × Obj)) (w : World) (hb : (blk, Obj.cells #[v1, v2] 109 (0, 0)) ∈ F)
    (h1 : Sl 136 3 C3 v1 xs L1) (hL1 : ∀ p ∈ L1, p ∈ F) (h2 : Sl 136 3 C3 v2 ys L2) (hL2 : ∀ p ∈ L2, p ∈ F) (hO : Own B w0 w F) (hx : xs.length ≤ 100000) (hy : ys.length ≤ 100000) :
    Calls Try.prog 90 #[.slice (some ⟨blk, 0, none⟩) 2 2] w (NewSl 136 3 C3 B w0 F (xs ++ ys)) := by
  obtain ⟨i0, hi, hz0, hz1, hz2⟩ := info_parts Try.info136
  obtain ⟨a1, c1, rfl, hc1, _⟩ := h1.form
  obtain ⟨a2, c2, rfl, hc2, _⟩ := h2.form
  have k0 : w.cell? ⟨blk, 0, none⟩ = some (.slice a1 xs.length c1) := cell_of_get (hO.get _ hb) 0
  have k1 : w.cell? ⟨blk, 1, none⟩ = some (.slice a2 ys.length c2) := cell_of_get (hO.get _ hb) 1
  go_enter Try.func90, Try.ntmps90
  go_wp2
  refine wp_loop_rounds 3 ?_
  rw [rounds_succ]
  go_wp2
  rw [rounds_succ]
  go_wp2
  rw [rounds_succ]
  go_wp2_with fail
  refine (grow111 B w0 F (xs.length + ys.length) _ (by simp) _ hO (by omega)).mono ?_
  rintro e w1 ⟨v, L', rfl, hS, hO1⟩
  obtain ⟨a0, c0, rfl, hc0, _⟩ := hS.form
  have k2 : w1.cell? ⟨blk, 0, none⟩ = some (.slice a1 xs.length c1) := cell_of_get (hO1.get _ (List.mem_append_right _ hb)) 0
  clear k0 k1
  go_wp2
  refine wp_loop_rounds 3 ?_
  rw [rounds_succ]
  go_wp2_with (at_builtin; refine wpList_append_all rfl (.tmp 31) (.tmp 32) 109 rfl _ _ _ Try.underlying109 hi hz0 hz1 hz2 rfl C3_len C3_one rfl hS (F := F) hO1 _ rfl xs L1 h1 hL1 ?h1 ?h2 ?h3)
  case h1 => simp [maxLen]; omega
  case h2 => simp; omega
  case h3 =>
    intro ao' cap' w2 L2' hS2 hO2 _
    clear k2
    have k3 : w2.cell? ⟨blk, 1, none⟩ = some (.slice a2 ys.length c2) := cell_of_get (hO2.get _ (List.mem_append_right _ hb)) 1
    go_wp2
    rw [rounds_succ]
    go_wp2_with (at_builtin; refine wpList_append_all rfl (.tmp 31) (.tmp 32) 109 rfl _ _ _ Try.underlying109 hi hz0 hz1 hz2 rfl C3_len C3_one rfl hS2 (F := F) hO2 _ rfl ys L2 h2 hL2 ?h4 ?h5 ?h6)
    case h4 => simp [maxLen]; omega
    case h5 => omega
    case h6 =>
      intro ao' cap' w2 L2' hS2 hO2 _
      clear k3
      go_wp2
      rw [rounds_succ]
      go_wp2
      go_ret
      exact ⟨_, _, rfl, hS2, hO2⟩

end Go.Proofs.Ytidnkienkdlmkaa
