/-
  Contract of shuttlelaw16.awake: true. No condition.
-/
import Derived.Test.YtidnkienkdlmkaaSame
namespace Go.Proofs.Ytidnkienkdlmkaa
open Go.RowKit Go.Sh

set_option maxRecDepth 100000 in
set_option maxHeartbeats 2000000 in
theorem awake16 (B : Nat) (w0 : World) (F : List (Nat × Obj)) (w : World) (hO : Own B w0 w F) :
    Calls Try.prog 16 #[] w (BoolD B w0 F true) := by
  have hO1 := hO.alloc (.cells #[.bool true, .pointer none, .slice none 0 0] 48)
  go_enter Try.func16, Try.ntmps16
  go_wp2_with (go_at_call 15; refine (new15 _).mono ?_; rintro e w' ⟨rfl, rfl⟩)
  refine (lock_any B w0 _ none [] _ F 1 _ (Mx.new _) hO1).mono ?_
  rintro e w1 ⟨rfl, L1, hM1, hO2⟩
  have r1 : lockR none [] 1 = ⟨true, 0, 0, some 1, []⟩ := by rfl
  rw [r1] at hM1 ⊢
  dsimp only at hM1 ⊢
  have hO3 := (hO2.alloc (.cells #[.bool true, .int .i64 0, .int .i64 0, .int .i64 0, .slice none 0 0] 33)).shuf [[_], L1, F] [1, 0, 2] rfl rfl
  go_wp2_with fail
  refine (lock_any B w0 _ (some 1) [] L1 _ 2 _ hM1 hO3).mono ?_
  rintro e w2 ⟨rfl, L2, hM2, hO4⟩
  have r2 : lockR (some 1) [] 2 = ⟨false, 0, 0, some 1, [2]⟩ := by rfl
  rw [r2] at hM2 ⊢
  dsimp only at hM2 ⊢
  have hO5 := (hO4.alloc (.cells #[.bool false, .int .i64 0, .int .i64 0, .int .i64 0, .slice none 0 0] 33)).shuf [[_], L2, [_], F] [1, 0, 2, 3] rfl rfl
  go_wp2_with fail
  refine (unlock_any B w0 _ (some 1) [2] L2 _ 1 _ hM2 hO5).mono ?_
  rintro e w3 ⟨wk, Lk, L3, rfl, hK, hM3, hO6⟩
  have r3 : unlockR (some 1) [2] 1 = ⟨true, 0, 0, some 2, [], [⟨2, 0, 0, 0⟩]⟩ := by rfl
  rw [r3] at hM3 hK ⊢
  dsimp only at hM3 hK ⊢
  have hO7 := (hO6.alloc (.cells #[.bool true, .int .i64 0, .int .i64 0, .int .i64 0, wk] 33)).shuf [[_], L3, Lk, [_], [_], F] [1, 2, 4, 3, 0, 5] rfl rfl
  obtain ⟨ak, ck, rfl, _, _⟩ := hK.form
  have hx : w3.heap[w1.heap.size]? = some (Obj.cells #[.bool true, .int .i64 0, .int .i64 0, .int .i64 0, .slice none 0 0] 33 (0, 0)) := hO6.get (w1.heap.size, _) (by simp [cat])
  have hy : w3.heap[w2.heap.size]? = some (Obj.cells #[.bool false, .int .i64 0, .int .i64 0, .int .i64 0, .slice none 0 0] 33 (0, 0)) := hO6.get (w2.heap.size, _) (by simp [cat])
  have x0 : w3.cell? ⟨w1.heap.size, 0, none⟩ = some (.bool true) := cell_of_get hx 0
  have y0 : w3.cell? ⟨w2.heap.size, 0, none⟩ = some (.bool false) := cell_of_get hy 0
  have xl := lt_of_get hx
  have yl := lt_of_get hy
  clear hx hy
  clear hO1 hO2 hO3 hO4 hO5 hO6 r1 r2 r3 hM1 hM2
  go_wp2_with fail
  refine (owner_any _ (some 2) [] L3 _ hM3 (fun p hp => hO7.get p (List.mem_append_left _ hp))).mono ?_
  rintro e w' ⟨rfl, rfl⟩
  unfold ownV
  dsimp only [Option.getD_some, Option.isSome_some]
  go_wp2_with fail
  have hO8 := hO7.allocAt (.cells #[.int .i64 2, .int .i64 0, .int .i64 0, .int .i64 0] 38) (n := w3.heap.size + 1) (by simp)
  refine (same24 B w0 _ true 0 0 0 [⟨2, 0, 0, 0⟩] _ _ _ (by exact Sl_rd hK (fun p hp => hO8.get p (by simp [cat, hp]))) (by exact Sl_rd (e := 38) (k := 4) (L := [(w3.heap.size + 1, Obj.cells #[.int .i64 2, .int .i64 0, .int .i64 0, .int .i64 0] 38 (0, 0))]) (.inr ⟨_, 0, 1, _, rfl, rfl, by simp, by simp [maxLen], by simp, by simp⟩) (fun p hp => hO8.get p (by simp at hp; subst hp; exact List.mem_cons_self))) hO8 (by simp)).mono ?_
  rintro e w4 ⟨rfl, hO9⟩
  go_wp2
  go_ret
  exact ⟨rfl, hO9.tail.right.right.tail.tail.tail⟩

end Go.Proofs.Ytidnkienkdlmkaa
