/-
  shuttlelaw16: contracts of same, does: the mutex and the document's are in one state and stay so. Conditions: the owner and all that wait are threads.
-/
import Derived.Test.YtidnkienkdlmkaaRefMxB
namespace Go.Proofs.Ytidnkienkdlmkaa
open Go.RowKit Go.Sh

theorem equal20_same (B : Nat) (w0 : World) (F : List (Nat × Obj)) (xs : List Int) (v1 v2 : Value) (w : World) (h1 : Rd w I v1 xs) (h2 : Rd w I v2 xs) (hO : Own B w0 w F) (hx : xs.length ≤ 100000) :
    Calls Try.prog 20 #[v1, v2] w (BoolD B w0 F true) := by
  have h := equal20 B w0 F xs xs v1 v2 w h1 h2 hO hx hx
  rw [decide_eq_true (rfl : xs = xs)] at h
  exact h

set_option maxRecDepth 100000 in
set_option maxHeartbeats 2000000 in
theorem same28 (B : Nat) (w0 : World) (bm br : Nat) (own : Option Int) (ws : List Int) (Lm Lr F : List (Nat × Obj)) (w : World) (hM : Mx bm own ws Lm) (hR : Rx br own ws Lr) (hLm : ∀ p ∈ Lm, p ∈ F) (hLr : ∀ p ∈ Lr, p ∈ F) (hO : Own B w0 w F) :
    Calls Try.prog 28 #[.pointer (some ⟨bm, 0, none⟩), .pointer (some ⟨br, 0, none⟩)] w (BoolD B w0 F true) := by
  obtain ⟨v, Lv, rfl, hn, hs, hl⟩ := hR
  have hh := hO.get _ (hLr _ List.mem_cons_self)
  have hc1 : w.cell? ⟨br, 1, none⟩ = some v := cell_of_get hh 1
  have hc0 : w.cell? ⟨br, 0, none⟩ = some (.int .i64 (hasV own)) := cell_of_get hh 0
  have HS := Lib.hid hs
  have HO := Lib.hid hO
  clear hs hh hO
  cases own with
  | none =>
    clear hn
    have hv : hasV none = -1 := rfl
    rw [hv] at hc0
    clear hv
    go_enter Try.func28, Try.ntmps28
    go_wp2_with (go_at_call 19; refine (owner_any bm none ws Lm _ hM (fun p hp => HO.out.get p (hLm p hp))).mono ?_; rintro e w' ⟨rfl, rfl⟩; unfold ownV; dsimp only [Option.getD_some, Option.isSome_some, Option.getD_none, Option.isSome_none])
    go_region_law (first | (go_simp; go_at_call 21; refine (waits_any _ _ _ none ws Lm F _ hM HO.out.drew hLm).mono ?_; rintro e w2 ⟨v2, L2, rfl, hS2, hO2⟩; have k1 : w2.cell? ⟨br, 1, none⟩ = some v := cell_of_get (hO2.get _ (List.mem_append_right _ (hLr _ List.mem_cons_self))) 1) | (go_simp; go_at_call 20; refine (equal20_same B w0 (L2 ++ F) ws v2 v w2 (Sl_rd hS2 (fun p hp => hO2.get p (by simp [hp]))) (Sl_rd HS.out (fun p hp => hO2.get p (List.mem_append_right _ (hLr p (List.mem_cons_of_mem _ hp))))) hO2 (by omega)).mono ?_; rintro e w3 ⟨rfl, hO3⟩))
    all_goals
      go_wp2
      go_ret
      exact ⟨rfl, hO3.right⟩
  | some x =>
    have hv : hasV (some x) = x := rfl
    rw [hv] at hc0
    have hx0 := hn x rfl
    have hdx : decide (0 ≤ x) = true := by simp [hx0]
    have hmx : (if x < 0 then 0 else x) = x := if_neg (by omega)
    clear hv hn
    go_enter Try.func28, Try.ntmps28
    go_wp2_with (go_at_call 19; refine (owner_any bm (some x) ws Lm _ hM (fun p hp => HO.out.get p (hLm p hp))).mono ?_; rintro e w' ⟨rfl, rfl⟩; unfold ownV; dsimp only [Option.getD_some, Option.isSome_some, Option.getD_none, Option.isSome_none])
    go_region_law (first | (go_simp; go_at_call 21; refine (waits_any _ _ _ (some x) ws Lm F _ hM HO.out.drew hLm).mono ?_; rintro e w2 ⟨v2, L2, rfl, hS2, hO2⟩; have k1 : w2.cell? ⟨br, 1, none⟩ = some v := cell_of_get (hO2.get _ (List.mem_append_right _ (hLr _ List.mem_cons_self))) 1) | (go_simp; go_at_call 20; refine (equal20_same B w0 (L2 ++ F) ws v2 v w2 (Sl_rd hS2 (fun p hp => hO2.get p (by simp [hp]))) (Sl_rd HS.out (fun p hp => hO2.get p (List.mem_append_right _ (hLr p (List.mem_cons_of_mem _ hp))))) hO2 (by omega)).mono ?_; rintro e w3 ⟨rfl, hO3⟩))
    all_goals
      go_wp2
      go_ret
      exact ⟨rfl, hO3.right⟩

end Go.Proofs.Ytidnkienkdlmkaa
