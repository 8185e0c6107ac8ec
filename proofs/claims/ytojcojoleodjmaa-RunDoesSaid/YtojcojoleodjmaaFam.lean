/-
  A family of things, by number; one of them turned. No condition.
-/
import Derived.Test.YtojcojoleodjmaaOwn
namespace Go.Sh
open Go.RowKit

def upd {α : Type} (f : Nat → α) (k : Nat) (x : α) : Nat → α := fun j => if j = k then x else f j

theorem upd_same {α : Type} (f : Nat → α) (k : Nat) (x : α) : upd f k x k = x := by simp [upd]
theorem upd_other {α : Type} {f : Nat → α} {k j : Nat} {x : α} (h : j ≠ k) : upd f k x j = f j := by simp [upd, h]

/-- All but number k's. -/
def rest {α : Type} (N k : Nat) (f : Nat → List α) : List α := ((List.range N).erase k).flatMap f

theorem fam_perm {α : Type} {N k : Nat} (h : k < N) (f : Nat → List α) : ((List.range N).flatMap f).Perm (f k ++ rest N k f) := by
  have := (List.perm_cons_erase (List.mem_range.2 h)).flatMap_right f
  simpa [rest] using this

theorem mem_erase_range {N k j : Nat} (h : j ∈ (List.range N).erase k) : j < N ∧ j ≠ k := by
  rw [List.Nodup.mem_erase_iff List.nodup_range] at h
  exact ⟨List.mem_range.1 h.2, h.1⟩

theorem rest_congr {α : Type} {N k : Nat} {f g : Nat → List α} (h : ∀ j, j < N → j ≠ k → f j = g j) : rest N k f = rest N k g := by
  unfold rest
  rw [List.flatMap_def, List.flatMap_def]
  congr 1
  apply List.map_congr_left
  intro j hj
  obtain ⟨h1, h2⟩ := mem_erase_range hj
  exact h j h1 h2

theorem rest_upd {α : Type} {N k : Nat} {f : Nat → List α} {x : List α} : rest N k (upd f k x) = rest N k f := rest_congr fun _ _ h => upd_other h

/-- One turned: what is owned. -/
theorem fam_upd {α : Type} {N k : Nat} (h : k < N) (f : Nat → List α) (x : List α) : ((List.range N).flatMap (upd f k x)).Perm (x ++ rest N k f) := by
  have := fam_perm h (upd f k x)
  rwa [upd_same, rest_upd] at this

theorem mem_fam {α : Type} {N k : Nat} (h : k < N) {f : Nat → List α} {x : α} (hx : x ∈ f k) : x ∈ (List.range N).flatMap f := List.mem_flatMap.2 ⟨k, List.mem_range.2 h, hx⟩

end Go.Sh
