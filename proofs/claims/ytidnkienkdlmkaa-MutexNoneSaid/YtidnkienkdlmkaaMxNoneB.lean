/-
  The walk of shuttlelaw16.MutexNone: it returns true. No condition.
-/
import Derived.Test.YtidnkienkdlmkaaMxNone
namespace Go.Proofs.Ytidnkienkdlmkaa
open Go.RowKit Go.Sh

/-- The block of a zero mutex. -/
abbrev zeroM : Obj := Obj.cells #[.bool false, .pointer none, .slice none 0 0] 48 (0, 0)

theorem NoneM.own {B : Nat} {w0 w : World} {F : List (Nat × Obj)} {p : Option Addr} (hO : Own B w0 w F) (h : p = none ∨ ∃ b, p = some ⟨b, 0, none⟩ ∧ (b, zeroM) ∈ F) : NoneM w p := by
  rcases h with h | ⟨b, h, hm⟩
  · exact .inl h
  · exact .inr ⟨b, h, cell_of_get (hO.get (b, zeroM) hm) 0⟩

/-- Outs of a call that refused. -/
abbrev outZ : Obj := Obj.cells #[.bool false, .int .i64 0, .int .i64 0, .int .i64 0, .slice none 0 0] 33 (0, 0)

def NoneRel (B : Nat) (w0 : World) (b g : Nat) (ok i : Value) (wr : World) : Prop :=
  ∃ k : Nat, k ≤ 2 ∧ i = .int .i64 k ∧ ok = .bool false ∧ Own B w0 wr [(g, Obj.cells #[.pointer none, .pointer (some ⟨b, 0, none⟩)] 23 (0, 0)), (b, zeroM)]

set_option maxRecDepth 100000 in
set_option maxHeartbeats 4000000 in
theorem none5 (who : Int) (w : World) {P : Prop} (_ : P) :
    Calls Try.prog 5 #[.int .i64 who] w fun e w' => e = .returned (.bool true) ∧ Below w.heap.size w w' := by
  have hO0 := ((Own.start w).alloc zeroM).allocAt (Obj.cells #[.pointer none, .pointer (some ⟨w.heap.size, 0, none⟩)] 23 (0, 0)) (n := w.heap.size + 1) (by simp)
  go_enter Try.func5, Try.ntmps5
  go_wp2
  go_loopw [2, 15] (fun ok i wr => NoneRel w.heap.size w w.heap.size (w.heap.size + 1) ok i wr) (fun _ i _ => 2 - (intOf i).toNat)
  case atStart => exact ⟨0, Nat.zero_le _, rfl, rfl, by simpa using hO0⟩
  case round =>
    obtain ⟨k, hk, rfl, rfl, hO1⟩ := hrel
    by_cases hlt : k < 2
    · have hS := hO1.get (w.heap.size + 1, _) List.mem_cons_self
      obtain ⟨p, hp, hM⟩ : ∃ p : Option Addr, wr.cell? ⟨w.heap.size + 1, k, none⟩ = some (.pointer p) ∧ (p = none ∨ ∃ b, p = some ⟨b, 0, none⟩ ∧ b = w.heap.size) := by
        rcases (show k = 0 ∨ k = 1 by omega) with rfl | rfl
        · exact ⟨none, cell_of_get hS 0, .inl rfl⟩
        · exact ⟨some ⟨w.heap.size, 0, none⟩, cell_of_get hS 1, .inr ⟨_, rfl, rfl⟩⟩
      have HM : Hid (∀ (F : List (Nat × Obj)), (w.heap.size, zeroM) ∈ F → (p = none ∨ ∃ b, p = some ⟨b, 0, none⟩ ∧ (b, zeroM) ∈ F)) := by
        refine Lib.hid ?_
        intro F h
        rcases hM with h1 | ⟨b, h1, rfl⟩
        · exact .inl h1
        · exact .inr ⟨_, h1, h⟩
      clear hS hO0 hM
      go_wp2_with fail
      refine (lock_none w.heap.size w _ p who _ (NoneM.own hO1 (HM.out _ (by simp))) hO1).mono ?_
      rintro e w1 ⟨rfl, hO2⟩
      have hO3 := hO2.alloc outZ
      go_wp2_with fail
      refine (unlock_none w.heap.size w _ p who _ (NoneM.own hO3 (HM.out _ (by simp))) hO3).mono ?_
      rintro e w2 ⟨rfl, hO4⟩
      have hO5 := hO4.alloc outZ
      have c1 : w2.heap[w1.heap.size]? = some outZ := hO4.get (w1.heap.size, outZ) (by simp)
      have a0 : w2.cell? ⟨w1.heap.size, 0, none⟩ = some (.bool false) := cell_of_get c1 0
      have a1 : w2.cell? ⟨w1.heap.size, 1, none⟩ = some (.int .i64 0) := cell_of_get c1 1
      have a2 : w2.cell? ⟨w1.heap.size, 2, none⟩ = some (.int .i64 0) := cell_of_get c1 2
      have a3 : w2.cell? ⟨w1.heap.size, 3, none⟩ = some (.int .i64 0) := cell_of_get c1 3
      have a4 : w2.cell? ⟨w1.heap.size, 4, none⟩ = some (.slice none 0 0) := cell_of_get c1 4
      have al := lt_of_get c1
      clear c1
      go_wp2_with fail
      refine (owner_none p _ (none_of (NoneM.own hO5 (HM.out _ (by simp))))).mono ?_
      rintro e w' ⟨rfl, rfl⟩
      unfold ownV
      dsimp only [Option.getD_none, Option.isSome_none]
      go_wp2_with fail
      refine (same24 w.heap.size w _ false 0 0 0 [] (.slice none 0 0) (.slice none 0 0) _ (.inl ⟨rfl, _, _, rfl⟩) (.inl ⟨rfl, _, _, rfl⟩) hO5 (by simp)).mono ?_
      rintro e w3 ⟨rfl, hO6⟩
      have c2 : w3.heap[w2.heap.size]? = some outZ := hO6.get (w2.heap.size, outZ) (by simp)
      have b0 : w3.cell? ⟨w2.heap.size, 0, none⟩ = some (.bool false) := cell_of_get c2 0
      have b1 : w3.cell? ⟨w2.heap.size, 1, none⟩ = some (.int .i64 0) := cell_of_get c2 1
      have b2 : w3.cell? ⟨w2.heap.size, 2, none⟩ = some (.int .i64 0) := cell_of_get c2 2
      have b3 : w3.cell? ⟨w2.heap.size, 3, none⟩ = some (.int .i64 0) := cell_of_get c2 3
      have b4 : w3.cell? ⟨w2.heap.size, 4, none⟩ = some (.slice none 0 0) := cell_of_get c2 4
      have bl := lt_of_get c2
      clear c2
      go_wp2_with fail
      refine (same24 w.heap.size w _ false 0 0 0 [] (.slice none 0 0) (.slice none 0 0) _ (.inl ⟨rfl, _, _, rfl⟩) (.inl ⟨rfl, _, _, rfl⟩) hO6 (by simp)).mono ?_
      rintro e w4 ⟨rfl, hO7⟩
      go_wp2_with fail
      refine (drop_none p who _ (NoneM.own hO7 (HM.out _ (by simp)))).mono ?_
      rintro e w' ⟨rfl, rfl⟩
      go_wp2_with fail
      refine (waits_none p _ (none_of (NoneM.own hO7 (HM.out _ (by simp))))).mono ?_
      rintro e w' ⟨rfl, rfl⟩
      go_wp2_with fail
      refine (mclone_none p _ (NoneM.own hO7 (HM.out _ (by simp)))).mono ?_
      rintro e w' ⟨rfl, rfl⟩
      go_wp2
      go_roundw
      case rel => exact ⟨k + 1, by omega, by go_num, rfl, hO7.tail.tail⟩
      case measure => simp [intOf]; omega
    · go_wp2_with fail
      refine (awake16 w.heap.size w _ _ hO1).mono ?_
      rintro e w1 ⟨rfl, hO2⟩
      go_wp2
      go_ret
      exact ⟨rfl, hO2.below⟩

end Go.Proofs.Ytidnkienkdlmkaa
