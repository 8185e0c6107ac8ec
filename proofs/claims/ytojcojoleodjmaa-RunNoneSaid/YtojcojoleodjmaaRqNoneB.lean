/-
  The walk of shuttlelaw19.RunNone: it returns true. No condition.
-/
import Derived.Test.YtojcojoleodjmaaRqNone
namespace Go.Proofs.Ytojcojoleodjmaa
open Go.RowKit Go.Sh

/-- The block of zero Queues. -/
abbrev zeroQ : Obj := qobj 0 (fun _ => .slice none 0 0) 0

theorem NoneQ.own {B : Nat} {w0 w : World} {F : List (Nat × Obj)} {p : Option Addr} (hO : Sh.Own B w0 w F) (h : p = none ∨ ∃ b, p = some ⟨b, 0, none⟩ ∧ (b, zeroQ) ∈ F) : NoneQ w p := by
  rcases h with h | ⟨b, h, hm⟩
  · exact .inl h
  · exact .inr ⟨b, h, cell_of_get (hO.get (b, zeroQ) hm) 0⟩

def NoneRel (B : Nat) (w0 : World) (b g : Nat) (ok i : Value) (wr : World) : Prop :=
  ∃ k : Nat, k ≤ 2 ∧ i = .int .i64 k ∧ ok = .bool false ∧ Sh.Own B w0 wr [(g, Obj.cells #[.pointer none, .pointer (some ⟨b, 0, none⟩)] 23 (0, 0)), (b, zeroQ)]

set_option maxRecDepth 100000 in
set_option maxHeartbeats 4000000 in
theorem none6 (worker who : Int) (w : World) {P Q : Prop} (_ : P) (_ : Q) :
    Calls Try.prog 6 #[.int .i64 worker, .int .i64 who] w fun e w' => e = .returned (.bool true) ∧ Below w.heap.size w w' := by
  have hO0 := ((Sh.Own.start w).alloc zeroQ).allocAt (Obj.cells #[.pointer none, .pointer (some ⟨w.heap.size, 0, none⟩)] 23 (0, 0)) (n := w.heap.size + 1) (by simp)
  have HO0 := Lib.hid hO0
  clear hO0
  go_enter Try.func6, Try.ntmps6
  go_wp2
  go_loopw [4, 13] (fun ok i wr => NoneRel w.heap.size w w.heap.size (w.heap.size + 1) ok i wr) (fun _ i _ => 2 - (intOf i).toNat)
  case atStart => exact ⟨0, Nat.zero_le _, rfl, rfl, HO0.out⟩
  case round =>
    obtain ⟨k, hk, rfl, rfl, hO1⟩ := hrel
    by_cases hlt : k < 2
    · have hS := hO1.get (w.heap.size + 1, _) List.mem_cons_self
      obtain ⟨p, hp, hM⟩ : ∃ p : Option Addr, wr.cell? ⟨w.heap.size + 1, k, none⟩ = some (.pointer p) ∧ (p = none ∨ ∃ b, p = some ⟨b, 0, none⟩ ∧ b = w.heap.size) := by
        rcases (show k = 0 ∨ k = 1 by omega) with rfl | rfl
        · exact ⟨none, cell_of_get hS 0, .inl rfl⟩
        · exact ⟨some ⟨w.heap.size, 0, none⟩, cell_of_get hS 1, .inr ⟨_, rfl, rfl⟩⟩
      have hN : NoneQ wr p := NoneQ.own hO1 (by
        rcases hM with h1 | ⟨b, h1, rfl⟩
        · exact .inl h1
        · exact .inr ⟨_, h1, by simp⟩)
      have HN := Lib.hid hN
      have HM := Lib.hid hM
      clear hS hM HO0 hN
      go_wp2_with (first | (go_at_call 16; refine (next_z worker HN.out).mono ?_; rintro e w' ⟨rfl, rfl⟩) | (go_at_call 15; refine (push_z worker who HN.out).mono ?_; rintro e w' ⟨rfl, rfl⟩) | (go_at_call 17; refine (drop_z who HN.out).mono ?_; rintro e w' ⟨rfl, rfl⟩) | (go_at_call 18; refine (len_z HN.out).mono ?_; rintro e w' ⟨rfl, rfl⟩) | (go_at_call 23; refine (stolen_z HN.out).mono ?_; rintro e w' ⟨rfl, rfl⟩))
      refine (all22 p worker _).mono ?_
      rintro e w2 ⟨rfl, rfl⟩
      have hO2 := ((hO1.junk (.cells #[.pointer p] 23)).junk (.cells #[.int .i64 worker] 3))
      have hbp : ((wr.alloc (.cells #[.pointer p] 23)).alloc (.cells #[.int .i64 worker] 3)).cell? ⟨wr.heap.size, 0, none⟩ = some (.pointer p) := by simp
      have hbw : ((wr.alloc (.cells #[.pointer p] 23)).alloc (.cells #[.int .i64 worker] 3)).cell? ⟨wr.heap.size + 1, 0, none⟩ = some (.int .i64 worker) := by simp
      have hN2 : NoneQ ((wr.alloc (.cells #[.pointer p] 23)).alloc (.cells #[.int .i64 worker] 3)) p := HN.out.below (((Below.refl _ wr).alloc (Nat.le_refl _) _).alloc (by simp) _)
      go_wp2_with fail
      refine (told_z w.heap.size w _ p worker wr.heap.size (wr.heap.size + 1) 9 _ hN2 hO2 hbp hbw).mono ?_
      rintro e w3 ⟨v, L3, rfl, hS3, hO3⟩
      obtain ⟨ao, cap, rfl, _, _⟩ := hS3.form
      have hN3 := Lib.hid (NoneQ.own (p := p) hO3 (by
        rcases HM.out with h1 | ⟨b, h1, rfl⟩
        · exact .inl h1
        · exact .inr ⟨_, h1, by simp⟩))
      clear hbp hbw hN2 hO2
      go_wp2_with (go_at_call 24; refine (clone_z hN3.out).mono ?_; rintro e w' ⟨rfl, rfl⟩)
      go_roundw
      case rel => exact ⟨k + 1, by omega, by go_num, rfl, hO3.right⟩
      case measure => simp [intOf]; omega
    · go_wp2_with fail
      refine (awake14 w.heap.size w _ _ hO1).mono ?_
      rintro e w1 ⟨rfl, hO2⟩
      go_wp2
      go_ret
      exact ⟨rfl, hO2.below⟩

end Go.Proofs.Ytojcojoleodjmaa
