/-
  Contract of shuttlelaw19.awake: true. No condition.
-/
import Derived.Test.YtojcojoleodjmaaRqDrop
namespace Go.Proofs.Ytojcojoleodjmaa
open Go.RowKit Go.Sh

/-- What the queues hold behind the chapter's example's pushes. -/
def awL (m : Nat) : Nat → List Int := upd (fun _ => []) 0 ((List.range m).map fun (i : Nat) => (7 + (i : Int)))

def AwRel (B : Nat) (w0 : World) (b : Nat) (F : List (Nat × Obj)) (who : Value) (wr : World) : Prop :=
  ∃ (m : Nat) (ls : Nat → List Int) (L : List (Nat × Obj)), m ≤ 3 ∧ who = .int .i64 (7 + (m : Int)) ∧ ls = awL m ∧ Qx b 2 ls 0 L ∧ Own B w0 wr (L ++ F)

theorem aw_push : ∀ m : Nat, m < 3 → pushQ 2 (awL m) 0 (7 + (m : Int)) = (0, awL (m + 1)) := by
  intro m hm
  have e : upd (awL m) 0 (awL m 0 ++ [(7 + (m : Int))]) = awL (m + 1) := by
    funext j
    by_cases h : j = 0
    · subst h; simp [awL, upd, List.range_succ]
    · simp [awL, upd, h]
  have h1 : mayQ 2 0 = 0 := by decide
  have h2 : findQ 2 (awL m) (7 + (m : Int)) = none := by
    apply findQ_none
    intro j hj
    obtain rfl | rfl : j = 0 ∨ j = 1 := by omega
    · simp [awL, upd]; try omega
    · simp [awL, upd]
  have h3 : (awL m 0).length = m := by simp [awL, upd]
  unfold pushQ
  rw [h1, if_neg (by decide), if_neg (by rw [h2]; simp; omega), show ((0 : Int).toNat) = 0 from rfl, h3, if_neg (by omega), e]

def aw1 := nextQ 2 (awL 3) 0 1
def aw2 := nextQ 2 aw1.2.2.1 aw1.2.2.2 0
def aw3 := nextQ 2 aw2.2.2.1 aw2.2.2.2 0
theorem aw_1 : aw1.1 = 8 ∧ aw1.2.1 = 0 := ⟨by rfl, by rfl⟩
theorem aw_2 : aw2.1 = 7 ∧ aw2.2.1 = 0 := ⟨by rfl, by rfl⟩
theorem aw_3 : aw3.1 = 9 ∧ aw3.2.1 = 0 ∧ aw3.2.2.2 = 3 := ⟨by rfl, by rfl, by rfl⟩

set_option maxRecDepth 100000 in
set_option maxHeartbeats 4000000 in
theorem awake14 (B : Nat) (w0 : World) (F : List (Nat × Obj)) (w : World) (hO : Own B w0 w F) :
    Calls Try.prog 14 #[] w fun e w' => e = .returned (.bool true) ∧ Own B w0 w' F := by
  have hO1 := hO.alloc (qobj 2 (fun _ => .slice none 0 0) 0)
  have hX1 : Qx w.heap.size 2 (awL 0) 0 [(w.heap.size, qobj 2 (fun _ => .slice none 0 0) 0)] := by
    have : awL 0 = fun _ => [] := by funext j; simp [awL, upd]
    rw [this]
    exact Qx.new (by omega) (by omega)
  have HX1 := Lib.hid hX1
  clear hX1
  go_enter Try.func14, Try.ntmps14
  go_wp2_with (go_at_call 13; refine (new_q 2 2 rfl _ (by omega) (by omega)).mono ?_; rintro e w' ⟨rfl, rfl⟩)
  go_loopw [3] (fun who wr => AwRel B w0 w.heap.size F who wr) (fun who _ => 10 - (intOf who).toNat)
  case atStart => exact ⟨0, _, _, by omega, rfl, rfl, HX1.out, hO1⟩
  case round =>
    obtain ⟨m, ls, L, hm, rfl, hls, hX, hO2⟩ := hrel
    by_cases hlt : m < 3
    · have hp := Lib.hid (aw_push m hlt)
      subst hls
      go_wp2_with (go_at_call 15; refine (push_q B w0 w.heap.size 2 (awL m) 0 L F 0 _ _ hX hO2).mono ?_; rw [hp.out]; rintro e w1 ⟨rfl, L1, hX2, hO3⟩; dsimp only at hX2 ⊢)
      go_roundw
      case rel => exact ⟨m + 1, _, L1, by omega, by go_num, rfl, hX2, hO3⟩
      case measure => simp [intOf]; omega
    · obtain rfl : m = 3 := by omega
      subst hls
      go_wp2_with fail
      refine (next_q B w0 w.heap.size 2 (awL 3) 0 L F 1 _ hX hO2).mono ?_
      rw [show nextQ 2 (awL 3) 0 1 = aw1 from rfl]
      unfold NextPost
      rw [aw_1.1, aw_1.2]
      rintro e w1 ⟨rfl, L1, hX2, hO3⟩
      go_wp2_with fail
      refine (next_q B w0 w.heap.size 2 _ _ L1 F 0 _ hX2 hO3).mono ?_
      rw [show nextQ 2 aw1.2.2.1 aw1.2.2.2 0 = aw2 from rfl]
      unfold NextPost
      rw [aw_2.1, aw_2.2]
      rintro e w2 ⟨rfl, L2, hX3, hO4⟩
      go_wp2_with fail
      refine (next_q B w0 w.heap.size 2 _ _ L2 F 0 _ hX3 hO4).mono ?_
      rw [show nextQ 2 aw2.2.2.1 aw2.2.2.2 0 = aw3 from rfl]
      unfold NextPost
      rw [aw_3.1, aw_3.2.1, aw_3.2.2]
      rintro e w3 ⟨rfl, L3, hX4, hO5⟩
      obtain ⟨vs, Ls, hQ, rfl⟩ := hX4
      have hb := Lib.hid (q_get0 hO5)
      clear hO hO1 hO2 hO3 hO4 hX hX2 hX3
      go_wp2_with (go_at_call 23; refine (stolen_q w.heap.size 2 vs 3 _ hb.out (by omega)).mono ?_; rintro e w' ⟨rfl, rfl⟩)
      go_ret
      exact ⟨rfl, hO5.right⟩

end Go.Proofs.Ytojcojoleodjmaa
