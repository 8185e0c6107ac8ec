/-
  The document's mutex (shuttleref16): contracts of New, Lock, Unlock, Drop. Conditions: the owner is a thread; at most 256 threads wait.
-/
import Derived.Test.YtidnkienkdlmkaaMxTurn
namespace Go.Proofs.Ytidnkienkdlmkaa
open Go.RowKit Go.Sh

/-- The document's mutex in block b. -/
def Rx (b : Nat) (own : Option Int) (ws : List Int) (L : List (Nat × Obj)) : Prop :=
  ∃ v Lv, L = (b, .cells #[.int .i64 (hasV own), v] 87 (0, 0)) :: Lv ∧ (∀ x, own = some x → 0 ≤ x) ∧ Sl 3 1 I v ws Lv ∧ ws.length ≤ 256

theorem rnew26 (w : World) : Calls Try.prog 26 #[] w fun e w' => e = .returned (.pointer (some ⟨w.heap.size, 0, none⟩)) ∧ w' = w.alloc (.cells #[.int .i64 (-1), .slice none 0 0] 87) := by
  go_enter Try.func26, Try.ntmps26
  go_wp2
  go_ret
  exact ⟨rfl, rfl⟩

theorem Rx.new (b : Nat) : Rx b none [] [(b, Obj.cells #[.int .i64 (-1), .slice none 0 0] 87 (0, 0))] := ⟨_, [], rfl, by simp, Sl.nil, by simp⟩

set_option maxHeartbeats 400000 in
theorem at103 (xs : List Int) (x : Int) (v : Value) (w : World) (hm : xs.length ≤ 9223372036854775807) (hr : Rd w I v xs) :
    Calls Try.prog 103 #[v, .int .i64 x] w fun e w' => e = .returned (.int .i64 (idx xs x)) ∧ w = w' := by
  rcases hr with ⟨rfl, ao, cap, rfl⟩ | ⟨g, off, cap, rfl, hc⟩
  · go_enter Try.func103, Try.ntmps103
    go_wp2
    refine wp_loop_rounds 1 ?_
    rw [rounds_succ]
    go_wp2
    go_ret
    exact ⟨rfl, rfl⟩
  · have hc' : ∀ j, j < xs.length → w.cell? ⟨g, off + j, none⟩ = some (.int .i64 (xs[j]?.getD 0)) := fun j hj => hc j _ (by rw [flatI]; simp [List.getElem?_eq_getElem hj])
    have HC := Lib.hid hc'
    clear hc hc'
    go_enter Try.func103, Try.ntmps103
    go_wp2
    go_loop [5] (fun i => ∃ k : Nat, k ≤ xs.length ∧ i = .int .i64 k ∧ ∀ j, j < k → xs[j]?.getD 0 ≠ x) (fun i => xs.length - (intOf i).toNat)
    case atStart => exact ⟨0, Nat.zero_le _, rfl, fun _ h => by omega⟩
    case round =>
      obtain ⟨k, hk, rfl, hn⟩ := hrel
      have HN := Lib.hid hn
      clear hn
      by_cases hlt : k < xs.length
      · have hcell := HC.out k hlt
        go_wp2
        · have h : (xs[k] == x) = true := by assumption
          go_ret
          exact ⟨by rw [idx_at hlt (by rw [beq_iff_eq] at h ⊢; exact h.symm) HN.out]; rfl, rfl⟩
        · have h : (xs[k] == x) = false := by assumption
          go_round
          case rel => exact ⟨k + 1, by omega, by go_num, fun j hj => by
            rcases Nat.lt_succ_iff_lt_or_eq.1 hj with h' | rfl
            · exact HN.out j h'
            · intro e; rw [List.getElem?_eq_getElem hlt] at e; simp at e; rw [e] at h; simp at h⟩
          case measure => simp [intOf]; omega
      · go_wp2
        go_ret
        exact ⟨by rw [idx_none (fun j hj => HN.out j (by omega))]; rfl, rfl⟩

def thrB (who : Int) : Bool := decide (0 ≤ who) && decide (who < 65536)

theorem thread108 (who : Int) (w : World) : Calls Try.prog 108 #[.int .i64 who] w fun e w' => e = .returned (.bool (thrB who)) ∧ w = w' := by
  by_cases h1 : 0 ≤ who
  · by_cases h2 : who < 65536
    · have HR := Lib.hid (show thrB who = true by simp [thrB, h1, h2])
      go_enter Try.func108, Try.ntmps108
      go_wp2
      go_ret
      exact ⟨by rw [HR.out]; rfl, rfl⟩
    · have HR := Lib.hid (show thrB who = false by simp [thrB, h2])
      go_enter Try.func108, Try.ntmps108
      go_wp2
      go_ret
      exact ⟨by rw [HR.out]; rfl, rfl⟩
  · have HR := Lib.hid (show thrB who = false by simp [thrB, h1])
    go_enter Try.func108, Try.ntmps108
    go_wp2
    go_ret
    exact ⟨by rw [HR.out]; rfl, rfl⟩

def badB (ws : List Int) (who : Int) : Bool := mayR ws who != 0

theorem badB_eq (ws : List Int) (who : Int) : badB ws who = (!thrB who || decide (0 ≤ idx ws who)) := by
  rw [idx_ge]
  unfold badB mayR thrB
  by_cases h1 : who < 0
  · simp [h1, show ¬ 0 ≤ who by omega]
  · by_cases h2 : 65536 ≤ who
    · simp [h1, h2, show ¬ who < 65536 by omega]
    · cases h3 : ws.contains who <;> simp_all <;> omega

theorem bad102 (b : Nat) (own : Option Int) (ws : List Int) (L : List (Nat × Obj)) (who : Int) (w : World) (hM : Rx b own ws L) (hg : ∀ p ∈ L, w.heap[p.1]? = some p.2) :
    Calls Try.prog 102 #[.pointer (some ⟨b, 0, none⟩), .int .i64 who] w fun e w' => e = .returned (.bool (badB ws who)) ∧ w = w' := by
  obtain ⟨v, Lv, rfl, hn, hs, hl⟩ := hM
  have hc1 : w.cell? ⟨b, 1, none⟩ = some v := cell_of_get (hg _ (List.mem_cons_self)) 1
  have hr := Lib.hid (Sl_rd (w := w) hs (fun p hp => hg p (by simp [hp])))
  have he := badB_eq ws who
  clear hg hs hn
  cases h1 : thrB who with
  | false =>
    have H1 := Lib.hid h1
    have HE := Lib.hid (show badB ws who = true by rw [he, h1]; rfl)
    clear he h1
    go_enter Try.func102, Try.ntmps102
    go_wp2_with (first | (go_at_call 108; refine (thread108 who _).mono ?_; rintro e w' ⟨rfl, rfl⟩; rw [H1.out]))
    go_ret
    exact ⟨by rw [HE.out]; rfl, rfl⟩
  | true =>
    have H1 := Lib.hid h1
    have HE := Lib.hid (show badB ws who = decide (0 ≤ idx ws who) by rw [he, h1]; rfl)
    clear he h1
    go_enter Try.func102, Try.ntmps102
    go_wp2_with (first | (go_at_call 108; refine (thread108 who _).mono ?_; rintro e w' ⟨rfl, rfl⟩; rw [H1.out]) | (go_at_call 103; refine (at103 ws who v _ (by omega) hr.out).mono ?_; rintro e w' ⟨rfl, rfl⟩))
    go_ret
    exact ⟨by rw [HE.out]; rfl, rfl⟩

end Go.Proofs.Ytidnkienkdlmkaa
