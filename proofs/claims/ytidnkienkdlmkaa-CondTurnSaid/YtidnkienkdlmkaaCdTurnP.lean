/-
  The plain law of CondTurn: locks and waits, signals, unlocks, for threads that are all different. No program.
-/
import Derived.Test.YtidnkienkdlmkaaCdG
import Derived.Test.YtidnkienkdlmkaaMxTurn
namespace Go.Proofs.Ytidnkienkdlmkaa
open Go.RowKit Go.Sh

abbrev tq (l : List Int) : List (Int × Bool) := l.map fun x => (x, false)
/-- P went on, the t-th of them has the mutex, those behind wait for it; R wait for the condition. -/
def TSt (P R : List Int) (t : Nat) : KS := ⟨tq R, P[t]?, P.drop (t + 1), none, []⟩

theorem mayR_ok {ws : List Int} {x : Int} (h0 : 0 ≤ x) (h1 : x ≤ 255) (h2 : x ∉ ws) : mayR ws x = 0 := by
  unfold mayR
  rw [if_neg (by omega), if_neg (by omega)]
  simp [h2]

theorem lock_fresh {x : Int} (h0 : 0 ≤ x) (h1 : x ≤ 255) : lockR none [] x = ⟨true, 0, 0, some x, []⟩ := by
  simp [lockR, mayR_ok h0 h1 (List.not_mem_nil), hasB]

theorem wait_fresh {R : List Int} {x : Int} (h0 : 0 ≤ x) (h1 : x ≤ 255) (h2 : x ∉ R) (h3 : R.length < 256) :
    waitK ⟨tq R, some x, [], none, []⟩ x false = ⟨false, 0, [], 0, TSt [] (R ++ [x]) 0⟩ := by
  have hb : badQ ⟨tq R, some x, [], none, []⟩ x false = false := by
    simp [badQ, inQ, KS.ws, h2]
    omega
  unfold waitK
  rw [hb, if_neg (by simp), if_neg (by simp [KS.own]), if_neg (by simp; omega)]
  simp [KS.own, KS.ws, unlockR, mayR_ok h0 h1 (List.not_mem_nil), hasB, KS.put, KS.withQ, TSt]

theorem on_step {P R : List Int} {x : Int} (h0 : 0 ≤ x) (h1 : x ≤ 255) (h2 : x ∉ P) (h3 : P.length ≤ 256) :
    onK (TSt P (x :: R) 0) = ((if P = [] then [⟨x, 0, 0, 0⟩] else []), TSt (P ++ [x]) R 0) := by
  cases P with
  | nil => simp [onK, TSt, KS.own, KS.ws, lock_fresh h0 h1, onW, KS.put, KS.withQ]
  | cons y P =>
    have hm : x ∉ P := fun h => h2 (List.mem_cons_of_mem _ h)
    have hy : y ≠ x := fun e => h2 (by simp [e])
    have hl : lockR (some y) P x = ⟨false, 0, 0, some y, P ++ [x]⟩ := by
      have hp : ¬(256 ≤ P.length) := by simp at h3; omega
      simp [lockR, mayR_ok h0 h1 hm, hasB, hy, hp]
    simp [onK, TSt, KS.own, KS.ws, hl, onW, KS.put, KS.withQ]

theorem signal_step {P R : List Int} (h0 : ∀ x ∈ R, 0 ≤ x ∧ x ≤ 255) (h2 : (P ++ R).Nodup) (h3 : P.length ≤ 256) :
    sevK (min (TSt P R 0).q.length 1) (TSt P R 0) = match R with | [] => ([], TSt P [] 0) | x :: R' => ((if P = [] then [⟨x, 0, 0, 0⟩] else []), TSt (P ++ [x]) R' 0) := by
  cases R with
  | nil => simp [TSt, sevK]
  | cons x R =>
    have hx : x ∉ P := fun h => by
      rw [List.nodup_append] at h2
      exact h2.2.2 x h x List.mem_cons_self rfl
    have hm : min (TSt P (x :: R) 0).q.length 1 = 1 := by simp [TSt]
    rw [hm]
    simp only [sevK, on_step (h0 x List.mem_cons_self).1 (h0 x List.mem_cons_self).2 hx h3, List.append_nil]

theorem signal_next {P R : List Int} (h0 : ∀ x ∈ R, 0 ≤ x ∧ x ≤ 255) (h2 : (P ++ R).Nodup) (h3 : P.length ≤ 256) :
    ∃ (P2 R2 : List Int) (ws : List Wk), sevK (min (TSt P R 0).q.length 1) (TSt P R 0) = (ws, TSt P2 R2 0) ∧ P2 ++ R2 = P ++ R ∧ P.take 1 ++ ws.map Wk.who = P2.take 1 ∧ ws.length ≤ 1 := by
  rw [signal_step h0 h2 h3]
  cases R with
  | nil => exact ⟨P, [], [], rfl, rfl, by simp, by simp⟩
  | cons x R =>
    refine ⟨P ++ [x], R, _, rfl, by simp, ?_, ?_⟩
    · cases P with
      | nil => rfl
      | cons y P => simp
    · split <;> simp

theorem unlock_step {P : List Int} {t : Nat} {x : Int} (h0 : ∀ x ∈ P, 0 ≤ x ∧ x ≤ 255) (h2 : P.Nodup) (hx : P[t]? = some x) :
    unlockR (some x) (P.drop (t + 1)) x = ⟨true, 0, 0, P[t + 1]?, P.drop (t + 1 + 1), (P[t + 1]?).toList.map fun y => ⟨y, 0, 0, 0⟩⟩ := by
  obtain ⟨ht, he⟩ := List.getElem?_eq_some_iff.1 hx
  have hm : x ∉ P.drop (t + 1) := fun h => by
    have h3 : (P.take (t + 1) ++ P.drop (t + 1)).Nodup := by rw [List.take_append_drop]; exact h2
    rw [List.nodup_append] at h3
    refine h3.2.2 x ?_ x h rfl
    rw [List.take_succ_eq_append_getElem ht, he]
    simp
  have hp := h0 x (by rw [← he]; exact List.getElem_mem _)
  unfold unlockR
  rw [mayR_ok hp.1 hp.2 hm]
  by_cases hl : t + 1 < P.length
  · rw [List.drop_eq_getElem_cons hl, List.getElem?_eq_getElem hl]
    simp [hasB]
  · rw [List.drop_of_length_le (by omega), List.getElem?_eq_none (by omega), List.drop_of_length_le (by omega)]
    simp [hasB]

end Go.Proofs.Ytidnkienkdlmkaa
