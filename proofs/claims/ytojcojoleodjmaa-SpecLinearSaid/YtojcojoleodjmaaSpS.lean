/-
  spec, plain: the program's Holds and the document's are one. No condition.
-/
import Derived.Test.YtojcojoleodjmaaSpR
namespace Go.Proofs.Ytojcojoleodjmaa
open Go.RowKit Go.Shelf Go.Sh

theorem sum_one (f g : Nat → Int) (n : Nat) (h : ∀ i, i ≠ n → f i = g i) : ∀ N, ((List.range N).map f).sum = ((List.range N).map g).sum + (if n < N then f n - g n else 0)
  | 0 => by simp
  | N + 1 => by
    rw [List.range_succ, List.map_append, List.map_append, List.sum_append, List.sum_append, sum_one f g n h N]
    simp only [List.map_cons, List.map_nil, List.sum_cons, List.sum_nil]
    by_cases e : N = n
    · subst e
      rw [if_neg (by omega), if_pos (by omega)]
      omega
    · rw [h N e]
      by_cases h1 : n < N
      · rw [if_pos h1, if_pos (by omega)]; omega
      · rw [if_neg h1, if_neg (by omega)]; omega

theorem sum_zero (f : Nat → Int) (hf : ∀ i, 0 ≤ f i) : ∀ N, 0 ≤ ((List.range N).map f).sum ∧ (((List.range N).map f).sum = 0 ↔ ∀ i, i < N → f i = 0)
  | 0 => by simp
  | N + 1 => by
    obtain ⟨h1, h2⟩ := sum_zero f hf N
    rw [List.range_succ, List.map_append, List.sum_append]
    simp only [List.map_cons, List.map_nil, List.sum_cons, List.sum_nil]
    have := hf N
    refine ⟨by omega, fun h => ?_, fun h => ?_⟩
    · intro i hi
      by_cases e : i = N
      · subst e; omega
      · exact h2.1 (by omega) i (by omega)
    · have := h2.2 (fun i hi => h i (by omega))
      have := h N (by omega)
      omega

def leftF (xs : List C6) (o : List Int) (i : Nat) : Int := if o.contains (i : Int) = true then 0 else openN (xs.getD i default)
/-- How many calls with an end are not in the order. -/
def remO (xs : List C6) (o : List Int) : Int := ((List.range xs.length).map (leftF xs o)).sum

theorem leftF_nn (xs : List C6) (o : List Int) (i : Nat) : 0 ≤ leftF xs o i := by
  unfold leftF
  split
  · omega
  · have := openN_cases (xs.getD i default); omega
theorem rem_nil (xs : List C6) : remO xs [] = opens xs := by
  unfold remO opens
  congr 1
  apply List.ext_getElem
  · simp
  · intro i h1 h2
    simp at h1
    simp [leftF, h1]
theorem rem_push (xs : List C6) (o : List Int) (n : Nat) (hn : n < xs.length) (ho : o.contains (n : Int) = false) : remO xs (o ++ [(n : Int)]) = remO xs o - openN (xs.getD n default) := by
  unfold remO
  rw [sum_one (leftF xs (o ++ [(n : Int)])) (leftF xs o) n (fun i hi => ?_) xs.length, if_pos hn]
  · have h1 : leftF xs (o ++ [(n : Int)]) n = 0 := by unfold leftF; rw [if_pos (by simp)]
    have h2 : leftF xs o n = openN (xs.getD n default) := by unfold leftF; rw [if_neg (by rw [ho]; simp)]
    omega
  · have : (o ++ [(n : Int)]).contains (i : Int) = o.contains (i : Int) := by
      rw [Bool.eq_iff_iff, List.contains_iff_mem, List.contains_iff_mem, List.mem_append]
      simp
      intro h; exact absurd (by omega) hi
    unfold leftF
    rw [this]
theorem rem_full (xs : List C6) (o : List Int) : fullB xs o = (remO xs o == 0) := by
  rw [Bool.eq_iff_iff]
  unfold fullB remO
  rw [List.all_eq_true, beq_iff_eq, (sum_zero _ (leftF_nn xs o) _).2]
  have key : ∀ i, (((xs.getD i default).til == 0 || o.contains (i : Int)) = true ↔ leftF xs o i = 0) := fun i => by
    unfold leftF openN
    by_cases h1 : o.contains (i : Int) = true
    · rw [h1]; simp
    · rw [if_neg h1]
      have : o.contains (i : Int) = false := by simpa using h1
      rw [this]
      by_cases h2 : (xs.getD i default).til = 0
      · rw [if_pos h2, h2]; simp
      · rw [if_neg h2]; simpa using h2
  exact ⟨fun h i hi => (key i).1 (h i (List.mem_range.2 hi)), fun h i hi => (key i).2 (h i (List.mem_range.1 hi))⟩

/-- The document's state and the program's values. -/
def sameT (kind : Int) (s : Dst) (l : List V2) : Prop := if kind = 2 then l = [s.v] else l = s.l
theorem same_start (kind : Int) : sameT kind d0 (begunT kind) := by
  unfold sameT begunT d0
  split <;> rfl
theorem same_step {kind : Int} {s : Dst} {l : List V2} (c : C6) (h : sameT kind s l) : (withT kind l c).2 = (doesD kind s c).2 ∧ ((doesD kind s c).2 = true → sameT kind (doesD kind s c).1 (withT kind l c).1) := by
  unfold sameT at h ⊢
  by_cases hk : kind = 2
  · subst hk
    rw [if_pos rfl] at h
    subst h
    unfold withT doesD
    rw [if_pos rfl]
    by_cases h1 : c.op = 1
    · simp [h1]
    · by_cases h2 : c.til = 0
      · simp [h1, h2]
      · by_cases h3 : s.v = c.v
        · simp [h1, h2, h3]
        · simp [h1, h2, h3]
  · rw [if_neg hk] at h
    subst h
    unfold withT doesD
    rw [if_neg hk]
    by_cases h1 : c.op = 1
    · simp [h1, hk]
    · simp only [h1, if_false, hk, and_false]
      cases s.l with
      | nil => simp
      | cons x r =>
        show (if c.til ≠ 0 ∧ x ≠ c.v then (x :: r, false) else (r, true)).2 = (if c.til ≠ 0 ∧ x ≠ c.v then (s, false) else (⟨r, s.v⟩, true)).2 ∧ _
        by_cases h2 : c.til ≠ 0 ∧ x ≠ c.v
        · simp only [if_pos h2]; simp
        · simp only [if_neg h2]; simp

theorem goD_goR (kind : Int) (xs : List C6) : ∀ (ks o : List Int) (s : Dst) (op : Int) (l : List V2), op = remO xs o → sameT kind s l → goD kind xs ks o s = goR kind xs ks o op l
  | [], o, s, op, l, ho, _ => by
    subst ho
    exact rem_full xs o
  | n :: ks, o, s, op, l, ho, hs => by
    unfold goD goR
    by_cases h0 : n < 0 ∨ (xs.length : Int) ≤ n
    · rw [if_pos h0, if_pos h0]
    · rw [if_neg h0, if_neg h0]
      obtain ⟨q, rfl⟩ : ∃ q : Nat, n = (q : Int) := ⟨n.toNat, by omega⟩
      simp only [Int.toNat_natCast]
      unfold nextO
      obtain ⟨h1, h2⟩ := same_step (xs.getD q default) hs
      cases hc : o.contains (q : Int) with
      | true => simp
      | false =>
        cases hl : lateB xs (xs.getD q default) o with
        | true => simp
        | false =>
          simp only [Bool.false_eq_true, if_false]
          rw [h1]
          cases hd : (doesD kind s (xs.getD q default)).2 with
          | false => simp
          | true =>
            simp only [if_true]
            exact goD_goR kind xs ks _ _ _ _ (by rw [ho, rem_push xs o q (by omega) hc]) (h2 hd)

theorem holdsD_eq (kind : Int) (xs : List C6) (ks : List Int) : holdsD kind xs ks = holdsR kind xs ks := by
  unfold holdsD holdsR
  rw [goD_goR kind xs ks [] d0 (opens xs) (begunT kind) (rem_nil xs).symm (same_start kind)]

end Go.Proofs.Ytojcojoleodjmaa
