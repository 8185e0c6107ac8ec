/-
  spec, plain: the document's orders are the program's; how many there are. No condition.
-/
import Derived.Test.YtojcojoleodjmaaSpY
namespace Go.Proofs.Ytojcojoleodjmaa
open Go.RowKit Go.Shelf Go.Sh

/-- The document's all: the orders that begin so, as they are told. -/
def allD (kind : Int) (xs : List C6) : Nat → List Int → List (List Int)
  | 0, _ => []
  | f + 1, ks => (if holdsD kind xs ks = true then [ks] else []) ++ (List.range xs.length).flatMap fun n => if mayD kind xs ks n = true then allD kind xs f (ks ++ [(n : Int)]) else []
def restD (kind : Int) (xs : List C6) (f : Nat) (ks : List Int) (n : Nat) : List (List Int) := if mayD kind xs ks n = true then allD kind xs f (ks ++ [(n : Int)]) else []
def headD (kind : Int) (xs : List C6) (ks : List Int) : List (List Int) := if holdsD kind xs ks = true then [ks] else []
theorem allD_succ (kind : Int) (xs : List C6) (f : Nat) (ks : List Int) : allD kind xs (f + 1) ks = headD kind xs ks ++ (List.range xs.length).flatMap (restD kind xs f ks) := rfl
def partD (kind : Int) (xs : List C6) (f : Nat) (ks : List Int) (k : Nat) : List (List Int) := headD kind xs ks ++ (List.range k).flatMap (restD kind xs f ks)
theorem partD_succ (kind : Int) (xs : List C6) (f : Nat) (ks : List Int) (k : Nat) : partD kind xs f ks (k + 1) = partD kind xs f ks k ++ restD kind xs f ks k := by
  unfold partD
  rw [List.range_succ, List.flatMap_append, List.append_assoc]
  simp
theorem partD_len {kind : Int} {xs : List C6} {f : Nat} {ks : List Int} {k : Nat} (h : k ≤ xs.length) : (partD kind xs f ks k).length ≤ (allD kind xs (f + 1) ks).length := by
  rw [allD_succ]
  obtain ⟨d, hd⟩ : ∃ d, xs.length = k + d := ⟨xs.length - k, by omega⟩
  unfold partD
  rw [hd, List.range_add, List.flatMap_append, ← List.append_assoc]
  simp only [List.length_append]
  omega

theorem flat_len {α : Type} (g : Nat → List α) (m : Nat) (h : ∀ i, (g i).length ≤ m) : ∀ N, ((List.range N).flatMap g).length ≤ N * m
  | 0 => by simp
  | N + 1 => by
    rw [List.range_succ, List.flatMap_append, List.length_append, Nat.add_mul]
    have := flat_len g m h N
    have := h N
    simp only [List.flatMap_cons, List.flatMap_nil, List.append_nil, Nat.one_mul]
    omega
theorem allD_len (kind : Int) (xs : List C6) : ∀ (f : Nat) (ks : List Int), (allD kind xs f ks).length ≤ (xs.length + 1) ^ f
  | 0, _ => by simp [allD]
  | f + 1, ks => by
    rw [allD_succ, List.length_append, Nat.pow_succ, Nat.mul_add, Nat.mul_one]
    have h1 : (headD kind xs ks).length ≤ 1 := by unfold headD; split <;> simp
    have h2 := flat_len (restD kind xs f ks) ((xs.length + 1) ^ f) (fun i => by
      unfold restD
      split
      · exact allD_len kind xs f _
      · simp) xs.length
    have h3 : 1 ≤ (xs.length + 1) ^ f := Nat.pow_pos (by omega)
    rw [Nat.mul_comm] at h2
    omega

/-- An order that may be gone on with: the number of calls left, the program's values, the document's state. -/
inductive Reach (kind : Int) (xs : List C6) : List Int → Int → List V2 → Dst → Prop
  | nil : Reach kind xs [] (opens xs) (begunT kind) d0
  | step {o : List Int} {op : Int} {l l' : List V2} {s : Dst} {n : Nat} : Reach kind xs o op l s → n < xs.length → nextO kind xs o l n = some l' → Reach kind xs (o ++ [(n : Int)]) (op - openN (xs.getD n default)) l' (doesD kind s (xs.getD n default)).1

theorem next_some {kind : Int} {xs : List C6} {o : List Int} {l l' : List V2} {n : Nat} (h : nextO kind xs o l n = some l') : o.contains (n : Int) = false ∧ lateB xs (xs.getD n default) o = false ∧ (withT kind l (xs.getD n default)).2 = true ∧ l' = (withT kind l (xs.getD n default)).1 := by
  unfold nextO at h
  cases h1 : o.contains (n : Int) with
  | true => rw [h1] at h; simp at h
  | false =>
    cases h2 : lateB xs (xs.getD n default) o with
    | true => rw [h1, h2] at h; simp at h
    | false =>
      cases h3 : (withT kind l (xs.getD n default)).2 with
      | false => rw [h1, h2, h3] at h; simp at h
      | true =>
        rw [h1, h2, h3] at h
        simp at h
        exact ⟨rfl, rfl, rfl, h.symm⟩

theorem reach_facts {kind : Int} {xs : List C6} {o : List Int} {op : Int} {l : List V2} {s : Dst} (h : Reach kind xs o op l s) : sameT kind s l ∧ s = foldD kind xs o d0 ∧ ∀ r, goR kind xs (o ++ r) [] (opens xs) (begunT kind) = goR kind xs r o op l := by
  induction h with
  | nil => exact ⟨same_start kind, rfl, fun _ => rfl⟩
  | @step o op l l' s n hr hn hx ih =>
    obtain ⟨h1, h2, h3⟩ := ih
    obtain ⟨e1, e2, e3, rfl⟩ := next_some hx
    have hs := same_step (xs.getD n default) h1
    refine ⟨hs.2 (by rw [← hs.1]; exact e3), by rw [foldD_push, ← h2, Int.toNat_natCast], fun r => ?_⟩
    rw [List.append_assoc, h3, List.singleton_append, goR_cons hn, hx]

theorem reach_holds {kind : Int} {xs : List C6} {o : List Int} {op : Int} {l : List V2} {s : Dst} (hk : knownB kind = true) (hc : checkR xs = 0) (h : Reach kind xs o op l s) : holdsD kind xs o = (op == 0) := by
  rw [holdsD_eq]
  unfold holdsR
  have := (reach_facts h).2.2 []
  rw [List.append_nil] at this
  rw [hk, hc, this]
  rfl
theorem reach_may {kind : Int} {xs : List C6} {o : List Int} {op : Int} {l : List V2} {s : Dst} (h : Reach kind xs o op l s) (n : Nat) : mayD kind xs o n = (nextO kind xs o l n).isSome := by
  obtain ⟨h1, h2, _⟩ := reach_facts h
  unfold mayD nextO
  rw [← h2, ← (same_step (xs.getD n default) h1).1]
  cases o.contains (n : Int) with
  | true => simp
  | false =>
    cases lateB xs (xs.getD n default) o with
    | true => simp
    | false =>
      cases (withT kind l (xs.getD n default)).2 <;> simp

theorem allD_eq {kind : Int} {xs : List C6} (hk : knownB kind = true) (hc : checkR xs = 0) : ∀ (f : Nat) (o : List Int) (op : Int) (l : List V2) (s : Dst), Reach kind xs o op l s → allD kind xs f o = allO kind xs f o op l
  | 0, _, _, _, _, _ => rfl
  | f + 1, o, op, l, s, h => by
    rw [allD_succ, allO_succ]
    congr 1
    · unfold headD headO
      rw [reach_holds hk hc h]
      simp
    · rw [List.flatMap_def, List.flatMap_def]
      congr 1
      apply List.map_congr_left
      intro n hn
      have hn2 := List.mem_range.1 hn
      unfold restD restO
      rw [reach_may h n]
      cases hx : nextO kind xs o l n with
      | none => simp
      | some l' =>
        simp only [Option.isSome_some, if_true]
        exact allD_eq hk hc f _ _ _ _ (h.step hn2 hx)

theorem allT_eq {kind : Int} {xs : List C6} (h : mayR kind xs = 0) : allT kind xs = allD kind xs (xs.length + 1) [] := by
  obtain ⟨hk, hc, _⟩ := may_zero h
  unfold allT
  rw [if_pos h, allD_eq hk hc _ [] _ _ _ Reach.nil]
theorem allT_len {kind : Int} {xs : List C6} (h : xs.length ≤ 5 ∨ 8 < xs.length) : (allT kind xs).length ≤ 46656 := by
  by_cases h0 : mayR kind xs = 0
  · obtain ⟨_, _, h8⟩ := may_zero h0
    rw [allT_eq h0]
    refine Nat.le_trans (allD_len kind xs _ _) ?_
    calc (xs.length + 1) ^ (xs.length + 1) ≤ 6 ^ (xs.length + 1) := Nat.pow_le_pow_left (by omega) _
      _ ≤ 6 ^ 6 := Nat.pow_le_pow_right (by omega) (by omega)
      _ = 46656 := by decide
  · unfold allT
    rw [if_neg h0]
    simp

end Go.Proofs.Ytojcojoleodjmaa
