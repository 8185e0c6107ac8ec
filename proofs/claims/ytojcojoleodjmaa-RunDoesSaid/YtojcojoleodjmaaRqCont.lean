/-
  What the queues hold, in all: the plain law of Push, Next. No condition.
-/
import Derived.Test.YtojcojoleodjmaaRqAwake
namespace Go.Proofs.Ytojcojoleodjmaa
open Go.RowKit Go.Sh

def cont (n : Nat) (ls : Nat → List Int) : List Int := (List.range n).flatMap ls

theorem mem_cont {n : Nat} {ls : Nat → List Int} {x : Int} : x ∈ cont n ls ↔ ∃ k, k < n ∧ x ∈ ls k := by simp [cont]

theorem findQ_mem {n : Nat} {ls : Nat → List Int} {x : Int} : findQ n ls x = none ↔ x ∉ cont n ls := by
  rw [mem_cont]
  unfold findQ
  rw [List.find?_eq_none]
  constructor
  · rintro h ⟨k, hk, hx⟩
    exact h k (List.mem_range.2 hk) (List.contains_iff_mem.2 hx)
  · intro h k hk hc
    exact h ⟨k, List.mem_range.1 hk, List.contains_iff_mem.1 hc⟩

theorem cont_upd {n k : Nat} (hk : k < n) (ls : Nat → List Int) (ys : List Int) : (cont n (upd ls k ys)).Perm (ys ++ rest n k ls) := fam_upd hk ls ys
theorem cont_at {n k : Nat} (hk : k < n) (ls : Nat → List Int) : (cont n ls).Perm (ls k ++ rest n k ls) := fam_perm hk ls

theorem mayQ_ok {n k : Nat} (hk : k < n) : mayQ n (k : Int) = 0 := by unfold mayQ; rw [if_neg (by omega)]

/-- A push that is taken. -/
theorem pushQ_ok {n k : Nat} {ls : Nat → List Int} {x : Int} (hk : k < n) (h1 : x ∉ cont n ls) (h2 : 0 ≤ x) (h3 : x < 65536) (h4 : (ls k).length < 1024) :
    pushQ n ls (k : Int) x = (0, upd ls k (ls k ++ [x])) ∧ (cont n (upd ls k (ls k ++ [x]))).Perm (x :: cont n ls) := by
  constructor
  · unfold pushQ
    rw [mayQ_ok hk, if_neg (by decide), if_neg (by rw [findQ_mem.2 h1]; simp; omega), Int.toNat_natCast, if_neg (by omega)]
  · refine (cont_upd hk ls _).trans ?_
    refine List.Perm.trans ?_ ((cont_at hk ls).symm.cons x)
    rw [List.append_assoc]
    exact List.perm_middle

theorem upd_upd {α : Type} (f : Nat → α) (k : Nat) (x y : α) : upd (upd f k x) k y = upd f k y := by
  funext j; by_cases h : j = k <;> simp [upd, h]

/-- A pop: what goes out. -/
theorem pop_cont {n k : Nat} {ls : Nat → List Int} {x : Int} {r : List Int} (hk : k < n) (h : ls k = x :: r) : (cont n ls).Perm (x :: cont n (upd ls k r)) := by
  refine (cont_at hk ls).trans ?_
  rw [h]
  exact ((cont_upd hk ls r).symm).cons x

/-- A theft moves, and no more. -/
theorem steal_cont {n k v : Nat} {ls : Nat → List Int} (hk : k < n) (hv : v < n) (hne : v ≠ k) (he : ls k = []) (m : Nat) : (cont n (upd (upd ls k ((ls v).drop m)) v ((ls v).take m))).Perm (cont n ls) := by
  have h1 := cont_upd hv (upd ls k ((ls v).drop m)) ((ls v).take m)
  have h2 := cont_at hv (upd ls k ((ls v).drop m))
  rw [upd_other hne] at h2
  have h3 := cont_upd hk ls ((ls v).drop m)
  have h4 := cont_at hk ls
  rw [he, List.nil_append] at h4
  refine h1.trans ?_
  have h5 : (((ls v).drop m) ++ ((ls v).take m ++ rest n v (upd ls k ((ls v).drop m)))).Perm (((ls v).drop m) ++ cont n ls) := by
    rw [← List.append_assoc]
    have h6 : ((ls v).drop m ++ (ls v).take m).Perm (ls v) := List.perm_append_comm.trans (by rw [List.take_append_drop])
    exact ((h6.append_right _).trans h2.symm).trans (h3.trans (h4.symm.append_left _))
  exact (List.perm_append_left_iff _).1 h5

theorem nonempty_victim {n k : Nat} {ls : Nat → List Int} (hk : k < n) (he : ls k = []) (h : cont n ls ≠ []) : victimQ n ls k ≠ none := by
  intro hv
  apply h
  have := victimQ_none hk hv
  rw [List.eq_nil_iff_forall_not_mem]
  intro x hx
  obtain ⟨j, hj, hx⟩ := mem_cont.1 hx
  by_cases e : j = k
  · subst e; rw [he] at hx; cases hx
  · rw [this j hj e] at hx; cases hx

/-- Next, where something is there: what comes, and what stays. -/
theorem nextQ_ok {n k : Nat} {ls : Nat → List Int} (st : Int) (hk : k < n) (h : cont n ls ≠ []) :
    ∃ x ls1 st1, nextQ n ls st (k : Int) = (x, 0, ls1, st1) ∧ (cont n ls).Perm (x :: cont n ls1) ∧
      ((∃ r, ls k = x :: r ∧ ls1 = upd ls k r) ∨ (ls k = [] ∧ ∃ r v m, v < n ∧ v ≠ k ∧ ls1 = upd (upd (upd ls k (x :: r)) v ((ls v).take m)) k r ∧ (ls v).drop m = x :: r)) := by
  unfold nextQ
  rw [mayQ_ok hk, if_neg (by decide), Int.toNat_natCast]
  cases hl : ls k with
  | cons x r =>
    refine ⟨x, upd ls k r, st, ?_, pop_cont hk hl, .inl ⟨r, rfl, rfl⟩⟩
    rw [if_neg (by simp)]
    unfold popQ
    rw [hl]
  | nil =>
    rw [if_pos rfl]
    rcases stealQ_cases n ls st k hk with ⟨h1, _⟩ | ⟨ls', st', x, r, h1, h2⟩
    · exact absurd h1 (nonempty_victim hk hl h)
    · rw [h1]
      dsimp only
      unfold popQ
      rw [h2]
      dsimp only
      unfold stealQ at h1
      cases hv : victimQ n ls k with
      | none => rw [hv] at h1; simp at h1
      | some v =>
        obtain ⟨hvn, hvl, hvk⟩ := victimQ_some hk hv
        rw [hv] at h1
        simp only [Prod.mk.injEq, true_and] at h1
        obtain ⟨h3, h4⟩ := h1
        have hd : (ls v).drop ((ls v).length / 2) = x :: r := by rw [← h3, upd_other (Ne.symm hvk), upd_same] at h2; exact h2
        refine ⟨x, upd ls' k r, st', rfl, ?_, .inr ⟨rfl, r, v, _, hvn, hvk, ?_, hd⟩⟩
        · refine List.Perm.trans ?_ (pop_cont hk h2)
          rw [← h3]
          exact (steal_cont hk hvn hvk hl _).symm
        · rw [← h3, hd]

end Go.Proofs.Ytojcojoleodjmaa
