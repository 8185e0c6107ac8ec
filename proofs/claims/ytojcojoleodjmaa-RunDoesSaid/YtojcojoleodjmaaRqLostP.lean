/-
  The plain law of RunLost: what goes in comes out, once. No condition.
-/
import Derived.Test.YtojcojoleodjmaaRqTurn
namespace Go.Proofs.Ytojcojoleodjmaa
open Go.RowKit Go.Sh

/-- The queues hold what is in the set ks; none beyond the workers'. -/
structure LI (n : Nat) (ls : Nat → List Int) (ks : List Int) : Prop where
  perm : (cont n ls).Perm ks
  nd : ks.Nodup
  beyond : ∀ j, n ≤ j → ls j = []

theorem lenQ_cont (ls : Nat → List Int) : ∀ m, lenQ ls m = (cont m ls).length
  | 0 => rfl
  | m + 1 => by
    rw [lenQ, lenQ_cont ls m, cont, cont, List.range_succ, List.flatMap_append, List.length_append]
    simp

theorem cont_beyond {n : Nat} {ls : Nat → List Int} (h : ∀ j, n ≤ j → ls j = []) : ∀ d, cont (n + d) ls = cont n ls
  | 0 => rfl
  | d + 1 => by
    rw [show n + (d + 1) = (n + d) + 1 by omega, cont, List.range_succ, List.flatMap_append]
    have := cont_beyond h d
    rw [cont] at this
    rw [this]
    simp [h (n + d) (by omega)]

theorem LI.len {n : Nat} {ls : Nat → List Int} {ks : List Int} (h : LI n ls ks) (hn : n ≤ 16) : lenQ ls 16 = ks.length := by
  rw [lenQ_cont, show 16 = n + (16 - n) by omega, cont_beyond h.beyond, h.perm.length_eq]

theorem LI.push {n : Nat} {ls : Nat → List Int} {ks : List Int} (h : LI n ls ks) (worker who : Int) :
    (∃ ls', pushQ n ls worker who = (0, ls') ∧ who ∉ ks ∧ LI n ls' (ks ++ [who])) ∨ ∃ e, pushQ n ls worker who = (e, ls) ∧ (e = 1 ∨ e = 7) := by
  rcases mayQ_cases n worker with h1 | ⟨h1, k, rfl, hk⟩
  · exact .inr ⟨1, by simp [pushQ, h1], .inl rfl⟩
  · by_cases h2 : (findQ n ls who).isSome = true ∨ who < 0 ∨ 65536 ≤ who
    · exact .inr ⟨1, by simp [pushQ, h1, h2], .inl rfl⟩
    · by_cases h3 : 1024 ≤ (ls k).length
      · exact .inr ⟨7, by simp [pushQ, h1, h2, h3], .inr rfl⟩
      · have hx : who ∉ cont n ls := by
          rw [← findQ_mem]
          cases hf : findQ n ls who with
          | none => rfl
          | some j => exact absurd (.inl (by rw [hf]; rfl)) h2
        obtain ⟨a1, a2⟩ := pushQ_ok hk hx (by omega) (by omega) (show (ls k).length < 1024 by omega)
        have hxk : who ∉ ks := fun hm => hx (h.perm.mem_iff.2 hm)
        refine .inl ⟨_, a1, hxk, a2.trans ((h.perm.cons who).trans (List.perm_append_singleton who ks).symm), ?_, fun j hj => by rw [upd_other (by omega)]; exact h.beyond j hj⟩
        rw [List.nodup_append]
        exact ⟨h.nd, by simp, by intro a ha b hb; simp at hb; subst hb; intro e; subst e; exact hxk ha⟩

theorem LI.next {n : Nat} {ls : Nat → List Int} {ks : List Int} (h : LI n ls ks) (st worker : Int) :
    nextQ n ls st worker = (0, 1, ls, st) ∨ (nextQ n ls st worker = (0, 6, ls, st) ∧ ks = []) ∨ ∃ x ls1 st1, nextQ n ls st worker = (x, 0, ls1, st1) ∧ x ∈ ks ∧ LI n ls1 (ks.erase x) := by
  rcases mayQ_cases n worker with h1 | ⟨h1, k, rfl, hk⟩
  · exact .inl (by simp [nextQ, h1])
  · by_cases hc : cont n ls = []
    · refine .inr (.inl ⟨?_, ?_⟩)
      · have hl : ∀ j, j < n → ls j = [] := by
          intro j hj
          rw [List.eq_nil_iff_forall_not_mem]
          intro x hx
          have : x ∈ cont n ls := mem_cont.2 ⟨j, hj, hx⟩
          rw [hc] at this
          cases this
        have hv : victimQ n ls k = none := by
          cases hv : victimQ n ls k with
          | none => rfl
          | some v =>
            obtain ⟨a1, a2, _⟩ := victimQ_some hk hv
            rw [hl v a1] at a2
            simp at a2
        unfold nextQ
        rw [h1, if_neg (by decide), Int.toNat_natCast, if_pos (hl k hk)]
        unfold stealQ
        rw [hv]
      · have := h.perm.length_eq
        rw [hc] at this
        exact List.length_eq_zero_iff.1 this.symm
    · obtain ⟨x, ls1, st1, a1, a2, a3⟩ := nextQ_ok st hk hc
      have hp := a2.symm.trans h.perm
      have hx : x ∈ ks := hp.mem_iff.1 List.mem_cons_self
      refine .inr (.inr ⟨x, ls1, st1, a1, hx, ?_, h.nd.erase x, ?_⟩)
      · exact (List.perm_cons x).1 (hp.trans (List.perm_cons_erase hx))
      · intro j hj
        rcases a3 with ⟨r, _, rfl⟩ | ⟨_, r, v, m, b1, _, rfl, _⟩
        · rw [upd_other (by omega)]; exact h.beyond j hj
        · rw [upd_other (by omega), upd_other (by omega), upd_other (by omega)]; exact h.beyond j hj

theorem LI.drop {n : Nat} {ls : Nat → List Int} {ks : List Int} (h : LI n ls ks) (who : Int) :
    (dropQ n ls who = (6, ls) ∧ who ∉ ks) ∨ ∃ ls', dropQ n ls who = (0, ls') ∧ who ∈ ks ∧ LI n ls' (ks.erase who) := by
  unfold dropQ
  rcases findV_cases n ls who with ⟨h1, _⟩ | ⟨k, i, hk, hi, h1, h2, _⟩
  · rw [h1]
    exact .inl ⟨rfl, fun hm => (findQ_mem.1 h1) (h.perm.mem_iff.2 hm)⟩
  · rw [h1]
    dsimp only
    rw [h2, Int.toNat_natCast]
    have hw : (ls k)[i] = who := by
      unfold idx at h2
      cases hf : (ls k).findIdx? (· == who) with
      | none => rw [hf] at h2; simp at h2
      | some i' =>
        rw [hf] at h2
        obtain ⟨b1, b2, _⟩ := List.findIdx?_eq_some_iff_getElem.1 hf
        obtain rfl : i' = i := by have : (i' : Int) = i := h2; omega
        simpa using b2
    have hp : (cont n ls).Perm (who :: cont n (upd ls k ((ls k).take i ++ (ls k).drop (i + 1)))) := by
      refine (cont_at hk ls).trans ?_
      refine List.Perm.trans ?_ ((cont_upd hk ls _).symm.cons who)
      have : ls k = (ls k).take i ++ who :: (ls k).drop (i + 1) := by
        rw [← hw, List.getElem_cons_drop, List.take_append_drop]
      conv => lhs; rw [this]
      rw [List.append_assoc, List.append_assoc]
      exact List.perm_middle
    have hq := hp.symm.trans h.perm
    have hx : who ∈ ks := hq.mem_iff.1 List.mem_cons_self
    exact .inr ⟨_, rfl, hx, (List.perm_cons who).1 (hq.trans (List.perm_cons_erase hx)), h.nd.erase who, fun j hj => by rw [upd_other (by omega)]; exact h.beyond j hj⟩

end Go.Proofs.Ytojcojoleodjmaa
