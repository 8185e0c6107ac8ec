/-
  The plain law of RunTurn: each thread is told. No condition.
-/
import Derived.Test.YtojcojoleodjmaaRqCont
namespace Go.Proofs.Ytojcojoleodjmaa
open Go.RowKit Go.Sh

/-- What holds in the phase of worker w behind r rounds. -/
structure TI (n w r : Nat) (ls : Nat → List Int) (all ks : List Int) : Prop where
  perm : (cont n ls).Perm all
  nd : all.Nodup
  rg : ∀ x ∈ all, 0 ≤ x ∧ x < 65536
  few : all.length ≤ 40
  knd : ks.Nodup
  sub : ∀ x ∈ ks, x ∈ all
  low : ∀ j, j < w → ∀ x ∈ ls j, x ∈ ks
  cur : ∀ x ∈ (ls w).drop ((ls w).length - r), x ∈ ks
  ne : 0 < r → ls w ≠ []

def kadd (ks : List Int) (x : Int) : List Int := if x ∈ ks then ks else ks ++ [x]

theorem mem_kadd {ks : List Int} {x y : Int} : y ∈ kadd ks x ↔ y ∈ ks ∨ y = x := by
  unfold kadd
  split
  · rename_i h
    constructor
    · exact .inl
    · rintro (h1 | rfl)
      · exact h1
      · exact h
  · simp

theorem nodup_kadd {ks : List Int} {x : Int} (h : ks.Nodup) : (kadd ks x).Nodup := by
  unfold kadd
  split
  · exact h
  · rename_i hx
    rw [List.nodup_append]
    exact ⟨h, by simp, by intro a ha b hb; simp at hb; subst hb; intro e; subst e; exact hx ha⟩

theorem len_queue {n k : Nat} {ls : Nat → List Int} {all : List Int} (hk : k < n) (h : (cont n ls).Perm all) : (ls k).length ≤ all.length := by
  have h1 := (cont_at hk ls).symm.trans h
  have := h1.length_eq
  simp at this
  omega

theorem turn_round {n w r : Nat} {ls : Nat → List Int} {all ks : List Int} (st : Int) (h : TI n w r ls all ks) (hw : w < n) (hr : r < all.length) :
    ∃ x ls1 st1 ls2, nextQ n ls st (w : Int) = (x, 0, ls1, st1) ∧ pushQ n ls1 (w : Int) x = (0, ls2) ∧ TI n w (r + 1) ls2 all (kadd ks x) := by
  have hne : cont n ls ≠ [] := by
    intro e
    have := h.perm.length_eq
    rw [e] at this
    simp at this
    omega
  obtain ⟨x, ls1, st1, h1, h2, h3⟩ := nextQ_ok st hw hne
  have hp := h2.symm.trans h.perm
  have hnd : (x :: cont n ls1).Nodup := hp.nodup_iff.2 h.nd
  have hx : x ∈ all := hp.mem_iff.1 List.mem_cons_self
  have hlen : (ls1 w).length < 1024 := by
    have h4 := len_queue hw (List.Perm.refl (cont n ls1))
    have h5 := hp.length_eq
    simp at h5
    have := h.few
    omega
  obtain ⟨h6, h7⟩ := pushQ_ok hw (List.nodup_cons.1 hnd).1 (h.rg x hx).1 (h.rg x hx).2 hlen
  refine ⟨x, ls1, st1, _, h1, h6, ?_⟩
  obtain ⟨rr, e1, e2, e3⟩ : ∃ rr, ls1 w = rr ∧ (ls w = x :: rr ∨ ls w = []) ∧ ∀ j, j ≠ w → ∀ y ∈ ls1 j, y ∈ ls j := by
    rcases h3 with ⟨rr, a1, rfl⟩ | ⟨a1, rr, v, m, a2, a3, rfl, a4⟩
    · exact ⟨rr, upd_same _ _ _, .inl a1, fun j hj y hy => by rwa [upd_other hj] at hy⟩
    · refine ⟨rr, upd_same _ _ _, .inr a1, fun j hj y hy => ?_⟩
      rw [upd_other hj] at hy
      by_cases e : j = v
      · subst e; rw [upd_same] at hy; exact List.mem_of_mem_take hy
      · rwa [upd_other e, upd_other hj] at hy
  subst e1
  refine ⟨h7.trans hp, h.nd, h.rg, h.few, nodup_kadd h.knd, fun y hy => ?_, fun j hj y hy => ?_, fun y hy => ?_, fun _ => by rw [upd_same]; simp⟩
  · rcases mem_kadd.1 hy with h8 | rfl
    · exact h.sub y h8
    · exact hx
  · rw [upd_other (by omega)] at hy
    exact mem_kadd.2 (.inl (h.low j hj y (e3 j (by omega) y hy)))
  · rw [upd_same] at hy
    rw [List.length_append, List.length_singleton, show (ls1 w).length + 1 - (r + 1) = (ls1 w).length - r by omega, List.drop_append] at hy
    rcases List.mem_append.1 hy with h8 | h8
    · rcases e2 with e2 | e2
      · refine mem_kadd.2 (.inl (h.cur y ?_))
        rw [e2, List.length_cons]
        by_cases hc : r ≤ (ls1 w).length
        · rw [show (ls1 w).length + 1 - r = ((ls1 w).length - r) + 1 by omega, List.drop_succ_cons]
          exact h8
        · rw [show (ls1 w).length + 1 - r = 0 by omega]
          exact List.mem_cons_of_mem _ (List.mem_of_mem_drop h8)
      · have hr0 : r = 0 := by
          rcases Nat.eq_zero_or_pos r with h9 | h9
          · exact h9
          · exact absurd e2 (h.ne h9)
        subst hr0
        simp at h8
    · have := List.mem_of_mem_drop h8
      simp at this
      exact mem_kadd.2 (.inr this)

theorem turn_next {n w : Nat} {ls : Nat → List Int} {all ks : List Int} (hw : w < n) (h : TI n w all.length ls all ks) : TI n (w + 1) 0 ls all ks := by
  refine ⟨h.perm, h.nd, h.rg, h.few, h.knd, h.sub, fun j hj x hx => ?_, fun x hx => by simp at hx, fun h0 => by omega⟩
  rcases Nat.lt_succ_iff_lt_or_eq.1 hj with h1 | rfl
  · exact h.low j h1 x hx
  · refine h.cur x ?_
    have := len_queue hw h.perm
    rw [show (ls j).length - all.length = 0 by omega]
    exact hx

theorem turn_end {n : Nat} {ls : Nat → List Int} {all ks : List Int} (h : TI n n 0 ls all ks) : ks.length = all.length := by
  have : ks.Perm all := by
    rw [List.perm_ext_iff_of_nodup h.knd h.nd]
    intro x
    refine ⟨h.sub x, fun hx => ?_⟩
    obtain ⟨k, hk, hxk⟩ := mem_cont.1 (h.perm.mem_iff.2 hx)
    exact h.low k hk x hxk
  exact this.length_eq

theorem turn_start {n : Nat} {ls : Nat → List Int} {all : List Int} (h1 : (cont n ls).Perm all) (h2 : all.Nodup) (h3 : ∀ x ∈ all, 0 ≤ x ∧ x < 65536) (h4 : all.length ≤ 40) : TI n 0 0 ls all [] :=
  ⟨h1, h2, h3, h4, by simp, by simp, by simp, by simp, by simp⟩

end Go.Proofs.Ytojcojoleodjmaa
