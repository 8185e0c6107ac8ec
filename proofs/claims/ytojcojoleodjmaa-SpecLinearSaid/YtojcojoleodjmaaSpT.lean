/-
  spec, plain: the first order holds, and is the least; wider calls. No condition.
-/
import Derived.Test.YtojcojoleodjmaaSpS
namespace Go.Proofs.Ytojcojoleodjmaa
open Go.RowKit Go.Shelf Go.Sh

theorem goR_cons {kind : Int} {xs : List C6} {n : Nat} {ks o : List Int} {op : Int} {l : List V2} (hn : n < xs.length) :
    goR kind xs ((n : Int) :: ks) o op l = match nextO kind xs o l n with
      | none => false
      | some l' => goR kind xs ks (o ++ [(n : Int)]) (op - openN (xs.getD n default)) l' := by
  show (if (n : Int) < 0 ∨ (xs.length : Int) ≤ (n : Int) then false else _) = _
  rw [if_neg (by omega), Int.toNat_natCast]
  cases nextO kind xs o l n <;> rfl

/-- Whatever is told holds. -/
theorem all_holds (kind : Int) (xs : List C6) : ∀ (f : Nat) (o : List Int) (op : Int) (l : List V2) (a : List Int), a ∈ allO kind xs f o op l → ∃ r, a = o ++ r ∧ r.length ≤ f ∧ goR kind xs r o op l = true
  | 0, o, op, l, a, h => by simp [allO] at h
  | f + 1, o, op, l, a, h => by
    rw [allO_succ] at h
    rcases List.mem_append.1 h with h | h
    · unfold headO at h
      split at h
      · rename_i h0
        simp at h
        subst h
        exact ⟨[], by simp, by simp, by unfold goR; simp [h0]⟩
      · simp at h
    · obtain ⟨n, hn, ha⟩ := List.mem_flatMap.1 h
      have hn2 := List.mem_range.1 hn
      unfold restO at ha
      cases hx : nextO kind xs o l n with
      | none => rw [hx] at ha; simp at ha
      | some l' =>
        rw [hx] at ha
        obtain ⟨r, h1, h2, h3⟩ := all_holds kind xs f _ _ _ a ha
        refine ⟨(n : Int) :: r, by rw [h1]; simp, by simp; omega, ?_⟩
        rw [goR_cons hn2, hx]
        exact h3

theorem flat_first {α : Type} (g : Nat → List α) : ∀ (N q : Nat), q < N → g q ≠ [] → ∃ m t, m ≤ q ∧ g m ≠ [] ∧ (List.range N).flatMap g = g m ++ t
  | 0, q, h, _ => absurd h (by omega)
  | N + 1, q, h, hq => by
    rw [List.range_succ, List.flatMap_append]
    by_cases e : (List.range N).flatMap g = []
    · have : q = N := by
        rcases Nat.lt_or_ge q N with h1 | h1
        · exact absurd (List.flatMap_eq_nil_iff.1 e q (List.mem_range.2 h1)) hq
        · omega
      subst this
      exact ⟨q, [], Nat.le_refl _, hq, by rw [e]; simp⟩
    · obtain ⟨q', h1, h2, h3⟩ : ∃ q', q' < N ∧ g q' ≠ [] ∧ q' ≤ q := by
        rcases Nat.lt_or_ge q N with h1 | h1
        · exact ⟨q, h1, hq, Nat.le_refl _⟩
        · by_cases hh : ∃ q', q' < N ∧ g q' ≠ []
          · obtain ⟨q', h2, h3⟩ := hh
            exact ⟨q', h2, h3, by omega⟩
          · exact absurd (List.flatMap_eq_nil_iff.2 fun x hx => Classical.byContradiction fun hne => hh ⟨x, List.mem_range.1 hx, hne⟩) e
      obtain ⟨m, t, hm, hg, ht⟩ := flat_first g N q' h1 h2
      exact ⟨m, t ++ [N].flatMap g, by omega, hg, by rw [ht, List.append_assoc]⟩

/-- slices.Compare. -/
def cmpR : List Int → List Int → Int
  | [], [] => 0
  | [], _ :: _ => -1
  | _ :: _, [] => 1
  | x :: a, y :: b => if x < y then -1 else if y < x then 1 else cmpR a b

theorem cmp_nil (b : List Int) : cmpR [] b ≤ 0 := by cases b <;> simp [cmpR]

/-- Where an order holds one is told, and the first that is told is no greater. -/
theorem all_least (kind : Int) (xs : List C6) : ∀ (f : Nat) (ks o : List Int) (op : Int) (l : List V2), f + o.length = xs.length + 1 → (∀ k ∈ o, 0 ≤ k ∧ k < (xs.length : Int)) → o.Nodup → goR kind xs ks o op l = true →
    ∃ r t, allO kind xs f o op l = (o ++ r) :: t ∧ cmpR r ks ≤ 0
  | 0, ks, o, op, l, hf, hk, hn, _ => by have := nodup_le hn hk; omega
  | f + 1, ks, o, op, l, hf, hk, hn, h => by
    rw [allO_succ]
    by_cases h0 : op = 0
    · subst h0
      exact ⟨[], _, by unfold headO; rw [if_pos rfl, List.append_nil]; rfl, cmp_nil ks⟩
    · have hh : headO o op = [] := by unfold headO; rw [if_neg h0]
      rw [hh, List.nil_append]
      cases ks with
      | nil => unfold goR at h; simp [h0] at h
      | cons n ks =>
        have hr : ¬ (n < 0 ∨ (xs.length : Int) ≤ n) := fun hc => by unfold goR at h; rw [if_pos hc] at h; cases h
        obtain ⟨q, rfl⟩ : ∃ q : Nat, n = (q : Int) := ⟨n.toNat, by omega⟩
        have hq : q < xs.length := by omega
        rw [goR_cons hq] at h
        cases hx : nextO kind xs o l q with
        | none => rw [hx] at h; cases h
        | some l' =>
          rw [hx] at h
          have hnc : (q : Int) ∉ o := fun hm => by
            unfold nextO at hx
            rw [if_pos (List.contains_iff_mem.2 hm)] at hx
            cases hx
          obtain ⟨r', t', hr', hc'⟩ := all_least kind xs f ks (o ++ [(q : Int)]) _ l' (by simp; omega) (fun k hk' => by
            rcases List.mem_append.1 hk' with h1 | h1
            · exact hk k h1
            · simp at h1; subst h1; omega) (by rw [List.nodup_append]; exact ⟨hn, by simp, fun a ha b hb => by simp at hb; subst hb; intro e; exact hnc (e ▸ ha)⟩) h
          have hrest : restO kind xs f o op l q = (o ++ [(q : Int)] ++ r') :: t' := by unfold restO; rw [hx]; exact hr'
          obtain ⟨m, t, hm, hg, ht⟩ := flat_first (restO kind xs f o op l) xs.length q hq (by rw [hrest]; simp)
          rw [ht]
          rcases Nat.lt_or_ge m q with hmq | hmq
          · obtain ⟨a, ta, ha⟩ : ∃ a ta, restO kind xs f o op l m = a :: ta := by
              cases hz : restO kind xs f o op l m with
              | nil => exact absurd hz hg
              | cons a ta => exact ⟨a, ta, rfl⟩
            have hain : a ∈ restO kind xs f o op l m := by rw [ha]; simp
            unfold restO at hain
            cases hy : nextO kind xs o l m with
            | none => rw [hy] at hain; simp at hain
            | some l2 =>
              rw [hy] at hain
              obtain ⟨r2, e2, _, _⟩ := all_holds kind xs f _ _ _ a hain
              refine ⟨(m : Int) :: r2, ta ++ t, by rw [ha, e2]; simp, ?_⟩
              unfold cmpR
              rw [if_pos (by omega)]
              omega
          · obtain rfl : m = q := by omega
            refine ⟨(m : Int) :: r', t' ++ t, by rw [hrest]; simp, ?_⟩
            unfold cmpR
            rw [if_neg (by omega), if_neg (by omega)]
            exact hc'

/-- Each call of the second list is wider than the one of the first. -/
def Wider (xs ys : List C6) : Prop := xs.length = ys.length ∧ ∀ i, (xs.getD i default).op = (ys.getD i default).op ∧ (xs.getD i default).v = (ys.getD i default).v ∧ ((xs.getD i default).til = 0 ↔ (ys.getD i default).til = 0) ∧
  ∀ j, endedB (ys.getD i default) (ys.getD j default) = true → endedB (xs.getD i default) (xs.getD j default) = true

theorem with_wider {kind : Int} {l : List V2} {c d : C6} (h1 : c.op = d.op) (h2 : c.v = d.v) (h3 : c.til = 0 ↔ d.til = 0) : withT kind l c = withT kind l d := by
  unfold withT
  rw [h1, h2]
  simp only [ne_eq, h3]
theorem next_wider {kind : Int} {xs ys : List C6} (hw : Wider xs ys) {o : List Int} {l l' : List V2} {n : Nat} (h : nextO kind xs o l n = some l') : nextO kind ys o l n = some l' := by
  obtain ⟨h1, h2, h3, h4⟩ := hw.2 n
  unfold nextO at h ⊢
  rw [← with_wider h1 h2 h3]
  split at h
  · cases h
  · rename_i hc
    rw [if_neg hc]
    split at h
    · cases h
    · rename_i hl
      rw [if_neg (fun hl2 => hl ?_)]
      · exact h
      · obtain ⟨k, hk, hk2⟩ := List.any_eq_true.1 hl2
        exact List.any_eq_true.2 ⟨k, hk, h4 k.toNat hk2⟩
theorem open_wider {xs ys : List C6} (hw : Wider xs ys) (n : Nat) : openN (xs.getD n default) = openN (ys.getD n default) := by
  obtain ⟨_, _, h3, _⟩ := hw.2 n
  unfold openN
  simp only [h3]
theorem go_wider {kind : Int} {xs ys : List C6} (hw : Wider xs ys) : ∀ (ks o : List Int) (op : Int) (l : List V2), goR kind xs ks o op l = true → goR kind ys ks o op l = true
  | [], _, _, _, h => h
  | n :: ks, o, op, l, h => by
    have hr : ¬ (n < 0 ∨ (xs.length : Int) ≤ n) := fun hc => by unfold goR at h; rw [if_pos hc] at h; cases h
    obtain ⟨q, rfl⟩ : ∃ q : Nat, n = (q : Int) := ⟨n.toNat, by omega⟩
    rw [goR_cons (by omega)] at h
    rw [goR_cons (by have := hw.1; omega)]
    cases hx : nextO kind xs o l q with
    | none => rw [hx] at h; cases h
    | some l' =>
      rw [hx] at h
      rw [next_wider hw hx, ← open_wider hw q]
      exact go_wider hw ks _ _ _ h
theorem opens_wider {xs ys : List C6} (hw : Wider xs ys) : opens xs = opens ys := by
  rw [← rem_nil, ← rem_nil]
  unfold remO
  rw [← hw.1]
  congr 1
  apply List.map_congr_left
  intro i _
  unfold leftF
  rw [open_wider hw i]

theorem may_zero {kind : Int} {xs : List C6} (h : mayR kind xs = 0) : knownB kind = true ∧ checkR xs = 0 ∧ xs.length ≤ 8 := by
  unfold mayR at h
  split at h
  · rename_i h1
    split at h
    · rename_i h2
      split at h
      · cases h
      · exact ⟨h1, h2, by omega⟩
    · exact absurd h (by assumption)
  · cases h
theorem may_not {kind : Int} {xs : List C6} (h : mayR kind xs ≠ 0) (hx : xs.length ≤ 8) (ks : List Int) : holdsR kind xs ks = false := by
  unfold holdsR
  cases h1 : knownB kind with
  | false => rfl
  | true =>
    by_cases h2 : checkR xs = 0
    · exact absurd (by unfold mayR; rw [if_pos h1, if_pos h2, if_neg (by omega)]) h
    · simp [h2]

/-- What Linear tells, as a law. -/
theorem lin_law (kind : Int) (xs : List C6) (hx : xs.length ≤ 8) : (linR kind xs).a.length ≤ 9 ∧
    (((linR kind xs).ok = false ∧ (linR kind xs).a = [] ∧ ∀ ks, holdsR kind xs ks = false) ∨
    ((linR kind xs).e = 0 ∧ (linR kind xs).ok = true ∧ knownB kind = true ∧ checkR xs = 0 ∧ goR kind xs (linR kind xs).a [] (opens xs) (begunT kind) = true ∧ holdsR kind xs (linR kind xs).a = true ∧ ∀ ks, holdsR kind xs ks = true → cmpR (linR kind xs).a ks ≤ 0)) := by
  unfold linR
  by_cases h0 : mayR kind xs = 0
  · rw [if_pos h0]
    obtain ⟨hk, hc, _⟩ := may_zero h0
    have hT : allT kind xs = allO kind xs (xs.length + 1) [] (opens xs) (begunT kind) := by unfold allT; rw [if_pos h0]
    have hH : ∀ ks, holdsR kind xs ks = goR kind xs ks [] (opens xs) (begunT kind) := fun ks => by unfold holdsR; rw [hk, hc]; rfl
    cases ha : allT kind xs with
    | nil =>
      refine ⟨by simp, .inl ⟨rfl, rfl, fun ks => ?_⟩⟩
      rw [Bool.eq_false_iff]
      intro h
      rw [hH] at h
      obtain ⟨r, t, h1, _⟩ := all_least kind xs (xs.length + 1) ks [] _ _ (by simp) (by simp) List.nodup_nil h
      rw [← hT, ha] at h1
      cases h1
    | cons a t =>
      rw [hT] at ha
      obtain ⟨r, h1, h2, h3⟩ := all_holds kind xs _ _ _ _ a (by rw [ha]; simp)
      simp at h1
      subst h1
      refine ⟨by show a.length ≤ 9; omega, .inr ⟨rfl, rfl, hk, hc, h3, by rw [hH]; exact h3, fun ks h => ?_⟩⟩
      rw [hH] at h
      obtain ⟨r', t', h1, h2⟩ := all_least kind xs (xs.length + 1) ks [] _ _ (by simp) (by simp) List.nodup_nil h
      rw [ha] at h1
      simp at h1
      rw [show a = r' from h1.1]
      exact h2
  · rw [if_neg h0]
    exact ⟨by simp, .inl ⟨rfl, rfl, may_not h0 hx⟩⟩

theorem lin_err (kind : Int) (xs : List C6) : (linR kind xs).e ≠ 0 → (linR kind xs).ok = false ∧ (linR kind xs).a = [] := by
  unfold linR
  by_cases h0 : mayR kind xs = 0
  · rw [if_pos h0]
    cases allT kind xs <;> simp
  · rw [if_neg h0]
    simp

end Go.Proofs.Ytojcojoleodjmaa
