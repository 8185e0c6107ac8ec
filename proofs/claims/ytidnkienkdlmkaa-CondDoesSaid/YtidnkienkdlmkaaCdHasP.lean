/-
  The plain law of CondHas: who wakes has the mutex with which it waited. Condition: the map knows with which mutex each waits.
-/
import Derived.Test.YtidnkienkdlmkaaCdG
import Derived.Test.YtidnkienkdlmkaaMxTurn
import Derived.Test.YtidnkienkdlmkaaIMap
namespace Go.Proofs.Ytidnkienkdlmkaa
open Go.RowKit Go.Sh

/-- What the map has at x. -/
def kfind (kvs : List (Int × Value)) (x : Int) : Option Value := (kpos x kvs 0).map Prod.snd
abbrev miV (m : Bool) : Value := .int .i64 (if m then 1 else 0)

theorem kpos_snd (x : Int) : ∀ (kvs : List (Int × Value)) (i j : Nat), (kpos x kvs i).map Prod.snd = (kpos x kvs j).map Prod.snd
  | [], _, _ => rfl
  | (y, v) :: r, i, j => by
    unfold kpos
    split
    · rfl
    · exact kpos_snd x r _ _

theorem kfind_cons (y : Int) (v : Value) (r : List (Int × Value)) (x : Int) : kfind ((y, v) :: r) x = if y = x then some v else kfind r x := by
  unfold kfind
  by_cases h : y = x
  · subst h
    simp [kpos]
  · have hb : (x == y) = false := by simpa using fun e : x = y => h e.symm
    simp only [kpos, hb, if_neg h]
    exact kpos_snd x r _ _

theorem kfind_append (kvs : List (Int × Value)) (x : Int) (v : Value) (y : Int) (h : kfind kvs x = none) : kfind (kvs ++ [(x, v)]) y = if x = y then some v else kfind kvs y := by
  induction kvs with
  | nil => rw [List.nil_append, kfind_cons]
  | cons p r ih =>
    obtain ⟨a, u⟩ := p
    rw [kfind_cons] at h
    split at h
    · cases h
    · rename_i hne
      rw [List.cons_append, kfind_cons, ih h, kfind_cons]
      by_cases ha : a = y
      · subst ha
        rw [if_pos rfl, if_neg (fun e => hne e.symm), if_pos rfl]
      · rw [if_neg ha, if_neg ha]

theorem kfind_set (x : Int) (v : Value) (y : Int) : ∀ (kvs : List (Int × Value)) (i j : Nat) (u : Value), kpos x kvs i = some (i + j, u) → kfind (kvs.set j (x, v)) y = if x = y then some v else kfind kvs y
  | [], i, j, u, h => by unfold kpos at h; cases h
  | (a, b) :: r, i, j, u, h => by
    unfold kpos at h
    split at h
    · rename_i ha
      simp only [Option.some.injEq, Prod.mk.injEq] at h
      obtain ⟨h1, _⟩ := h
      obtain rfl : j = 0 := by omega
      obtain rfl : x = a := by simpa using ha
      rw [List.set_cons_zero, kfind_cons, kfind_cons]
      by_cases hy : x = y
      · rw [if_pos hy, if_pos hy]
      · rw [if_neg hy, if_neg hy, if_neg hy]
    · rename_i ha
      obtain ⟨hle, _⟩ := kpos_some h
      obtain ⟨j', rfl⟩ : ∃ j', j = j' + 1 := ⟨j - 1, by omega⟩
      rw [List.set_cons_succ, kfind_cons, kfind_cons, kfind_set x v y r (i + 1) j' u (by rw [h]; simp; omega)]
      by_cases hy : a = y
      · subst hy
        rw [if_pos rfl, if_neg (fun e => ha (by simpa using e)), if_pos rfl]
      · rw [if_neg hy, if_neg hy]

theorem kfind_put (kvs : List (Int × Value)) (x : Int) (v : Value) (y : Int) : kfind (kput kvs x v) y = if x = y then some v else kfind kvs y := by
  unfold kput
  cases h : kpos x kvs 0 with
  | none => exact kfind_append kvs x v y (by simp [kfind, h])
  | some q =>
    obtain ⟨j, u⟩ := q
    exact kfind_set x v y kvs 0 j u (by rw [h]; simp)

def HInv (s : KS) (kvs : List (Int × Value)) : Prop := ∀ x ∈ s.q, kfind kvs x.1 = some (miV x.2)

theorem put_own (s : KS) (m m' : Bool) (o : Option Int) (ws : List Int) : (s.put m o ws).own m' = if m = m' then o else s.own m' := by
  cases m <;> cases m' <;> rfl
theorem put_q (s : KS) (m : Bool) (o : Option Int) (ws : List Int) : (s.put m o ws).q = s.q := by cases m <;> rfl
theorem withQ_own' (s : KS) (q : List (Int × Bool)) (m : Bool) : (s.withQ q).own m = s.own m := by cases m <;> rfl
theorem withQ_q (s : KS) (q : List (Int × Bool)) : (s.withQ q).q = q := rfl

theorem lockR_own (own : Option Int) (ws : List Int) (who y : Int) (h : own = some y) : (lockR own ws who).own = some y := by
  rcases lockR_cases own ws who with h1 | ⟨_, h1⟩ | ⟨h0, _⟩ | h1 | ⟨_, _, _, h1⟩
  · rw [h1]; exact h
  · rw [h1]; exact h
  · rw [h] at h0; cases h0
  · rw [h1]; exact h
  · rw [h1]; exact h

theorem onK_own (s : KS) (m : Bool) (y : Int) (h : s.own m = some y) : (onK s).2.own m = some y := by
  unfold onK
  split
  · exact h
  · rename_i x r hq
    rw [withQ_own', put_own]
    split
    · rename_i hm
      subst hm
      exact lockR_own _ _ _ _ h
    · exact h

theorem sevK_own : ∀ (n : Nat) (s : KS) (m : Bool) (y : Int), s.own m = some y → (sevK n s).2.own m = some y
  | 0, _, _, _, h => h
  | n + 1, s, m, y, h => sevK_own n (onK s).2 m y (onK_own s m y h)

theorem sevK_sub : ∀ (n : Nat) (s : KS), ∀ x ∈ (sevK n s).2.q, x ∈ s.q
  | 0, _, _, h => h
  | n + 1, s, x, h => by
    have h1 := sevK_sub n (onK s).2 x h
    rw [onK_q] at h1
    exact List.mem_of_mem_tail h1

theorem onK_wakes (s : KS) : ∀ w ∈ (onK s).1, ∃ x ∈ s.q, w.who = x.1 ∧ (w.f = 0 → (onK s).2.own x.2 = some w.who) := by
  unfold onK
  split
  · intro w hw; simp at hw
  · rename_i x r hq
    intro w hw
    refine ⟨x, by rw [hq]; exact List.mem_cons_self, ?_⟩
    unfold onW at hw
    split at hw
    · simp at hw
      subst hw
      exact ⟨rfl, fun h => by simp at h⟩
    · split at hw
      · rename_i hd
        simp at hw
        subst hw
        refine ⟨rfl, fun _ => ?_⟩
        rw [withQ_own', put_own, if_pos rfl]
        rcases lockR_cases (s.own x.2) (s.ws x.2) x.1 with h1 | ⟨_, h1⟩ | ⟨_, _, h1⟩ | h1 | ⟨_, _, _, h1⟩ <;> rw [h1] at hd ⊢ <;> simp at hd ⊢
      · simp at hw

theorem sevK_wakes : ∀ (n : Nat) (s : KS), ∀ w ∈ (sevK n s).1, ∃ x ∈ s.q, w.who = x.1 ∧ (w.f = 0 → (sevK n s).2.own x.2 = some w.who)
  | 0, _, w, h => by simp [sevK] at h
  | n + 1, s, w, h => by
    rw [sevK] at h ⊢
    rcases List.mem_append.1 h with h1 | h1
    · obtain ⟨x, hx, e, hf⟩ := onK_wakes s w h1
      exact ⟨x, hx, e, fun h0 => sevK_own n _ _ _ (hf h0)⟩
    · obtain ⟨x, hx, e, hf⟩ := sevK_wakes n (onK s).2 w h1
      rw [onK_q] at hx
      exact ⟨x, List.mem_of_mem_tail hx, e, hf⟩

/-- What the walk needs of an act's wakes, where the map is kvs. -/
def WkOk (r : KR) (kvs : List (Int × Value)) (d : Int) (m : Bool) : Prop :=
  ∀ w ∈ r.wakes, ∃ mm : Bool, ((d = 3 ∨ d = 4) → kfind kvs w.who = some (miV mm)) ∧ (¬(d = 3 ∨ d = 4) → mm = m) ∧ (w.f = 0 → r.st.own mm = some w.who)

def hput (d who : Int) (m : Bool) (r : KR) (kvs : List (Int × Value)) : List (Int × Value) := if d = 2 ∧ r.err = 0 ∧ r.fault = 0 then kput kvs who (miV m) else kvs

theorem outQ_sub (q : List (Int × Bool)) (who : Int) : ∀ x ∈ outQ q who, x ∈ q := by
  intro x hx
  unfold outQ at hx
  rcases List.mem_append.1 hx with h | h
  · exact List.mem_of_mem_take h
  · exact List.mem_of_mem_drop h

theorem unlockR_wakes (own : Option Int) (ws : List Int) (who : Int) : ∀ w ∈ (unlockR own ws who).wakes, (unlockR own ws who).own = some w.who := by
  rcases unlockR_cases own ws who with h | h | ⟨_, _, h⟩ | ⟨x, r, _, _, h⟩ <;> rw [h] <;> simp

theorem has_law (s : KS) (d who : Int) (m : Bool) (kvs : List (Int × Value)) (hI : HInv s kvs) :
    HInv (doesK s d who m).st (hput d who m (doesK s d who m) kvs) ∧ WkOk (doesK s d who m) (hput d who m (doesK s d who m) kvs) d m := by
  unfold doesK
  split
  · rename_i h0
    subst h0
    refine ⟨?_, fun w hw => by simp at hw⟩
    simp only [hput, Int.reduceEq, false_and, if_false]
    intro x hx
    rw [put_q] at hx
    exact hI x hx
  · split
    · rename_i h0
      subst h0
      simp only [hput, Int.reduceEq, false_and, if_false]
      refine ⟨fun x hx => by rw [put_q] at hx; exact hI x hx, fun w hw => ⟨m, fun h => by simp at h, fun _ => rfl, fun _ => ?_⟩⟩
      rw [put_own, if_pos rfl]
      exact unlockR_wakes _ _ _ w hw
    · split
      · rename_i h0
        subst h0
        unfold waitK
        split
        · simp only [hput, Int.reduceEq, false_and, and_false, if_false]
          exact ⟨hI, fun w hw => by simp at hw⟩
        · rename_i hbad
          split
          · simp only [hput, Int.reduceEq, and_false, if_false]
            exact ⟨hI, fun w hw => by simp at hw⟩
          · split
            · simp only [hput, Int.reduceEq, false_and, and_false, if_false]
              exact ⟨hI, fun w hw => by simp at hw⟩
            · simp only [hput, and_self, if_true]
              have hq : inQ s.q who = false := by
                have h : badQ s who m = false := by simpa using hbad
                unfold badQ at h
                simp only [Bool.or_eq_false_iff] at h
                exact h.2.2.1
              refine ⟨?_, fun w hw => ⟨m, fun h => by simp at h, fun _ => rfl, fun _ => ?_⟩⟩
              · intro x hx
                rw [withQ_q] at hx
                rw [kfind_put]
                rcases List.mem_append.1 hx with h | h
                · have hne : who ≠ x.1 := by
                    rintro rfl
                    unfold inQ at hq
                    have : x.1 ∈ s.q.map Prod.fst := List.mem_map_of_mem h
                    rw [← List.contains_iff_mem, hq] at this
                    cases this
                  rw [if_neg hne]
                  exact hI x h
                · simp at h
                  subst h
                  rw [if_pos rfl]
              · rw [withQ_own', put_own, if_pos rfl]
                exact unlockR_wakes _ _ _ w hw
      · split
        · rename_i h0
          subst h0
          simp only [hput, Int.reduceEq, false_and, if_false]
          refine ⟨fun x hx => hI x (sevK_sub _ _ x hx), fun w hw => ?_⟩
          obtain ⟨x, hx, e, hf⟩ := sevK_wakes _ _ w hw
          exact ⟨x.2, fun _ => by rw [e]; exact hI x hx, fun h => absurd (.inl rfl) h, hf⟩
        · split
          · rename_i h0
            subst h0
            simp only [hput, Int.reduceEq, false_and, if_false]
            refine ⟨fun x hx => hI x (sevK_sub _ _ x hx), fun w hw => ?_⟩
            obtain ⟨x, hx, e, hf⟩ := sevK_wakes _ _ w hw
            exact ⟨x.2, fun _ => by rw [e]; exact hI x hx, fun h => absurd (.inr rfl) h, hf⟩
          · split
            · rename_i h0
              subst h0
              simp only [hput, Int.reduceEq, false_and, if_false]
              refine ⟨?_, fun w hw => by simp at hw⟩
              unfold kdropK
              split
              · exact fun x hx => hI x (outQ_sub _ _ x hx)
              · exact hI
            · rename_i h2 _ _ _
              simp only [hput, h2, false_and, if_false]
              exact ⟨hI, fun w hw => by simp at hw⟩

end Go.Proofs.Ytidnkienkdlmkaa
