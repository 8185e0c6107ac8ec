/-
  spec, plain: calls that were done one by one. No condition.
-/
import Derived.Test.YtojcojoleodjmaaSpW
namespace Go.Proofs.Ytojcojoleodjmaa
open Go.RowKit Go.Shelf Go.Sh

def runT (kind : Int) : List C6 → List V2 → Option (List V2)
  | [], l => some l
  | c :: cs, l => if (withT kind l c).2 = true then runT kind cs (withT kind l c).1 else none
theorem runT_push (kind : Int) (c : C6) : ∀ (xs : List C6) (l m : List V2), runT kind xs l = some m → (withT kind m c).2 = true → runT kind (xs ++ [c]) l = some (withT kind m c).1
  | [], l, m, h, hc => by
    have : l = m := by simpa [runT] using h
    subst this
    show (if (withT kind l c).2 = true then some (withT kind l c).1 else none) = _
    rw [if_pos hc]
  | x :: xs, l, m, h, hc => by
    unfold runT at h
    by_cases h1 : (withT kind l x).2 = true
    · rw [if_pos h1] at h
      show (if (withT kind l x).2 = true then runT kind (xs ++ [c]) (withT kind l x).1 else none) = _
      rw [if_pos h1]
      exact runT_push kind c xs _ m h hc
    · rw [if_neg h1] at h; cases h

/-- Calls one behind the other, each told what it must; the time; the thing's values. -/
def HistOk (kind : Int) (xs : List C6) (now : Int) (l : List V2) : Prop :=
  (∀ i, i < xs.length → badB (xs.getD i default) = false ∧ (xs.getD i default).til ≠ 0 ∧ (xs.getD i default).til ≤ now) ∧ (∀ i j, i < j → j < xs.length → (xs.getD i default).til ≤ (xs.getD j default).fro) ∧ runT kind xs (begunT kind) = some l ∧ 1 ≤ now
theorem hist_nil (kind : Int) : HistOk kind [] 1 (begunT kind) := ⟨fun _ h => by simp at h, fun _ _ _ h => by simp at h, rfl, Int.le_refl _⟩

theorem getD_push (xs : List C6) (c : C6) (i : Nat) : (xs ++ [c]).getD i default = if i < xs.length then xs.getD i default else if i = xs.length then c else default := by
  simp only [List.getD_eq_getElem?_getD]
  by_cases h : i < xs.length
  · rw [if_pos h, List.getElem?_append_left h]
  · rw [if_neg h, List.getElem?_append_right (by omega)]
    by_cases e : i = xs.length
    · subst e; simp
    · rw [if_neg e, List.getElem?_eq_none (by simp; omega)]; rfl

theorem hist_push {kind : Int} {xs : List C6} {now now' : Int} {l l' : List V2} {c : C6} (h : HistOk kind xs now l) (h1 : c.op = 1 ∨ c.op = 2) (h2 : c.fro = now) (h3 : c.til = now + 1) (h4 : withT kind l c = (l', true)) (h5 : now + 1 ≤ now') : HistOk kind (xs ++ [c]) now' l' := by
  obtain ⟨a, b, r, n⟩ := h
  refine ⟨fun i hi => ?_, fun i j hij hj => ?_, ?_, by omega⟩
  · rw [getD_push]
    by_cases h : i < xs.length
    · rw [if_pos h]
      obtain ⟨a1, a2, a3⟩ := a i h
      exact ⟨a1, a2, by omega⟩
    · rw [if_neg h, if_pos (by simp at hi; omega)]
      refine ⟨?_, by omega, by omega⟩
      unfold badB
      rw [h2, h3]
      have e1 : ¬ (now < 1) := by omega
      have e2 : ¬ (now + 1 ≤ now) := by omega
      rcases h1 with h1 | h1 <;> simp [h1, e1, e2]
  · simp at hj
    rw [getD_push, getD_push, if_pos (by omega)]
    by_cases h : j < xs.length
    · rw [if_pos h]; exact b i j hij h
    · rw [if_neg h, if_pos (by omega), h2]
      exact (a i (by omega)).2.2
  · have := runT_push kind c xs _ _ r (by rw [h4])
    rw [h4] at this
    exact this

/-- 0, 1, .. -/
def rng (n : Nat) : List Int := (List.range n).map fun (i : Nat) => (i : Int)
theorem rng_len (n : Nat) : (rng n).length = n := by simp [rng]
theorem rng_succ (n : Nat) : rng (n + 1) = rng n ++ [(n : Int)] := by simp [rng, List.range_succ]
theorem rng_has (n k : Nat) : (rng n).contains (k : Int) = decide (k < n) := by
  rw [Bool.eq_iff_iff, List.contains_iff_mem]
  unfold rng
  simp only [List.mem_map, List.mem_range, decide_eq_true_eq]
  exact ⟨fun ⟨a, h1, h2⟩ => by omega, fun h => ⟨k, h, rfl⟩⟩

theorem hist_chk {kind : Int} {xs : List C6} {now : Int} {l : List V2} (h : HistOk kind xs now l) : checkR xs = 0 := by
  obtain ⟨a, b, _, _⟩ := h
  refine chk_no fun j hj => ?_
  unfold nokB
  rw [(a j hj).1, Bool.false_or, List.any_eq_false]
  intro o ho
  obtain ⟨i, hi, rfl⟩ := List.mem_take_iff_getElem.1 ho
  have hi2 : i < j := by omega
  have e : xs.getD i default = xs[i] := by simp [show i < xs.length by omega]
  have h1 := (a i (by omega)).2.1
  have h2 := b i j hi2 hj
  rw [e] at h1 h2
  have : endedB xs[i] (xs.getD j default) = true := by
    unfold endedB
    rw [Bool.and_eq_true]
    exact ⟨by simpa using h1, by simpa using h2⟩
  unfold overB
  rw [this]
  simp

theorem hist_late {kind : Int} {xs : List C6} {now : Int} {l : List V2} (h : HistOk kind xs now l) {k : Nat} (hk : k < xs.length) : lateB xs (xs.getD k default) (rng k) = false := by
  obtain ⟨a, b, _, _⟩ := h
  unfold lateB
  rw [List.any_eq_false]
  intro z hz
  unfold rng at hz
  obtain ⟨j, hj, rfl⟩ := List.mem_map.1 hz
  have hj2 := List.mem_range.1 hj
  rw [Int.toNat_natCast]
  have h1 := b j k hj2 hk
  have h2 := (bad_no (a j (by omega)).1).2
  have h3 := (bad_no (a k hk).1).2
  have h4 := (a k hk).2.1
  have h5 := (a j (by omega)).2.1
  unfold endedB
  rw [Bool.and_eq_true]
  intro hc
  have hc2 := hc.2
  simp only [decide_eq_true_eq] at hc2
  rcases h2 with h2 | h2
  · exact h5 h2
  · rcases h3 with h3 | h3
    · exact h4 h3
    · omega

theorem hist_all {kind : Int} {xs : List C6} {now : Int} {l0 : List V2} (h : HistOk kind xs now l0) : ∀ (cs : List C6) (k : Nat) (l : List V2) (f : Nat), xs.drop k = cs → k ≤ xs.length → runT kind cs l ≠ none → f + k = xs.length + 1 →
    ∃ t, allO kind xs f (rng k) ((xs.length : Int) - k) l = rng xs.length :: t
  | [], k, l, f, hd, hk, _, hf => by
    obtain rfl : k = xs.length := by have := List.drop_eq_nil_iff.1 hd; omega
    obtain rfl : f = 0 + 1 := by omega
    rw [allO_succ]
    exact ⟨_, by unfold headO; rw [if_pos (by omega)]; rfl⟩
  | c :: cs, k, l, f, hd, hk, hr, hf => by
    have hk2 : k < xs.length := by
      rcases Nat.lt_or_ge k xs.length with h' | h'
      · exact h'
      · rw [List.drop_of_length_le h'] at hd; cases hd
    obtain ⟨f, rfl⟩ : ∃ g, f = g + 1 := ⟨f - 1, by omega⟩
    have hd2 := List.drop_eq_getElem_cons hk2
    rw [hd] at hd2
    injection hd2 with hc hcs
    have hg : xs.getD k default = c := by simp [hk2, hc]
    unfold runT at hr
    have hw : (withT kind l c).2 = true := Classical.byContradiction fun hw => hr (if_neg hw)
    rw [if_pos hw] at hr
    obtain ⟨t, ht⟩ := hist_all h cs (k + 1) (withT kind l c).1 f hcs.symm (by omega) hr (by omega)
    rw [allO_succ, show headO (rng k) ((xs.length : Int) - k) = [] from if_neg (by omega), List.nil_append]
    have hopen : openN c = 1 := by unfold openN; rw [if_neg (by rw [← hg]; exact (h.1 k hk2).2.1)]
    have hnext : nextO kind xs (rng k) l k = some (withT kind l c).1 := by
      unfold nextO
      rw [rng_has, if_neg (by simp), hist_late h hk2, if_neg (by simp), hg, if_pos hw]
    have hrest : restO kind xs f (rng k) ((xs.length : Int) - k) l k = rng xs.length :: t := by
      unfold restO
      rw [hnext]
      show allO kind xs f (rng k ++ [(k : Int)]) ((xs.length : Int) - k - openN (xs.getD k default)) _ = _
      rw [hg, hopen, ← rng_succ, show (xs.length : Int) - k - 1 = (xs.length : Int) - ((k + 1 : Nat) : Int) by omega]
      exact ht
    obtain ⟨m, t2, hm, hne, ht2⟩ := flat_first (restO kind xs f (rng k) ((xs.length : Int) - k) l) xs.length k hk2 (by rw [hrest]; simp)
    have hmk : m = k := by
      rcases Nat.lt_or_ge m k with h' | h'
      · refine absurd ?_ hne
        unfold restO
        rw [show nextO kind xs (rng k) l m = none by unfold nextO; rw [rng_has, if_pos (by simp [h'])]]
      · omega
    subst hmk
    exact ⟨t ++ t2, by rw [ht2, hrest]; rfl⟩

theorem opens_full {xs : List C6} (h : ∀ i, i < xs.length → (xs.getD i default).til ≠ 0) : opens xs = xs.length := by
  unfold opens
  rw [show xs.map openN = xs.map (fun _ => (1 : Int)) from List.map_congr_left fun x hx => by
    obtain ⟨i, hi, rfl⟩ := List.getElem_of_mem hx
    have := h i hi
    unfold openN
    rw [if_neg (by simpa [hi] using this)]]
  clear h
  induction xs with
  | nil => rfl
  | cons x r ih => simp only [List.map_cons, List.sum_cons, List.length_cons, ih]; omega

theorem hist_law {kind : Int} {xs : List C6} {now : Int} {l : List V2} (h : HistOk kind xs now l) (hk : knownB kind = true) (hx : xs.length ≤ 8) : linR kind xs = ⟨rng xs.length, true, 0⟩ ∧ holdsR kind xs (rng xs.length) = true := by
  have hc := hist_chk h
  have hm : mayR kind xs = 0 := by unfold mayR; rw [if_pos hk, if_pos hc, if_neg (by omega)]
  obtain ⟨t, ht⟩ := hist_all h xs 0 (begunT kind) (xs.length + 1) (by simp) (by omega) (by rw [h.2.2.1]; simp) (by omega)
  have hL : linR kind xs = ⟨rng xs.length, true, 0⟩ := by
    unfold linR
    rw [if_pos hm]
    have : allT kind xs = rng xs.length :: t := by
      unfold allT
      rw [if_pos hm, opens_full (fun i hi => (h.1 i hi).2.1)]
      simpa [rng] using ht
    rw [this]
  refine ⟨hL, ?_⟩
  obtain ⟨_, hl | hl⟩ := lin_law kind xs hx
  · rw [hL] at hl
    exact absurd hl.1 (by simp)
  · rw [hL] at hl
    exact hl.2.2.2.2.2.1

end Go.Proofs.Ytojcojoleodjmaa
