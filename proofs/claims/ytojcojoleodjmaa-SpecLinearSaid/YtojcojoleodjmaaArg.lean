/-
  A slice of structs that came in, read as a list of what its elements are. No condition.
-/
import Derived.Test.YtojcojoleodjmaaOwn
import Derived.Deep.Slices
import Derived.Deep.Strs
import Derived.ProofKit
import Derived.OpenShut
import Derived.ChangeOld
namespace Go.Sh
open Go.RowKit Go.Deep Go.ChangeShapes

/-- What a reader sees of a slice: nothing in it; or its cells lie there. -/
def Rd {α : Type} (w : World) (enc : α → List Value) (v : Value) (xs : List α) : Prop :=
  (xs = [] ∧ ∃ ao cap, v = .slice ao 0 cap) ∨
  ∃ g off cap, v = .slice (some ⟨g, off, none⟩) xs.length cap ∧ ∀ j u, (xs.flatMap enc)[j]? = some u → w.cell? ⟨g, off + j, none⟩ = some u

theorem flatMap_len {α : Type} {k : Nat} {enc : α → List Value} (hk : ∀ x, (enc x).length = k) (xs : List α) : (xs.flatMap enc).length = xs.length * k := by
  induction xs with
  | nil => simp
  | cons x xs ih => rw [List.flatMap_cons, List.length_append, ih, hk, List.length_cons, Nat.add_mul]; omega

theorem flatMap_get {α : Type} {k : Nat} {enc : α → List Value} (hk : ∀ x, (enc x).length = k) : ∀ (xs : List α) (i j : Nat), j < k → (xs.flatMap enc)[i * k + j]? = xs[i]?.bind fun x => (enc x)[j]?
  | [], i, j, _ => by simp
  | x :: xs, 0, j, hj => by
    rw [List.flatMap_cons, List.getElem?_append_left (by rw [hk]; omega)]
    simp
  | x :: xs, i + 1, j, hj => by
    rw [List.flatMap_cons, List.getElem?_append_right (by rw [hk, Nat.add_mul]; omega), hk, Nat.add_mul, show i * k + 1 * k + j - k = i * k + j by omega, flatMap_get hk xs i j hj]
    simp

theorem Rd.later {α : Type} {w w' : World} {enc : α → List Value} {v : Value} {xs : List α} (h : Rd w enc v xs) (hb : Below w.heap.size w w') : Rd w' enc v xs := by
  rcases h with h | ⟨g, off, cap, hv, hc⟩
  · exact .inl h
  · refine .inr ⟨g, off, cap, hv, fun j u hu => ?_⟩
    have := hc j u hu
    rw [hb.cell (World.block_lt_of_cell? _ _ this)]
    exact this

section
variable {P : Program} {H : Type} {en : TypeId × Value → H} {w : World} {base : Nat} {spare : Nat → Bool} {held : Bool}

theorem open_list {α : Type} [Inhabited α] {k : Nat} {enc : α → List Value} {ok : α → Prop} {t e : TypeId} {fuel : Nat} {v : Value} {X : DataW H × List MemPlace}
    (ht : P.underlying t = some (.slice e)) (ce : P.cellsOf e = k) (hk : ∀ x, (enc x).length = k) (hk0 : 0 < k)
    (helem : ∀ fuel cs y, DataW.trod en P w base spare held fuel e cs = some y → ∃ x, cs = enc x ∧ ok x)
    (h : DataW.trod en P w base spare held fuel t [v] = some X) :
    ∃ xs : List α, Rd w enc v xs ∧ (∀ x ∈ xs, ok x) ∧ xs.length ≤ maxLen ∧ ∃ ao cap, v = .slice ao xs.length cap ∧ xs.length ≤ cap := by
  rcases open_slice ht h with ⟨hc, _⟩ | ⟨a, len, cap, m, n, D, Pl, hc, _, hl, hm, hmm, _, hx⟩
  · simp at hc
    subst hc
    exact ⟨[], .inl ⟨rfl, none, 0, rfl⟩, by simp, by simp, none, 0, rfl, by simp⟩
  · simp at hc
    subst hc
    have hlm : len ≤ m := by rw [hmm]; split <;> omega
    obtain ⟨f, hf⟩ := choose_lt (α := α) (n := len) (p := fun i x => w.cells? base (a.add (i * k)) k = some (enc x) ∧ ok x) (fun i hi => by
      obtain ⟨cs', h1, h2⟩ := hx i (by omega)
      obtain ⟨x, rfl, hok⟩ := helem _ _ _ h2
      rw [ce] at h1
      exact ⟨x, h1, hok⟩)
    refine ⟨(List.range len).map f, ?_, ?_, by simp; omega, some a, cap, by simp, by simpa using hl⟩
    · have hcell : ∀ j u, (((List.range len).map f).flatMap enc)[j]? = some u → w.cell? (a.add j) = some u := by
        intro j u hu
        have hj : j / k < len := by
          have := (List.getElem?_eq_some_iff.1 hu).1
          rw [flatMap_len hk] at this
          simp at this
          exact (Nat.div_lt_iff_lt_mul hk0).2 this
        have hj2 : j % k < k := Nat.mod_lt _ hk0
        obtain ⟨h1, _⟩ := hf (j / k) hj
        obtain ⟨_, _, h3⟩ := World.cells?_some h1
        have h4 := h3 (j % k) hj2
        have e1 := flatMap_get hk ((List.range len).map f) (j / k) (j % k) hj2
        have e2 : j / k * k + j % k = j := by rw [Nat.mul_comm]; exact Nat.div_add_mod j k
        rw [e2, hu] at e1
        have e3 : (a.add (j / k * k)).add (j % k) = a.add j := by
          unfold Addr.add
          by_cases z1 : j / k * k = 0 <;> by_cases z2 : j % k = 0
          · have : j = 0 := by omega
            simp_all
          · have : ¬ j = 0 := by omega
            simp [z1, z2, this]; omega
          · have : ¬ j = 0 := by omega
            simp [z1, z2, this]; omega
          · have : ¬ j = 0 := by omega
            simp [z1, z2, this]; omega
        rw [e3] at h4
        rw [h4]
        simpa [List.getElem?_range hj] using e1.symm
      by_cases h0 : len = 0
      · subst h0
        exact .inl ⟨by simp, _, _, rfl⟩
      · obtain ⟨b, off, spot⟩ := a
        have hx0 : (((List.range len).map f).flatMap enc)[0]? = (enc (f 0))[0]? := by
          have := flatMap_get hk ((List.range len).map f) 0 0 hk0
          simpa [show 0 < len by omega] using this
        obtain ⟨u, hu⟩ : ∃ u, (enc (f 0))[0]? = some u := ⟨_, List.getElem?_eq_getElem (by rw [hk]; exact hk0)⟩
        have hc0 := hcell 0 u (by rw [hx0, hu])
        have hspot : spot = none := by simpa [Addr.add] using World.cell?_spot hc0
        subst hspot
        refine .inr ⟨b, off, cap, by simp, fun j u hu => ?_⟩
        have := hcell j u hu
        have ha : (⟨b, off, none⟩ : Addr).add j = ⟨b, off + j, none⟩ := by unfold Addr.add; split <;> simp_all
        rw [ha] at this
        exact this
    · intro x hx
      simp at hx
      obtain ⟨i, hi, rfl⟩ := hx
      exact (hf i hi).2

end

end Go.Sh
