/-
  A slice out of which one element was taken in place (slices.Delete). No condition.
-/
import Derived.Test.YtidnkienkdlmkaaApp
import Derived.Lib.SliceRun
namespace Go.Sh
open Go.RowKit

section
variable {α : Type} {e : TypeId} {k : Nat} {enc : α → List Value}

theorem Sl.deleted (hk : ∀ x, (enc x).length = k) {g off cap : Nat} {cur : Array Value} {xs : List α} (h1 : xs.length ≤ cap) (h2 : cap ≤ maxLen) (h3 : off + cap * k ≤ cur.size)
    (h4 : (cur.toList.drop off).take (xs.length * k) = xs.flatMap enc) (i : Nat) (hi : i < xs.length) (zs : List Value) (hz : zs.length = k) :
    Sl e k enc (.slice (some ⟨g, off, none⟩) (xs.length - 1) cap) (xs.take i ++ xs.drop (i + 1)) [(g, .cells (setMany (setMany cur (off + i * k) ((xs.drop (i + 1)).flatMap enc)) (off + (xs.length - 1) * k) zs) e (0, 0))] := by
  have hle : (xs.length - 1) * k + k = xs.length * k := by
    have := Nat.add_mul (xs.length - 1) 1 k
    rw [show xs.length - 1 + 1 = xs.length by omega] at this
    omega
  have hlc : xs.length * k ≤ cap * k := Nat.mul_le_mul_right _ h1
  have hik : i * k + (xs.length - (i + 1)) * k = (xs.length - 1) * k := by rw [← Nat.add_mul, show i + (xs.length - (i + 1)) = xs.length - 1 by omega]
  have hl : (xs.take i ++ xs.drop (i + 1)).length = xs.length - 1 := by simp; omega
  have hd : ((xs.drop (i + 1)).flatMap enc).length = (xs.length - (i + 1)) * k := by rw [flatMap_length hk, List.length_drop]
  have ht : ((xs.take i).flatMap enc).length = i * k := by rw [flatMap_length hk, List.length_take, Nat.min_eq_left (by omega)]
  refine .inr ⟨g, off, cap, _, by rw [hl], rfl, by omega, h2, by simp only [size_setMany]; exact h3, ?_⟩
  have hc : ∀ j, j < xs.length * k → cur[off + j]? = (xs.flatMap enc)[j]? := by
    intro j hj
    rw [← h4, List.getElem?_take, if_pos hj, List.getElem?_drop, Array.getElem?_toList]
  apply List.ext_getElem?
  intro j
  rw [hl, List.getElem?_take, List.getElem?_drop, Array.getElem?_toList]
  by_cases hj : j < (xs.length - 1) * k
  · rw [if_pos hj, get_setMany _ _ _ _ (by rw [size_setMany, hz]; omega), if_neg (by omega), get_setMany _ _ _ _ (by rw [hd]; omega), hd, List.flatMap_append]
    by_cases hj2 : i * k ≤ j
    · rw [if_pos (by omega), List.getElem?_append_right (by rw [ht]; exact hj2), ht, show off + j - (off + i * k) = j - i * k by omega]
    · rw [if_neg (by omega), List.getElem?_append_left (by rw [ht]; omega), hc j (by omega)]
      conv => lhs; rw [show xs = xs.take i ++ xs.drop i by simp]
      rw [List.flatMap_append, List.getElem?_append_left (by rw [ht]; omega)]
  · rw [if_neg hj, eq_comm, List.getElem?_eq_none_iff, flatMap_length hk, hl]
    omega

end

end Go.Sh
