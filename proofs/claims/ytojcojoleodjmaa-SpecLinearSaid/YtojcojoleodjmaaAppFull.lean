/-
  append onto a slice without room: nothing of what was owned is touched. Conditions: the new length fits the model's bounds.
-/
import Derived.Test.YtojcojoleodjmaaApp
import Derived.Test.YtojcojoleodjmaaArg
namespace Go.Sh
open Go.RowKit

section
variable {P : Program} {B : Nat} {w0 w : World} {F : List (Nat × Obj)} {α : Type} {e : TypeId} {k : Nat} {enc : α → List Value} {v : Value} {xs : List α}

/-- What an append reads of the old slice: nil, or its cells. -/
def Old (w : World) (enc : α → List Value) (v : Value) (xs : List α) : Prop :=
  (v = .slice none 0 0 ∧ xs = []) ∨ ∃ a, v = .slice (some a) xs.length xs.length ∧ ∀ j u, (xs.flatMap enc)[j]? = some u → w.cell? (a.add j) = some u

theorem run_append_full (t ty : TypeId) (i : TypeInfo) (z : Value) (bytes : Nat) (ht : P.underlying t = some (.slice e)) (hi : P.info? e = some i) (hz : i.zero = some z)
    (hsize : i.size = k) (hby : i.bytes = bytes) (hzs : z.cells.size = k) (hk : ∀ x, (enc x).length = k)
    (hS : Old w enc v xs) (hO : Own B w0 w F) (ad : Addr) (ys : List α) (c : Nat) (hnews : ∀ j u, (ys.flatMap enc)[j]? = some u → w.cell? (ad.add j) = some u)
    (hm : 0 < ys.length) (h63 : xs.length + ys.length ≤ maxLen) (hbytes : (xs.length + ys.length) * bytes ≤ 140737488355328) :
    ∃ g off cap w' L', (Builtin.append_ #[t, t] ty #[v, .slice (some ad) ys.length c]).run P w = .ok (.slice (some ⟨g, off, none⟩) (xs.length + ys.length) cap) w' ∧
      Sl e k enc (.slice (some ⟨g, off, none⟩) (xs.length + ys.length) cap) (xs ++ ys) L' ∧ Own B w0 w' (L' ++ F) ∧ w.heap.size ≤ w'.heap.size := by
  subst hsize
  subst hby
  have hsm : xs.length + ys.length ≤ 9223372036854775807 := by simp only [maxLen] at h63; omega
  have hyl := flatMap_length hk ys
  have hxl := flatMap_length hk xs
  have hap : (xs ++ ys).length = xs.length + ys.length := List.length_append
  rcases hS with ⟨rfl, rfl⟩ | ⟨a, rfl, holds⟩
  · have hr := run_append_nil (P := P) w t ty e i z ht hi hz ad ys.length c (ys.flatMap enc) hyl hnews hm (by omega) (by simp at hbytes; omega)
    refine ⟨_, _, _, _, [(w.drew.heap.size, _)], by simpa using hr, ?_, ((hO.drew).alloc _), by simp⟩
    have := Sl.fresh (e := e) w.drew.heap.size ys (grownCap w ys.length 0 e) hk (Builtin.zeroCells z.cells (grownCap w ys.length 0 e - ys.length)) (by rw [size_zeroCells, hzs]) (grownCap_ge w ys.length 0 e) (grownCap_le_maxLen w ys.length 0 e (by omega))
    simpa using this
  · have hr := run_append_grow (P := P) w t ty e i z ht hi hz a xs.length xs.length (xs.flatMap enc) hxl holds ad ys.length c (ys.flatMap enc) hyl hnews (by omega) (by omega) (growslice_fits (by omega) hbytes)
    refine ⟨_, _, _, _, [(w.drew.heap.size, _)], hr, ?_, ((hO.drew).alloc _), by simp⟩
    have := Sl.fresh (e := e) w.drew.heap.size (xs ++ ys) (grownCap w (xs.length + ys.length) xs.length e) hk (Builtin.zeroCells z.cells (grownCap w (xs.length + ys.length) xs.length e - (xs.length + ys.length))) (by rw [size_zeroCells, hzs, hap]) (by rw [hap]; exact grownCap_ge w _ _ e) (grownCap_le_maxLen w _ _ e h63)
    rw [hap] at this
    simpa using this

theorem step_append_full {ops : Array Oper} {o : Oper} {a : Act} {K : Act → World → Prop} {Q : Exit → Act → World → Prop} {E : Prop} (hgd : o.guard = none) (s x : Operand) (t : TypeId)
    (ho : o.op = .call { callee := .builtin .append, args := #[s, x], argTypes := #[t, t] })
    (i : TypeInfo) (z : Value) (bytes : Nat) (ht : P.underlying t = some (.slice e)) (hi : P.info? e = some i) (hz : i.zero = some z)
    (hsize : i.size = k) (hby : i.bytes = bytes) (hzs : z.cells.size = k) (hk : ∀ x, (enc x).length = k)
    (hs : a.eval s = v) (hS : Old w enc v xs) (hO : Own B w0 w F) (ad : Addr) (ys : List α) (m c : Nat) (hx : a.eval x = .slice (some ad) m c) (hml : ys.length = m)
    (hnews : ∀ j u, (ys.flatMap enc)[j]? = some u → w.cell? (ad.add j) = some u)
    (hm : 0 < m) (h63 : xs.length + m ≤ maxLen) (hbytes : (xs.length + m) * bytes ≤ 140737488355328)
    (h : ∀ g off cap w' L', Sl e k enc (.slice (some ⟨g, off, none⟩) (xs.length + m) cap) (xs ++ ys) L' → Own B w0 w' (L' ++ F) → w.heap.size ≤ w'.heap.size → K (a.put o.dst (.slice (some ⟨g, off, none⟩) (xs.length + m) cap)) w') :
    if Region.wanted o (yielded ops a.tmps) = true then Oper.wp P o a w K Q else E := by
  have hw : Region.wanted o (yielded ops a.tmps) = true := by simp [Region.wanted, hgd]
  rw [if_pos hw]
  subst hml
  obtain ⟨g, off, cap, w', L', hr, h2, h3, h4⟩ := run_append_full (P := P) t o.type i z bytes ht hi hz hsize hby hzs hk hS hO ad ys c hnews hm h63 hbytes
  unfold Oper.wp execOp
  simp only [ho, resolve, invoke, builtin, Sem.run_bind, Sem.run_pure, Result.andThen_ok, List.map_toArray, List.map_cons, List.map_nil, hs, hx, hr]
  exact h g off cap w' L' h2 h3 h4

end
end Go.Sh
