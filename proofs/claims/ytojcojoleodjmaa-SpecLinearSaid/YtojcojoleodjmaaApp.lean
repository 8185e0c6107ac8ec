/-
  append onto a slice that the call owns, wherever it lies in its row; stores into an owned block. Conditions: the new length fits the model's bounds.
-/
import Derived.Test.YtojcojoleodjmaaOwn
import Derived.Lib.AppendZeros
namespace Go.Sh
open Go.RowKit

def setMany (c : Array Value) : Nat → List Value → Array Value
  | _, [] => c
  | o, v :: r => setMany (c.setIfInBounds o v) (o + 1) r

theorem size_setMany : ∀ (vs : List Value) (o : Nat) (c : Array Value), (setMany c o vs).size = c.size
  | [], _, _ => rfl
  | v :: r, o, c => by rw [setMany, size_setMany r]; simp

theorem get_setMany : ∀ (vs : List Value) (o : Nat) (c : Array Value) (i : Nat), o + vs.length ≤ c.size →
    (setMany c o vs)[i]? = if o ≤ i ∧ i < o + vs.length then vs[i - o]? else c[i]?
  | [], o, c, i, _ => by simp [setMany]; omega
  | v :: r, o, c, i, h => by
    rw [setMany, get_setMany r (o + 1) _ i (by simp at h ⊢; omega)]
    simp only [List.length_cons] at h ⊢
    by_cases h1 : i = o
    · subst h1
      rw [if_neg (by omega), if_pos (by omega)]
      simp [show i < c.size by omega]
    · by_cases h2 : o + 1 ≤ i ∧ i < o + 1 + r.length
      · rw [if_pos h2, if_pos (by omega)]
        rw [show i - o = (i - (o + 1)) + 1 by omega, List.getElem?_cons_succ]
      · rw [if_neg h2, if_neg (by omega)]
        simp [show ¬ o = i by omega]

section
variable {B : Nat} {w0 w w' : World} {L : List (Nat × Obj)}

theorem Own.setCells {b : Nat} {t : TypeId} : ∀ (vs : List Value) (o : Nat) (w : World) (c : Array Value), Own B w0 w ((b, .cells c t (0, 0)) :: L) →
    Own B w0 (w.setCells b o vs) ((b, .cells (setMany c o vs) t (0, 0)) :: L)
  | [], _, _, _, h => h
  | v :: r, o, w, c, h => by
    rw [World.setCells, setMany]
    exact Own.setCells r (o + 1) _ _ (h.set o v)

end

theorem news_one {w : World} {a : Addr} {x : Value} (h : w.cell? a = some x) : ∀ j u, [x][j]? = some u → w.cell? (a.add j) = some u := by
  intro j u hj
  match j, hj with
  | 0, hj => simp at hj; subst hj; simpa [Addr.add] using h
  | n + 1, hj => simp at hj

theorem size_setCells (w : World) (b : Nat) : ∀ (o : Nat) (vs : List Value), (w.setCells b o vs).heap.size = w.heap.size := fun o vs => by
  induction vs generalizing w o with
  | nil => rfl
  | cons v r ih => rw [World.setCells, ih]; simp

theorem flatMap_length {α : Type} {k : Nat} {enc : α → List Value} (hk : ∀ x, (enc x).length = k) (xs : List α) : (xs.flatMap enc).length = xs.length * k := by
  induction xs with
  | nil => simp
  | cons x xs ih => rw [List.flatMap_cons, List.length_append, ih, hk, List.length_cons, Nat.add_mul]; omega

section
variable {P : Program} {B : Nat} {w0 w : World} {F : List (Nat × Obj)} {α : Type} {e : TypeId} {k : Nat} {enc : α → List Value} {v : Value} {xs : List α} {L : List (Nat × Obj)}

theorem Sl.cells (h : Sl e k enc v xs L) (hO : Own B w0 w (L ++ F)) {a : Addr} {n cap : Nat} (hv : v = .slice (some a) n cap) :
    ∀ j u, (xs.flatMap enc)[j]? = some u → w.cell? (a.add j) = some u := by
  intro j u hu
  rcases h with ⟨rfl, rfl, rfl⟩ | ⟨g, off, cap', cur, rfl, rfl, h1, h2, h3, h4⟩
  · simp at hu
  · simp only [Value.slice.injEq, Option.some.injEq] at hv
    obtain ⟨rfl, _, _⟩ := hv
    have hh : w.heap[g]? = some (.cells cur e (0, 0)) := hO.get (g, .cells cur e (0, 0)) (by simp)
    have ha : (⟨g, off, none⟩ : Addr).add j = ⟨g, off + j, none⟩ := by unfold Addr.add; split <;> simp_all
    rw [ha]
    simp only [World.cell?, hh]
    rw [← h4, List.getElem?_take] at hu
    split at hu
    · simpa using hu
    · cases hu

/-- A fresh row that holds the elements, and zeros behind. -/
theorem Sl.fresh (g : Nat) (xs : List α) (cap : Nat) (hk : ∀ x, (enc x).length = k) (zs : Array Value) (hzs : zs.size = (cap - xs.length) * k) (h1 : xs.length ≤ cap) (h2 : cap ≤ maxLen) :
    Sl e k enc (.slice (some ⟨g, 0, none⟩) xs.length cap) xs [(g, .cells ((xs.flatMap enc).toArray ++ zs) e (0, 0))] := by
  refine .inr ⟨g, 0, cap, _, rfl, rfl, h1, h2, ?_, ?_⟩
  · simp only [Array.size_append, List.size_toArray, flatMap_length hk, hzs, Nat.zero_add, ← Nat.add_mul]
    rw [show xs.length + (cap - xs.length) = cap by omega]
    exact Nat.le_refl _
  · simp only [Array.toList_append, List.drop_zero]
    rw [← flatMap_length hk]
    exact List.take_left

theorem Sl.take {g off n cap : Nat} (h : Sl e k enc (.slice (some ⟨g, off, none⟩) n cap) xs L) (hk : ∀ x, (enc x).length = k) (i : Nat) (hi : i ≤ n) : Sl e k enc (.slice (some ⟨g, off, none⟩) i cap) (xs.take i) L := by
  rcases h with ⟨h, _⟩ | ⟨g', off', cap', cur, hv, rfl, h1, h2, h3, h4⟩
  · cases h
  · simp only [Value.slice.injEq, Option.some.injEq, Addr.mk.injEq] at hv
    obtain ⟨⟨rfl, rfl, _⟩, rfl, rfl⟩ := hv
    have hl : (xs.take i).length = i := by simp; omega
    refine .inr ⟨g, off, cap, cur, by rw [hl], rfl, by omega, h2, h3, ?_⟩
    have e1 : xs.flatMap enc = (xs.take i).flatMap enc ++ (xs.drop i).flatMap enc := by rw [← List.flatMap_append, List.take_append_drop]
    have e2 := flatMap_length hk (xs.take i)
    rw [hl] at e2 ⊢
    rw [e1] at h4
    have e3 := congrArg (List.take (i * k)) h4
    rw [List.take_take, List.take_left' e2, Nat.min_eq_left (Nat.mul_le_mul_right _ hi)] at e3
    exact e3

theorem Sl.drop {g off n cap : Nat} (h : Sl e k enc (.slice (some ⟨g, off, none⟩) n cap) xs L) (hk : ∀ x, (enc x).length = k) (i : Nat) (hi : i ≤ n) : Sl e k enc (.slice (some ⟨g, off + i * k, none⟩) (n - i) (cap - i)) (xs.drop i) L := by
  rcases h with ⟨h, _⟩ | ⟨g', off', cap', cur, hv, rfl, h1, h2, h3, h4⟩
  · cases h
  · simp only [Value.slice.injEq, Option.some.injEq, Addr.mk.injEq] at hv
    obtain ⟨⟨rfl, rfl, _⟩, rfl, rfl⟩ := hv
    have hl : (xs.drop i).length = xs.length - i := by simp
    refine .inr ⟨g, off + i * k, cap - i, cur, by rw [hl], rfl, by omega, by omega, ?_, ?_⟩
    · have : i * k + (cap - i) * k = cap * k := by rw [← Nat.add_mul]; congr 1; omega
      omega
    · have e1 : xs.flatMap enc = (xs.take i).flatMap enc ++ (xs.drop i).flatMap enc := by rw [← List.flatMap_append, List.take_append_drop]
      have e2 := flatMap_length hk (xs.take i)
      rw [List.length_take, Nat.min_eq_left hi] at e2
      rw [e1] at h4
      have e3 := congrArg (List.drop (i * k)) h4
      rw [List.drop_take, List.drop_drop, List.drop_left' e2] at e3
      rw [hl, Nat.sub_mul]
      exact e3

/-- 's[i:]' at the capacity keeps the old address. -/
theorem Sl.dropIf {g off n cap : Nat} (h : Sl e k enc (.slice (some ⟨g, off, none⟩) n cap) xs L) (hk : ∀ x, (enc x).length = k) (i : Nat) (hi : i ≤ n) (c : Prop) [Decidable c] (hc : c → cap = i) :
    ∃ off', (if c then some (⟨g, off, none⟩ : Addr) else some ⟨g, off + i * k, none⟩) = some ⟨g, off', none⟩ ∧ Sl e k enc (.slice (some ⟨g, off', none⟩) (n - i) (cap - i)) (xs.drop i) L := by
  have hd := h.drop hk i hi
  by_cases hc' : c
  · have hci := hc hc'
    rw [if_pos hc']
    refine ⟨off, rfl, ?_⟩
    rcases h with ⟨h, _⟩ | ⟨g', off', cap', cur, hv, rfl, h1, h2, h3, h4⟩
    · cases h
    · simp only [Value.slice.injEq, Option.some.injEq, Addr.mk.injEq] at hv
      obtain ⟨⟨rfl, rfl, _⟩, rfl, rfl⟩ := hv
      have hx : xs.drop i = [] := List.drop_eq_nil_of_le (by omega)
      rw [hx]
      exact .inr ⟨g, off, cap - i, cur, by simp; omega, rfl, by simp, by omega, by rw [hci]; simp; omega, by simp⟩
  · rw [if_neg hc']
    exact ⟨_, rfl, hd⟩

theorem run_append_sl (t ty : TypeId) (i : TypeInfo) (z : Value) (bytes : Nat) (ht : P.underlying t = some (.slice e)) (hi : P.info? e = some i) (hz : i.zero = some z)
    (hsize : i.size = k) (hby : i.bytes = bytes) (hzs : z.cells.size = k) (hk : ∀ x, (enc x).length = k) (h1c : ∀ x, ∀ u ∈ enc x, u.oneCell' = true)
    (hS : Sl e k enc v xs L) (hO : Own B w0 w (L ++ F)) (ad : Addr) (ys : List α) (c : Nat) (hnews : ∀ j u, (ys.flatMap enc)[j]? = some u → w.cell? (ad.add j) = some u)
    (hm : 0 < ys.length) (h63 : xs.length + ys.length ≤ maxLen) (hbytes : (xs.length + ys.length) * bytes ≤ 140737488355328) :
    ∃ g off cap w' L', (Builtin.append_ #[t, t] ty #[v, .slice (some ad) ys.length c]).run P w = .ok (.slice (some ⟨g, off, none⟩) (xs.length + ys.length) cap) w' ∧
      Sl e k enc (.slice (some ⟨g, off, none⟩) (xs.length + ys.length) cap) (xs ++ ys) L' ∧ Own B w0 w' (L' ++ F) ∧ g < w'.heap.size ∧ w.heap.size ≤ w'.heap.size := by
  subst hsize
  subst hby
  have hsm : xs.length + ys.length ≤ 9223372036854775807 := by simp only [maxLen] at h63; omega
  have hyl := flatMap_length hk ys
  have hxl := flatMap_length hk xs
  have h1n : ∀ u ∈ ys.flatMap enc, u.oneCell' = true := by
    intro u hu
    obtain ⟨y, _, hy⟩ := List.mem_flatMap.1 hu
    exact h1c y u hy
  have hap : (xs ++ ys).length = xs.length + ys.length := List.length_append
  rcases hS with ⟨rfl, rfl, rfl⟩ | ⟨g, off, cap, cur, rfl, rfl, hc1, hc2, hc3, hc4⟩
  · have hr := run_append_nil (P := P) w t ty e i z ht hi hz ad ys.length c (ys.flatMap enc) hyl hnews hm (by omega) (by simp at hbytes; omega)
    refine ⟨_, _, _, _, [(w.drew.heap.size, _)], by simpa using hr, ?_, ((hO.drew).alloc _), by simp, by simp⟩
    have := Sl.fresh (e := e) w.drew.heap.size ys (grownCap w ys.length 0 e) hk (Builtin.zeroCells z.cells (grownCap w ys.length 0 e - ys.length)) (by rw [size_zeroCells, hzs]) (grownCap_ge w ys.length 0 e) (grownCap_le_maxLen w ys.length 0 e (by omega))
    simpa using this
  · by_cases hroom : xs.length + ys.length ≤ cap
    · have hsz : off + xs.length * i.size + (ys.flatMap enc).length ≤ cur.size := by
        rw [hyl, Nat.add_assoc, ← Nat.add_mul]
        have := Nat.mul_le_mul_right i.size hroom
        omega
      have hh : w.heap[g]? = some (.cells cur e (0, 0)) := hO.get (g, .cells cur e (0, 0)) (by simp)
      have hr := run_append_room_cells (P := P) w t ty e i ht hi g off xs.length cap ad ys.length c (ys.flatMap enc) hyl hnews h1n hroom
        (fun j hj => by simp only [World.cell?, hh]; simp; omega) (fun j hj => by simp [World.frozen?, hh])
      refine ⟨g, off, cap, _, _, hr, .inr ⟨g, off, cap, _, by rw [hap], rfl, by omega, hc2, by rw [size_setMany]; exact hc3, ?_⟩, hO.setCells (ys.flatMap enc) (off + xs.length * i.size) w cur, ?_, ?_⟩
      · apply List.ext_getElem?
        intro j
        rw [List.flatMap_append, List.getElem?_take, hap, List.getElem?_append, hxl]
        rw [List.getElem?_drop, Array.getElem?_toList, get_setMany _ _ _ _ hsz, hyl]
        have e1 : (xs.length + ys.length) * i.size = xs.length * i.size + ys.length * i.size := Nat.add_mul _ _ _
        by_cases hj : j < xs.length * i.size
        · rw [if_pos (by omega), if_pos hj, if_neg (by omega), ← hc4, List.getElem?_take, if_pos hj, List.getElem?_drop, Array.getElem?_toList]
        · rw [if_neg hj]
          by_cases hj2 : j < (xs.length + ys.length) * i.size
          · rw [if_pos hj2, if_pos (by omega)]
            congr 1
            omega
          · rw [if_neg hj2, List.getElem?_eq_none (by omega)]
      · rw [show (w.setCells g (off + xs.length * i.size) (ys.flatMap enc)).heap.size = w.heap.size from ?_]
        · exact lt_of_get hh
        · exact size_setCells _ _ _ _
      · rw [size_setCells]; exact Nat.le_refl _
    · have hS : Sl e i.size enc (.slice (some ⟨g, off, none⟩) xs.length cap) xs [(g, .cells cur e (0, 0))] := .inr ⟨g, off, cap, cur, rfl, rfl, hc1, hc2, hc3, hc4⟩
      have holds := hS.cells hO (a := ⟨g, off, none⟩) rfl
      have hr := run_append_grow (P := P) w t ty e i z ht hi hz ⟨g, off, none⟩ xs.length cap (xs.flatMap enc) hxl holds ad ys.length c (ys.flatMap enc) hyl hnews (by omega) (by omega) (growslice_fits (by omega) hbytes)
      refine ⟨_, _, _, _, [(w.drew.heap.size, _)], hr, ?_, ((hO.right.drew).alloc _), by simp, by simp⟩
      have := Sl.fresh (e := e) w.drew.heap.size (xs ++ ys) (grownCap w (xs.length + ys.length) cap e) hk (Builtin.zeroCells z.cells (grownCap w (xs.length + ys.length) cap e - (xs.length + ys.length))) (by rw [size_zeroCells, hzs, hap]) (by rw [hap]; exact grownCap_ge w _ _ e) (grownCap_le_maxLen w _ _ e h63)
      rw [hap] at this
      simpa using this
/-- What is appended has no elements. -/
theorem run_append_zero (t ty : TypeId) (i : TypeInfo) (ht : P.underlying t = some (.slice e)) (hi : P.info? e = some i)
    (hS : Sl e k enc v xs L) (ao : Option Addr) (c : Nat) : (Builtin.append_ #[t, t] ty #[v, .slice ao 0 c]).run P w = .ok v w := by
  obtain ⟨av, cv, rfl, h1, h2⟩ := hS.form
  cases ao with
  | none =>
    cases av with
    | none =>
      rcases hS with ⟨h, rfl, _⟩ | ⟨_, _, _, _, h, _⟩
      · simp at h; obtain ⟨_, rfl⟩ := h
        simp [Builtin.append_, run_underlying ht, sizeOf, typeInfo, hi, Builtin.lenOf, Builtin.firstCells]
      · simp at h
    | some a => simp [Builtin.append_, run_underlying ht, sizeOf, typeInfo, hi, Builtin.lenOf, Builtin.firstCells, h1, storeCells]
  | some x =>
    cases av with
    | none =>
      rcases hS with ⟨h, rfl, _⟩ | ⟨_, _, _, _, h, _⟩
      · simp at h; obtain ⟨_, rfl⟩ := h
        simp [Builtin.append_, run_underlying ht, sizeOf, typeInfo, hi, Builtin.lenOf, Builtin.firstCells, loadCells, loadCellsFrom]
      · simp at h
    | some a => simp [Builtin.append_, run_underlying ht, sizeOf, typeInfo, hi, Builtin.lenOf, Builtin.firstCells, loadCells, loadCellsFrom, h1, storeCells]

/-- append of all elements of another slice that is owned; perhaps none. -/
theorem run_append_all (t ty : TypeId) (i : TypeInfo) (z : Value) (bytes : Nat) (ht : P.underlying t = some (.slice e)) (hi : P.info? e = some i) (hz : i.zero = some z)
    (hsize : i.size = k) (hby : i.bytes = bytes) (hzs : z.cells.size = k) (hk : ∀ x, (enc x).length = k) (h1c : ∀ x, ∀ u ∈ enc x, u.oneCell' = true)
    (hS : Sl e k enc v xs L) (hO : Own B w0 w (L ++ F)) (vy : Value) (ys : List α) (Ly : List (Nat × Obj)) (hY : Sl e k enc vy ys Ly) (hLy : ∀ p ∈ Ly, p ∈ F)
    (h63 : xs.length + ys.length ≤ maxLen) (hbytes : (xs.length + ys.length) * bytes ≤ 140737488355328) :
    ∃ ao cap w' L', (Builtin.append_ #[t, t] ty #[v, vy]).run P w = .ok (.slice ao (xs.length + ys.length) cap) w' ∧
      Sl e k enc (.slice ao (xs.length + ys.length) cap) (xs ++ ys) L' ∧ Own B w0 w' (L' ++ F) ∧ w.heap.size ≤ w'.heap.size := by
  rcases hY with ⟨rfl, rfl, rfl⟩ | ⟨g, off, c, cur, rfl, rfl, hc1, hc2, hc3, hc4⟩
  · obtain ⟨ao, cap, rfl, _⟩ := hS.form
    exact ⟨ao, cap, w, L, run_append_zero t ty i ht hi hS none 0, by simpa using hS, hO, Nat.le_refl _⟩
  · by_cases hy : ys.length = 0
    · obtain rfl := List.eq_nil_of_length_eq_zero hy
      obtain ⟨ao, cap, rfl, _⟩ := hS.form
      exact ⟨ao, cap, w, L, run_append_zero t ty i ht hi hS _ c, by simpa using hS, hO, Nat.le_refl _⟩
    · have hcells := Sl.cells (F := []) (L := [(g, .cells cur e (0, 0))]) (v := .slice (some ⟨g, off, none⟩) ys.length c) (xs := ys) (enc := enc) (k := k) (e := e) (.inr ⟨g, off, c, cur, rfl, rfl, hc1, hc2, hc3, hc4⟩)
        (w := w) (B := B) (w0 := w0) (by
          refine hO.right.sub ?_ |>.perm (List.Perm.refl _)
          simpa using hLy) rfl
      obtain ⟨g', off', cap', w', L', h1, h2, h3, _, h5⟩ := run_append_sl t ty i z bytes ht hi hz hsize hby hzs hk h1c hS hO ⟨g, off, none⟩ ys c hcells (by omega) h63 hbytes
      exact ⟨_, _, w', L', h1, h2, h3, h5⟩

theorem wpList_append_all {ops : Array Oper} {rest : List Oper} {o : Oper} {a : Act} {Q : Exit → Act → World → Prop} (hgd : o.guard = none) (s x : Operand) (t : TypeId)
    (ho : o.op = .call { callee := .builtin .append, args := #[s, x], argTypes := #[t, t] })
    (i : TypeInfo) (z : Value) (bytes : Nat) (ht : P.underlying t = some (.slice e)) (hi : P.info? e = some i) (hz : i.zero = some z)
    (hsize : i.size = k) (hby : i.bytes = bytes) (hzs : z.cells.size = k) (hk : ∀ x, (enc x).length = k) (h1c : ∀ x, ∀ u ∈ enc x, u.oneCell' = true)
    (hs : a.eval s = v) (hS : Sl e k enc v xs L) (hO : Own B w0 w (L ++ F)) (vy : Value) (hx : a.eval x = vy) (ys : List α) (Ly : List (Nat × Obj)) (hY : Sl e k enc vy ys Ly) (hLy : ∀ p ∈ Ly, p ∈ F)
    (h63 : xs.length + ys.length ≤ maxLen) (hbytes : (xs.length + ys.length) * bytes ≤ 140737488355328)
    (h : ∀ ao cap w' L', Sl e k enc (.slice ao (xs.length + ys.length) cap) (xs ++ ys) L' → Own B w0 w' (L' ++ F) → w.heap.size ≤ w'.heap.size → wpList P ops Q rest (a.put o.dst (.slice ao (xs.length + ys.length) cap)) w') : wpList P ops Q (o :: rest) a w := by
  obtain ⟨ao, cap, w', L', hr, h2, h3, h4⟩ := run_append_all (P := P) t o.type i z bytes ht hi hz hsize hby hzs hk h1c hS hO vy ys Ly hY hLy h63 hbytes
  exact Lib.wpList_append_run w hgd s x t t ho v vy hs hx _ w' hr (h ao cap w' L' h2 h3 h4)

theorem step_append_all {ops : Array Oper} {o : Oper} {a : Act} {K : Act → World → Prop} {Q : Exit → Act → World → Prop} {E : Prop} (hgd : o.guard = none) (s x : Operand) (t : TypeId)
    (ho : o.op = .call { callee := .builtin .append, args := #[s, x], argTypes := #[t, t] })
    (i : TypeInfo) (z : Value) (bytes : Nat) (ht : P.underlying t = some (.slice e)) (hi : P.info? e = some i) (hz : i.zero = some z)
    (hsize : i.size = k) (hby : i.bytes = bytes) (hzs : z.cells.size = k) (hk : ∀ x, (enc x).length = k) (h1c : ∀ x, ∀ u ∈ enc x, u.oneCell' = true)
    (hs : a.eval s = v) (hS : Sl e k enc v xs L) (hO : Own B w0 w (L ++ F)) (vy : Value) (hx : a.eval x = vy) (ys : List α) (Ly : List (Nat × Obj)) (hY : Sl e k enc vy ys Ly) (hLy : ∀ p ∈ Ly, p ∈ F)
    (h63 : xs.length + ys.length ≤ maxLen) (hbytes : (xs.length + ys.length) * bytes ≤ 140737488355328)
    (N : Nat) (hN : xs.length + ys.length = N)
    (h : ∀ ao cap w' L', Sl e k enc (.slice ao N cap) (xs ++ ys) L' → Own B w0 w' (L' ++ F) → w.heap.size ≤ w'.heap.size → K (a.put o.dst (.slice ao N cap)) w') :
    if Region.wanted o (yielded ops a.tmps) = true then Oper.wp P o a w K Q else E := by
  have hw : Region.wanted o (yielded ops a.tmps) = true := by simp [Region.wanted, hgd]
  rw [if_pos hw]
  subst hN
  obtain ⟨ao, cap, w', L', hr, h2, h3, h4⟩ := run_append_all (P := P) t o.type i z bytes ht hi hz hsize hby hzs hk h1c hS hO vy ys Ly hY hLy h63 hbytes
  exact Lib.wp_append_run w s x t t ho v vy hs hx _ w' hr (h ao cap w' L' h2 h3 h4)

theorem wp_append_sl {o : Oper} {a : Act} {K : Act → World → Prop} {Q : Exit → Act → World → Prop} (s x : Operand) (t : TypeId)
    (ho : o.op = .call { callee := .builtin .append, args := #[s, x], argTypes := #[t, t] })
    (i : TypeInfo) (z : Value) (bytes : Nat) (ht : P.underlying t = some (.slice e)) (hi : P.info? e = some i) (hz : i.zero = some z)
    (hsize : i.size = k) (hby : i.bytes = bytes) (hzs : z.cells.size = k) (hk : ∀ x, (enc x).length = k) (h1c : ∀ x, ∀ u ∈ enc x, u.oneCell' = true)
    (hs : a.eval s = v) (hS : Sl e k enc v xs L) (hO : Own B w0 w (L ++ F)) (ad : Addr) (ys : List α) (m c : Nat) (hx : a.eval x = .slice (some ad) m c) (hml : ys.length = m)
    (hnews : ∀ j u, (ys.flatMap enc)[j]? = some u → w.cell? (ad.add j) = some u)
    (hm : 0 < m) (h63 : xs.length + m ≤ maxLen) (hbytes : (xs.length + m) * bytes ≤ 140737488355328)
    (h : ∀ g off cap w' L', Sl e k enc (.slice (some ⟨g, off, none⟩) (xs.length + m) cap) (xs ++ ys) L' → Own B w0 w' (L' ++ F) → g < w'.heap.size → w.heap.size ≤ w'.heap.size → K (a.put o.dst (.slice (some ⟨g, off, none⟩) (xs.length + m) cap)) w') : o.wp P a w K Q := by
  subst hml
  obtain ⟨g, off, cap, w', L', hr, h2, h3, h4, h5⟩ := run_append_sl (P := P) t o.type i z bytes ht hi hz hsize hby hzs hk h1c hS hO ad ys c hnews hm h63 hbytes
  unfold Oper.wp execOp
  simp only [ho, resolve, invoke, builtin, Sem.run_bind, Sem.run_pure, Result.andThen_ok, List.map_toArray, List.map_cons, List.map_nil, hs, hx, hr]
  exact h g off cap w' L' h2 h3 h4 h5

theorem wpList_append_sl {ops : Array Oper} {rest : List Oper} {o : Oper} {a : Act} {Q : Exit → Act → World → Prop} (hgd : o.guard = none) (s x : Operand) (t : TypeId)
    (ho : o.op = .call { callee := .builtin .append, args := #[s, x], argTypes := #[t, t] })
    (i : TypeInfo) (z : Value) (bytes : Nat) (ht : P.underlying t = some (.slice e)) (hi : P.info? e = some i) (hz : i.zero = some z)
    (hsize : i.size = k) (hby : i.bytes = bytes) (hzs : z.cells.size = k) (hk : ∀ x, (enc x).length = k) (h1c : ∀ x, ∀ u ∈ enc x, u.oneCell' = true)
    (hs : a.eval s = v) (hS : Sl e k enc v xs L) (hO : Own B w0 w (L ++ F)) (ad : Addr) (ys : List α) (m c : Nat) (hx : a.eval x = .slice (some ad) m c) (hml : ys.length = m)
    (hnews : ∀ j u, (ys.flatMap enc)[j]? = some u → w.cell? (ad.add j) = some u)
    (hm : 0 < m) (h63 : xs.length + m ≤ maxLen) (hbytes : (xs.length + m) * bytes ≤ 140737488355328)
    (h : ∀ g off cap w' L', Sl e k enc (.slice (some ⟨g, off, none⟩) (xs.length + m) cap) (xs ++ ys) L' → Own B w0 w' (L' ++ F) → g < w'.heap.size → w.heap.size ≤ w'.heap.size → wpList P ops Q rest (a.put o.dst (.slice (some ⟨g, off, none⟩) (xs.length + m) cap)) w') : wpList P ops Q (o :: rest) a w :=
  wpList_plain hgd fun _ hK => wp_append_sl s x t ho i z bytes ht hi hz hsize hby hzs hk h1c hs hS hO ad ys m c hx hml hnews hm h63 hbytes fun g off cap w' L' h2 h3 h4 h5 => hK _ _ (h g off cap w' L' h2 h3 h4 h5)

theorem step_append_sl {ops : Array Oper} {o : Oper} {a : Act} {K : Act → World → Prop} {Q : Exit → Act → World → Prop} {E : Prop} (hgd : o.guard = none) (s x : Operand) (t : TypeId)
    (ho : o.op = .call { callee := .builtin .append, args := #[s, x], argTypes := #[t, t] })
    (i : TypeInfo) (z : Value) (bytes : Nat) (ht : P.underlying t = some (.slice e)) (hi : P.info? e = some i) (hz : i.zero = some z)
    (hsize : i.size = k) (hby : i.bytes = bytes) (hzs : z.cells.size = k) (hk : ∀ x, (enc x).length = k) (h1c : ∀ x, ∀ u ∈ enc x, u.oneCell' = true)
    (hs : a.eval s = v) (hS : Sl e k enc v xs L) (hO : Own B w0 w (L ++ F)) (ad : Addr) (ys : List α) (m c : Nat) (hx : a.eval x = .slice (some ad) m c) (hml : ys.length = m)
    (hnews : ∀ j u, (ys.flatMap enc)[j]? = some u → w.cell? (ad.add j) = some u)
    (hm : 0 < m) (h63 : xs.length + m ≤ maxLen) (hbytes : (xs.length + m) * bytes ≤ 140737488355328)
    (h : ∀ g off cap w' L', Sl e k enc (.slice (some ⟨g, off, none⟩) (xs.length + m) cap) (xs ++ ys) L' → Own B w0 w' (L' ++ F) → g < w'.heap.size → w.heap.size ≤ w'.heap.size → K (a.put o.dst (.slice (some ⟨g, off, none⟩) (xs.length + m) cap)) w') :
    if Region.wanted o (yielded ops a.tmps) = true then Oper.wp P o a w K Q else E := by
  have hw : Region.wanted o (yielded ops a.tmps) = true := by simp [Region.wanted, hgd]
  rw [if_pos hw]
  exact wp_append_sl s x t ho i z bytes ht hi hz hsize hby hzs hk h1c hs hS hO ad ys m c hx hml hnews hm h63 hbytes h

end

end Go.Sh
