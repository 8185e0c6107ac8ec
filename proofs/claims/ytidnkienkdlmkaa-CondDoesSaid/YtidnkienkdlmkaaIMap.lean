/-
  A map keyed by an int that the call owns: what is in it, as a list; look-up, store, delete. No condition.
-/
import Derived.Test.YtidnkienkdlmkaaOwn
import Derived.MapKept
namespace Go.Sh
open Go.RowKit

/-- The map object o holds kvs. -/
def MapIs (kvs : List (Int × Value)) (o : Obj) : Prop := ∃ es clock, o = .map es clock ∧ es.toList.map (fun e => (e.key, e.val)) = kvs.map (fun p => (Value.int .i64 p.1, p.2))

def kpos (x : Int) : List (Int × Value) → Nat → Option (Nat × Value)
  | [], _ => none
  | p :: r, i => if x == p.1 then some (i, p.2) else kpos x r (i + 1)

theorem kpos_some {x : Int} : ∀ {kvs : List (Int × Value)} {i j : Nat} {v : Value}, kpos x kvs i = some (j, v) → i ≤ j ∧ kvs[j - i]? = some (x, v)
  | [], i, j, v, h => by simp [kpos] at h
  | p :: r, i, j, v, h => by
    rw [kpos] at h
    split at h
    · rename_i he
      simp only [Option.some.injEq, Prod.mk.injEq] at h
      obtain ⟨rfl, rfl⟩ := h
      have : x = p.1 := by simpa using he
      subst this
      exact ⟨Nat.le_refl _, by simp⟩
    · obtain ⟨h1, h2⟩ := kpos_some h
      refine ⟨by omega, ?_⟩
      rw [show j - i = (j - (i + 1)) + 1 by omega, List.getElem?_cons_succ]
      exact h2

theorem kpos_none {x : Int} : ∀ {kvs : List (Int × Value)} {i : Nat}, kpos x kvs i = none ↔ ∀ p ∈ kvs, p.1 ≠ x
  | [], i => by simp [kpos]
  | p :: r, i => by
    rw [kpos]
    split
    · rename_i he
      have : x = p.1 := by simpa using he
      simp [this]
    · rename_i he
      have hne : ¬ p.1 = x := fun e => he (by simp [e])
      rw [kpos_none]
      simp [hne]

theorem findNow_kvs (x : Int) : ∀ (kvs : List (Int × Value)) (es : List MapEntry) (i : Nat), es.map (fun e => (e.key, e.val)) = kvs.map (fun p => (Value.int .i64 p.1, p.2)) → Instr.findNow (.int .i64) (.int .i64 x) es i = some (kpos x kvs i)
  | [], es, i, h => by
    have : es = [] := by simpa using h
    subst this; rfl
  | p :: r, [], i, h => by simp at h
  | p :: r, e :: es, i, h => by
    simp only [List.map_cons, List.cons.injEq, Prod.mk.injEq] at h
    obtain ⟨⟨h1, h2⟩, h3⟩ := h
    rw [Instr.findNow, h1, kpos]
    have hs : Instr.sameNow (.int .i64) (.int .i64 x) (.int .i64 p.1) = some (x == p.1) := by simp [Instr.sameNow]
    rw [hs]
    cases hb : (x == p.1) with
    | true => simp only [if_true]; rw [h2]
    | false => simp only [Bool.false_eq_true, if_false]; exact findNow_kvs x r es (i + 1) h3

section
variable {P : Program} {w : World} {t kt et : TypeId} {b : Nat} {o : Obj} {kvs : List (Int × Value)}

theorem run_checkKey_int (hk : P.underlying kt = some (.int .i64)) (e : Bool) (x : Int) : (Instr.checkKey e 10000 kt (.int .i64 x)).run P w = .ok () w := by
  exact MapKept.run_checkKey hk (by simp [MapKept.IsKey]) e 9999

/-- Its value at x: z where there is none. -/
def kat (kvs : List (Int × Value)) (x : Int) (z : Value) : Value := match kpos x kvs 0 with | some (_, v) => v | none => z

theorem run_lookup_kvs (ht : P.underlying t = some (.map kt et)) (hk : P.underlying kt = some (.int .i64)) (z : Value) (hz : ∀ w, (zeroValue et).run P w = .ok z w) (hb : w.heap[b]? = some o) (hm : MapIs kvs o) (x : Int) :
    (Instr.lookup t (.map (some b)) (.int .i64 x) false).run P w = .ok (kat kvs x z) w := by
  obtain ⟨es, clock, rfl, he⟩ := hm
  have hf := MapKept.run_findKey (P := P) (w := w) hk (findNow_kvs x kvs es.toList 0 he)
  unfold kat
  cases hp : kpos x kvs 0 with
  | none =>
    rw [hp] at hf
    simp [Instr.lookup, run_underlying ht, MapKept.run_getObj_map hb, run_checkKey_int hk, hf, hz, Result.andThen]
  | some q =>
    rw [hp] at hf
    simp [Instr.lookup, run_underlying ht, MapKept.run_getObj_map hb, run_checkKey_int hk, hf, Result.andThen]

/-- x goes to v. -/
def kput (kvs : List (Int × Value)) (x : Int) (v : Value) : List (Int × Value) := match kpos x kvs 0 with | some (i, _) => kvs.set i (x, v) | none => kvs ++ [(x, v)]
def kdel (kvs : List (Int × Value)) (x : Int) : List (Int × Value) := match kpos x kvs 0 with | some (i, _) => kvs.eraseIdx i | none => kvs

theorem MapIs.size (hm : MapIs kvs o) : ∃ es clock, o = .map es clock ∧ es.size = kvs.length := by
  obtain ⟨es, clock, rfl, he⟩ := hm
  refine ⟨es, clock, rfl, ?_⟩
  have := congrArg List.length he
  simpa using this

theorem run_mapUpdate_kvs (ht : P.underlying t = some (.map kt et)) (hk : P.underlying kt = some (.int .i64)) (hb : w.heap[b]? = some o) (hm : MapIs kvs o) (x : Int) (v : Value) :
    ∃ o', (Instr.mapUpdate t (.map (some b)) (.int .i64 x) v).run P w = .ok () { w with heap := w.heap.setIfInBounds b o' } ∧ MapIs (kput kvs x v) o' := by
  obtain ⟨es, clock, rfl, he⟩ := hm
  have hf := MapKept.run_findKey (P := P) (w := w) hk (findNow_kvs x kvs es.toList 0 he)
  unfold kput
  cases hp : kpos x kvs 0 with
  | none =>
    rw [hp] at hf
    refine ⟨.map (es.push { key := .int .i64 x, val := v, born := clock }) (clock + 1), ?_, _, _, rfl, by simp [he]⟩
    simp [Instr.mapUpdate, run_underlying ht, MapKept.run_getObj_map hb, MapKept.run_setObj_map _ hb, run_checkKey_int hk, hf, Result.andThen]
  | some q =>
    obtain ⟨i, u⟩ := q
    rw [hp] at hf
    obtain ⟨_, hi⟩ := kpos_some hp
    rw [Nat.sub_zero] at hi
    have hei : ∃ e, es[i]? = some e ∧ e.key = .int .i64 x := by
      have h1 := congrArg (fun l => l[i]?) he
      simp only [List.getElem?_map, hi, Array.getElem?_toList, Option.map_some] at h1
      cases h2 : es[i]? with
      | none => rw [h2] at h1; cases h1
      | some e =>
        rw [h2] at h1
        simp only [Option.map_some, Option.some.injEq, Prod.mk.injEq] at h1
        exact ⟨e, rfl, h1.1⟩
    obtain ⟨e, hei, hek⟩ := hei
    refine ⟨.map (es.modify i fun e => { e with key := .int .i64 x, val := v }) clock, ?_, _, _, rfl, ?_⟩
    · have hks : (Instr.keyThatStays (.int .i64 x) (.int .i64 x)).run P w = .ok (.int .i64 x) w := by simp [Instr.keyThatStays, Instr.sameBits]
      simp [Instr.mapUpdate, run_underlying ht, MapKept.run_getObj_map hb, MapKept.run_setObj_map _ hb, run_checkKey_int hk, hf, hei, hek, hks, Result.andThen]
    · apply List.ext_getElem?
      intro j
      have h1 := congrArg (fun l => l[j]?) he
      simp only [List.getElem?_map, Array.getElem?_toList] at h1
      simp only [List.getElem?_map, Array.getElem?_toList, Array.getElem?_modify, List.getElem?_set]
      by_cases hj : i = j
      · subst hj
        have hlt := (List.getElem?_eq_some_iff.1 hi).1
        simp [hei, hlt]
      · simp [hj, h1]

theorem run_delete_kvs (ht : P.underlying t = some (.map kt et)) (hk : P.underlying kt = some (.int .i64)) (hb : w.heap[b]? = some o) (hm : MapIs kvs o) (x : Int) (ats : Array TypeId) (hats : ats[0]? = some t) (ty : TypeId) :
    ∃ o', (Builtin.delete_ ats ty #[.map (some b), .int .i64 x]).run P w = .ok (.tuple #[]) { w with heap := w.heap.setIfInBounds b o' } ∧ MapIs (kdel kvs x) o' := by
  obtain ⟨es, clock, rfl, he⟩ := hm
  have hf := MapKept.run_findKey (P := P) (w := w) hk (findNow_kvs x kvs es.toList 0 he)
  unfold kdel
  cases hp : kpos x kvs 0 with
  | none =>
    rw [hp] at hf
    refine ⟨.map es clock, ?_, _, _, rfl, he⟩
    simp [Builtin.delete_, hats, run_underlying ht, MapKept.run_getObj_map hb, MapKept.run_setObj_map _ hb, run_checkKey_int hk, hf, Result.andThen]
  | some q =>
    obtain ⟨i, u⟩ := q
    rw [hp] at hf
    refine ⟨.map (es.eraseIdxIfInBounds i) clock, ?_, _, _, rfl, ?_⟩
    · simp [Builtin.delete_, hats, run_underlying ht, MapKept.run_getObj_map hb, MapKept.run_setObj_map _ hb, run_checkKey_int hk, hf, Result.andThen]
    · have hlt : i < es.size := by
        obtain ⟨_, hi⟩ := kpos_some hp
        rw [Nat.sub_zero] at hi
        have h1 := (List.getElem?_eq_some_iff.1 hi).1
        have h2 := congrArg List.length he
        simp at h2
        omega
      rw [Array.eraseIdxIfInBounds, dif_pos hlt, Array.toList_eraseIdx, List.eraseIdx_eq_take_drop_succ]
      dsimp only
      rw [List.eraseIdx_eq_take_drop_succ, List.map_append, List.map_append, List.map_take, List.map_drop, he, List.map_take, List.map_drop]

theorem Own.setObj {B : Nat} {w0 : World} {L : List (Nat × Obj)} (h : Own B w0 w ((b, o) :: L)) (o' : Obj) : Own B w0 { w with heap := w.heap.setIfInBounds b o' } ((b, o') :: L) := by
  have hb := h.base _ (List.mem_cons_self)
  have hn := h.notMem
  have hg := MapKept.heap_set (o' := o') h.head
  refine ⟨⟨h.below.os, h.below.tape, h.below.output, by simpa using h.below.size, fun i hi => ?_⟩, by simpa using h.size, ?_, h.nodup, ?_⟩
  · rw [← h.below.block i hi]
    exact hg.2 i (by have : B ≤ b := hb; omega)
  · intro p hp
    rcases List.mem_cons.1 hp with rfl | hp
    · exact hb
    · exact h.base p (List.mem_cons_of_mem _ hp)
  · intro p hp
    rcases List.mem_cons.1 hp with rfl | hp
    · exact hg.1
    · rw [← h.get p (List.mem_cons_of_mem _ hp)]
      exact hg.2 p.1 (fun e => hn (by rw [← e]; exact List.mem_map_of_mem hp))

end

/-- A set of ints: each goes to true. -/
def setK (ks : List Int) : List (Int × Value) := ks.map fun k => (k, .bool true)

theorem kpos_set (x : Int) : ∀ (ks : List Int) (i : Nat), kpos x (setK ks) i = if x ∈ ks then some (i + (ks.findIdx (x == ·)), .bool true) else none
  | [], i => rfl
  | k :: r, i => by
    rw [setK, List.map_cons, kpos]
    by_cases h : x = k
    · subst h; simp [List.findIdx_cons]
    · have hb : (x == k) = false := by simpa using h
      have := kpos_set x r (i + 1)
      rw [setK] at this
      simp only [hb, Bool.false_eq_true, if_false, this, List.mem_cons, h, false_or, List.findIdx_cons, cond_false]
      split <;> simp <;> omega

theorem kat_set (ks : List Int) (x : Int) : kat (setK ks) x (.bool false) = .bool (decide (x ∈ ks)) := by
  unfold kat
  rw [kpos_set]
  by_cases h : x ∈ ks <;> simp [h]

theorem kput_set (ks : List Int) (x : Int) : kput (setK ks) x (.bool true) = setK (if x ∈ ks then ks else ks ++ [x]) := by
  unfold kput
  rw [kpos_set]
  by_cases h : x ∈ ks
  · simp only [if_pos h, Nat.zero_add]
    have hlt : ks.findIdx (x == ·) < ks.length := List.findIdx_lt_length_of_exists ⟨x, h, by simp⟩
    have he : x = ks[ks.findIdx (x == ·)] := by simpa using List.findIdx_getElem (w := hlt)
    apply List.ext_getElem?
    intro j
    rw [List.getElem?_set]
    by_cases hj : ks.findIdx (x == ·) = j
    · subst hj
      simp [setK, hlt, ← he]
    · simp [hj]
  · simp [h, setK]

theorem kdel_set (ks : List Int) (x : Int) : kdel (setK ks) x = setK (ks.erase x) := by
  unfold kdel
  rw [kpos_set]
  by_cases h : x ∈ ks
  · simp only [if_pos h, Nat.zero_add]
    have e1 : ks.erase x = ks.eraseIdx (ks.findIdx (x == ·)) := by
      rw [List.erase_eq_eraseIdx, List.idxOf?, List.findIdx?_eq_some_of_exists (by exact ⟨x, h, by simp⟩)]
      dsimp only
      have : (fun y => y == x) = (fun y : Int => x == y) := funext fun y => Bool.beq_comm
      rw [this]
    rw [e1, setK, setK, List.eraseIdx_eq_take_drop_succ, List.eraseIdx_eq_take_drop_succ, List.map_append, List.map_take, List.map_drop]
  · simp only [if_neg h]
    rw [List.erase_of_not_mem h]

theorem setK_len (ks : List Int) : (setK ks).length = ks.length := by simp [setK]

end Go.Sh
