/-
  The cells of an act of cond's laws, of a byte; a map that the call owns, written and read. No condition.
-/
import Derived.Test.YtidnkienkdlmkaaCdHasP
import Derived.Test.YtidnkienkdlmkaaIMapB
import Derived.Test.YtidnkienkdlmkaaChSet
import Derived.Test.YtidnkienkdlmkaaChAwake
namespace Go.Proofs.Ytidnkienkdlmkaa
open Go.RowKit Go.Sh

/-- An act: what, who, with which mutex. -/
structure K3 : Type where
  d : Int
  who : Int
  m : Bool
instance : Inhabited K3 := ⟨⟨0, 0, false⟩⟩
abbrev CK3 (x : K3) : List Value := [.int .i64 x.d, .int .i64 x.who, .bool x.m]
theorem CK3_len (x : K3) : (CK3 x).length = 3 := rfl

theorem rd_k3 {w : World} {v : Value} {xs : List K3} (h : Rd w CK3 v xs) : ∃ ao cap, v = .slice ao xs.length cap ∧ ∀ i (hi : i < xs.length), ∃ g off, ao = some ⟨g, off, none⟩ ∧ g < w.heap.size ∧ w.cell? ⟨g, off + i * 3, none⟩ = some (.int .i64 xs[i].d) ∧ w.cell? ⟨g, off + i * 3 + 1, none⟩ = some (.int .i64 xs[i].who) ∧ w.cell? ⟨g, off + i * 3 + 2, none⟩ = some (.bool xs[i].m) := by
  rcases h with ⟨rfl, ao, cap, rfl⟩ | ⟨g, off, cap, rfl, hc⟩
  · exact ⟨ao, cap, rfl, fun i hi => by simp at hi⟩
  · refine ⟨_, cap, rfl, fun i hi => ?_⟩
    have h0 := hc (i * 3 + 0) (.int .i64 xs[i].d) (by rw [flatMap_get CK3_len xs i 0 (by omega), List.getElem?_eq_getElem hi]; rfl)
    have h1 := hc (i * 3 + 1) (.int .i64 xs[i].who) (by rw [flatMap_get CK3_len xs i 1 (by omega), List.getElem?_eq_getElem hi]; rfl)
    have h2 := hc (i * 3 + 2) (.bool xs[i].m) (by rw [flatMap_get CK3_len xs i 2 (by omega), List.getElem?_eq_getElem hi]; rfl)
    rw [← Nat.add_assoc] at h0 h1 h2
    exact ⟨g, off, rfl, World.block_lt_of_cell? _ _ h0, h0, h1, h2⟩

theorem zero3 (w : World) : (zeroValue 3).run Try.prog w = .ok (.int .i64 0) w := by kernel_rfl

section
variable {B : Nat} {w0 w : World} {R : List (Nat × Obj)} {bm : Nat} {o : Obj} {kvs : List (Int × Value)}

theorem map_put (hO : Own B w0 w ((bm, o) :: R)) (hm : MapIs kvs o) (x : Int) (v : Value) :
    ∃ o' w', (Instr.mapUpdate 59 (.map (some bm)) (.int .i64 x) v).run Try.prog w = .ok () w' ∧ MapIs (kput kvs x v) o' ∧ Own B w0 w' ((bm, o') :: R) := by
  obtain ⟨o', hrun, hm'⟩ := run_mapUpdate_kvs (P := Try.prog) (w := w) (b := bm) Try.underlying59 Try.underlying3 hO.head hm x v
  exact ⟨o', _, hrun, hm', hO.setObj o'⟩

theorem run_lookup_ok {P : Program} {t kt et : TypeId} {b : Nat} (ht : P.underlying t = some (.map kt et)) (hk : P.underlying kt = some (.int .i64)) (hb : w.heap[b]? = some o) (hm : MapIs kvs o) (x : Int) (v : Value) (hf : kfind kvs x = some v) :
    (Instr.lookup t (.map (some b)) (.int .i64 x) true).run P w = .ok (.tuple #[v, .bool true]) w := by
  obtain ⟨es, clock, rfl, he⟩ := hm
  have hf2 := MapKept.run_findKey (P := P) (w := w) hk (findNow_kvs x kvs es.toList 0 he)
  unfold kfind at hf
  cases hp : kpos x kvs 0 with
  | none => rw [hp] at hf; cases hf
  | some q =>
    rw [hp] at hf hf2
    simp only [Option.map_some, Option.some.injEq] at hf
    subst hf
    simp [Instr.lookup, run_underlying ht, MapKept.run_getObj_map hb, run_checkKey_int hk, hf2, Result.andThen]

theorem map_get (hO : Own B w0 w ((bm, o) :: R)) (hm : MapIs kvs o) (x : Int) (v : Value) (hf : kfind kvs x = some v) :
    (Instr.lookup 59 (.map (some bm)) (.int .i64 x) true).run Try.prog w = .ok (.tuple #[v, .bool true]) w :=
  run_lookup_ok Try.underlying59 Try.underlying3 hO.head hm x v hf

end


abbrev U8 (x : Int) : List Value := [.int .u8 x]
theorem U8_len (x : Int) : (U8 x).length = 1 := rfl
theorem flatU8 (xs : List Int) : xs.flatMap U8 = xs.map (Value.int .u8) := by
  induction xs with
  | nil => rfl
  | cons x xs ih => simp only [List.flatMap_cons, List.map_cons, ih]; rfl
theorem u8_wf {x : Int} (h : (Lit.int .u8 x).wf = true) : 0 ≤ x ∧ x ≤ 255 := by
  have h1 : IntKind.u8.min = 0 := by decide
  have h2 : IntKind.u8.max = 255 := by decide
  simp [Lit.wf, h1, h2] at h
  omega

theorem rd_u8 {w : World} {v : Value} {xs : List Int} (h : Rd w U8 v xs) : ∃ ao cap, v = .slice ao xs.length cap ∧ ∀ i (hi : i < xs.length), ∃ g off, ao = some ⟨g, off, none⟩ ∧ g < w.heap.size ∧ w.cell? ⟨g, off + i, none⟩ = some (.int .u8 xs[i]) := by
  rcases h with ⟨rfl, ao, cap, rfl⟩ | ⟨g, off, cap, rfl, hc⟩
  · exact ⟨ao, cap, rfl, fun i hi => by simp at hi⟩
  · refine ⟨_, cap, rfl, fun i hi => ?_⟩
    have h0 := hc i (.int .u8 xs[i]) (by rw [flatU8]; simp [List.getElem?_eq_getElem hi])
    exact ⟨g, off, rfl, World.block_lt_of_cell? _ _ h0, h0⟩

end Go.Proofs.Ytidnkienkdlmkaa
