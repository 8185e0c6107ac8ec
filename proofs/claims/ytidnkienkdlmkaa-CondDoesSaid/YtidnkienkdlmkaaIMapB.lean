/-
  len of a map keyed by an int. No condition.
-/
import Derived.Test.YtidnkienkdlmkaaIMap
namespace Go.Sh
open Go.RowKit

theorem run_len_kvs {P : Program} {w : World} {t kt et : TypeId} {b : Nat} {o : Obj} {kvs : List (Int × Value)} (ht : P.underlying t = some (.map kt et)) (hb : w.heap[b]? = some o) (hm : MapIs kvs o) (ty : TypeId) :
    (Builtin.len_ #[t] ty #[.map (some b)]).run P w = .ok (.int .i64 kvs.length) w := by
  obtain ⟨es, clock, rfl, hs⟩ := hm.size
  simp [Builtin.len_, run_underlying ht, MapKept.run_getObj_map hb, goInt, hs, Result.andThen]

theorem MapIs.new : MapIs (setK []) (.map #[] 0) := ⟨_, _, rfl, rfl⟩

end Go.Sh
