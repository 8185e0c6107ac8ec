/-
  spec: contract of the document's does. Condition: few values.
-/
import Derived.Test.YtojcojoleodjmaaSpL
namespace Go.Proofs.Ytojcojoleodjmaa
open Go.RowKit Go.Shelf Go.Sh
attribute [local go_sem ↓] Go.wp_at_zero Go.wp_at_succ

/-- The document's state: a queue's values, a register's value. -/
structure Dst : Type where
  l : List V2
  v : V2
def doesD (kind : Int) (s : Dst) (c : C6) : Dst × Bool :=
  if kind = 2 then (if c.op = 1 then (⟨s.l, c.v⟩, true) else (s, decide (c.til = 0) || decide (s.v = c.v)))
  else if c.op = 1 then (⟨s.l ++ [c.v], s.v⟩, true)
  else match s.l with
    | [] => (s, false)
    | x :: r => if c.til ≠ 0 ∧ x ≠ c.v then (s, false) else (⟨r, s.v⟩, true)

abbrev obD (vl : Value) (v : V2) : Obj := Obj.cells #[vl, .int .i64 v.t, .int .i64 v.n] 114 (0, 0)
def DoesPost6 (B : Nat) (w0 : World) (D : Nat) (F : List (Nat × Obj)) (r : Dst × Bool) (e : Ending) (w' : World) : Prop :=
  e = .returned (.bool r.2) ∧ ∃ vl Ll, Sl 77 2 C2 vl r.1.l Ll ∧ Sh.Own B w0 w' ((D, obD vl r.1.v) :: (Ll ++ F))
theorem d3 {w : World} {D : Nat} {vl : Value} {v : V2} (h : w.heap[D]? = some (obD vl v)) : w.cell? ⟨D, 0, none⟩ = some vl ∧ w.cell? ⟨D, 1, none⟩ = some (.int .i64 v.t) ∧ w.cell? ⟨D, 2, none⟩ = some (.int .i64 v.n) :=
  ⟨cell_of_get h 0, cell_of_get h 1, cell_of_get h 2⟩

set_option maxRecDepth 100000 in
set_option maxHeartbeats 2000000 in
theorem does_put2 (B : Nat) (w0 : World) (D : Nat) (F : List (Nat × Obj)) (s : Dst) (vl : Value) (Ll : List (Nat × Obj)) (c : C6) (w : World) (hS : Sl 77 2 C2 vl s.l Ll) (hO : Sh.Own B w0 w ((D, obD vl s.v) :: (Ll ++ F))) (h1 : c.op = 1) :
    Calls Try.prog 71 #[.pointer (some ⟨D, 0, none⟩), .int .i64 2, agg6 c] w (DoesPost6 B w0 D F (doesD 2 s c)) := by
  have HR := Lib.hid (show doesD 2 s c = (⟨s.l, c.v⟩, true) by simp [doesD, h1])
  have hb : (c.op == 1) = true := by simp [h1]
  obtain ⟨d0, d1, d2⟩ := d3 hO.head
  have df := free_of_get hO.head
  have dl := lt_of_get hO.head
  have HS := Lib.hid hS
  have HO := Lib.hid (((hO.setTo 1 (.int .i64 c.v.t) rfl).setTo 2 (.int .i64 c.v.n) rfl).junk (ob6 c))
  clear hO hS h1
  go_enter Try.func71, Try.ntmps71
  go_wp2
  go_ret
  exact ⟨by rw [HR.out]; rfl, vl, Ll, by rw [HR.out]; exact HS.out, by rw [HR.out]; exact HO.out⟩

set_option maxRecDepth 100000 in
set_option maxHeartbeats 2000000 in
theorem does_open (B : Nat) (w0 : World) (D : Nat) (F : List (Nat × Obj)) (s : Dst) (vl : Value) (Ll : List (Nat × Obj)) (c : C6) (w : World) (hS : Sl 77 2 C2 vl s.l Ll) (hO : Sh.Own B w0 w ((D, obD vl s.v) :: (Ll ++ F))) (h1 : c.op ≠ 1) (h2 : c.til = 0) :
    Calls Try.prog 71 #[.pointer (some ⟨D, 0, none⟩), .int .i64 2, agg6 c] w (DoesPost6 B w0 D F (doesD 2 s c)) := by
  have HR := Lib.hid (show doesD 2 s c = (s, true) by simp [doesD, h1, h2])
  have hb : (c.op == 1) = false := by simp [h1]
  have hb2 : (c.til == 0) = true := by simp [h2]
  obtain ⟨d0, d1, d2⟩ := d3 hO.head
  have dl := lt_of_get hO.head
  have HS := Lib.hid hS
  have HO := Lib.hid (hO.junk (ob6 c))
  clear hO hS h1 h2
  go_enter Try.func71, Try.ntmps71
  go_wp2
  go_quiet (fail)
  go_wp2
  go_ret
  exact ⟨by rw [HR.out]; rfl, vl, Ll, by rw [HR.out]; exact HS.out, by rw [HR.out]; exact HO.out.drewN nq⟩

set_option maxRecDepth 100000 in
set_option maxHeartbeats 2000000 in
theorem does_eqV (B : Nat) (w0 : World) (D : Nat) (F : List (Nat × Obj)) (s : Dst) (vl : Value) (Ll : List (Nat × Obj)) (c : C6) (w : World) (hS : Sl 77 2 C2 vl s.l Ll) (hO : Sh.Own B w0 w ((D, obD vl s.v) :: (Ll ++ F))) (h1 : c.op ≠ 1) (h2 : c.til ≠ 0) (h5 : s.v = c.v) :
    Calls Try.prog 71 #[.pointer (some ⟨D, 0, none⟩), .int .i64 2, agg6 c] w (DoesPost6 B w0 D F (doesD 2 s c)) := by
  have HR := Lib.hid (show doesD 2 s c = (s, true) by simp [doesD, h1, h2]; exact h5)
  have hb : (c.op == 1) = false := by simp [h1]
  have hb2 : (c.til == 0) = false := by simp [h2]
  obtain ⟨d0, d1, d2⟩ := d3 hO.head
  have dl := lt_of_get hO.head
  have HS := Lib.hid hS
  have HO := Lib.hid (hO.junk (ob6 c))
  rw [h5] at d1 d2
  clear hO hS h1 h2 h5
  go_enter Try.func71, Try.ntmps71
  go_wp2
  go_quiet (fail)
  go_wp2
  go_ret
  exact ⟨by rw [HR.out]; rfl, vl, Ll, by rw [HR.out]; exact HS.out, by rw [HR.out]; exact HO.out.drewN nq⟩

set_option maxRecDepth 100000 in
set_option maxHeartbeats 2000000 in
theorem does_neT (B : Nat) (w0 : World) (D : Nat) (F : List (Nat × Obj)) (s : Dst) (vl : Value) (Ll : List (Nat × Obj)) (c : C6) (w : World) (hS : Sl 77 2 C2 vl s.l Ll) (hO : Sh.Own B w0 w ((D, obD vl s.v) :: (Ll ++ F))) (h1 : c.op ≠ 1) (h2 : c.til ≠ 0) (h5 : s.v.t ≠ c.v.t) :
    Calls Try.prog 71 #[.pointer (some ⟨D, 0, none⟩), .int .i64 2, agg6 c] w (DoesPost6 B w0 D F (doesD 2 s c)) := by
  have HR := Lib.hid (show doesD 2 s c = (s, false) by simp [doesD, h1, h2]; exact fun e => h5 (by rw [e]))
  have hb : (c.op == 1) = false := by simp [h1]
  have hb2 : (c.til == 0) = false := by simp [h2]
  obtain ⟨d0, d1, d2⟩ := d3 hO.head
  have dl := lt_of_get hO.head
  have HS := Lib.hid hS
  have HO := Lib.hid (hO.junk (ob6 c))
  have b5 : (s.v.t == c.v.t) = false := by simp [h5]
  clear hO hS h1 h2 h5
  go_enter Try.func71, Try.ntmps71
  go_wp2
  go_quiet (fail)
  go_wp2
  go_ret
  exact ⟨by rw [HR.out]; rfl, vl, Ll, by rw [HR.out]; exact HS.out, by rw [HR.out]; exact HO.out.drewN nq⟩

set_option maxRecDepth 100000 in
set_option maxHeartbeats 2000000 in
theorem does_neN (B : Nat) (w0 : World) (D : Nat) (F : List (Nat × Obj)) (s : Dst) (vl : Value) (Ll : List (Nat × Obj)) (c : C6) (w : World) (hS : Sl 77 2 C2 vl s.l Ll) (hO : Sh.Own B w0 w ((D, obD vl s.v) :: (Ll ++ F))) (h1 : c.op ≠ 1) (h2 : c.til ≠ 0) (h5 : s.v.t = c.v.t) (h6 : s.v.n ≠ c.v.n) :
    Calls Try.prog 71 #[.pointer (some ⟨D, 0, none⟩), .int .i64 2, agg6 c] w (DoesPost6 B w0 D F (doesD 2 s c)) := by
  have HR := Lib.hid (show doesD 2 s c = (s, false) by simp [doesD, h1, h2]; exact fun e => h6 (by rw [e]))
  have hb : (c.op == 1) = false := by simp [h1]
  have hb2 : (c.til == 0) = false := by simp [h2]
  obtain ⟨d0, d1, d2⟩ := d3 hO.head
  have dl := lt_of_get hO.head
  have HS := Lib.hid hS
  have HO := Lib.hid (hO.junk (ob6 c))
  rw [h5] at d1
  have b6 : (s.v.n == c.v.n) = false := by simp [h6]
  clear hO hS h1 h2 h5 h6
  go_enter Try.func71, Try.ntmps71
  go_wp2
  go_quiet (fail)
  go_wp2
  go_ret
  exact ⟨by rw [HR.out]; rfl, vl, Ll, by rw [HR.out]; exact HS.out, by rw [HR.out]; exact HO.out.drewN nq⟩

end Go.Proofs.Ytojcojoleodjmaa
