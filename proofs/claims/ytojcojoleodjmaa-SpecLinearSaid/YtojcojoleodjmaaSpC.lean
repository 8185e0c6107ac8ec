/-
  spec: a queue or a register as a value; contracts of begun, slices.Clip, with. Condition: few values.
-/
import Derived.Test.YtojcojoleodjmaaSpB
import Derived.Test.YtojcojoleodjmaaAppFull
import Derived.Deep.RegionLaw
import Derived.BigQuiet
namespace Go.Proofs.Ytojcojoleodjmaa
open Go.RowKit Go.Shelf Go.Sh
attribute [local go_sem ↓] Go.wp_at_zero Go.wp_at_succ

theorem Try.info77 : (Try.prog.info? 77).map (fun i => (i.zero, i.size, i.bytes)) = some (some (.agg #[.int .i64 0, .int .i64 0]), 2, 16) := by kernel_rfl

def begunT (kind : Int) : List V2 := if kind = 2 then [⟨4, 0⟩] else []
/-- A call is done with a queue (1), a register (2); false: it can't have been. -/
def withT (kind : Int) (l : List V2) (c : C6) : List V2 × Bool :=
  if c.op = 1 then (if kind = 2 then ([c.v], true) else (l ++ [c.v], true))
  else if c.til = 0 ∧ kind = 2 then (l, true)
  else match l with
    | [] => ([], false)
    | x :: r => if c.til ≠ 0 ∧ x ≠ c.v then (x :: r, false) else if kind = 2 then (x :: r, true) else (r, true)

abbrev obT (kind : Int) (v : Value) : Obj := Obj.cells #[.int .i64 kind, v] 102 (0, 0)

def BegunTPost (B : Nat) (w0 : World) (F : List (Nat × Obj)) (kind : Int) (l : List V2) (e : Ending) (w' : World) : Prop :=
  ∃ v L', e = .returned (.agg #[.int .i64 kind, v]) ∧ Sl 77 2 C2 v l L' ∧ Own B w0 w' (L' ++ F)

theorem begun62 (B : Nat) (w0 : World) (F : List (Nat × Obj)) (kind : Int) (w : World) (hO : Own B w0 w F) :
    Calls Try.prog 62 #[.int .i64 kind] w (BegunTPost B w0 F kind (begunT kind)) := by
  by_cases h : kind = 2
  · subst h
    have HO := Lib.hid (((hO.junk (obT 2 (.slice (some ⟨w.heap.size + 1 + 1, 0, none⟩) 1 1))).junk (obT 2 (.slice (some ⟨w.heap.size + 1 + 1, 0, none⟩) 1 1))).allocAt (Obj.cells #[.int .i64 4, .int .i64 0] 77 (0, 0)) (n := w.heap.size + 1 + 1) (by simp))
    clear hO
    go_enter Try.func62, Try.ntmps62
    go_wp2
    refine bodyPost_ret (v := .agg #[.int .i64 2, .slice (some ⟨w.heap.size + 1 + 1, 0, none⟩) 1 1]) (by simp [results, Try.results62, go_sem]) rfl ?_
    exact ⟨_, [(w.heap.size + 1 + 1, Obj.cells #[.int .i64 4, .int .i64 0] 77 (0, 0))], rfl, .inr ⟨w.heap.size + 1 + 1, 0, 1, _, rfl, rfl, by simp [begunT], by simp [maxLen], by simp, by simp [begunT]⟩, HO.out⟩
  · have hk : (kind == 2) = false := by simp [h]
    have HR := Lib.hid (show begunT kind = [] by simp [begunT, h])
    have HO := Lib.hid ((hO.junk (obT kind (.slice none 0 0))).junk (obT kind (.slice none 0 0)))
    clear hO h
    go_enter Try.func62, Try.ntmps62
    go_wp2
    refine bodyPost_ret (v := .agg #[.int .i64 kind, .slice none 0 0]) (by simp [results, Try.results62, go_sem]) rfl ?_
    rw [HR.out]
    exact ⟨_, [], rfl, Sl.nil, HO.out⟩

theorem clip79 (ao : Option Addr) (n cap : Nat) (w : World) (hn : n ≤ cap) (h0 : ao = none → cap = 0) (hm : cap ≤ maxLen) :
    Calls Try.prog 79 #[.slice ao n cap] w fun e w' => e = .returned (.slice ao n n) ∧ w = w' := by
  unfold maxLen at hm
  cases ao with
  | none =>
    obtain rfl := h0 rfl
    obtain rfl : n = 0 := by omega
    go_enter Try.func79, Try.ntmps79
    go_wp2
    go_ret
    exact ⟨rfl, rfl⟩
  | some a =>
    clear h0
    have h1 : (0 : Int) ≤ n := by omega
    have h2 : (n : Int) ≤ cap := by omega
    go_enter Try.func79, Try.ntmps79
    go_wp2
    go_ret
    exact ⟨rfl, rfl⟩

def WithPost (B : Nat) (w0 : World) (F Lt : List (Nat × Obj)) (kind : Int) (r : List V2 × Bool) (e : Ending) (w' : World) : Prop :=
  ∃ v' Lt' L', e = .returned (.tuple #[.agg #[.int .i64 kind, v'], .bool r.2]) ∧ Sl 77 2 C2 v' r.1 Lt' ∧ (∀ p ∈ Lt', p ∈ L' ++ Lt) ∧ Own B w0 w' (L' ++ F)

theorem with_mk {B : Nat} {w0 : World} {F Lt : List (Nat × Obj)} {kind : Int} {r r' : List V2 × Bool} {e : Ending} {w' : World} (v' : Value) (Lt' L' : List (Nat × Obj)) (HR : Hid (r = r')) (he : e = .returned (.tuple #[.agg #[.int .i64 kind, v'], .bool r'.2]))
    (hS : Sl 77 2 C2 v' r'.1 Lt') (hL : ∀ p ∈ Lt', p ∈ L' ++ Lt) (hO : Own B w0 w' (L' ++ F)) : WithPost B w0 F Lt kind r e w' := by
  rw [HR.out]
  exact ⟨v', Lt', L', he, hS, hL, hO⟩

end Go.Proofs.Ytojcojoleodjmaa
