/-
  Opening the acts of RunLost, RunDoes. No condition.
-/
import Derived.Test.YtojcojoleodjmaaRqFrame
import Derived.Test.YtojcojoleodjmaaRqLost
namespace Go.Proofs.Ytojcojoleodjmaa
open Go.RowKit Go.Sh Go.Deep Go.ChangeShapes Go.WideShapes Go.ChangeAt

theorem Try.cells36 : Try.prog.cellsOf 36 = 3 := by kernel_rfl

theorem list3 {α : Type} {l : List α} (h : l.length = 3) : ∃ a b c, l = [a, b, c] := by
  match l, h with
  | [a, b, c], _ => exact ⟨a, b, c, rfl⟩

section
variable {H : Type} {en : TypeId × Value → H} {w : World} {base : Nat} {spare : Nat → Bool} {held : Bool}

instance : Inhabited A3 := ⟨⟨0, 0, 0⟩⟩

theorem op3 (fuel : Nat) (cs : List Value) (y : DataW H × List MemPlace) (h : DataW.trod en Try.prog w base spare held fuel 36 cs = some y) :
    ∃ x : A3, cs = O3 x ∧ True := by
  obtain ⟨y0, y1, y2, n, _, hl, h0, h1, h2⟩ := trod_struct3 Try.underlying36 h
  rw [Try.cells36] at hl
  obtain ⟨c0, c1, c2, rfl⟩ := list3 hl
  obtain ⟨a, e0, _, wa⟩ := DataW.trod_int Try.underlying3 h0
  obtain ⟨b, e1, _, wb⟩ := DataW.trod_int Try.underlying3 h1
  obtain ⟨c, e2, _, wc⟩ := DataW.trod_int Try.underlying3 h2
  rw [Try.cells3] at e0 e1 e2
  simp at e0 e1 e2
  subst e0 e1 e2
  exact ⟨⟨a, b, c⟩, rfl, trivial⟩

end
end Go.Proofs.Ytojcojoleodjmaa
