/-
  Opening the acts of the laws of chanq. No condition.
-/
import Derived.Test.YtidnkienkdlmkaaLawFrame
import Derived.Test.YtidnkienkdlmkaaChA
namespace Go.Proofs.Ytidnkienkdlmkaa
open Go.RowKit Go.Sh Go.Deep Go.ChangeShapes Go.WideShapes Go.ChangeAt

theorem Try.cells96 : Try.prog.cellsOf 96 = 3 := by kernel_rfl
theorem Try.cells2 : Try.prog.cellsOf 2 = 1 := by kernel_rfl

section
variable {H : Type} {en : TypeId × Value → H} {w : World} {base : Nat} {spare : Nat → Bool} {held : Bool}

theorem op96 (fuel : Nat) (cs : List Value) (y : DataW H × List MemPlace) (h : DataW.trod en Try.prog w base spare held fuel 96 cs = some y) :
    ∃ x : W3, cs = C3 x ∧ True := by
  obtain ⟨y0, y1, y2, n, _, hl, h0, h1, h2⟩ := trod_struct3 Try.underlying96 h
  rw [Try.cells96] at hl
  obtain ⟨c0, c1, c2, rfl⟩ := list3 hl
  obtain ⟨a, e0, _, wa⟩ := DataW.trod_int Try.underlying3 h0
  obtain ⟨b, e1, _, wb⟩ := DataW.trod_int Try.underlying3 h1
  obtain ⟨c, e2, _, wc⟩ := DataW.trod_int Try.underlying2 h2
  rw [Try.cells3] at e0 e1
  rw [Try.cells2] at e2
  simp at e0 e1 e2
  subst e0 e1 e2
  exact ⟨⟨a, b, c⟩, rfl, trivial⟩

end
end Go.Proofs.Ytidnkienkdlmkaa
