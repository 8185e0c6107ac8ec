/-
  Opening the arguments of the laws of cond. No condition.
-/
import Derived.Test.YtidnkienkdlmkaaLawFrame
import Derived.Test.YtidnkienkdlmkaaCdArg
namespace Go.Proofs.Ytidnkienkdlmkaa
open Go.RowKit Go.Sh Go.Deep Go.ChangeShapes Go.WideShapes Go.ChangeAt

theorem Try.cells61 : Try.prog.cellsOf 61 = 3 := by kernel_rfl
theorem Try.cells4 : Try.prog.cellsOf 4 = 1 := by kernel_rfl
theorem Try.cells5 : Try.prog.cellsOf 5 = 1 := by kernel_rfl

section
variable {H : Type} {en : TypeId × Value → H} {w : World} {base : Nat} {spare : Nat → Bool} {held : Bool}

theorem op61 (fuel : Nat) (cs : List Value) (y : DataW H × List MemPlace) (h : DataW.trod en Try.prog w base spare held fuel 61 cs = some y) :
    ∃ x : K3, cs = CK3 x ∧ True := by
  obtain ⟨y0, y1, y2, n, _, hl, h0, h1, h2⟩ := trod_struct3 Try.underlying61 h
  rw [Try.cells61] at hl
  obtain ⟨c0, c1, c2, rfl⟩ := list3 hl
  obtain ⟨a, e0, _, wa⟩ := DataW.trod_int Try.underlying3 h0
  obtain ⟨b, e1, _, wb⟩ := DataW.trod_int Try.underlying3 h1
  obtain ⟨c, e2, _⟩ := DataW.trod_bool Try.underlying4 h2
  rw [Try.cells3] at e0 e1
  rw [Try.cells4] at e2
  simp at e0 e1 e2
  subst e0 e1 e2
  exact ⟨⟨a, b, c⟩, rfl, trivial⟩

theorem u8el (fuel : Nat) (cs : List Value) (y : DataW H × List MemPlace) (h : DataW.trod en Try.prog w base spare held fuel 5 cs = some y) :
    ∃ x : Int, cs = U8 x ∧ (Lit.int .u8 x).wf = true := by
  obtain ⟨a, e0, _, wa⟩ := DataW.trod_int Try.underlying5 h
  exact ⟨a, e0, wa⟩

end
end Go.Proofs.Ytidnkienkdlmkaa
