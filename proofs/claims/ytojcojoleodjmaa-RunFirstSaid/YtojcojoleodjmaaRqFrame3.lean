/-
  Opening the laws' arguments: slices of bools. No condition.
-/
import Derived.Test.YtojcojoleodjmaaRqFrame
import Derived.Test.YtojcojoleodjmaaRqFirst
namespace Go.Proofs.Ytojcojoleodjmaa
open Go.RowKit Go.Sh Go.Deep Go.ChangeShapes Go.WideShapes Go.ChangeAt

theorem Try.cells4 : Try.prog.cellsOf 4 = 1 := by kernel_rfl

section
variable {H : Type} {en : TypeId × Value → H} {w : World} {base : Nat} {spare : Nat → Bool} {held : Bool}

theorem b1el (fuel : Nat) (cs : List Value) (y : DataW H × List MemPlace) (h : DataW.trod en Try.prog w base spare held fuel 4 cs = some y) :
    ∃ x : Bool, cs = B1 x ∧ True := by
  obtain ⟨a, e0, _⟩ := DataW.trod_bool Try.underlying4 h
  exact ⟨a, e0, trivial⟩

end
end Go.Proofs.Ytojcojoleodjmaa
