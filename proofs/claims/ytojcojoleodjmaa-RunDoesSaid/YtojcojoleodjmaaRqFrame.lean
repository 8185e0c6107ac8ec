/-
  Opening the laws' arguments. No condition.
-/
import Derived.Test.YtojcojoleodjmaaRows
import Derived.Test.YtojcojoleodjmaaArg
import Derived.Test.YtojcojoleodjmaaRqTurn
import Derived.ShutString
namespace Go.Proofs.Ytojcojoleodjmaa
open Go.RowKit Go.Sh Go.Deep Go.ChangeShapes Go.WideShapes Go.ChangeAt

theorem ownKnobs : ownKnob Try.prog.godebug = none := by kernel_rfl
theorem laidOut : laidOutB Try.prog = true := by kernel_rfl
theorem Try.cells3 : Try.prog.cellsOf 3 = 1 := by kernel_rfl
theorem Try.cells5 : Try.prog.cellsOf 5 = 1 := by kernel_rfl

section
variable {H : Type} {en : TypeId × Value → H} {w : World} {base : Nat} {spare : Nat → Bool} {held : Bool}

theorem u8el (fuel : Nat) (cs : List Value) (y : DataW H × List MemPlace) (h : DataW.trod en Try.prog w base spare held fuel 5 cs = some y) :
    ∃ x : Int, cs = U8 x ∧ (Lit.int .u8 x).wf = true := by
  obtain ⟨a, e0, _, wa⟩ := DataW.trod_int Try.underlying5 h
  exact ⟨a, e0, wa⟩

end
end Go.Proofs.Ytojcojoleodjmaa
