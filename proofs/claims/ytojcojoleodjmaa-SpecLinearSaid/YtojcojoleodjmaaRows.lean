/-
  No cell of these rows narrows 'for every input' (looked for: loops, veiled, ifaces, maps, wideKeys, modest, calm, conditions, laid).
  DERIVED. THE GIVEN ROWS OF THIS SEAT. 10 by the template 'for every input the law returns true; each argument reads behind the call as it read before'; 0 by the template 'total and deterministic' (their statements: YtojcojoleodjmaaTotals.lean).
  GIVEN WITH THE SEED: the statements are not yours to turn. If you find one false, say at which input.
  Laid BY PROGRAM, IN A SANDBOX (cutbox-rows.mjs): the forced cells as the released guide's own fill.sh prints them over the translation 5834a2f90f220f71… (all of the seat's roots in one cut). By AI agents, Wed Nov 11 2026. No macro, syntax, notation, axiom, sorry.
-/
import Derived.Test.YtojcojoleodjmaaChecked
import GoSem.Claim
import GoSem.ClaimJoined
import GoSem.ClaimMapViews
import Derived.JoinedTies
import Derived.KernelRfl
namespace Go.Proofs.Ytojcojoleodjmaa
/- THE CELL 'sum', in the pinned program and in every row, IS THE sha256 OF THE DUMP (.gsa) THAT YtojcojoleodjmaaProg.lean LOADS. Nothing in Lean hashes anything: it is a label: what it is worth is what the hold of that sum in a sandbox is worth. -/
noncomputable def Try.pinned : Pinned := { name := "ytojcojoleodjmaa", sum := "5834a2f90f220f71f01ec67547cd9dcfd58f427720003c3bd65736f219da0c5d", checked := Try.checked }
namespace Rows
def none {H : Type} : Left H := { results := [], args := [] }

/-- 'shuttlelaw19.RunTurn': WHATEVER THE INPUT: true; the input reads as it did. -/
def runTurnSpec : ChangeSpec := { name := "runTurn", fn := fun _ => fun
  | [d1, d2] => { results := [.lit (.bool true)], args := [d1, d2] }
  | _ => none }
def runTurnRow : OpenClaim := { program := "ytojcojoleodjmaa", sum := "5834a2f90f220f71f01ec67547cd9dcfd58f427720003c3bd65736f219da0c5d", func := "shuttle/shuttlelaw19.RunTurn", spec := "runTurn", apart := false }
def RunTurnSaid : Prop := runTurnRow.holds Try.pinned (OpenSpec.ofChange runTurnSpec)

/-- ITS FALSE NEIGHBOUR: 'it returns false'. Refute it at one input. -/
def runTurnWrong : ChangeSpec := { name := "runTurn", fn := fun _ => fun
  | [d1, d2] => { results := [.lit (.bool false)], args := [d1, d2] }
  | _ => none }
def RunTurnWrongFalsely : Prop := runTurnRow.holds Try.pinned (OpenSpec.ofChange runTurnWrong)

/-- 'shuttlelaw19.RunLost': WHATEVER THE INPUT: true; the input reads as it did. -/
def runLostSpec : ChangeSpec := { name := "runLost", fn := fun _ => fun
  | [d1, d2] => { results := [.lit (.bool true)], args := [d1, d2] }
  | _ => none }
def runLostRow : OpenClaim := { program := "ytojcojoleodjmaa", sum := "5834a2f90f220f71f01ec67547cd9dcfd58f427720003c3bd65736f219da0c5d", func := "shuttle/shuttlelaw19.RunLost", spec := "runLost", apart := false }
def RunLostSaid : Prop := runLostRow.holds Try.pinned (OpenSpec.ofChange runLostSpec)

/-- ITS FALSE NEIGHBOUR: 'it returns false'. Refute it at one input. -/
def runLostWrong : ChangeSpec := { name := "runLost", fn := fun _ => fun
  | [d1, d2] => { results := [.lit (.bool false)], args := [d1, d2] }
  | _ => none }
def RunLostWrongFalsely : Prop := runLostRow.holds Try.pinned (OpenSpec.ofChange runLostWrong)

/-- 'shuttlelaw19.RunFirst': WHATEVER THE INPUT: true; the input reads as it did. -/
def runFirstSpec : ChangeSpec := { name := "runFirst", fn := fun _ => fun
  | [d1, d2] => { results := [.lit (.bool true)], args := [d1, d2] }
  | _ => none }
def runFirstRow : OpenClaim := { program := "ytojcojoleodjmaa", sum := "5834a2f90f220f71f01ec67547cd9dcfd58f427720003c3bd65736f219da0c5d", func := "shuttle/shuttlelaw19.RunFirst", spec := "runFirst", unfollowed := true, recurses := true, apart := false }
def RunFirstSaid : Prop := runFirstRow.holds Try.pinned (OpenSpec.ofChange runFirstSpec)

/-- ITS FALSE NEIGHBOUR: 'it returns false'. Refute it at one input. -/
def runFirstWrong : ChangeSpec := { name := "runFirst", fn := fun _ => fun
  | [d1, d2] => { results := [.lit (.bool false)], args := [d1, d2] }
  | _ => none }
def RunFirstWrongFalsely : Prop := runFirstRow.holds Try.pinned (OpenSpec.ofChange runFirstWrong)

/-- 'shuttlelaw19.RunNone': WHATEVER THE INPUT: true; the input reads as it did. -/
def runNoneSpec : ChangeSpec := { name := "runNone", fn := fun _ => fun
  | [d1, d2] => { results := [.lit (.bool true)], args := [d1, d2] }
  | _ => none }
def runNoneRow : OpenClaim := { program := "ytojcojoleodjmaa", sum := "5834a2f90f220f71f01ec67547cd9dcfd58f427720003c3bd65736f219da0c5d", func := "shuttle/shuttlelaw19.RunNone", spec := "runNone", unfollowed := true, recurses := true, apart := false }
def RunNoneSaid : Prop := runNoneRow.holds Try.pinned (OpenSpec.ofChange runNoneSpec)

/-- ITS FALSE NEIGHBOUR: 'it returns false'. Refute it at one input. -/
def runNoneWrong : ChangeSpec := { name := "runNone", fn := fun _ => fun
  | [d1, d2] => { results := [.lit (.bool false)], args := [d1, d2] }
  | _ => none }
def RunNoneWrongFalsely : Prop := runNoneRow.holds Try.pinned (OpenSpec.ofChange runNoneWrong)

/-- 'shuttlelaw19.RunDoes': WHATEVER THE INPUT: true; the input reads as it did. -/
def runDoesSpec : ChangeSpec := { name := "runDoes", fn := fun _ => fun
  | [d1, d2] => { results := [.lit (.bool true)], args := [d1, d2] }
  | _ => none }
def runDoesRow : OpenClaim := { program := "ytojcojoleodjmaa", sum := "5834a2f90f220f71f01ec67547cd9dcfd58f427720003c3bd65736f219da0c5d", func := "shuttle/shuttlelaw19.RunDoes", spec := "runDoes", unfollowed := true, recurses := true, apart := false }
def RunDoesSaid : Prop := runDoesRow.holds Try.pinned (OpenSpec.ofChange runDoesSpec)

/-- ITS FALSE NEIGHBOUR: 'it returns false'. Refute it at one input. -/
def runDoesWrong : ChangeSpec := { name := "runDoes", fn := fun _ => fun
  | [d1, d2] => { results := [.lit (.bool false)], args := [d1, d2] }
  | _ => none }
def RunDoesWrongFalsely : Prop := runDoesRow.holds Try.pinned (OpenSpec.ofChange runDoesWrong)

/-- 'shuttlelaw23.SpecLinear': WHATEVER THE INPUT: true; the input reads as it did. -/
def specLinearSpec : ChangeSpec := { name := "specLinear", fn := fun _ => fun
  | [d1, d2, d3] => { results := [.lit (.bool true)], args := [d1, d2, d3] }
  | _ => none }
def specLinearRow : OpenClaim := { program := "ytojcojoleodjmaa", sum := "5834a2f90f220f71f01ec67547cd9dcfd58f427720003c3bd65736f219da0c5d", func := "shuttle/shuttlelaw23.SpecLinear", spec := "specLinear", unfollowed := true, recurses := true, apart := false }
def SpecLinearSaid : Prop := specLinearRow.holds Try.pinned (OpenSpec.ofChange specLinearSpec)

/-- ITS FALSE NEIGHBOUR: 'it returns false'. Refute it at one input. -/
def specLinearWrong : ChangeSpec := { name := "specLinear", fn := fun _ => fun
  | [d1, d2, d3] => { results := [.lit (.bool false)], args := [d1, d2, d3] }
  | _ => none }
def SpecLinearWrongFalsely : Prop := specLinearRow.holds Try.pinned (OpenSpec.ofChange specLinearWrong)

/-- 'shuttlelaw23.SpecMay': WHATEVER THE INPUT: true; the input reads as it did. -/
def specMaySpec : ChangeSpec := { name := "specMay", fn := fun _ => fun
  | [d1, d2, d3] => { results := [.lit (.bool true)], args := [d1, d2, d3] }
  | _ => none }
def specMayRow : OpenClaim := { program := "ytojcojoleodjmaa", sum := "5834a2f90f220f71f01ec67547cd9dcfd58f427720003c3bd65736f219da0c5d", func := "shuttle/shuttlelaw23.SpecMay", spec := "specMay", unfollowed := true, recurses := true, apart := false }
def SpecMaySaid : Prop := specMayRow.holds Try.pinned (OpenSpec.ofChange specMaySpec)

/-- ITS FALSE NEIGHBOUR: 'it returns false'. Refute it at one input. -/
def specMayWrong : ChangeSpec := { name := "specMay", fn := fun _ => fun
  | [d1, d2, d3] => { results := [.lit (.bool false)], args := [d1, d2, d3] }
  | _ => none }
def SpecMayWrongFalsely : Prop := specMayRow.holds Try.pinned (OpenSpec.ofChange specMayWrong)

/-- 'shuttlelaw23.SpecOne': WHATEVER THE INPUT: true; the input reads as it did. -/
def specOneSpec : ChangeSpec := { name := "specOne", fn := fun _ => fun
  | [d1, d2, d3] => { results := [.lit (.bool true)], args := [d1, d2, d3] }
  | _ => none }
def specOneRow : OpenClaim := { program := "ytojcojoleodjmaa", sum := "5834a2f90f220f71f01ec67547cd9dcfd58f427720003c3bd65736f219da0c5d", func := "shuttle/shuttlelaw23.SpecOne", spec := "specOne", unfollowed := true, recurses := true, apart := false }
def SpecOneSaid : Prop := specOneRow.holds Try.pinned (OpenSpec.ofChange specOneSpec)

/-- ITS FALSE NEIGHBOUR: 'it returns false'. Refute it at one input. -/
def specOneWrong : ChangeSpec := { name := "specOne", fn := fun _ => fun
  | [d1, d2, d3] => { results := [.lit (.bool false)], args := [d1, d2, d3] }
  | _ => none }
def SpecOneWrongFalsely : Prop := specOneRow.holds Try.pinned (OpenSpec.ofChange specOneWrong)

/-- 'shuttlelaw23.SpecWider': WHATEVER THE INPUT: true; the input reads as it did. -/
def specWiderSpec : ChangeSpec := { name := "specWider", fn := fun _ => fun
  | [d1, d2, d3, d4, d5] => { results := [.lit (.bool true)], args := [d1, d2, d3, d4, d5] }
  | _ => none }
def specWiderRow : OpenClaim := { program := "ytojcojoleodjmaa", sum := "5834a2f90f220f71f01ec67547cd9dcfd58f427720003c3bd65736f219da0c5d", func := "shuttle/shuttlelaw23.SpecWider", spec := "specWider", unfollowed := true, recurses := true, apart := false }
def SpecWiderSaid : Prop := specWiderRow.holds Try.pinned (OpenSpec.ofChange specWiderSpec)

/-- ITS FALSE NEIGHBOUR: 'it returns false'. Refute it at one input. -/
def specWiderWrong : ChangeSpec := { name := "specWider", fn := fun _ => fun
  | [d1, d2, d3, d4, d5] => { results := [.lit (.bool false)], args := [d1, d2, d3, d4, d5] }
  | _ => none }
def SpecWiderWrongFalsely : Prop := specWiderRow.holds Try.pinned (OpenSpec.ofChange specWiderWrong)

/-- 'shuttlelaw23.SpecHolds': WHATEVER THE INPUT: true; the input reads as it did. -/
def specHoldsSpec : ChangeSpec := { name := "specHolds", fn := fun _ => fun
  | [d1, d2, d3] => { results := [.lit (.bool true)], args := [d1, d2, d3] }
  | _ => none }
def specHoldsRow : OpenClaim := { program := "ytojcojoleodjmaa", sum := "5834a2f90f220f71f01ec67547cd9dcfd58f427720003c3bd65736f219da0c5d", func := "shuttle/shuttlelaw23.SpecHolds", spec := "specHolds", unfollowed := true, recurses := true, apart := false }
def SpecHoldsSaid : Prop := specHoldsRow.holds Try.pinned (OpenSpec.ofChange specHoldsSpec)

/-- ITS FALSE NEIGHBOUR: 'it returns false'. Refute it at one input. -/
def specHoldsWrong : ChangeSpec := { name := "specHolds", fn := fun _ => fun
  | [d1, d2, d3] => { results := [.lit (.bool false)], args := [d1, d2, d3] }
  | _ => none }
def SpecHoldsWrongFalsely : Prop := specHoldsRow.holds Try.pinned (OpenSpec.ofChange specHoldsWrong)

/- THE SECOND FORM. 'bulk': how many values and letters a reading holds, each counted each time it is reached (what is shared counts as often as it is met; a slice's spare places count too). A statement '..UptoSaid' is the law's where the arguments, and the package variables that the reading takes, are together of bulk at most 1048576: NARROWER than '..Said'. Prove '..Said' where nothing that the law and all that it calls make is longer than what came in: it says more and counts as full. Else prove '..UptoSaid'. A law counts once. -/
mutual
def uptoBulk {H : Type} : DataW H → Nat
  | .lit (.string bytes) => bytes.length + 1
  | .lit _ => 1
  | .nil => 1
  | .ptr d => uptoBulk d + 1
  | .slice elems spare => uptoBulkAll elems + uptoBulkAll spare + 1
  | .agg parts => uptoBulkAll parts + 1
  | .iface _ d => uptoBulk d + 1
  | .map entries => uptoBulkEntries entries + 1
  | .held _ => 1
def uptoBulkAll {H : Type} : List (DataW H) → Nat
  | [] => 0
  | d :: r => uptoBulk d + uptoBulkAll r
def uptoBulkEntries {H : Type} : List (Lit × DataW H) → Nat
  | [] => 0
  | x :: r => uptoBulkEntry x + uptoBulkEntries r
def uptoBulkEntry {H : Type} : Lit × DataW H → Nat
  | (.string bytes, d) => bytes.length + uptoBulk d + 1
  | (_, d) => uptoBulk d + 1
 end
def uptoSmall : (H : Type) → List (DataW H) → Bool := fun _ ds => decide (uptoBulkAll ds ≤ 1048576)
def OpenSpec.upto (s : _root_.Go.ChangeSpec) : _root_.Go.OpenSpec := { _root_.Go.OpenSpec.ofChange s with cond := some uptoSmall }

/-- 'shuttlelaw19.RunTurn', WHERE WHAT IT READS IS OF BULK AT MOST 1048576: true; the input reads as it did. -/
def runTurnUptoRow : OpenClaim := { program := "ytojcojoleodjmaa", sum := "5834a2f90f220f71f01ec67547cd9dcfd58f427720003c3bd65736f219da0c5d", func := "shuttle/shuttlelaw19.RunTurn", spec := "runTurn", apart := false, narrowed := true }
def RunTurnUptoSaid : Prop := runTurnUptoRow.holds Try.pinned (OpenSpec.upto runTurnSpec)

/-- 'shuttlelaw19.RunLost', WHERE WHAT IT READS IS OF BULK AT MOST 1048576: true; the input reads as it did. -/
def runLostUptoRow : OpenClaim := { program := "ytojcojoleodjmaa", sum := "5834a2f90f220f71f01ec67547cd9dcfd58f427720003c3bd65736f219da0c5d", func := "shuttle/shuttlelaw19.RunLost", spec := "runLost", apart := false, narrowed := true }
def RunLostUptoSaid : Prop := runLostUptoRow.holds Try.pinned (OpenSpec.upto runLostSpec)

/-- 'shuttlelaw19.RunFirst', WHERE WHAT IT READS IS OF BULK AT MOST 1048576: true; the input reads as it did. -/
def runFirstUptoRow : OpenClaim := { program := "ytojcojoleodjmaa", sum := "5834a2f90f220f71f01ec67547cd9dcfd58f427720003c3bd65736f219da0c5d", func := "shuttle/shuttlelaw19.RunFirst", spec := "runFirst", unfollowed := true, recurses := true, apart := false, narrowed := true }
def RunFirstUptoSaid : Prop := runFirstUptoRow.holds Try.pinned (OpenSpec.upto runFirstSpec)

/-- 'shuttlelaw19.RunNone', WHERE WHAT IT READS IS OF BULK AT MOST 1048576: true; the input reads as it did. -/
def runNoneUptoRow : OpenClaim := { program := "ytojcojoleodjmaa", sum := "5834a2f90f220f71f01ec67547cd9dcfd58f427720003c3bd65736f219da0c5d", func := "shuttle/shuttlelaw19.RunNone", spec := "runNone", unfollowed := true, recurses := true, apart := false, narrowed := true }
def RunNoneUptoSaid : Prop := runNoneUptoRow.holds Try.pinned (OpenSpec.upto runNoneSpec)

/-- 'shuttlelaw19.RunDoes', WHERE WHAT IT READS IS OF BULK AT MOST 1048576: true; the input reads as it did. -/
def runDoesUptoRow : OpenClaim := { program := "ytojcojoleodjmaa", sum := "5834a2f90f220f71f01ec67547cd9dcfd58f427720003c3bd65736f219da0c5d", func := "shuttle/shuttlelaw19.RunDoes", spec := "runDoes", unfollowed := true, recurses := true, apart := false, narrowed := true }
def RunDoesUptoSaid : Prop := runDoesUptoRow.holds Try.pinned (OpenSpec.upto runDoesSpec)

/-- 'shuttlelaw23.SpecLinear', WHERE WHAT IT READS IS OF BULK AT MOST 1048576: true; the input reads as it did. -/
def specLinearUptoRow : OpenClaim := { program := "ytojcojoleodjmaa", sum := "5834a2f90f220f71f01ec67547cd9dcfd58f427720003c3bd65736f219da0c5d", func := "shuttle/shuttlelaw23.SpecLinear", spec := "specLinear", unfollowed := true, recurses := true, apart := false, narrowed := true }
def SpecLinearUptoSaid : Prop := specLinearUptoRow.holds Try.pinned (OpenSpec.upto specLinearSpec)

/-- 'shuttlelaw23.SpecMay', WHERE WHAT IT READS IS OF BULK AT MOST 1048576: true; the input reads as it did. -/
def specMayUptoRow : OpenClaim := { program := "ytojcojoleodjmaa", sum := "5834a2f90f220f71f01ec67547cd9dcfd58f427720003c3bd65736f219da0c5d", func := "shuttle/shuttlelaw23.SpecMay", spec := "specMay", unfollowed := true, recurses := true, apart := false, narrowed := true }
def SpecMayUptoSaid : Prop := specMayUptoRow.holds Try.pinned (OpenSpec.upto specMaySpec)

/-- 'shuttlelaw23.SpecOne', WHERE WHAT IT READS IS OF BULK AT MOST 1048576: true; the input reads as it did. -/
def specOneUptoRow : OpenClaim := { program := "ytojcojoleodjmaa", sum := "5834a2f90f220f71f01ec67547cd9dcfd58f427720003c3bd65736f219da0c5d", func := "shuttle/shuttlelaw23.SpecOne", spec := "specOne", unfollowed := true, recurses := true, apart := false, narrowed := true }
def SpecOneUptoSaid : Prop := specOneUptoRow.holds Try.pinned (OpenSpec.upto specOneSpec)

/-- 'shuttlelaw23.SpecWider', WHERE WHAT IT READS IS OF BULK AT MOST 1048576: true; the input reads as it did. -/
def specWiderUptoRow : OpenClaim := { program := "ytojcojoleodjmaa", sum := "5834a2f90f220f71f01ec67547cd9dcfd58f427720003c3bd65736f219da0c5d", func := "shuttle/shuttlelaw23.SpecWider", spec := "specWider", unfollowed := true, recurses := true, apart := false, narrowed := true }
def SpecWiderUptoSaid : Prop := specWiderUptoRow.holds Try.pinned (OpenSpec.upto specWiderSpec)

/-- 'shuttlelaw23.SpecHolds', WHERE WHAT IT READS IS OF BULK AT MOST 1048576: true; the input reads as it did. -/
def specHoldsUptoRow : OpenClaim := { program := "ytojcojoleodjmaa", sum := "5834a2f90f220f71f01ec67547cd9dcfd58f427720003c3bd65736f219da0c5d", func := "shuttle/shuttlelaw23.SpecHolds", spec := "specHolds", unfollowed := true, recurses := true, apart := false, narrowed := true }
def SpecHoldsUptoSaid : Prop := specHoldsUptoRow.holds Try.pinned (OpenSpec.upto specHoldsSpec)

end Rows
end Go.Proofs.Ytojcojoleodjmaa
