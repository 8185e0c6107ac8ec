/-
  No cell of these rows narrows 'for every input' (looked for: loops, veiled, ifaces, maps, wideKeys, modest, calm, conditions, laid).
  DERIVED. THE GIVEN ROWS OF THIS SEAT. 12 by the template 'for every input the law returns true; each argument reads behind the call as it read before'; 0 by the template 'total and deterministic' (their statements: YtidnkienkdlmkaaTotals.lean).
  GIVEN WITH THE SEED: the statements are not yours to turn. If you find one false, say at which input.
  Laid BY PROGRAM, IN A SANDBOX (cutbox-rows.mjs): the forced cells as the released guide's own fill.sh prints them over the translation 4eff586ab966ab7b… (all of the seat's roots in one cut). By AI agents, Wed Nov 11 2026. No macro, syntax, notation, axiom, sorry.
-/
import Derived.Test.YtidnkienkdlmkaaChecked
import GoSem.Claim
import GoSem.ClaimJoined
import GoSem.ClaimMapViews
import Derived.JoinedTies
import Derived.KernelRfl
namespace Go.Proofs.Ytidnkienkdlmkaa
/- THE CELL 'sum', in the pinned program and in every row, IS THE sha256 OF THE DUMP (.gsa) THAT YtidnkienkdlmkaaProg.lean LOADS. Nothing in Lean hashes anything: it is a label: what it is worth is what the hold of that sum in a sandbox is worth. -/
noncomputable def Try.pinned : Pinned := { name := "ytidnkienkdlmkaa", sum := "4eff586ab966ab7ba517b6a4bf06f3c46faef7eeded4e9f54754fe42002d8ad2", checked := Try.checked }
namespace Rows
def none {H : Type} : Left H := { results := [], args := [] }

/-- 'shuttlelaw16.MutexTurn': WHATEVER THE INPUT: true; the input reads as it did. -/
def mutexTurnSpec : ChangeSpec := { name := "mutexTurn", fn := fun _ => fun
  | [d] => { results := [.lit (.bool true)], args := [d] }
  | _ => none }
def mutexTurnRow : OpenClaim := { program := "ytidnkienkdlmkaa", sum := "4eff586ab966ab7ba517b6a4bf06f3c46faef7eeded4e9f54754fe42002d8ad2", func := "shuttle/shuttlelaw16.MutexTurn", spec := "mutexTurn", apart := false }
def MutexTurnSaid : Prop := mutexTurnRow.holds Try.pinned (OpenSpec.ofChange mutexTurnSpec)

/-- ITS FALSE NEIGHBOUR: 'it returns false'. Refute it at one input. -/
def mutexTurnWrong : ChangeSpec := { name := "mutexTurn", fn := fun _ => fun
  | [d] => { results := [.lit (.bool false)], args := [d] }
  | _ => none }
def MutexTurnWrongFalsely : Prop := mutexTurnRow.holds Try.pinned (OpenSpec.ofChange mutexTurnWrong)

/-- 'shuttlelaw16.MutexWaits': WHATEVER THE INPUT: true; the input reads as it did. -/
def mutexWaitsSpec : ChangeSpec := { name := "mutexWaits", fn := fun _ => fun
  | [d] => { results := [.lit (.bool true)], args := [d] }
  | _ => none }
def mutexWaitsRow : OpenClaim := { program := "ytidnkienkdlmkaa", sum := "4eff586ab966ab7ba517b6a4bf06f3c46faef7eeded4e9f54754fe42002d8ad2", func := "shuttle/shuttlelaw16.MutexWaits", spec := "mutexWaits", apart := false }
def MutexWaitsSaid : Prop := mutexWaitsRow.holds Try.pinned (OpenSpec.ofChange mutexWaitsSpec)

/-- ITS FALSE NEIGHBOUR: 'it returns false'. Refute it at one input. -/
def mutexWaitsWrong : ChangeSpec := { name := "mutexWaits", fn := fun _ => fun
  | [d] => { results := [.lit (.bool false)], args := [d] }
  | _ => none }
def MutexWaitsWrongFalsely : Prop := mutexWaitsRow.holds Try.pinned (OpenSpec.ofChange mutexWaitsWrong)

/-- 'shuttlelaw16.MutexNone': WHATEVER THE INPUT: true; the input reads as it did. -/
def mutexNoneSpec : ChangeSpec := { name := "mutexNone", fn := fun _ => fun
  | [d] => { results := [.lit (.bool true)], args := [d] }
  | _ => none }
def mutexNoneRow : OpenClaim := { program := "ytidnkienkdlmkaa", sum := "4eff586ab966ab7ba517b6a4bf06f3c46faef7eeded4e9f54754fe42002d8ad2", func := "shuttle/shuttlelaw16.MutexNone", spec := "mutexNone", apart := false }
def MutexNoneSaid : Prop := mutexNoneRow.holds Try.pinned (OpenSpec.ofChange mutexNoneSpec)

/-- ITS FALSE NEIGHBOUR: 'it returns false'. Refute it at one input. -/
def mutexNoneWrong : ChangeSpec := { name := "mutexNone", fn := fun _ => fun
  | [d] => { results := [.lit (.bool false)], args := [d] }
  | _ => none }
def MutexNoneWrongFalsely : Prop := mutexNoneRow.holds Try.pinned (OpenSpec.ofChange mutexNoneWrong)

/-- 'shuttlelaw16.MutexDoes': WHATEVER THE INPUT: true; the input reads as it did. -/
def mutexDoesSpec : ChangeSpec := { name := "mutexDoes", fn := fun _ => fun
  | [d] => { results := [.lit (.bool true)], args := [d] }
  | _ => none }
def mutexDoesRow : OpenClaim := { program := "ytidnkienkdlmkaa", sum := "4eff586ab966ab7ba517b6a4bf06f3c46faef7eeded4e9f54754fe42002d8ad2", func := "shuttle/shuttlelaw16.MutexDoes", spec := "mutexDoes", apart := false }
def MutexDoesSaid : Prop := mutexDoesRow.holds Try.pinned (OpenSpec.ofChange mutexDoesSpec)

/-- ITS FALSE NEIGHBOUR: 'it returns false'. Refute it at one input. -/
def mutexDoesWrong : ChangeSpec := { name := "mutexDoes", fn := fun _ => fun
  | [d] => { results := [.lit (.bool false)], args := [d] }
  | _ => none }
def MutexDoesWrongFalsely : Prop := mutexDoesRow.holds Try.pinned (OpenSpec.ofChange mutexDoesWrong)

/-- 'shuttlelaw17.CondHas': WHATEVER THE INPUT: true; the input reads as it did. -/
def condHasSpec : ChangeSpec := { name := "condHas", fn := fun _ => fun
  | [d] => { results := [.lit (.bool true)], args := [d] }
  | _ => none }
def condHasRow : OpenClaim := { program := "ytidnkienkdlmkaa", sum := "4eff586ab966ab7ba517b6a4bf06f3c46faef7eeded4e9f54754fe42002d8ad2", func := "shuttle/shuttlelaw17.CondHas", spec := "condHas", unfollowed := true, recurses := true, apart := false }
def CondHasSaid : Prop := condHasRow.holds Try.pinned (OpenSpec.ofChange condHasSpec)

/-- ITS FALSE NEIGHBOUR: 'it returns false'. Refute it at one input. -/
def condHasWrong : ChangeSpec := { name := "condHas", fn := fun _ => fun
  | [d] => { results := [.lit (.bool false)], args := [d] }
  | _ => none }
def CondHasWrongFalsely : Prop := condHasRow.holds Try.pinned (OpenSpec.ofChange condHasWrong)

/-- 'shuttlelaw17.CondNone': WHATEVER THE INPUT: true; the input reads as it did. -/
def condNoneSpec : ChangeSpec := { name := "condNone", fn := fun _ => fun
  | [d] => { results := [.lit (.bool true)], args := [d] }
  | _ => none }
def condNoneRow : OpenClaim := { program := "ytidnkienkdlmkaa", sum := "4eff586ab966ab7ba517b6a4bf06f3c46faef7eeded4e9f54754fe42002d8ad2", func := "shuttle/shuttlelaw17.CondNone", spec := "condNone", unfollowed := true, recurses := true, apart := false }
def CondNoneSaid : Prop := condNoneRow.holds Try.pinned (OpenSpec.ofChange condNoneSpec)

/-- ITS FALSE NEIGHBOUR: 'it returns false'. Refute it at one input. -/
def condNoneWrong : ChangeSpec := { name := "condNone", fn := fun _ => fun
  | [d] => { results := [.lit (.bool false)], args := [d] }
  | _ => none }
def CondNoneWrongFalsely : Prop := condNoneRow.holds Try.pinned (OpenSpec.ofChange condNoneWrong)

/-- 'shuttlelaw17.CondDoes': WHATEVER THE INPUT: true; the input reads as it did. -/
def condDoesSpec : ChangeSpec := { name := "condDoes", fn := fun _ => fun
  | [d] => { results := [.lit (.bool true)], args := [d] }
  | _ => none }
def condDoesRow : OpenClaim := { program := "ytidnkienkdlmkaa", sum := "4eff586ab966ab7ba517b6a4bf06f3c46faef7eeded4e9f54754fe42002d8ad2", func := "shuttle/shuttlelaw17.CondDoes", spec := "condDoes", unfollowed := true, recurses := true, apart := false }
def CondDoesSaid : Prop := condDoesRow.holds Try.pinned (OpenSpec.ofChange condDoesSpec)

/-- ITS FALSE NEIGHBOUR: 'it returns false'. Refute it at one input. -/
def condDoesWrong : ChangeSpec := { name := "condDoes", fn := fun _ => fun
  | [d] => { results := [.lit (.bool false)], args := [d] }
  | _ => none }
def CondDoesWrongFalsely : Prop := condDoesRow.holds Try.pinned (OpenSpec.ofChange condDoesWrong)

/-- 'shuttlelaw17.CondTurn': WHATEVER THE INPUT: true; the input reads as it did. -/
def condTurnSpec : ChangeSpec := { name := "condTurn", fn := fun _ => fun
  | [d1, d2] => { results := [.lit (.bool true)], args := [d1, d2] }
  | _ => none }
def condTurnRow : OpenClaim := { program := "ytidnkienkdlmkaa", sum := "4eff586ab966ab7ba517b6a4bf06f3c46faef7eeded4e9f54754fe42002d8ad2", func := "shuttle/shuttlelaw17.CondTurn", spec := "condTurn", unfollowed := true, recurses := true, apart := false }
def CondTurnSaid : Prop := condTurnRow.holds Try.pinned (OpenSpec.ofChange condTurnSpec)

/-- ITS FALSE NEIGHBOUR: 'it returns false'. Refute it at one input. -/
def condTurnWrong : ChangeSpec := { name := "condTurn", fn := fun _ => fun
  | [d1, d2] => { results := [.lit (.bool false)], args := [d1, d2] }
  | _ => none }
def CondTurnWrongFalsely : Prop := condTurnRow.holds Try.pinned (OpenSpec.ofChange condTurnWrong)

/-- 'shuttlelaw15.ChanOrder': WHATEVER THE INPUT: true; the input reads as it did. -/
def chanOrderSpec : ChangeSpec := { name := "chanOrder", fn := fun _ => fun
  | [d1, d2] => { results := [.lit (.bool true)], args := [d1, d2] }
  | _ => none }
def chanOrderRow : OpenClaim := { program := "ytidnkienkdlmkaa", sum := "4eff586ab966ab7ba517b6a4bf06f3c46faef7eeded4e9f54754fe42002d8ad2", func := "shuttle/shuttlelaw15.ChanOrder", spec := "chanOrder", unfollowed := true, recurses := true, apart := false }
def ChanOrderSaid : Prop := chanOrderRow.holds Try.pinned (OpenSpec.ofChange chanOrderSpec)

/-- ITS FALSE NEIGHBOUR: 'it returns false'. Refute it at one input. -/
def chanOrderWrong : ChangeSpec := { name := "chanOrder", fn := fun _ => fun
  | [d1, d2] => { results := [.lit (.bool false)], args := [d1, d2] }
  | _ => none }
def ChanOrderWrongFalsely : Prop := chanOrderRow.holds Try.pinned (OpenSpec.ofChange chanOrderWrong)

/-- 'shuttlelaw15.ChanWaits': WHATEVER THE INPUT: true; the input reads as it did. -/
def chanWaitsSpec : ChangeSpec := { name := "chanWaits", fn := fun _ => fun
  | [d1, d2] => { results := [.lit (.bool true)], args := [d1, d2] }
  | _ => none }
def chanWaitsRow : OpenClaim := { program := "ytidnkienkdlmkaa", sum := "4eff586ab966ab7ba517b6a4bf06f3c46faef7eeded4e9f54754fe42002d8ad2", func := "shuttle/shuttlelaw15.ChanWaits", spec := "chanWaits", unfollowed := true, recurses := true, apart := false }
def ChanWaitsSaid : Prop := chanWaitsRow.holds Try.pinned (OpenSpec.ofChange chanWaitsSpec)

/-- ITS FALSE NEIGHBOUR: 'it returns false'. Refute it at one input. -/
def chanWaitsWrong : ChangeSpec := { name := "chanWaits", fn := fun _ => fun
  | [d1, d2] => { results := [.lit (.bool false)], args := [d1, d2] }
  | _ => none }
def ChanWaitsWrongFalsely : Prop := chanWaitsRow.holds Try.pinned (OpenSpec.ofChange chanWaitsWrong)

/-- 'shuttlelaw15.ChanNone': WHATEVER THE INPUT: true; the input reads as it did. -/
def chanNoneSpec : ChangeSpec := { name := "chanNone", fn := fun _ => fun
  | [d] => { results := [.lit (.bool true)], args := [d] }
  | _ => none }
def chanNoneRow : OpenClaim := { program := "ytidnkienkdlmkaa", sum := "4eff586ab966ab7ba517b6a4bf06f3c46faef7eeded4e9f54754fe42002d8ad2", func := "shuttle/shuttlelaw15.ChanNone", spec := "chanNone", unfollowed := true, recurses := true, apart := false }
def ChanNoneSaid : Prop := chanNoneRow.holds Try.pinned (OpenSpec.ofChange chanNoneSpec)

/-- ITS FALSE NEIGHBOUR: 'it returns false'. Refute it at one input. -/
def chanNoneWrong : ChangeSpec := { name := "chanNone", fn := fun _ => fun
  | [d] => { results := [.lit (.bool false)], args := [d] }
  | _ => none }
def ChanNoneWrongFalsely : Prop := chanNoneRow.holds Try.pinned (OpenSpec.ofChange chanNoneWrong)

/-- 'shuttlelaw15.ChanDoes': WHATEVER THE INPUT: true; the input reads as it did. -/
def chanDoesSpec : ChangeSpec := { name := "chanDoes", fn := fun _ => fun
  | [d1, d2] => { results := [.lit (.bool true)], args := [d1, d2] }
  | _ => none }
def chanDoesRow : OpenClaim := { program := "ytidnkienkdlmkaa", sum := "4eff586ab966ab7ba517b6a4bf06f3c46faef7eeded4e9f54754fe42002d8ad2", func := "shuttle/shuttlelaw15.ChanDoes", spec := "chanDoes", unfollowed := true, recurses := true, apart := false }
def ChanDoesSaid : Prop := chanDoesRow.holds Try.pinned (OpenSpec.ofChange chanDoesSpec)

/-- ITS FALSE NEIGHBOUR: 'it returns false'. Refute it at one input. -/
def chanDoesWrong : ChangeSpec := { name := "chanDoes", fn := fun _ => fun
  | [d1, d2] => { results := [.lit (.bool false)], args := [d1, d2] }
  | _ => none }
def ChanDoesWrongFalsely : Prop := chanDoesRow.holds Try.pinned (OpenSpec.ofChange chanDoesWrong)

/- THE SECOND FORM. 'bulk': how many values and letters a reading holds, each counted each time it is reached (what is shared counts as often as it is met; a slice's spare places count too). A statement '..UptoSaid' is the law's where the arguments, and the package variables that the reading takes, are together of bulk at most 1048576: NARROWER than '..Said'. Prove '..Said' where nothing that the law and all that it calls make is longer than what came in: it says more and counts as full. Else prove '..UptoSaid'. A law counts once. -/
mutual
def uptoBulk {H : Type} : DataW H → Nat
  | .lit (.string bytes) => bytes.length + 1
  | .lit _ => 1
  | .nil => 1
  | .ptr d => uptoBulk d + 1
  | .slice elems spare => uptoBulkAll elems + uptoBulkAll spare + 1
  | .agg parts => uptoBulkAll parts + 1
  | .iface _ d => uptoBulk d + 1
  | .map entries => uptoBulkEntries entries + 1
  | .held _ => 1
def uptoBulkAll {H : Type} : List (DataW H) → Nat
  | [] => 0
  | d :: r => uptoBulk d + uptoBulkAll r
def uptoBulkEntries {H : Type} : List (Lit × DataW H) → Nat
  | [] => 0
  | x :: r => uptoBulkEntry x + uptoBulkEntries r
def uptoBulkEntry {H : Type} : Lit × DataW H → Nat
  | (.string bytes, d) => bytes.length + uptoBulk d + 1
  | (_, d) => uptoBulk d + 1
 end
def uptoSmall : (H : Type) → List (DataW H) → Bool := fun _ ds => decide (uptoBulkAll ds ≤ 1048576)
def OpenSpec.upto (s : _root_.Go.ChangeSpec) : _root_.Go.OpenSpec := { _root_.Go.OpenSpec.ofChange s with cond := some uptoSmall }

/-- 'shuttlelaw16.MutexTurn', WHERE WHAT IT READS IS OF BULK AT MOST 1048576: true; the input reads as it did. -/
def mutexTurnUptoRow : OpenClaim := { program := "ytidnkienkdlmkaa", sum := "4eff586ab966ab7ba517b6a4bf06f3c46faef7eeded4e9f54754fe42002d8ad2", func := "shuttle/shuttlelaw16.MutexTurn", spec := "mutexTurn", apart := false, narrowed := true }
def MutexTurnUptoSaid : Prop := mutexTurnUptoRow.holds Try.pinned (OpenSpec.upto mutexTurnSpec)

/-- 'shuttlelaw16.MutexWaits', WHERE WHAT IT READS IS OF BULK AT MOST 1048576: true; the input reads as it did. -/
def mutexWaitsUptoRow : OpenClaim := { program := "ytidnkienkdlmkaa", sum := "4eff586ab966ab7ba517b6a4bf06f3c46faef7eeded4e9f54754fe42002d8ad2", func := "shuttle/shuttlelaw16.MutexWaits", spec := "mutexWaits", apart := false, narrowed := true }
def MutexWaitsUptoSaid : Prop := mutexWaitsUptoRow.holds Try.pinned (OpenSpec.upto mutexWaitsSpec)

/-- 'shuttlelaw16.MutexNone', WHERE WHAT IT READS IS OF BULK AT MOST 1048576: true; the input reads as it did. -/
def mutexNoneUptoRow : OpenClaim := { program := "ytidnkienkdlmkaa", sum := "4eff586ab966ab7ba517b6a4bf06f3c46faef7eeded4e9f54754fe42002d8ad2", func := "shuttle/shuttlelaw16.MutexNone", spec := "mutexNone", apart := false, narrowed := true }
def MutexNoneUptoSaid : Prop := mutexNoneUptoRow.holds Try.pinned (OpenSpec.upto mutexNoneSpec)

/-- 'shuttlelaw16.MutexDoes', WHERE WHAT IT READS IS OF BULK AT MOST 1048576: true; the input reads as it did. -/
def mutexDoesUptoRow : OpenClaim := { program := "ytidnkienkdlmkaa", sum := "4eff586ab966ab7ba517b6a4bf06f3c46faef7eeded4e9f54754fe42002d8ad2", func := "shuttle/shuttlelaw16.MutexDoes", spec := "mutexDoes", apart := false, narrowed := true }
def MutexDoesUptoSaid : Prop := mutexDoesUptoRow.holds Try.pinned (OpenSpec.upto mutexDoesSpec)

/-- 'shuttlelaw17.CondHas', WHERE WHAT IT READS IS OF BULK AT MOST 1048576: true; the input reads as it did. -/
def condHasUptoRow : OpenClaim := { program := "ytidnkienkdlmkaa", sum := "4eff586ab966ab7ba517b6a4bf06f3c46faef7eeded4e9f54754fe42002d8ad2", func := "shuttle/shuttlelaw17.CondHas", spec := "condHas", unfollowed := true, recurses := true, apart := false, narrowed := true }
def CondHasUptoSaid : Prop := condHasUptoRow.holds Try.pinned (OpenSpec.upto condHasSpec)

/-- 'shuttlelaw17.CondNone', WHERE WHAT IT READS IS OF BULK AT MOST 1048576: true; the input reads as it did. -/
def condNoneUptoRow : OpenClaim := { program := "ytidnkienkdlmkaa", sum := "4eff586ab966ab7ba517b6a4bf06f3c46faef7eeded4e9f54754fe42002d8ad2", func := "shuttle/shuttlelaw17.CondNone", spec := "condNone", unfollowed := true, recurses := true, apart := false, narrowed := true }
def CondNoneUptoSaid : Prop := condNoneUptoRow.holds Try.pinned (OpenSpec.upto condNoneSpec)

/-- 'shuttlelaw17.CondDoes', WHERE WHAT IT READS IS OF BULK AT MOST 1048576: true; the input reads as it did. -/
def condDoesUptoRow : OpenClaim := { program := "ytidnkienkdlmkaa", sum := "4eff586ab966ab7ba517b6a4bf06f3c46faef7eeded4e9f54754fe42002d8ad2", func := "shuttle/shuttlelaw17.CondDoes", spec := "condDoes", unfollowed := true, recurses := true, apart := false, narrowed := true }
def CondDoesUptoSaid : Prop := condDoesUptoRow.holds Try.pinned (OpenSpec.upto condDoesSpec)

/-- 'shuttlelaw17.CondTurn', WHERE WHAT IT READS IS OF BULK AT MOST 1048576: true; the input reads as it did. -/
def condTurnUptoRow : OpenClaim := { program := "ytidnkienkdlmkaa", sum := "4eff586ab966ab7ba517b6a4bf06f3c46faef7eeded4e9f54754fe42002d8ad2", func := "shuttle/shuttlelaw17.CondTurn", spec := "condTurn", unfollowed := true, recurses := true, apart := false, narrowed := true }
def CondTurnUptoSaid : Prop := condTurnUptoRow.holds Try.pinned (OpenSpec.upto condTurnSpec)

/-- 'shuttlelaw15.ChanOrder', WHERE WHAT IT READS IS OF BULK AT MOST 1048576: true; the input reads as it did. -/
def chanOrderUptoRow : OpenClaim := { program := "ytidnkienkdlmkaa", sum := "4eff586ab966ab7ba517b6a4bf06f3c46faef7eeded4e9f54754fe42002d8ad2", func := "shuttle/shuttlelaw15.ChanOrder", spec := "chanOrder", unfollowed := true, recurses := true, apart := false, narrowed := true }
def ChanOrderUptoSaid : Prop := chanOrderUptoRow.holds Try.pinned (OpenSpec.upto chanOrderSpec)

/-- 'shuttlelaw15.ChanWaits', WHERE WHAT IT READS IS OF BULK AT MOST 1048576: true; the input reads as it did. -/
def chanWaitsUptoRow : OpenClaim := { program := "ytidnkienkdlmkaa", sum := "4eff586ab966ab7ba517b6a4bf06f3c46faef7eeded4e9f54754fe42002d8ad2", func := "shuttle/shuttlelaw15.ChanWaits", spec := "chanWaits", unfollowed := true, recurses := true, apart := false, narrowed := true }
def ChanWaitsUptoSaid : Prop := chanWaitsUptoRow.holds Try.pinned (OpenSpec.upto chanWaitsSpec)

/-- 'shuttlelaw15.ChanNone', WHERE WHAT IT READS IS OF BULK AT MOST 1048576: true; the input reads as it did. -/
def chanNoneUptoRow : OpenClaim := { program := "ytidnkienkdlmkaa", sum := "4eff586ab966ab7ba517b6a4bf06f3c46faef7eeded4e9f54754fe42002d8ad2", func := "shuttle/shuttlelaw15.ChanNone", spec := "chanNone", unfollowed := true, recurses := true, apart := false, narrowed := true }
def ChanNoneUptoSaid : Prop := chanNoneUptoRow.holds Try.pinned (OpenSpec.upto chanNoneSpec)

/-- 'shuttlelaw15.ChanDoes', WHERE WHAT IT READS IS OF BULK AT MOST 1048576: true; the input reads as it did. -/
def chanDoesUptoRow : OpenClaim := { program := "ytidnkienkdlmkaa", sum := "4eff586ab966ab7ba517b6a4bf06f3c46faef7eeded4e9f54754fe42002d8ad2", func := "shuttle/shuttlelaw15.ChanDoes", spec := "chanDoes", unfollowed := true, recurses := true, apart := false, narrowed := true }
def ChanDoesUptoSaid : Prop := chanDoesUptoRow.holds Try.pinned (OpenSpec.upto chanDoesSpec)

end Rows
end Go.Proofs.Ytidnkienkdlmkaa
