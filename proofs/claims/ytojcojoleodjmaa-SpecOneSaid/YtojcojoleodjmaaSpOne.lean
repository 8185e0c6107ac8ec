/-
  SpecOne's walk: it returns true at every input. No condition.
-/
import Derived.Test.YtojcojoleodjmaaSpOneQ
import Derived.Test.YtojcojoleodjmaaSpOneR
namespace Go.Proofs.Ytojcojoleodjmaa
open Go.RowKit Go.Shelf Go.Sh

theorem one10W (queue : Bool) (os : List Int) (ao : Option Addr) (cp : Nat) (gs : List Int) (ao2 : Option Addr) (cp2 : Nat) (W : World) (hR : Rd W U8 (.slice ao os.length cp) os) (hok : ∀ x ∈ os, (Lit.int .u8 x).wf = true) (hm : os.length ≤ maxLen) (hcap : os.length ≤ cp)
    (hG : Rd W U8 (.slice ao2 gs.length cp2) gs) (hokg : ∀ x ∈ gs, (Lit.int .u8 x).wf = true) (hmg : gs.length ≤ maxLen) (_ : gs.length ≤ cp2) :
    Calls Try.prog 10 #[.bool queue, .slice ao os.length cp, .slice ao2 gs.length cp2] W (fun e w' => e = .returned (.bool true) ∧ Below W.heap.size W w') := by
  cases queue with
  | true => exact one10q os gs ao ao2 cp cp2 W hR hok hm hcap hG hokg hmg
  | false => exact one10r os gs ao ao2 cp cp2 W hR hok hm hcap hG hokg hmg

end Go.Proofs.Ytojcojoleodjmaa
