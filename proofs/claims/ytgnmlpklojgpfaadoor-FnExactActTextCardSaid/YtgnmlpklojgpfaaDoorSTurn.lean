/- Codes with facts turned round: codeTurned of the program, l9Turned of the reference: one plain function. Condition: the steps are such (0..9), and the facts a state (0..31). -/
import Derived.Test.YtgnmlpklojgpfaaDoorSApp
import Derived.Test.YtgnmlpklojgpfaaDoorSTo
import Derived.Test.YtgnmlpklojgpfaaDoorSMark2
namespace Go.Proofs.YtgnmlpklojgpfaaDoor
open Go.ChangeShapes Go.WideShapes Go.ChangeAt Go.RowKit

def turnOne (f : Nat) (x : Int) : List Int := if x < 5 ∧ bit f x.toNat = 1 then [x, 7] else [x]
def turnI (f : Nat) (xs : List Int) : List Int := xs.flatMap (turnOne f)
end Go.Proofs.YtgnmlpklojgpfaaDoor
