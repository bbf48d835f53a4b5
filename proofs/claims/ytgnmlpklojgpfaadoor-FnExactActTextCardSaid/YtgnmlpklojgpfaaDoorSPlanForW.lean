/- PlanFor of the program. -/
import Derived.Test.YtgnmlpklojgpfaaDoorSMore
import Derived.Test.YtgnmlpklojgpfaaDoorSSteps
namespace Go.Proofs.YtgnmlpklojgpfaaDoor
set_option linter.unusedVariables false
set_option linter.unusedSimpArgs false
open Go.ChangeShapes Go.WideShapes Go.ChangeAt Go.RowKit

/-- the value that is looked for, one step nearer -/
def near (ds : List DeedD) (p : Nat → Bool) (m : Nat) : Nat → Bool := fun s' => stpV ds p s' == (m : Int)
end Go.Proofs.YtgnmlpklojgpfaaDoor
