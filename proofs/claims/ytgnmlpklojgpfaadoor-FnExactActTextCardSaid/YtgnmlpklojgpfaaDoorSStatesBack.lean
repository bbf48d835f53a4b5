/- StatesBack of the reference, for valid arguments. -/
import Derived.Test.YtgnmlpklojgpfaaDoorSSteps
namespace Go.Proofs.YtgnmlpklojgpfaaDoor
set_option linter.unusedVariables false
set_option linter.unusedSimpArgs false
open Go.ChangeShapes Go.WideShapes Go.ChangeAt Go.RowKit

def outP (ds : List DeedD) (S m k s : Nat) : Bool := upto (backP ds (setP S)) m s || (decide (s = m) && backP (ds.take k) (setP S) m)
end Go.Proofs.YtgnmlpklojgpfaaDoor
