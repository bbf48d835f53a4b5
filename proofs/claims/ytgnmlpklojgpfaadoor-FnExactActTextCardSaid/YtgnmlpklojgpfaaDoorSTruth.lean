/- CodeTruth, of the program and of the reference: the sum of 2^s for the states s. -/
import Derived.Test.YtgnmlpklojgpfaaDoorSSearch
import Derived.Test.YtgnmlpklojgpfaaDoorSPlanW
namespace Go.Proofs.YtgnmlpklojgpfaaDoor
set_option linter.unusedVariables false
set_option linter.unusedSimpArgs false
open Go.ChangeShapes Go.WideShapes Go.ChangeAt Go.RowKit

def truthN (xs : List Int) : Nat := mset (evalCode xs) 32
def codeTruth (xs : List Int) : Int := if codeOk xs then (truthN xs : Int) else -1
end Go.Proofs.YtgnmlpklojgpfaaDoor
