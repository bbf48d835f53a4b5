/- Joined texts: PlanW, Truth. -/
import Derived.Test.YtgnmlpklojgpfaaSPlan
import Derived.Test.YtgnmlpklojgpfaaSPush
import Derived.Test.YtgnmlpklojgpfaaSSearch
/- Deeds done and plans run, by the program and by the reference: each returns the plain function's value. -/
namespace Go.Proofs.Ytgnmlpklojgpfaa
set_option linter.unusedVariables false
set_option linter.unusedSimpArgs false
open Go.ChangeShapes Go.WideShapes Go.ChangeAt Go.RowKit

end Go.Proofs.Ytgnmlpklojgpfaa

/- CodeTruth, of the program and of the reference: the sum of 2^s for the states s. -/
namespace Go.Proofs.Ytgnmlpklojgpfaa
set_option linter.unusedVariables false
set_option linter.unusedSimpArgs false
open Go.ChangeShapes Go.WideShapes Go.ChangeAt Go.RowKit

def truthN (xs : List Int) : Nat := mset (evalCode xs) 32
def codeTruth (xs : List Int) : Int := if codeOk xs then (truthN xs : Int) else -1
end Go.Proofs.Ytgnmlpklojgpfaa
