/- BookValid and BookEnded, of the program and of the reference: each returns one plain function, for every book. -/
import Derived.Test.YtgnmlpklojgpfaaDoorSPlanW
import Derived.Test.YtgnmlpklojgpfaaDoorSBook
namespace Go.Proofs.YtgnmlpklojgpfaaDoor
set_option linter.unusedVariables false
set_option linter.unusedSimpArgs false
open Go.ChangeShapes Go.WideShapes Go.ChangeAt Go.RowKit

def bookOk (b : BookD) : Bool := taskOk b.order && decide (b.done.length ≤ 40) && stIn b.state && (planRun b.order b.order.start b.done == b.state)
/-- codes that run -/
def codeRun (xs : List Int) (s : Int) : Bool := codeOk xs && stIn s && evalCode xs s.toNat
def bookEnded (b : BookD) : Bool := bookOk b && evalCode b.order.goal b.state.toNat
section
variable {w : World}
end
end Go.Proofs.YtgnmlpklojgpfaaDoor
