/- Joined texts: PlanForS, BValid, Rest. -/
import Derived.Test.YtgnmlpklojgpfaaSBookNew
import Derived.Test.YtgnmlpklojgpfaaSPlanW
import Derived.Test.YtgnmlpklojgpfaaSBook
/- PlanFor of the reference. -/
namespace Go.Proofs.Ytgnmlpklojgpfaa
set_option linter.unusedVariables false
set_option linter.unusedSimpArgs false
open Go.ChangeShapes Go.WideShapes Go.ChangeAt Go.RowKit

end Go.Proofs.Ytgnmlpklojgpfaa

/- BookValid and BookEnded, of the program and of the reference: each returns one plain function, for every book. -/
namespace Go.Proofs.Ytgnmlpklojgpfaa
set_option linter.unusedVariables false
set_option linter.unusedSimpArgs false
open Go.ChangeShapes Go.WideShapes Go.ChangeAt Go.RowKit

def bookOk (b : BookD) : Bool := taskOk b.order && decide (b.done.length ≤ 40) && stIn b.state && (planRun b.order b.order.start b.done == b.state)
/-- codes that run -/
def codeRun (xs : List Int) (s : Int) : Bool := codeOk xs && stIn s && evalCode xs s.toNat
def bookEnded (b : BookD) : Bool := bookOk b && evalCode b.order.goal b.state.toNat
section
variable {w : World}
end
end Go.Proofs.Ytgnmlpklojgpfaa

/- taskFrom and RestFor, of the program and of the reference. -/
namespace Go.Proofs.Ytgnmlpklojgpfaa
set_option linter.unusedVariables false
set_option linter.unusedSimpArgs false
open Go.ChangeShapes Go.WideShapes Go.ChangeAt Go.RowKit

/-- the task of a book that begins with its state -/
def taskFrom (b : BookD) : TaskD := ⟨b.state, b.order.goal, b.order.deeds⟩
def restFor (b : BookD) : Option (List Int) := if bookOk b then planFor (taskFrom b) else none
end Go.Proofs.Ytgnmlpklojgpfaa
