/- taskFrom and RestFor, of the program and of the reference. -/
import Derived.Test.YtgnmlpklojgpfaaDoorSPlanForS
import Derived.Test.YtgnmlpklojgpfaaDoorSBValid
namespace Go.Proofs.YtgnmlpklojgpfaaDoor
set_option linter.unusedVariables false
set_option linter.unusedSimpArgs false
open Go.ChangeShapes Go.WideShapes Go.ChangeAt Go.RowKit

/-- the task of a book that begins with its state -/
def taskFrom (b : BookD) : TaskD := ⟨b.state, b.order.goal, b.order.deeds⟩
def restFor (b : BookD) : Option (List Int) := if bookOk b then planFor (taskFrom b) else none
end Go.Proofs.YtgnmlpklojgpfaaDoor
