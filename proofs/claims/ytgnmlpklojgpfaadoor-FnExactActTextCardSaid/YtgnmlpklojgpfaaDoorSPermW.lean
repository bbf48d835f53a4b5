/- Joined texts: PermW, Named. -/
import Derived.Test.YtgnmlpklojgpfaaDoorSPerm
import Derived.Test.YtgnmlpklojgpfaaDoorSCopy
/- PermValid, the naming of sets and of codes, of the program and of the reference. -/
namespace Go.Proofs.YtgnmlpklojgpfaaDoor
set_option linter.unusedVariables false
set_option linter.unusedSimpArgs false
open Go.ChangeShapes Go.WideShapes Go.ChangeAt Go.RowKit
end Go.Proofs.YtgnmlpklojgpfaaDoor

/- Sets and codes under names, of the program and of the reference. -/
namespace Go.Proofs.YtgnmlpklojgpfaaDoor
set_option linter.unusedVariables false
set_option linter.unusedSimpArgs false
open Go.ChangeShapes Go.WideShapes Go.ChangeAt Go.RowKit
section
variable {w W W' : World} {L : List HRes}
end
end Go.Proofs.YtgnmlpklojgpfaaDoor
