/- The laws' helpers, each in the words of St: copies, sizes, equality, marks. -/
import Derived.Test.YtgnmlpklojgpfaaDoorSPush
import Derived.Test.YtgnmlpklojgpfaaDoorSTo
import Derived.Test.YtgnmlpklojgpfaaDoorSMark2
import Derived.Test.YtgnmlpklojgpfaaDoorSCame
namespace Go.Proofs.YtgnmlpklojgpfaaDoor
set_option linter.unusedVariables false
set_option linter.unusedSimpArgs false
open Go.ChangeShapes Go.WideShapes Go.ChangeAt Go.RowKit

/-- it returns a value, and things of its own -/
def Gave (w : World) (v : Value) (L : List HRes) (e : Ending) (w' : World) : Prop := e = .returned v ∧ St w w' L
section
variable {w W : World} {L : List HRes}
end
end Go.Proofs.YtgnmlpklojgpfaaDoor
