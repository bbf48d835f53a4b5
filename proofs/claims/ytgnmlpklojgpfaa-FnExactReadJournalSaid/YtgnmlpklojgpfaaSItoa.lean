/- strconv.Itoa below 100: the library's own text, walked after the shelf's worked walk; no table is read there. -/
import Derived.Test.YtgnmlpklojgpfaaSTextP
import Derived.Lib.Walk
import Derived.Lib.ItoaNum
import Derived.Lib.Strings
import Derived.Lib.ItoaWalk
import Derived.Lib.Hide
import Derived.BigCall
namespace Go.Proofs.Ytgnmlpklojgpfaa
set_option linter.unusedVariables false
set_option linter.unusedSimpArgs false
open Go.ChangeShapes Go.WideShapes Go.ChangeAt Go.RowKit

end Go.Proofs.Ytgnmlpklojgpfaa
