/- strings.CutPrefix, strings.Cut at one byte: the library's own text, walked after the shelf's worked walks. -/
import Derived.Test.YtgnmlpklojgpfaaDoorSTextP
import Derived.Lib.Strings
import Derived.Lib.Slices
import Derived.Lib.Walk
import Derived.Lib.Bytealg
import Derived.Lib.CutLaws
namespace Go.Proofs.YtgnmlpklojgpfaaDoor
set_option linter.unusedVariables false
set_option linter.unusedSimpArgs false
open Go.ChangeShapes Go.WideShapes Go.ChangeAt Go.RowKit

end Go.Proofs.YtgnmlpklojgpfaaDoor
