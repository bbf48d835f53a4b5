/- Rows of numbers that grow: append to a thing of the list. -/
import Derived.Test.YtgnmlpklojgpfaaDoorSPush
namespace Go.Proofs.YtgnmlpklojgpfaaDoor
set_option linter.unusedVariables false
set_option linter.unusedSimpArgs false
open Go.ChangeShapes Go.WideShapes Go.ChangeAt Go.RowKit
/-- a fact that no tactic looks into (contradiction looks into Hid) -/
structure Bx (p : Prop) : Prop where
  out : p
end Go.Proofs.YtgnmlpklojgpfaaDoor
