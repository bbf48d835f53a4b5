/- EndActs, of the program and of the reference. Printed by gen_endacts.py. -/
import Derived.Test.YtgnmlpklojgpfaaDoorSActs
namespace Go.Proofs.YtgnmlpklojgpfaaDoor
set_option linter.unusedVariables false
set_option linter.unusedSimpArgs false
open Go.ChangeShapes Go.WideShapes Go.ChangeAt Go.RowKit

def backs (b : BookD) : Bool := decide (0 < b.done.length) && ((restFor b).isNone || decide (40 < b.done.length + ((restFor b).getD []).length))
def endOf (b : BookD) : Int := if backs b then b.order.start else b.state
def endActs (b : BookD) : List ActD :=
  if bookOk b && (planFor b.order).isSome then (if backs b then [⟨1, b.done.length⟩] else []) ++ (if evalCode b.order.goal (endOf b).toNat then [] else [⟨3, 0⟩]) else []
end Go.Proofs.YtgnmlpklojgpfaaDoor
