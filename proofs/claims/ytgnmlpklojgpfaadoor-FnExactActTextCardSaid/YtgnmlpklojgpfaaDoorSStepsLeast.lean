/- StepsLeast of the reference. -/
import Derived.Test.YtgnmlpklojgpfaaDoorSStatesBack
import Derived.Test.YtgnmlpklojgpfaaDoorSPlanForW
import Derived.Test.YtgnmlpklojgpfaaDoorSCopy
namespace Go.Proofs.YtgnmlpklojgpfaaDoor
set_option linter.unusedVariables false
set_option linter.unusedSimpArgs false
open Go.ChangeShapes Go.WideShapes Go.ChangeAt Go.RowKit

/-- what is met in the round m -/
def newP (ds : List DeedD) (p : Nat → Bool) : Nat → Nat → Bool
  | 0, s => p s
  | m + 1, s => freshP ds p m s
/-- what stands ahead of the round m -/
def prvN (ds : List DeedD) (p : Nat → Bool) : Nat → Nat → Int
  | 0, _ => -1
  | m + 1, s => stpN ds p m s
/-- what the last loop of a round counts up -/
def nextP (ds : List DeedD) (p : Nat → Bool) (m : Nat) : Nat → Bool := newP ds p (m + 1)
def stepsLeastR (t : TaskD) : List Int := if taskOk t then stepsL t.deeds (evalCode t.goal) else []
end Go.Proofs.YtgnmlpklojgpfaaDoor
