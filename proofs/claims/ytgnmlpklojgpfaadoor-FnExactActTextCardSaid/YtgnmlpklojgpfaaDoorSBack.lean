/- backStates and stepsBack of the program: one step of the search backward, and all of them. -/
import Derived.Test.YtgnmlpklojgpfaaDoorSBehind
import Derived.Test.YtgnmlpklojgpfaaDoorSCopy
import Derived.Test.YtgnmlpklojgpfaaDoorSPermW
import Derived.Deep.WholeRow
namespace Go.Proofs.YtgnmlpklojgpfaaDoor
set_option linter.unusedVariables false
set_option linter.unusedSimpArgs false
open Go.ChangeShapes Go.WideShapes Go.ChangeAt Go.RowKit

/-- the set of the states of a number -/
def setP (M : Nat) : Nat → Bool := fun s => bit M s == 1
/-- the row of the deed k -/
def rowOf (d : DeedD) : List Value := (List.range 32).map fun s => .int .i64 (opt (deedDo d s))
/-- the deed leads from s into the set -/
def hitD (d : DeedD) (S : Nat) (s : Nat) : Bool := (deedDo d s).any (setP S)
def partB (ds : List DeedD) (d : DeedD) (S m : Nat) (s : Nat) : Bool := backP ds (setP S) s || upto (hitD d S) m s
end Go.Proofs.YtgnmlpklojgpfaaDoor
