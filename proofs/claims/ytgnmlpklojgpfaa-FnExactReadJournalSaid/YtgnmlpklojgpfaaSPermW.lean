/- Joined texts: PermW, Named, Back. -/
import Derived.Test.YtgnmlpklojgpfaaSHelp
import Derived.Test.YtgnmlpklojgpfaaSBehind
import Derived.Deep.WholeRow
/- PermValid, the naming of sets and of codes, of the program and of the reference. -/
namespace Go.Proofs.Ytgnmlpklojgpfaa
set_option linter.unusedVariables false
set_option linter.unusedSimpArgs false
open Go.ChangeShapes Go.WideShapes Go.ChangeAt Go.RowKit
end Go.Proofs.Ytgnmlpklojgpfaa

/- Sets and codes under names, of the program and of the reference. -/
namespace Go.Proofs.Ytgnmlpklojgpfaa
set_option linter.unusedVariables false
set_option linter.unusedSimpArgs false
open Go.ChangeShapes Go.WideShapes Go.ChangeAt Go.RowKit
section
variable {w W W' : World} {L : List HRes}
theorem ints_set (xs : List Int) (k : Nat) (x : Int) : (ints xs).set k (.int .i64 x) = ints (xs.set k x) := by simp [ints, List.map_set]
end
end Go.Proofs.Ytgnmlpklojgpfaa

/- backStates and stepsBack of the program: one step of the search backward, and all of them. -/
namespace Go.Proofs.Ytgnmlpklojgpfaa
set_option linter.unusedVariables false
set_option linter.unusedSimpArgs false
open Go.ChangeShapes Go.WideShapes Go.ChangeAt Go.RowKit

/-- the set of the states of a number -/
def setP (M : Nat) : Nat → Bool := fun s => bit M s == 1
/-- the row of the deed k -/
def rowOf (d : DeedD) : List Value := (List.range 32).map fun s => .int .i64 (opt (deedDo d s))
/-- the deed leads from s into the set -/
def hitD (d : DeedD) (S : Nat) (s : Nat) : Bool := (deedDo d s).any (setP S)
def partB (ds : List DeedD) (d : DeedD) (S m : Nat) (s : Nat) : Bool := backP ds (setP S) s || upto (hitD d S) m s
end Go.Proofs.Ytgnmlpklojgpfaa
