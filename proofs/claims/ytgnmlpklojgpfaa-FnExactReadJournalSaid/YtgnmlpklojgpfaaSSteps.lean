/- Joined texts: Steps, StatesBack, PlanForW. -/
import Derived.Test.YtgnmlpklojgpfaaSMore
import Derived.Test.YtgnmlpklojgpfaaSPermW
/- stepsBack of the program: for each state the least number of deeds. -/
namespace Go.Proofs.Ytgnmlpklojgpfaa
set_option linter.unusedVariables false
set_option linter.unusedSimpArgs false
open Go.ChangeShapes Go.WideShapes Go.ChangeAt Go.RowKit

/-- the first k from y, the others from z -/
def mixF (y z : Nat → Int) (k : Nat) : List Int := (List.range 32).map fun i => if i < k then y i else z i
/-- the least numbers of deeds -/
def stepsL (ds : List DeedD) (p : Nat → Bool) : List Int := (List.range 32).map (stpV ds p)
/-- what is new -/
def freshP (ds : List DeedD) (p : Nat → Bool) (m : Nat) : Nat → Bool := fun s => backP ds (layer ds p m) s && !layer ds p m s
end Go.Proofs.Ytgnmlpklojgpfaa

/- StatesBack of the reference, for valid arguments. -/
namespace Go.Proofs.Ytgnmlpklojgpfaa
set_option linter.unusedVariables false
set_option linter.unusedSimpArgs false
open Go.ChangeShapes Go.WideShapes Go.ChangeAt Go.RowKit

def outP (ds : List DeedD) (S m k s : Nat) : Bool := upto (backP ds (setP S)) m s || (decide (s = m) && backP (ds.take k) (setP S) m)
end Go.Proofs.Ytgnmlpklojgpfaa

/- PlanFor of the program. -/
namespace Go.Proofs.Ytgnmlpklojgpfaa
set_option linter.unusedVariables false
set_option linter.unusedSimpArgs false
open Go.ChangeShapes Go.WideShapes Go.ChangeAt Go.RowKit

/-- the value that is looked for, one step nearer -/
def near (ds : List DeedD) (p : Nat → Bool) (m : Nat) : Nat → Bool := fun s' => stpV ds p s' == (m : Int)
end Go.Proofs.Ytgnmlpklojgpfaa
