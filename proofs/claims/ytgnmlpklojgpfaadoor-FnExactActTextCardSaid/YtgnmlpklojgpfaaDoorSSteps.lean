/- stepsBack of the program: for each state the least number of deeds. -/
import Derived.Test.YtgnmlpklojgpfaaDoorSMore
import Derived.Test.YtgnmlpklojgpfaaDoorSBack
namespace Go.Proofs.YtgnmlpklojgpfaaDoor
set_option linter.unusedVariables false
set_option linter.unusedSimpArgs false
open Go.ChangeShapes Go.WideShapes Go.ChangeAt Go.RowKit

/-- the first k from y, the others from z -/
def mixF (y z : Nat → Int) (k : Nat) : List Int := (List.range 32).map fun i => if i < k then y i else z i
/-- the least numbers of deeds -/
def stepsL (ds : List DeedD) (p : Nat → Bool) : List Int := (List.range 32).map (stpV ds p)
/-- what is new -/
def freshP (ds : List DeedD) (p : Nat → Bool) (m : Nat) : Nat → Bool := fun s => backP ds (layer ds p m) s && !layer ds p m s
end Go.Proofs.YtgnmlpklojgpfaaDoor
