/- Joined texts: Ints, Code. -/
import Derived.Test.YtgnmlpklojgpfaaDoorSNum
import Derived.Test.YtgnmlpklojgpfaaDoorSPure
/- The laws' helpers on slices of numbers: toIntS, eqIntS. Condition: at most 2^40 numbers. -/
namespace Go.Proofs.YtgnmlpklojgpfaaDoor
open Go.ChangeShapes Go.WideShapes Go.ChangeAt Go.RowKit

def fillI (xs : List Int) (k : Nat) : Array Value := (ints (xs.take k ++ List.replicate (xs.length - k) 0)).toArray
end Go.Proofs.YtgnmlpklojgpfaaDoor

/- CodeDepth and CodeValid, of the program and of the reference: each returns one plain function, for every code of at most 2^40 steps. -/
namespace Go.Proofs.YtgnmlpklojgpfaaDoor
open Go.ChangeShapes Go.WideShapes Go.ChangeAt Go.RowKit

end Go.Proofs.YtgnmlpklojgpfaaDoor
