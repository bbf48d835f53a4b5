/- The laws' helpers that count how much an argument holds: szIntS, szDeed, szDeedS, szTask. -/
import Derived.Test.YtgnmlpklojgpfaaDoorSOwn
namespace Go.Proofs.YtgnmlpklojgpfaaDoor
open Go.ChangeShapes Go.WideShapes Go.ChangeAt Go.RowKit

/-- what is left of a bound -/
def less (left : Int) (n : Nat) : Int := if (n : Int) ≤ left then left - n else -1
def szD (d : DeedD) : Nat := d.need.length
def szDs (ds : List DeedD) : Nat := ds.length + (ds.map szD).sum
def szT (t : TaskD) : Nat := t.goal.length + szDs t.deeds
end Go.Proofs.YtgnmlpklojgpfaaDoor
