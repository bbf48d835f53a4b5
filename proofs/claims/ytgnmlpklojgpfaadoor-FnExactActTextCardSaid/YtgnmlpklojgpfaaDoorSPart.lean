/- A row of deeds that is filled from its beginning on. -/
import Derived.Test.YtgnmlpklojgpfaaDoorSOwn
namespace Go.Proofs.YtgnmlpklojgpfaaDoor
open Go.ChangeShapes Go.WideShapes Go.ChangeAt Go.RowKit

/-- the four cells of a deed laid at place k -/
def setD (cells : List Value) (k : Nat) (nv : Value) (d : DeedD) : List Value :=
  (((cells.set (k * 4) nv).set (k * 4 + 1) (.int .i64 d.on)).set (k * 4 + 2) (.int .i64 d.off)).set (k * 4 + 3) (.int .i64 d.flip)
end Go.Proofs.YtgnmlpklojgpfaaDoor
