/- Joined texts: To, Eq. -/
import Derived.Test.YtgnmlpklojgpfaaDoorSPart
import Derived.Test.YtgnmlpklojgpfaaDoorSInts
import Derived.Test.YtgnmlpklojgpfaaDoorSOwn
import Derived.StillTailTactics
/- The laws' helpers that copy an argument: toDeed, toDeedS, toTask: each hands back the same data in new memory of its own. -/
namespace Go.Proofs.YtgnmlpklojgpfaaDoor
open Go.ChangeShapes Go.WideShapes Go.ChangeAt Go.RowKit

end Go.Proofs.YtgnmlpklojgpfaaDoor

/- The laws' helpers that compare: eqDeed, eqDeedS, eqTask: each tells whether the data are the same. -/
namespace Go.Proofs.YtgnmlpklojgpfaaDoor
open Go.ChangeShapes Go.WideShapes Go.ChangeAt Go.RowKit

end Go.Proofs.YtgnmlpklojgpfaaDoor
