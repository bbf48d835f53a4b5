/- The laws' helpers that compare: eqDeed, eqDeedS, eqTask: each tells whether the data are the same. -/
import Derived.Test.YtgnmlpklojgpfaaSOwn
import Derived.Test.YtgnmlpklojgpfaaSInts
import Derived.StillTailTactics
namespace Go.Proofs.Ytgnmlpklojgpfaa
open Go.ChangeShapes Go.WideShapes Go.ChangeAt Go.RowKit

end Go.Proofs.Ytgnmlpklojgpfaa
