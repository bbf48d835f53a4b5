/- Deeds and tasks: DeedValid and TaskValid, of the program and of the reference: each returns one plain function, for every task. Condition: no slice longer than 2^40. -/
import Derived.Test.YtgnmlpklojgpfaaDoorSRun
namespace Go.Proofs.YtgnmlpklojgpfaaDoor
open Go.ChangeShapes Go.WideShapes Go.ChangeAt Go.RowKit

def stIn (x : Int) : Bool := decide (0 ≤ x ∧ x < 32)
def apart3 (a b c : Int) : Bool := decide (a.toNat &&& b.toNat = 0) && decide (a.toNat &&& c.toNat = 0) && decide (b.toNat &&& c.toNat = 0)
def deedOk (d : DeedD) : Bool := codeOk d.need && stIn d.on && stIn d.off && stIn d.flip && apart3 d.on d.off d.flip
def taskOk (t : TaskD) : Bool := stIn t.start && codeOk t.goal && decide (t.deeds.length ≤ 6) && t.deeds.all deedOk
end Go.Proofs.YtgnmlpklojgpfaaDoor
