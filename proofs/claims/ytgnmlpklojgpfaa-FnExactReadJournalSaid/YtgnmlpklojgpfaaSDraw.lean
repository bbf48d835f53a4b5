/- The reader of drawn codes: l20Open, pick, odd. The reader's position stands below 2^40. -/
import Derived.Test.YtgnmlpklojgpfaaSNum
namespace Go.Proofs.Ytgnmlpklojgpfaa
open Go.ChangeShapes Go.WideShapes Go.ChangeAt Go.RowKit

/-- block g is a reader at position p, over bytes that lie below block base -/
def Rdr (w : World) (base g p : Nat) : Prop := base ≤ g ∧ p < 1099511627776 ∧ ∃ A n c xs, n ≤ 2000 ∧ RdI .u8 w base A n c xs ∧ Blk w g 83 #[.slice A n c, .int .i64 p]

/-- what pick returns -/
def InPick (n x : Int) : Prop := 0 ≤ x ∧ (1 ≤ n → x < n) ∧ (n < 1 → x = 0)

def SomeBool (e : Ending) : Prop := ∃ b : Bool, e = .returned (.bool b)
end Go.Proofs.Ytgnmlpklojgpfaa
