/- readNumber of the program, l1Digits, l1In, l1Number (below 100) of the reference. -/
import Derived.Test.YtgnmlpklojgpfaaDoorSStrL
namespace Go.Proofs.YtgnmlpklojgpfaaDoor
set_option linter.unusedVariables false
set_option linter.unusedSimpArgs false
open Go.ChangeShapes Go.WideShapes Go.ChangeAt Go.RowKit

/-- a number of digits, read from the left -/
def rdGo (acc : Int) : List UInt8 → Option Int
  | [] => some acc
  | c :: cs => if c.toNat < 48 ∨ 57 < c.toNat then none else rdGo (acc * 10 + ((c.toNat : Int) - 48)) cs
def rdNum (d : Int) (t : List UInt8) : Option Int :=
  if t = [] ∨ d < (t.length : Int) ∨ t.head? = some 48 ∧ 1 < t.length then none else rdGo 0 t
def NumR (o : Option Int) (e : Ending) : Prop := e = .returned (.tuple #[.int .i64 (o.getD 0), .bool o.isSome])
end Go.Proofs.YtgnmlpklojgpfaaDoor
