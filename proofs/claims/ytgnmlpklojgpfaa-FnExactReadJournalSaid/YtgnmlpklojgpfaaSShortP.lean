/- Plain law: a plan made shorter (planShort): loops left out from the first place to the last; what deeds may be done. No program in sight. -/
import Derived.Test.YtgnmlpklojgpfaaSPlanForS
import Derived.Test.YtgnmlpklojgpfaaSMore
namespace Go.Proofs.Ytgnmlpklojgpfaa
set_option linter.unusedVariables false
set_option linter.unusedSimpArgs false

/-- the last place from n down to a whose value is that at a -/
def lastTo (f : Nat → Int) (a : Nat) : Nat → Nat
  | 0 => a
  | n + 1 => if n + 1 ≤ a then a else if f (n + 1) = f a then n + 1 else lastTo f a n
/-- the state behind the first j deeds -/
def prun (t : TaskD) (p : List Int) (j : Nat) : Int := planRun t t.start (p.take j)
/-- one loop left out, at the place a -/
def cutAt (t : TaskD) (p : List Int) (a : Nat) : List Int := p.take a ++ p.drop (lastTo (prun t p) a p.length)
def shortN (t : TaskD) (p : List Int) : Nat → List Int
  | 0 => p
  | n + 1 => cutAt t (shortN t p n) n
def planShort (t : TaskD) (p : List Int) : Option (List Int) := if planRun t t.start p < 0 then none else some (shortN t p 41)

/-- the places ahead of a are left for good -/
def cleanTo (t : TaskD) (p : List Int) (a : Nat) : Prop := ∀ i, i < a → ∀ j, i < j → j ≤ p.length → prun t p j ≠ prun t p i
/-! ### what may be done -/
def mayN (ds : List DeedD) (s : Nat) (n : Nat) : List Int := ((List.range n).filter fun k => ((ds[k]?).bind (deedDo · s)).isSome).map fun k => ((k : Nat) : Int)
def deedsMay (t : TaskD) (s : Int) : List Int := if taskOk t && stIn s then mayN t.deeds s.toNat t.deeds.length else []
end Go.Proofs.Ytgnmlpklojgpfaa
