/- Plain law: sets of states as numbers: the sum of 2^s; no program in sight. -/
import Derived.Test.YtgnmlpklojgpfaaDoorSPlan
namespace Go.Proofs.YtgnmlpklojgpfaaDoor

/-- the number of a set of the numbers below n -/
def mset (p : Nat → Bool) : Nat → Nat
  | 0 => 0
  | n + 1 => 2 ^ n * (p n).toNat + mset p n
/-- a set that is built from its first members on -/
def upto (p : Nat → Bool) (m : Nat) : Nat → Bool := fun k => decide (k < m) && p k
end Go.Proofs.YtgnmlpklojgpfaaDoor
