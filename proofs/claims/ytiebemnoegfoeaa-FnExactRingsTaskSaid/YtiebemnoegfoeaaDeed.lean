/- Deeds and tasks: DeedValid and TaskValid, of the program and of the reference: each returns one plain function, for every task. Condition: no slice longer than 2^40. -/
import Derived.Test.YtiebemnoegfoeaaRun
namespace Go.Proofs.Ytiebemnoegfoeaa
open Go.ChangeShapes Go.WideShapes Go.ChangeAt Go.RowKit

def stIn (x : Int) : Bool := decide (0 ≤ x ∧ x < 32)
def apart3 (a b c : Int) : Bool := decide (a.toNat &&& b.toNat = 0) && decide (a.toNat &&& c.toNat = 0) && decide (b.toNat &&& c.toNat = 0)
def deedOk (d : DeedD) : Bool := codeOk d.need && stIn d.on && stIn d.off && stIn d.flip && apart3 d.on d.off d.flip
def taskOk (t : TaskD) : Bool := stIn t.start && codeOk t.goal && decide (t.deeds.length ≤ 6) && t.deeds.all deedOk
theorem stIn_iff (x : Int) : stIn x = true ↔ 0 ≤ x ∧ x < 32 := by unfold stIn; simp
theorem stIn_no (x : Int) : stIn x = false ↔ ¬ (0 ≤ x ∧ x < 32) := by unfold stIn; simp only [decide_eq_false_iff_not]


theorem and_cast (a b : Int) (ha : 0 ≤ a ∧ a < 32) (hb : 0 ≤ b ∧ b < 32) : bits .and .i64 a b = ((a.toNat &&& b.toNat : Nat) : Int) := by
  have h := i64_and_nat a.toNat b.toNat (by omega) (by omega)
  rwa [toNat_cast ha.1, toNat_cast hb.1] at h
theorem cast_zero_t {n : Nat} (h : n = 0) : (((n : Nat) : Int) == 0) = true := by subst h; rfl
theorem cast_zero_f {n : Nat} (h : ¬ n = 0) : (((n : Nat) : Int) == 0) = false := by simpa using h

end Go.Proofs.Ytiebemnoegfoeaa
