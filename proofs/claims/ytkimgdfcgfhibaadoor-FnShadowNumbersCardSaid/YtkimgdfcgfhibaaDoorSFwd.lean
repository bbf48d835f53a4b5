/- Joined texts: Fwd, NextW, StepsOn, Reach, Count. -/
import Derived.Test.YtkimgdfcgfhibaaDoorSStepsLeast
import Derived.Test.YtkimgdfcgfhibaaDoorSBack
import Derived.Test.YtkimgdfcgfhibaaDoorSMore
/- Plain law: the search forward, layer by layer, and ways counted forward and backward; no program in sight. -/
namespace Go.Proofs.YtkimgdfcgfhibaaDoor
set_option linter.unusedVariables false
set_option linter.unusedSimpArgs false

def dstN (ds : List DeedD) (S : Nat → Bool) : Nat → Nat → Int
  | 0, s => if S s then 0 else -1
  | n + 1, s => if fwd ds S n s then dstN ds S n s else if fwdP ds (fwd ds S n) s then ((n + 1 : Nat) : Int) else -1
def dstV (ds : List DeedD) (S : Nat → Bool) (s : Nat) : Int := dstN ds S 32 s
/-- nothing is added any more -/
def ffixedAt (ds : List DeedD) (S : Nat → Bool) (n : Nat) : Prop := ∀ s, s < 32 → fwdP ds (fwd ds S n) s = true → fwd ds S n s = true
section
variable {ds : List DeedD} {S : Nat → Bool}
end
end Go.Proofs.YtkimgdfcgfhibaaDoor

/- nextStates of the program: one step of the search forward. -/
namespace Go.Proofs.YtkimgdfcgfhibaaDoor
set_option linter.unusedVariables false
set_option linter.unusedSimpArgs false
open Go.ChangeShapes Go.WideShapes Go.ChangeAt Go.RowKit

/-- the deed leads from a state of the set below m to s -/
def hitF (d : DeedD) (S m s : Nat) : Bool := (List.range m).any fun s' => bit S s' == 1 && deedDo d s' == some s
def partF (ds : List DeedD) (d : DeedD) (S m : Nat) (s : Nat) : Bool := fwdP ds (setP S) s || hitF d S m s
end Go.Proofs.YtkimgdfcgfhibaaDoor

/- stepsOn of the program: for each state the least number of deeds from a state. -/
namespace Go.Proofs.YtkimgdfcgfhibaaDoor
set_option linter.unusedVariables false
set_option linter.unusedSimpArgs false
open Go.ChangeShapes Go.WideShapes Go.ChangeAt Go.RowKit

def only (s0 : Nat) : Nat → Bool := fun s => decide (s0 = s)
/-- the least numbers of deeds -/
def distL (ds : List DeedD) (p : Nat → Bool) : List Int := (List.range 32).map (dstV ds p)
/-- what is new -/
def freshF (ds : List DeedD) (p : Nat → Bool) (m : Nat) : Nat → Bool := fun s => fwdP ds (fwd ds p m) s && !fwd ds p m s
end Go.Proofs.YtkimgdfcgfhibaaDoor

/- Reached, LeadsTo, StepsLeast, StepsFrom and DeedDo of the program. Printed by gen_reach.py. -/
namespace Go.Proofs.YtkimgdfcgfhibaaDoor
set_option linter.unusedVariables false
set_option linter.unusedSimpArgs false
open Go.ChangeShapes Go.WideShapes Go.ChangeAt Go.RowKit

def reached (t : TaskD) : Int := if taskOk t then (mset (fwd t.deeds (only t.start.toNat) 32) 32 : Nat) else -1
def leadsTo (t : TaskD) : Int := if taskOk t then (mset (layer t.deeds (evalCode t.goal) 32) 32 : Nat) else -1
def stepsLeast (t : TaskD) : List Int := if taskOk t then stepsL t.deeds (evalCode t.goal) else []
def stepsFrom (t : TaskD) : List Int := if taskOk t then distL t.deeds (only t.start.toNat) else []
def deedDoZ (d : DeedD) (s : Int) : Int := if deedOk d = true ∧ stIn s = true then opt (deedDo d s.toNat) else -1
end Go.Proofs.YtkimgdfcgfhibaaDoor

/- Plain law: ways counted forward, state by state, are as many as counted backward; no program in sight. -/
namespace Go.Proofs.YtkimgdfcgfhibaaDoor
set_option linter.unusedVariables false
set_option linter.unusedSimpArgs false

def sumR : Nat → (Nat → Int) → Int
  | 0, _ => 0
  | n + 1, f => sumR n f + f n
def sumL {α : Type} (l : List α) (f : α → Int) : Int := (l.map f).sum
/-- in how many ways n deeds lead from s0 to s -/
def fwN (ds : List DeedD) (s0 : Nat) : Nat → Nat → Int
  | 0, s => if s = s0 then 1 else 0
  | n + 1, s => sumR 32 fun s' => sumL ds fun d => if deedDo d s' = some s then fwN ds s0 n s' else 0
section
variable {ds : List DeedD} {S : Nat → Bool} {s0 : Nat}
/-! ### distances -/
end
/-! ### the rounds of the program -/
def wrap (x : Int) : Int := (x + 9223372036854775808) % 18446744073709551616 - 9223372036854775808
/-- what the deed d adds from s' on to s in the round k -/
def addN (ds : List DeedD) (s0 k : Nat) (s' s : Nat) (d : DeedD) : Int := if dstV ds (only s0) s' = (k : Int) ∧ deedDo d s' = some s then fwN ds s0 k s' else 0
/-- ways in the round k, behind st states and the first j deeds of the next -/
def partN (ds : List DeedD) (s0 k st j s : Nat) : Int := sumR st (fun s' => sumL ds (addN ds s0 k s' s)) + sumL (ds.take j) (addN ds s0 k st s)
def waysW (ds : List DeedD) (s0 k st j s : Nat) : Int :=
  if dstV ds (only s0) s = ((k + 1 : Nat) : Int) then wrap (partN ds s0 k st j s) else if 0 ≤ dstV ds (only s0) s ∧ dstV ds (only s0) s ≤ k then wrap (fwN ds s0 (dstV ds (only s0) s).toNat s) else 0
section
variable {ds : List DeedD} {S : Nat → Bool} {s0 : Nat}
end
end Go.Proofs.YtkimgdfcgfhibaaDoor
