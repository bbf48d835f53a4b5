/- Joined texts: TurnP, PlansW, Bound, WaysP, WaysW. -/
import Derived.Test.YtkimgdfcgfhibaaDoorSStepsOn
import Derived.Test.YtkimgdfcgfhibaaDoorSApp
import Derived.Test.YtkimgdfcgfhibaaDoorSIso
import Derived.Test.YtkimgdfcgfhibaaDoorSSteps
import Derived.Test.YtkimgdfcgfhibaaDoorSTDraw
/- Plain law: a task with some facts turned round has the same plans, and what is reached are the same states, turned; no program in sight. -/
namespace Go.Proofs.YtkimgdfcgfhibaaDoor
set_option linter.unusedVariables false
set_option linter.unusedSimpArgs false

end Go.Proofs.YtkimgdfcgfhibaaDoor

/- PlansMany of the program. Printed by gen_plans.py. -/
namespace Go.Proofs.YtkimgdfcgfhibaaDoor
set_option linter.unusedVariables false
set_option linter.unusedSimpArgs false
open Go.ChangeShapes Go.WideShapes Go.ChangeAt Go.RowKit

/-- an array of numbers -/
def arrF (f : Nat → Int) : List Value := (List.range 32).map fun s => .int .i64 (f s)
def plansMany (t : TaskD) : Int := if taskOk t then (if stpV t.deeds (evalCode t.goal) t.start.toNat < 0 then 0 else wrap (waysN t.deeds (evalCode t.goal) (stpV t.deeds (evalCode t.goal) t.start.toNat).toNat t.start.toNat)) else -1
end Go.Proofs.YtkimgdfcgfhibaaDoor

/- Plain law: the shortest plans are fewer than 2^63, and there is one where the end is reached; no program in sight. -/
namespace Go.Proofs.YtkimgdfcgfhibaaDoor
set_option linter.unusedVariables false
set_option linter.unusedSimpArgs false

section
variable {ds : List DeedD} {S : Nat → Bool}
/-- the deed leads to a state k deeds from the end -/
def goesTo (ds : List DeedD) (S : Nat → Bool) (s : Nat) (k : Nat) (d : DeedD) : Bool := match deedDo d s with
  | some s' => stpV ds S s' == (k : Int)
  | none => false
end
end Go.Proofs.YtkimgdfcgfhibaaDoor

/- Plain law of WaysTo: how the numbers of ways grow, state by state; no program in sight. -/
namespace Go.Proofs.YtkimgdfcgfhibaaDoor
set_option linter.unusedVariables false
set_option linter.unusedSimpArgs false
open Go.ChangeShapes Go.WideShapes Go.ChangeAt Go.RowKit

/-- a row of 32 numbers -/
def intsF (f : Nat → Int) : List Int := (List.range 32).map f
theorem intsF_len (f : Nat → Int) : (intsF f).length = 32 := by simp [intsF]
section
variable {ds : List DeedD} {S : Nat → Bool}
def baseW (ds : List DeedD) (S : Nat → Bool) (m st s : Nat) : Int := if 0 ≤ stpV ds S s ∧ (stpV ds S s < m ∨ (stpV ds S s = m ∧ s < st)) then wrap (waysN ds S (stpV ds S s).toNat s) else 0
def midW (ds : List DeedD) (S : Nat → Bool) (m st : Nat) (x : Int) (s : Nat) : Int := if s = st then x else baseW ds S m st s
def termW (ds : List DeedD) (S : Nat → Bool) (m st : Nat) (d : DeedD) : Int := match deedDo d st with
  | some s' => if stpV ds S s' + 1 = m then waysN ds S (m - 1) s' else 0
  | none => 0
/-- the number that stands for the state while its deeds are counted -/
def xW (ds : List DeedD) (S : Nat → Bool) (m st j : Nat) : Int := if m = 0 then 1 else wrap (sumL (ds.take j) (termW ds S m st))
end
/-- the result of WaysTo -/
def waysTo (t : TaskD) : List Int := if taskOk t then intsF (fun s => if stpV t.deeds (evalCode t.goal) s < 0 then 0 else wrap (waysN t.deeds (evalCode t.goal) (stpV t.deeds (evalCode t.goal) s).toNat s)) else []
end Go.Proofs.YtkimgdfcgfhibaaDoor

/- WaysTo of the program. Printed by gen_waysto.py. -/
namespace Go.Proofs.YtkimgdfcgfhibaaDoor
set_option linter.unusedVariables false
set_option linter.unusedSimpArgs false
open Go.ChangeShapes Go.WideShapes Go.ChangeAt Go.RowKit

theorem St.made32 {w w2 : World} {g : Nat} (hg : w.heap.size = g) (hown : w2.ownsRow w.heap.size 3 1 (.slice (some ⟨g, 0, none⟩) 32 32) 32 (madeCells (Value.int .i64 0).cells (32 * 1)).toList) (hgr : w.grownBy w2 none) : St w w2 [rInts (.slice (some ⟨g, 0, none⟩) 32 32) (intsF fun _ => 0)] := by
  refine St.of_ints (F := [g]) ⟨?_, ?_, ?_⟩ ((Below.refl _ _).grown hgr (Nat.le_refl _) (by simp))
  · have e : (madeCells (Value.int IntKind.i64 0).cells (32 * 1)).toList = Go.Proofs.YtkimgdfcgfhibaaDoor.ints (intsF fun _ => 0) := by
      show (madeCells #[Value.int IntKind.i64 0] 32).toList = _
      rw [toList_madeCells_one]
      rfl
    rw [intsF_len]
    rw [e] at hown
    exact hown
  · intro x hx
    obtain ⟨_, _, rfl⟩ := List.mem_map.1 hx
    rfl
  · rfl
end Go.Proofs.YtkimgdfcgfhibaaDoor
