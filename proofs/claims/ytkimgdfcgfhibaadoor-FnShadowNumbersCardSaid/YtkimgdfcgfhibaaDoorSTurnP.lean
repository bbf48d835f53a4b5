/- Joined texts: TurnP, PlansW, Bound, WaysP, WaysW, StatesNext, FromS, Pick. -/
import Derived.Test.YtkimgdfcgfhibaaDoorSFwd
import Derived.Test.YtkimgdfcgfhibaaDoorSTurn
import Derived.Test.YtkimgdfcgfhibaaDoorSFront
import Derived.Test.YtkimgdfcgfhibaaDoorSMore
import Derived.Test.YtkimgdfcgfhibaaDoorSTDraw
import Derived.Test.YtkimgdfcgfhibaaDoorSStatesBack
import Derived.Test.YtkimgdfcgfhibaaDoorSStepsLeast
/- Plain law: a task with some facts turned round has the same plans, and what is reached are the same states, turned; no program in sight. -/
namespace Go.Proofs.YtkimgdfcgfhibaaDoor
set_option linter.unusedVariables false
set_option linter.unusedSimpArgs false

end Go.Proofs.YtkimgdfcgfhibaaDoor

/- PlansMany of the program. Printed by gen_plans.py. -/
namespace Go.Proofs.YtkimgdfcgfhibaaDoor
set_option linter.unusedVariables false
set_option linter.unusedSimpArgs false
open Go.ChangeShapes Go.WideShapes Go.ChangeAt Go.RowKit

/-- an array of numbers -/
def arrF (f : Nat → Int) : List Value := (List.range 32).map fun s => .int .i64 (f s)
def plansMany (t : TaskD) : Int := if taskOk t then (if stpV t.deeds (evalCode t.goal) t.start.toNat < 0 then 0 else wrap (waysN t.deeds (evalCode t.goal) (stpV t.deeds (evalCode t.goal) t.start.toNat).toNat t.start.toNat)) else -1
end Go.Proofs.YtkimgdfcgfhibaaDoor

/- Plain law: the shortest plans are fewer than 2^63, and there is one where the end is reached; no program in sight. -/
namespace Go.Proofs.YtkimgdfcgfhibaaDoor
set_option linter.unusedVariables false
set_option linter.unusedSimpArgs false

section
variable {ds : List DeedD} {S : Nat → Bool}
/-- the deed leads to a state k deeds from the end -/
def goesTo (ds : List DeedD) (S : Nat → Bool) (s : Nat) (k : Nat) (d : DeedD) : Bool := match deedDo d s with
  | some s' => stpV ds S s' == (k : Int)
  | none => false
end
end Go.Proofs.YtkimgdfcgfhibaaDoor

/- Plain law of WaysTo: how the numbers of ways grow, state by state; no program in sight. -/
namespace Go.Proofs.YtkimgdfcgfhibaaDoor
set_option linter.unusedVariables false
set_option linter.unusedSimpArgs false
open Go.ChangeShapes Go.WideShapes Go.ChangeAt Go.RowKit

/-- a row of 32 numbers -/
def intsF (f : Nat → Int) : List Int := (List.range 32).map f
theorem intsF_len (f : Nat → Int) : (intsF f).length = 32 := by simp [intsF]
section
variable {ds : List DeedD} {S : Nat → Bool}
def baseW (ds : List DeedD) (S : Nat → Bool) (m st s : Nat) : Int := if 0 ≤ stpV ds S s ∧ (stpV ds S s < m ∨ (stpV ds S s = m ∧ s < st)) then wrap (waysN ds S (stpV ds S s).toNat s) else 0
def midW (ds : List DeedD) (S : Nat → Bool) (m st : Nat) (x : Int) (s : Nat) : Int := if s = st then x else baseW ds S m st s
def termW (ds : List DeedD) (S : Nat → Bool) (m st : Nat) (d : DeedD) : Int := match deedDo d st with
  | some s' => if stpV ds S s' + 1 = m then waysN ds S (m - 1) s' else 0
  | none => 0
/-- the number that stands for the state while its deeds are counted -/
def xW (ds : List DeedD) (S : Nat → Bool) (m st j : Nat) : Int := if m = 0 then 1 else wrap (sumL (ds.take j) (termW ds S m st))
end
/-- the result of WaysTo -/
def waysTo (t : TaskD) : List Int := if taskOk t then intsF (fun s => if stpV t.deeds (evalCode t.goal) s < 0 then 0 else wrap (waysN t.deeds (evalCode t.goal) (stpV t.deeds (evalCode t.goal) s).toNat s)) else []
end Go.Proofs.YtkimgdfcgfhibaaDoor

/- WaysTo of the program. Printed by gen_waysto.py. -/
namespace Go.Proofs.YtkimgdfcgfhibaaDoor
set_option linter.unusedVariables false
set_option linter.unusedSimpArgs false
open Go.ChangeShapes Go.WideShapes Go.ChangeAt Go.RowKit

theorem St.made32 {w w2 : World} {g : Nat} (hg : w.heap.size = g) (hown : w2.ownsRow w.heap.size 3 1 (.slice (some ⟨g, 0, none⟩) 32 32) 32 (madeCells (Value.int .i64 0).cells (32 * 1)).toList) (hgr : w.grownBy w2 none) : St w w2 [rInts (.slice (some ⟨g, 0, none⟩) 32 32) (intsF fun _ => 0)] := by
  refine St.of_ints (F := [g]) ⟨?_, ?_, ?_⟩ ((Below.refl _ _).grown hgr (Nat.le_refl _) (by simp))
  · have e : (madeCells (Value.int IntKind.i64 0).cells (32 * 1)).toList = Go.Proofs.YtkimgdfcgfhibaaDoor.ints (intsF fun _ => 0) := by
      show (madeCells #[Value.int IntKind.i64 0] 32).toList = _
      rw [toList_madeCells_one]
      rfl
    rw [intsF_len]
    rw [e] at hown
    exact hown
  · intro x hx
    obtain ⟨_, _, rfl⟩ := List.mem_map.1 hx
    rfl
  · rfl
end Go.Proofs.YtkimgdfcgfhibaaDoor

/- StatesNext of the reference, for valid arguments. -/
namespace Go.Proofs.YtkimgdfcgfhibaaDoor
set_option linter.unusedVariables false
set_option linter.unusedSimpArgs false
open Go.ChangeShapes Go.WideShapes Go.ChangeAt Go.RowKit

/-- what the states below m lead to -/
def preF (ds : List DeedD) (S m s : Nat) : Bool := (List.range m).any fun s' => setP S s' && ds.any fun d => deedDo d s' == some s
def outF (ds : List DeedD) (S m k s : Nat) : Bool := preF ds S m s || (setP S m && (ds.take k).any fun d => deedDo d m == some s)
end Go.Proofs.YtkimgdfcgfhibaaDoor

/- StepsFrom of the reference. Printed by gen_froms.py. -/
namespace Go.Proofs.YtkimgdfcgfhibaaDoor
set_option linter.unusedVariables false
set_option linter.unusedSimpArgs false
open Go.ChangeShapes Go.WideShapes Go.ChangeAt Go.RowKit

/-- what is met in the round m -/
def newF (ds : List DeedD) (p : Nat → Bool) : Nat → Nat → Bool
  | 0, s => p s
  | m + 1, s => freshF ds p m s
/-- what stands ahead of the round m -/
def prvF (ds : List DeedD) (p : Nat → Bool) : Nat → Nat → Int
  | 0, _ => -1
  | m + 1, s => dstN ds p m s
end Go.Proofs.YtkimgdfcgfhibaaDoor

/- A pick within a region that draws. -/
namespace Go.Proofs.YtkimgdfcgfhibaaDoor
set_option linter.unusedVariables false
set_option linter.unusedSimpArgs false
open Go.ChangeShapes Go.WideShapes Go.ChangeAt Go.RowKit

section
variable {w W W' : World} {Rs L : List HRes} {M : Nat → Option HRes}
theorem Sn.pick (h : Sn w W M) (k : Nat) {g hi : Nat} (hk : M k = some (rRd w g hi)) (hh : hi ≤ 549755813888) (m : Int) :
    Calls Tryd.prog 59 #[.pointer (some ⟨g, 0, none⟩), .int .i64 m] W fun e w' => ∃ x, e = .returned (.int .i64 x) ∧ InPick m x ∧ Sn w w' (fun i => if i = k then some (rRd w g (hi + 1)) else M i) := by
  obtain ⟨F, ⟨hF, p, A, n, c, xs, h1, h2, h3, h4⟩, hlo⟩ := h.get k hk
  have hg : w.heap.size ≤ g := hlo g (by rw [hF]; simp)
  have hR : Rdr W w.heap.size g p := ⟨hg, by omega, A, n, c, xs, h2, h3.below h.below, h4⟩
  refine (pick_any g w.heap.size p m W hR (by omega)).mono fun e w' ⟨⟨x, he, hx⟩, hgr, hr⟩ => ⟨x, he, hx, ?_⟩
  obtain ⟨-, -, A', n', c', ys, k1, k2, k3⟩ := hr
  have hb : Below w.heap.size W w' := (Below.refl _ _).grown hgr h.below.size (fun k hk => by cases hk; exact hg)
  have hrd : RdI .u8 w w.heap.size A' n' c' ys := ⟨k2.len, k2.cap, k2.capMax, k2.wf, fun hp => by
    obtain ⟨b, off, e, hbb, hc⟩ := k2.at_ hp
    exact ⟨b, off, e, hbb, fun i x hx => (bcells (h.below.trans hb) b _ hbb).symm.trans (hc i x hx)⟩⟩
  exact h.mod k hk fun F ⟨e, _⟩ _ => ⟨F, ⟨e, p + 1, A', n', c', ys, by omega, k1, hrd, k3⟩, fun b hb => .inl hb, by rw [e]; exact Only.of_grown hgr⟩
end
end Go.Proofs.YtkimgdfcgfhibaaDoor
