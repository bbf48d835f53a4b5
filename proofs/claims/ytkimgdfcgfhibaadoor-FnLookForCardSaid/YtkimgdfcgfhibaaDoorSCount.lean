/- Joined texts: Count, TurnP, PlansW, Bound, WaysP, WaysW. -/
import Derived.Test.YtkimgdfcgfhibaaDoorSStepsOn
import Derived.Test.YtkimgdfcgfhibaaDoorSReach
import Derived.Test.YtkimgdfcgfhibaaDoorSApp
import Derived.Test.YtkimgdfcgfhibaaDoorSDraw
import Derived.Test.YtkimgdfcgfhibaaDoorSSteps
import Derived.Test.YtkimgdfcgfhibaaDoorSTDraw
/- Plain law: ways counted forward, state by state, are as many as counted backward; no program in sight. -/
namespace Go.Proofs.YtkimgdfcgfhibaaDoor
set_option linter.unusedVariables false
set_option linter.unusedSimpArgs false

def sumR : Nat → (Nat → Int) → Int
  | 0, _ => 0
  | n + 1, f => sumR n f + f n
def sumL {α : Type} (l : List α) (f : α → Int) : Int := (l.map f).sum
/-- in how many ways n deeds lead from s0 to s -/
def fwN (ds : List DeedD) (s0 : Nat) : Nat → Nat → Int
  | 0, s => if s = s0 then 1 else 0
  | n + 1, s => sumR 32 fun s' => sumL ds fun d => if deedDo d s' = some s then fwN ds s0 n s' else 0
section
variable {ds : List DeedD} {S : Nat → Bool} {s0 : Nat}
/-! ### distances -/
theorem dstV_of {n s : Nat} (hs : s < 32) (h : fwd ds (only s0) n s = true) (hn : n ≤ 32) : 0 ≤ dstV ds (only s0) s ∧ dstV ds (only s0) s ≤ n := by
  obtain ⟨k, h1, h2, h3, h4⟩ := dstN_at (fwd_mono hn h)
  have e : dstV ds (only s0) s = (k : Int) := h2
  have hk : k ≤ n := Classical.byContradiction fun hc => by rw [h4 n (by omega)] at h; cases h
  omega
theorem dstV_fwd {s k : Nat} (h : dstV ds (only s0) s = (k : Int)) : fwd ds (only s0) k s = true := by
  have hl : fwd ds (only s0) 32 s = true := dstN_nonneg.1 (by have : dstN ds (only s0) 32 s = _ := h; omega)
  obtain ⟨j, h1, h2, h3, -⟩ := dstN_at hl
  have : j = k := by have : dstN ds (only s0) 32 s = _ := h; omega
  subst this; exact h3
theorem dstV_step (hd : ∀ d ∈ ds, deedOk d = true) {s q : Nat} (hs : s < 32) {d : DeedD} (hm : d ∈ ds) (e : deedDo d s = some q) (h : 0 ≤ dstV ds (only s0) s) : 0 ≤ dstV ds (only s0) q ∧ dstV ds (only s0) q ≤ dstV ds (only s0) s + 1 := by
  obtain ⟨k, hk⟩ := Int.eq_ofNat_of_zero_le h
  have hle := dstV_le (ds := ds) (S := only s0) hs
  have h1 := dstV_fwd hk
  have h2 : fwd ds (only s0) (k + 1) q = true := by simp [fwd, fwdP_iff.2 ⟨s, hs, h1, d, hm, e⟩]
  have := dstV_of (deedDo_lt d s q (hd d hm) hs e) h2 (by omega)
  omega
theorem layer_back {n x : Nat} : layer ds (backP ds S) n x = true → layer ds S (n + 1) x = true := by
  induction n generalizing x with
  | zero => intro h; simp only [layer] at h ⊢; rw [h]; simp
  | succ n ih =>
    intro h
    simp only [layer, Bool.or_eq_true] at h
    rcases h with h | h
    · exact layer_succ (ih h)
    · have := backP_mono (T := layer ds S (n + 1)) (fun s' h' => ih h') h
      show (layer ds S (n + 1) x || backP ds (layer ds S (n + 1)) x) = true
      rw [this]; simp
theorem fwd_layer {n : Nat} : ∀ (S : Nat → Bool) (s : Nat), fwd ds (only s0) n s = true → S s = true → layer ds S n s0 = true := by
  induction n with
  | zero =>
    intro S s h hS
    have : s0 = s := by simpa [fwd, only] using h
    rw [this]; exact hS
  | succ n ih =>
    intro S s h hS
    simp only [fwd, Bool.or_eq_true] at h
    rcases h with h | h
    · exact layer_succ (ih S s h hS)
    · obtain ⟨s', hs', h', d, hdm, e⟩ := fwdP_iff.1 h
      exact layer_back (ih (backP ds S) s' h' (backP_iff.2 ⟨d, hdm, s, e, hS⟩))
/-- a state of the end is not nearer than the least number of deeds -/
theorem dst_goal {L s k : Nat} (hL : stpV ds S s0 = (L : Int)) (hS : S s = true) (h : fwd ds (only s0) k s = true) (hk : k ≤ 32) : L ≤ k := by
  obtain ⟨j, h1, h2, h3, h4⟩ := stpN_at (layer_mono hk (fwd_layer S s h hS))
  have hj : j = L := by have : stpN ds S 32 s0 = _ := hL; omega
  subst hj
  exact Classical.byContradiction fun hc => by have h5 := h4 k (by omega); rw [fwd_layer S s h hS] at h5; cases h5
end
/-! ### the rounds of the program -/
def wrap (x : Int) : Int := (x + 9223372036854775808) % 18446744073709551616 - 9223372036854775808
/-- what the deed d adds from s' on to s in the round k -/
def addN (ds : List DeedD) (s0 k : Nat) (s' s : Nat) (d : DeedD) : Int := if dstV ds (only s0) s' = (k : Int) ∧ deedDo d s' = some s then fwN ds s0 k s' else 0
/-- ways in the round k, behind st states and the first j deeds of the next -/
def partN (ds : List DeedD) (s0 k st j s : Nat) : Int := sumR st (fun s' => sumL ds (addN ds s0 k s' s)) + sumL (ds.take j) (addN ds s0 k st s)
def waysW (ds : List DeedD) (s0 k st j s : Nat) : Int :=
  if dstV ds (only s0) s = ((k + 1 : Nat) : Int) then wrap (partN ds s0 k st j s) else if 0 ≤ dstV ds (only s0) s ∧ dstV ds (only s0) s ≤ k then wrap (fwN ds s0 (dstV ds (only s0) s).toNat s) else 0
section
variable {ds : List DeedD} {S : Nat → Bool} {s0 : Nat}
end
end Go.Proofs.YtkimgdfcgfhibaaDoor

/- Plain law: a task with some facts turned round has the same plans, and what is reached are the same states, turned; no program in sight. -/
namespace Go.Proofs.YtkimgdfcgfhibaaDoor
set_option linter.unusedVariables false
set_option linter.unusedSimpArgs false

end Go.Proofs.YtkimgdfcgfhibaaDoor

/- PlansMany of the program. Printed by gen_plans.py. -/
namespace Go.Proofs.YtkimgdfcgfhibaaDoor
set_option linter.unusedVariables false
set_option linter.unusedSimpArgs false
open Go.ChangeShapes Go.WideShapes Go.ChangeAt Go.RowKit

/-- an array of numbers -/
def arrF (f : Nat → Int) : List Value := (List.range 32).map fun s => .int .i64 (f s)
def plansMany (t : TaskD) : Int := if taskOk t then (if stpV t.deeds (evalCode t.goal) t.start.toNat < 0 then 0 else wrap (waysN t.deeds (evalCode t.goal) (stpV t.deeds (evalCode t.goal) t.start.toNat).toNat t.start.toNat)) else -1
end Go.Proofs.YtkimgdfcgfhibaaDoor

/- Plain law: the shortest plans are fewer than 2^63, and there is one where the end is reached; no program in sight. -/
namespace Go.Proofs.YtkimgdfcgfhibaaDoor
set_option linter.unusedVariables false
set_option linter.unusedSimpArgs false

section
variable {ds : List DeedD} {S : Nat → Bool}
/-- the deed leads to a state k deeds from the end -/
def goesTo (ds : List DeedD) (S : Nat → Bool) (s : Nat) (k : Nat) (d : DeedD) : Bool := match deedDo d s with
  | some s' => stpV ds S s' == (k : Int)
  | none => false
end
end Go.Proofs.YtkimgdfcgfhibaaDoor

/- Plain law of WaysTo: how the numbers of ways grow, state by state; no program in sight. -/
namespace Go.Proofs.YtkimgdfcgfhibaaDoor
set_option linter.unusedVariables false
set_option linter.unusedSimpArgs false
open Go.ChangeShapes Go.WideShapes Go.ChangeAt Go.RowKit

/-- a row of 32 numbers -/
def intsF (f : Nat → Int) : List Int := (List.range 32).map f
theorem intsF_len (f : Nat → Int) : (intsF f).length = 32 := by simp [intsF]
section
variable {ds : List DeedD} {S : Nat → Bool}
def baseW (ds : List DeedD) (S : Nat → Bool) (m st s : Nat) : Int := if 0 ≤ stpV ds S s ∧ (stpV ds S s < m ∨ (stpV ds S s = m ∧ s < st)) then wrap (waysN ds S (stpV ds S s).toNat s) else 0
def midW (ds : List DeedD) (S : Nat → Bool) (m st : Nat) (x : Int) (s : Nat) : Int := if s = st then x else baseW ds S m st s
def termW (ds : List DeedD) (S : Nat → Bool) (m st : Nat) (d : DeedD) : Int := match deedDo d st with
  | some s' => if stpV ds S s' + 1 = m then waysN ds S (m - 1) s' else 0
  | none => 0
/-- the number that stands for the state while its deeds are counted -/
def xW (ds : List DeedD) (S : Nat → Bool) (m st j : Nat) : Int := if m = 0 then 1 else wrap (sumL (ds.take j) (termW ds S m st))
end
/-- the result of WaysTo -/
def waysTo (t : TaskD) : List Int := if taskOk t then intsF (fun s => if stpV t.deeds (evalCode t.goal) s < 0 then 0 else wrap (waysN t.deeds (evalCode t.goal) (stpV t.deeds (evalCode t.goal) s).toNat s)) else []
end Go.Proofs.YtkimgdfcgfhibaaDoor

/- WaysTo of the program. Printed by gen_waysto.py. -/
namespace Go.Proofs.YtkimgdfcgfhibaaDoor
set_option linter.unusedVariables false
set_option linter.unusedSimpArgs false
open Go.ChangeShapes Go.WideShapes Go.ChangeAt Go.RowKit

end Go.Proofs.YtkimgdfcgfhibaaDoor
