/- Plain law: codes, deeds, tasks and books as data, and what is asked of them; no program in sight. -/
import Derived.Test.YtgnmlpklojgpfaaDoorSMem
namespace Go.Proofs.YtgnmlpklojgpfaaDoor

structure DeedD where
  need : List Int
  on : Int
  off : Int
  flip : Int
structure TaskD where
  start : Int
  goal : List Int
  deeds : List DeedD
structure BookD where
  order : TaskD
  done : List Int
  state : Int
structure ActD where
  kind : Int
  number : Int
theorem DeedD.ext' {a b : DeedD} (h1 : a.need = b.need) (h2 : a.on = b.on) (h3 : a.off = b.off) (h4 : a.flip = b.flip) : a = b := by cases a; cases b; simp_all
theorem TaskD.ext' {a b : TaskD} (h1 : a.start = b.start) (h2 : a.goal = b.goal) (h3 : a.deeds = b.deeds) : a = b := by cases a; cases b; simp_all
theorem BookD.ext' {a b : BookD} (h1 : a.order = b.order) (h2 : a.done = b.done) (h3 : a.state = b.state) : a = b := by cases a; cases b; simp_all
instance : DecidableEq DeedD := fun a b => decidable_of_iff (a.need = b.need ∧ a.on = b.on ∧ a.off = b.off ∧ a.flip = b.flip) ⟨fun ⟨h1, h2, h3, h4⟩ => DeedD.ext' h1 h2 h3 h4, fun h => by subst h; exact ⟨rfl, rfl, rfl, rfl⟩⟩
instance : DecidableEq TaskD := fun a b => decidable_of_iff (a.start = b.start ∧ a.goal = b.goal ∧ a.deeds = b.deeds) ⟨fun ⟨h1, h2, h3⟩ => TaskD.ext' h1 h2 h3, fun h => by subst h; exact ⟨rfl, rfl, rfl⟩⟩
instance : DecidableEq BookD := fun a b => decidable_of_iff (a.order = b.order ∧ a.done = b.done ∧ a.state = b.state) ⟨fun ⟨h1, h2, h3⟩ => BookD.ext' h1 h2 h3, fun h => by subst h; exact ⟨rfl, rfl, rfl⟩⟩

/-! ### codes -/
/-- how many entries the stack has behind a step -/
def dStep (d : Nat) (x : Int) : Option Nat :=
  if x < 0 ∨ 9 < x then none else if x ≤ 6 then some (d + 1) else if x = 7 then (if 1 ≤ d then some d else none) else if 2 ≤ d then some (d - 1) else none
def dRun : Nat → List Int → Option Nat
  | d, [] => some d
  | d, x :: xs => (dStep d x).bind fun d' => dRun d' xs
def mRun : Nat → Nat → List Int → Nat
  | _, m, [] => m
  | d, m, x :: xs => mRun ((dStep d x).getD 0) (max m ((dStep d x).getD 0)) xs
def codeOk (xs : List Int) : Bool := decide (1 ≤ xs.length ∧ xs.length ≤ 40) && dRun 0 xs == some 1
def codeDepth (xs : List Int) : Int := if codeOk xs then (mRun 0 0 xs : Nat) else -1
/-- what a step does to the stack, its top first -/
def evalStep (s : Nat) (st : List Bool) (x : Int) : List Bool :=
  if x = 5 then true :: st
  else if x = 6 then false :: st
  else if x = 7 then (match st with | a :: r => (!a) :: r | [] => [])
  else if x = 8 then (match st with | a :: b :: r => (b && a) :: r | _ => [])
  else if x = 9 then (match st with | a :: b :: r => (b || a) :: r | _ => [])
  else (bit s x.toNat == 1) :: st
def evalRun (s : Nat) (st : List Bool) (xs : List Int) : List Bool := xs.foldl (evalStep s) st
def evalCode (xs : List Int) (s : Nat) : Bool := (evalRun s [] xs).headD false
end Go.Proofs.YtgnmlpklojgpfaaDoor
