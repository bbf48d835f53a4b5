/- Plain law: the search backward, layer by layer: least steps, and a plan by them; no program in sight. -/
import Derived.Test.YtgnmlpklojgpfaaDoorSSets
namespace Go.Proofs.YtgnmlpklojgpfaaDoor
set_option linter.unusedVariables false
set_option linter.unusedSimpArgs false

/-- some deed leads from s into S -/
def backP (ds : List DeedD) (S : Nat → Bool) (s : Nat) : Bool := ds.any fun d => (deedDo d s).any S
/-- what reaches S by at most n deeds -/
def layer (ds : List DeedD) (S : Nat → Bool) : Nat → Nat → Bool
  | 0, s => S s
  | n + 1, s => layer ds S n s || backP ds (layer ds S n) s
/-- the least number of deeds, if at most n, and -1 otherwise -/
def stpN (ds : List DeedD) (S : Nat → Bool) : Nat → Nat → Int
  | 0, s => if S s then 0 else -1
  | n + 1, s => if layer ds S n s then stpN ds S n s else if backP ds (layer ds S n) s then ((n + 1 : Nat) : Int) else -1
def stpV (ds : List DeedD) (S : Nat → Bool) (s : Nat) : Int := stpN ds S 32 s
def cnt (p : Nat → Bool) (n : Nat) : Nat := (List.range n).countP p
/-- nothing is added any more -/
def fixedAt (ds : List DeedD) (S : Nat → Bool) (n : Nat) : Prop := ∀ s, s < 32 → backP ds (layer ds S n) s = true → layer ds S n s = true

section
variable {ds : List DeedD} {S : Nat → Bool}
/-! ### counting -/
end

/-! ### the plan -/
/-- the first deed, from the place k on, that leads from s into f, and where -/
def pick (f : Nat → Bool) (s : Nat) : List DeedD → Nat → Option (Nat × Nat)
  | [], _ => none
  | d :: ds, k => match deedDo d s with
    | some s' => if f s' then some (k, s') else pick f s ds (k + 1)
    | none => pick f s ds (k + 1)
def walkP (ds : List DeedD) (S : Nat → Bool) : Nat → Nat → List Int
  | 0, _ => []
  | n + 1, s => match pick (fun s' => stpV ds S s' == (n : Int)) s ds 0 with
    | some (k, s') => (k : Int) :: walkP ds S n s'
    | none => []
def planOf (ds : List DeedD) (S : Nat → Bool) (s : Nat) : Option (List Int) := if stpV ds S s < 0 then none else some (walkP ds S (stpV ds S s).toNat s)
def planFor (t : TaskD) : Option (List Int) := if taskOk t then planOf t.deeds (evalCode t.goal) t.start.toNat else none
end Go.Proofs.YtgnmlpklojgpfaaDoor
