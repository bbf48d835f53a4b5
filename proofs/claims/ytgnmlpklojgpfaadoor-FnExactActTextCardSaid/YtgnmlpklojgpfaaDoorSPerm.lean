/- Plain law: permutations of at most five numbers; a set and a code under them; no program in sight. -/
import Derived.Test.YtgnmlpklojgpfaaDoorSSets
import Derived.Test.YtgnmlpklojgpfaaDoorSDeed
namespace Go.Proofs.YtgnmlpklojgpfaaDoor

def permOk (p : List Int) : Bool := decide (1 ≤ p.length ∧ p.length ≤ 5) && (p.all (fun x => decide (0 ≤ x ∧ x < p.length)) && decide p.Nodup)
/-- the numbers seen so far -/
def seenP (p : List Int) : Nat → Bool := fun j => decide ((j : Int) ∈ p)
/-- the members of a set under the first m names -/
def nameP (s : Nat) (p : List Int) (m : Nat) : Nat → Bool := fun j => (List.range m).any fun k => bit s k == 1 && p[k]? == some (j : Int)
def setN (p : List Int) (s : Nat) : Nat := mset (nameP s p 5) 5
def stepN (p : List Int) (x : Int) : Int := if x < 5 then p.getD x.toNat 0 else x
def codeN (p xs : List Int) : List Int := xs.map (stepN p)
/-- the code whose first k steps are named -/
def midN (p xs : List Int) (k : Nat) : List Int := (xs.take k).map (stepN p) ++ xs.drop k
def deedN (p : List Int) (d : DeedD) : DeedD := ⟨codeN p d.need, setN p d.on.toNat, setN p d.off.toNat, setN p d.flip.toNat⟩
def taskNamed (t : TaskD) (p : List Int) : TaskD := if taskOk t = true ∧ permOk p = true ∧ p.length = 5 then ⟨setN p t.start.toNat, codeN p t.goal, t.deeds.map (deedN p)⟩ else ⟨0, [], []⟩
end Go.Proofs.YtgnmlpklojgpfaaDoor
