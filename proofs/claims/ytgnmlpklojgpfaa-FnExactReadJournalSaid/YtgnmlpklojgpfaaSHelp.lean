/- Joined texts: Help, Copy, Perm. -/
import Derived.Test.YtgnmlpklojgpfaaSPush
import Derived.Test.YtgnmlpklojgpfaaSEq
import Derived.Test.YtgnmlpklojgpfaaSMark2
import Derived.Test.YtgnmlpklojgpfaaSCame
import Derived.WalkSpells
import Derived.Test.YtgnmlpklojgpfaaSPlan
import Derived.Test.YtgnmlpklojgpfaaSDeed
/- The laws' helpers, each in the words of St: copies, sizes, equality, marks. -/
namespace Go.Proofs.Ytgnmlpklojgpfaa
set_option linter.unusedVariables false
set_option linter.unusedSimpArgs false
open Go.ChangeShapes Go.WideShapes Go.ChangeAt Go.RowKit

/-- it returns a value, and things of its own -/
def Gave (w : World) (v : Value) (L : List HRes) (e : Ending) (w' : World) : Prop := e = .returned v ∧ St w w' L
section
variable {w W : World} {L : List HRes}
theorem RdTM.form {M B : Nat} {v : Value} {t : TaskD} (h : RdTM M w B v t) : ∃ A n c A' n' c', v = .agg #[.int .i64 t.start, .slice A n c, .slice A' n' c'] := by
  obtain ⟨A, n, c, A', n', c', e, -⟩ := h
  exact ⟨A, n, c, A', n', c', e⟩
end
end Go.Proofs.Ytgnmlpklojgpfaa

/- slices.Clone of numbers; taskCopy of the program: the same task in new memory. -/
namespace Go.Proofs.Ytgnmlpklojgpfaa
set_option linter.unusedVariables false
set_option linter.unusedSimpArgs false
open Go.ChangeShapes Go.WideShapes Go.ChangeAt Go.RowKit

theorem St.new1At (W : World) (g : Nat) (cs : Array Value) (t : TypeId) (hg : g = W.heap.size) : St W (W.alloc (.cells cs t)) [rBlk g t cs] := by subst hg; exact St.new1 W cs t
end Go.Proofs.Ytgnmlpklojgpfaa

/- Plain law: permutations of at most five numbers; a set and a code under them; no program in sight. -/
namespace Go.Proofs.Ytgnmlpklojgpfaa

def permOk (p : List Int) : Bool := decide (1 ≤ p.length ∧ p.length ≤ 5) && (p.all (fun x => decide (0 ≤ x ∧ x < p.length)) && decide p.Nodup)
/-- the numbers seen so far -/
def seenP (p : List Int) : Nat → Bool := fun j => decide ((j : Int) ∈ p)
/-- the members of a set under the first m names -/
def nameP (s : Nat) (p : List Int) (m : Nat) : Nat → Bool := fun j => (List.range m).any fun k => bit s k == 1 && p[k]? == some (j : Int)
def setN (p : List Int) (s : Nat) : Nat := mset (nameP s p 5) 5
def stepN (p : List Int) (x : Int) : Int := if x < 5 then p.getD x.toNat 0 else x
def codeN (p xs : List Int) : List Int := xs.map (stepN p)
/-- the code whose first k steps are named -/
def midN (p xs : List Int) (k : Nat) : List Int := (xs.take k).map (stepN p) ++ xs.drop k
def deedN (p : List Int) (d : DeedD) : DeedD := ⟨codeN p d.need, setN p d.on.toNat, setN p d.off.toNat, setN p d.flip.toNat⟩
def taskNamed (t : TaskD) (p : List Int) : TaskD := if taskOk t = true ∧ permOk p = true ∧ p.length = 5 then ⟨setN p t.start.toNat, codeN p t.goal, t.deeds.map (deedN p)⟩ else ⟨0, [], []⟩
end Go.Proofs.Ytgnmlpklojgpfaa
