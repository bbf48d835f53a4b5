/- slices.Clone of numbers; taskCopy of the program: the same task in new memory. -/
import Derived.Test.YtadlfffhddpajaaDoorSPush
import Derived.WalkSpells
namespace Go.Proofs.YtadlfffhddpajaaDoor
set_option linter.unusedVariables false
set_option linter.unusedSimpArgs false
open Go.ChangeShapes Go.WideShapes Go.ChangeAt Go.RowKit

theorem St.new1At (W : World) (g : Nat) (cs : Array Value) (t : TypeId) (hg : g = W.heap.size) : St W (W.alloc (.cells cs t)) [rBlk g t cs] := by subst hg; exact St.new1 W cs t
theorem take_succ' {α : Type} {l : List α} {k : Nat} {x : α} (h : l[k]? = some x) : l.take (k + 1) = l.take k ++ [x] := by
  obtain ⟨h1, h2⟩ := List.getElem?_eq_some_iff.1 h
  rw [List.take_succ_eq_append_getElem h1, h2]
end Go.Proofs.YtadlfffhddpajaaDoor
