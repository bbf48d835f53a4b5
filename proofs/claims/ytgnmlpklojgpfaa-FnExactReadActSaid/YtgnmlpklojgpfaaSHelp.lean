/- Joined texts: Help, Copy. -/
import Derived.Test.YtgnmlpklojgpfaaSPush
import Derived.Test.YtgnmlpklojgpfaaSEq
import Derived.Test.YtgnmlpklojgpfaaSMark2
import Derived.Test.YtgnmlpklojgpfaaSCame
import Derived.WalkSpells
/- The laws' helpers, each in the words of St: copies, sizes, equality, marks. -/
namespace Go.Proofs.Ytgnmlpklojgpfaa
set_option linter.unusedVariables false
set_option linter.unusedSimpArgs false
open Go.ChangeShapes Go.WideShapes Go.ChangeAt Go.RowKit

/-- it returns a value, and things of its own -/
def Gave (w : World) (v : Value) (L : List HRes) (e : Ending) (w' : World) : Prop := e = .returned v ∧ St w w' L
section
variable {w W : World} {L : List HRes}
theorem RdTM.form {M B : Nat} {v : Value} {t : TaskD} (h : RdTM M w B v t) : ∃ A n c A' n' c', v = .agg #[.int .i64 t.start, .slice A n c, .slice A' n' c'] := by
  obtain ⟨A, n, c, A', n', c', e, -⟩ := h
  exact ⟨A, n, c, A', n', c', e⟩
end
end Go.Proofs.Ytgnmlpklojgpfaa

/- slices.Clone of numbers; taskCopy of the program: the same task in new memory. -/
namespace Go.Proofs.Ytgnmlpklojgpfaa
set_option linter.unusedVariables false
set_option linter.unusedSimpArgs false
open Go.ChangeShapes Go.WideShapes Go.ChangeAt Go.RowKit

end Go.Proofs.Ytgnmlpklojgpfaa
