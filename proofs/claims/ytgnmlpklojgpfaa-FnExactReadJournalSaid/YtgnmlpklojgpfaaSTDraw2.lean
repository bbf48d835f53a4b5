/- Joined texts: TDraw2, PermD. -/
import Derived.Test.YtgnmlpklojgpfaaSMayW
import Derived.Test.YtgnmlpklojgpfaaSDsPut
import Derived.Test.YtgnmlpklojgpfaaSSteps
/- The draw of a task: some task of its own, with few deeds. Printed by gen_tdraw.py. -/
namespace Go.Proofs.Ytgnmlpklojgpfaa
set_option linter.unusedVariables false
set_option linter.unusedSimpArgs false
open Go.ChangeShapes Go.WideShapes Go.ChangeAt Go.RowKit
def up5 (i : Nat) : Nat := if i < 5 then i else i + 2
def dn6 (i : Nat) : Nat := if i = 0 then 0 else if i < 5 then i + 1 else if i = 5 then 1 else i - 1
def dn5 (i : Nat) : Nat := if i < 5 then i else i - 2
def DeedB (m : Int) (d : DeedD) : Prop := d.need.length ≤ 4 ∧ (-m ≤ d.on ∧ d.on ≤ m) ∧ (-m ≤ d.off ∧ d.off ≤ m) ∧ (-m ≤ d.flip ∧ d.flip ≤ m)
abbrev DeedSm (d : DeedD) : Prop := DeedB 200 d
theorem DeedB.mono {m m' : Int} {d : DeedD} (h : DeedB m d) (hm : m ≤ m') : DeedB m' d := by
  obtain ⟨h1, h2, h3, h4⟩ := h
  exact ⟨h1, by omega, by omega, by omega⟩
def TaskSm (t : TaskD) : Prop := t.goal.length ≤ 6 ∧ t.deeds.length ≤ 7 ∧ (-1 ≤ t.start ∧ t.start ≤ 32) ∧ ∀ d ∈ t.deeds, DeedB 600 d
end Go.Proofs.Ytgnmlpklojgpfaa

/- l20Perm within a list of things: it draws a row of small numbers. -/
namespace Go.Proofs.Ytgnmlpklojgpfaa
set_option linter.unusedVariables false
set_option linter.unusedSimpArgs false
open Go.ChangeShapes Go.WideShapes Go.ChangeAt Go.RowKit

end Go.Proofs.Ytgnmlpklojgpfaa
