/- Joined texts: Copy, BookNew. -/
import Derived.Test.YtgnmlpklojgpfaaDoorSHelp
import Derived.WalkSpells
import Derived.Test.YtgnmlpklojgpfaaDoorSBook
/- slices.Clone of numbers; taskCopy of the program: the same task in new memory. -/
namespace Go.Proofs.YtgnmlpklojgpfaaDoor
set_option linter.unusedVariables false
set_option linter.unusedSimpArgs false
open Go.ChangeShapes Go.WideShapes Go.ChangeAt Go.RowKit

end Go.Proofs.YtgnmlpklojgpfaaDoor

/- BookNew of the program and of the reference: each returns one plain book, for every task. -/
namespace Go.Proofs.YtgnmlpklojgpfaaDoor
set_option linter.unusedVariables false
set_option linter.unusedSimpArgs false
open Go.ChangeShapes Go.WideShapes Go.ChangeAt Go.RowKit

def bookNew (t : TaskD) : BookD := if taskOk t then ⟨t, [], t.start⟩ else ⟨⟨0, [], []⟩, [], 0⟩
end Go.Proofs.YtgnmlpklojgpfaaDoor
