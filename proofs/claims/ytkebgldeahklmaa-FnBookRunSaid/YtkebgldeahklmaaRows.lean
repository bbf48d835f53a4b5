/-
  No cell of these rows narrows 'for every input' (looked for: loops, veiled, ifaces, maps, wideKeys, modest, calm, conditions, laid).
  DERIVED. THE GIVEN ROWS OF THIS SEAT. 7 by the template 'for every input the law returns true; each argument reads behind the call as it read before'; 0 by the template 'total and deterministic' (their statements: YtkebgldeahklmaaTotals.lean).
  GIVEN WITH THE SEED: the statements are not yours to turn. If you find one false, say at which input.
  Laid BY PROGRAM, IN A SANDBOX (cutbox-rows.mjs): the forced cells as the released guide's own fill.sh prints them over the translation a947f388d8d0e520… (all of the seat's roots in one cut). By AI agents, Wed Nov 11 2026. No macro, syntax, notation, axiom, sorry.
-/
import Derived.Test.YtkebgldeahklmaaChecked
import GoSem.Claim
import GoSem.ClaimJoined
import GoSem.ClaimMapViews
import Derived.JoinedTies
import Derived.KernelRfl
namespace Go.Proofs.Ytkebgldeahklmaa
/- THE CELL 'sum', in the pinned program and in every row, IS THE sha256 OF THE DUMP (.gsa) THAT YtkebgldeahklmaaProg.lean LOADS. Nothing in Lean hashes anything: it is a label: what it is worth is what the hold of that sum in a sandbox is worth. -/
noncomputable def Try.pinned : Pinned := { name := "ytkebgldeahklmaa", sum := "a947f388d8d0e520efe364e7416d6cd11e50af351f6a715d9a2eea6a74646be8", checked := Try.checked }
namespace Rows
def none {H : Type} : Left H := { results := [], args := [] }

/-- 'laws.FnBookEnded': WHATEVER THE INPUT: true; the input reads as it did. -/
def fnBookEndedSpec : ChangeSpec := { name := "fnBookEnded", fn := fun _ => fun
  | [d] => { results := [.lit (.bool true)], args := [d] }
  | _ => none }
def fnBookEndedRow : OpenClaim := { program := "ytkebgldeahklmaa", sum := "a947f388d8d0e520efe364e7416d6cd11e50af351f6a715d9a2eea6a74646be8", func := "loop.example/switchpuzzles/laws.FnBookEnded", spec := "fnBookEnded", apart := false }
def FnBookEndedSaid : Prop := fnBookEndedRow.holds Try.pinned (OpenSpec.ofChange fnBookEndedSpec)

/-- ITS FALSE NEIGHBOUR: 'it returns false'. Refute it at one input. -/
def fnBookEndedWrong : ChangeSpec := { name := "fnBookEnded", fn := fun _ => fun
  | [d] => { results := [.lit (.bool false)], args := [d] }
  | _ => none }
def FnBookEndedWrongFalsely : Prop := fnBookEndedRow.holds Try.pinned (OpenSpec.ofChange fnBookEndedWrong)

/-- 'laws.FnRestFor': WHATEVER THE INPUT: true; the input reads as it did. -/
def fnRestForSpec : ChangeSpec := { name := "fnRestFor", fn := fun _ => fun
  | [d] => { results := [.lit (.bool true)], args := [d] }
  | _ => none }
def fnRestForRow : OpenClaim := { program := "ytkebgldeahklmaa", sum := "a947f388d8d0e520efe364e7416d6cd11e50af351f6a715d9a2eea6a74646be8", func := "loop.example/switchpuzzles/laws.FnRestFor", spec := "fnRestFor", apart := false }
def FnRestForSaid : Prop := fnRestForRow.holds Try.pinned (OpenSpec.ofChange fnRestForSpec)

/-- ITS FALSE NEIGHBOUR: 'it returns false'. Refute it at one input. -/
def fnRestForWrong : ChangeSpec := { name := "fnRestFor", fn := fun _ => fun
  | [d] => { results := [.lit (.bool false)], args := [d] }
  | _ => none }
def FnRestForWrongFalsely : Prop := fnRestForRow.holds Try.pinned (OpenSpec.ofChange fnRestForWrong)

/-- 'laws.FnExactBookDo': WHATEVER THE INPUT: true; the input reads as it did. -/
def fnExactBookDoSpec : ChangeSpec := { name := "fnExactBookDo", fn := fun _ => fun
  | [d1, d2] => { results := [.lit (.bool true)], args := [d1, d2] }
  | _ => none }
def fnExactBookDoRow : OpenClaim := { program := "ytkebgldeahklmaa", sum := "a947f388d8d0e520efe364e7416d6cd11e50af351f6a715d9a2eea6a74646be8", func := "loop.example/switchpuzzles/laws.FnExactBookDo", spec := "fnExactBookDo", apart := false }
def FnExactBookDoSaid : Prop := fnExactBookDoRow.holds Try.pinned (OpenSpec.ofChange fnExactBookDoSpec)

/-- ITS FALSE NEIGHBOUR: 'it returns false'. Refute it at one input. -/
def fnExactBookDoWrong : ChangeSpec := { name := "fnExactBookDo", fn := fun _ => fun
  | [d1, d2] => { results := [.lit (.bool false)], args := [d1, d2] }
  | _ => none }
def FnExactBookDoWrongFalsely : Prop := fnExactBookDoRow.holds Try.pinned (OpenSpec.ofChange fnExactBookDoWrong)

/-- 'laws.FnBookDo': WHATEVER THE INPUT: true; the input reads as it did. -/
def fnBookDoSpec : ChangeSpec := { name := "fnBookDo", fn := fun _ => fun
  | [d] => { results := [.lit (.bool true)], args := [d] }
  | _ => none }
def fnBookDoRow : OpenClaim := { program := "ytkebgldeahklmaa", sum := "a947f388d8d0e520efe364e7416d6cd11e50af351f6a715d9a2eea6a74646be8", func := "loop.example/switchpuzzles/laws.FnBookDo", spec := "fnBookDo", apart := false }
def FnBookDoSaid : Prop := fnBookDoRow.holds Try.pinned (OpenSpec.ofChange fnBookDoSpec)

/-- ITS FALSE NEIGHBOUR: 'it returns false'. Refute it at one input. -/
def fnBookDoWrong : ChangeSpec := { name := "fnBookDo", fn := fun _ => fun
  | [d] => { results := [.lit (.bool false)], args := [d] }
  | _ => none }
def FnBookDoWrongFalsely : Prop := fnBookDoRow.holds Try.pinned (OpenSpec.ofChange fnBookDoWrong)

/-- 'laws.FnExactBookRun': WHATEVER THE INPUT: true; the input reads as it did. -/
def fnExactBookRunSpec : ChangeSpec := { name := "fnExactBookRun", fn := fun _ => fun
  | [d1, d2] => { results := [.lit (.bool true)], args := [d1, d2] }
  | _ => none }
def fnExactBookRunRow : OpenClaim := { program := "ytkebgldeahklmaa", sum := "a947f388d8d0e520efe364e7416d6cd11e50af351f6a715d9a2eea6a74646be8", func := "loop.example/switchpuzzles/laws.FnExactBookRun", spec := "fnExactBookRun", apart := false }
def FnExactBookRunSaid : Prop := fnExactBookRunRow.holds Try.pinned (OpenSpec.ofChange fnExactBookRunSpec)

/-- ITS FALSE NEIGHBOUR: 'it returns false'. Refute it at one input. -/
def fnExactBookRunWrong : ChangeSpec := { name := "fnExactBookRun", fn := fun _ => fun
  | [d1, d2] => { results := [.lit (.bool false)], args := [d1, d2] }
  | _ => none }
def FnExactBookRunWrongFalsely : Prop := fnExactBookRunRow.holds Try.pinned (OpenSpec.ofChange fnExactBookRunWrong)

/-- 'laws.FnEndActs': WHATEVER THE INPUT: true; the input reads as it did. -/
def fnEndActsSpec : ChangeSpec := { name := "fnEndActs", fn := fun _ => fun
  | [d] => { results := [.lit (.bool true)], args := [d] }
  | _ => none }
def fnEndActsRow : OpenClaim := { program := "ytkebgldeahklmaa", sum := "a947f388d8d0e520efe364e7416d6cd11e50af351f6a715d9a2eea6a74646be8", func := "loop.example/switchpuzzles/laws.FnEndActs", spec := "fnEndActs", apart := false }
def FnEndActsSaid : Prop := fnEndActsRow.holds Try.pinned (OpenSpec.ofChange fnEndActsSpec)

/-- ITS FALSE NEIGHBOUR: 'it returns false'. Refute it at one input. -/
def fnEndActsWrong : ChangeSpec := { name := "fnEndActs", fn := fun _ => fun
  | [d] => { results := [.lit (.bool false)], args := [d] }
  | _ => none }
def FnEndActsWrongFalsely : Prop := fnEndActsRow.holds Try.pinned (OpenSpec.ofChange fnEndActsWrong)

/-- 'laws.FnBookRun': WHATEVER THE INPUT: true; the input reads as it did. -/
def fnBookRunSpec : ChangeSpec := { name := "fnBookRun", fn := fun _ => fun
  | [d] => { results := [.lit (.bool true)], args := [d] }
  | _ => none }
def fnBookRunRow : OpenClaim := { program := "ytkebgldeahklmaa", sum := "a947f388d8d0e520efe364e7416d6cd11e50af351f6a715d9a2eea6a74646be8", func := "loop.example/switchpuzzles/laws.FnBookRun", spec := "fnBookRun", apart := false }
def FnBookRunSaid : Prop := fnBookRunRow.holds Try.pinned (OpenSpec.ofChange fnBookRunSpec)

/-- ITS FALSE NEIGHBOUR: 'it returns false'. Refute it at one input. -/
def fnBookRunWrong : ChangeSpec := { name := "fnBookRun", fn := fun _ => fun
  | [d] => { results := [.lit (.bool false)], args := [d] }
  | _ => none }
def FnBookRunWrongFalsely : Prop := fnBookRunRow.holds Try.pinned (OpenSpec.ofChange fnBookRunWrong)

/- THE SECOND FORM. 'bulk': how many values and letters a reading holds, each counted each time it is reached (what is shared counts as often as it is met; a slice's spare places count too). A statement '..UptoSaid' is the law's where the arguments, and the package variables that the reading takes, are together of bulk at most 1048576: NARROWER than '..Said'. Prove '..Said' where nothing that the law and all that it calls make is longer than what came in: it says more and counts as full. Else prove '..UptoSaid'. A law counts once. -/
mutual
def uptoBulk {H : Type} : DataW H → Nat
  | .lit (.string bytes) => bytes.length + 1
  | .lit _ => 1
  | .nil => 1
  | .ptr d => uptoBulk d + 1
  | .slice elems spare => uptoBulkAll elems + uptoBulkAll spare + 1
  | .agg parts => uptoBulkAll parts + 1
  | .iface _ d => uptoBulk d + 1
  | .map entries => uptoBulkEntries entries + 1
  | .held _ => 1
def uptoBulkAll {H : Type} : List (DataW H) → Nat
  | [] => 0
  | d :: r => uptoBulk d + uptoBulkAll r
def uptoBulkEntries {H : Type} : List (Lit × DataW H) → Nat
  | [] => 0
  | x :: r => uptoBulkEntry x + uptoBulkEntries r
def uptoBulkEntry {H : Type} : Lit × DataW H → Nat
  | (.string bytes, d) => bytes.length + uptoBulk d + 1
  | (_, d) => uptoBulk d + 1
 end
def uptoSmall : (H : Type) → List (DataW H) → Bool := fun _ ds => decide (uptoBulkAll ds ≤ 1048576)
def OpenSpec.upto (s : _root_.Go.ChangeSpec) : _root_.Go.OpenSpec := { _root_.Go.OpenSpec.ofChange s with cond := some uptoSmall }

/-- 'laws.FnBookEnded', WHERE WHAT IT READS IS OF BULK AT MOST 1048576: true; the input reads as it did. -/
def fnBookEndedUptoRow : OpenClaim := { program := "ytkebgldeahklmaa", sum := "a947f388d8d0e520efe364e7416d6cd11e50af351f6a715d9a2eea6a74646be8", func := "loop.example/switchpuzzles/laws.FnBookEnded", spec := "fnBookEnded", apart := false, narrowed := true }
def FnBookEndedUptoSaid : Prop := fnBookEndedUptoRow.holds Try.pinned (OpenSpec.upto fnBookEndedSpec)

/-- 'laws.FnRestFor', WHERE WHAT IT READS IS OF BULK AT MOST 1048576: true; the input reads as it did. -/
def fnRestForUptoRow : OpenClaim := { program := "ytkebgldeahklmaa", sum := "a947f388d8d0e520efe364e7416d6cd11e50af351f6a715d9a2eea6a74646be8", func := "loop.example/switchpuzzles/laws.FnRestFor", spec := "fnRestFor", apart := false, narrowed := true }
def FnRestForUptoSaid : Prop := fnRestForUptoRow.holds Try.pinned (OpenSpec.upto fnRestForSpec)

/-- 'laws.FnExactBookDo', WHERE WHAT IT READS IS OF BULK AT MOST 1048576: true; the input reads as it did. -/
def fnExactBookDoUptoRow : OpenClaim := { program := "ytkebgldeahklmaa", sum := "a947f388d8d0e520efe364e7416d6cd11e50af351f6a715d9a2eea6a74646be8", func := "loop.example/switchpuzzles/laws.FnExactBookDo", spec := "fnExactBookDo", apart := false, narrowed := true }
def FnExactBookDoUptoSaid : Prop := fnExactBookDoUptoRow.holds Try.pinned (OpenSpec.upto fnExactBookDoSpec)

/-- 'laws.FnBookDo', WHERE WHAT IT READS IS OF BULK AT MOST 1048576: true; the input reads as it did. -/
def fnBookDoUptoRow : OpenClaim := { program := "ytkebgldeahklmaa", sum := "a947f388d8d0e520efe364e7416d6cd11e50af351f6a715d9a2eea6a74646be8", func := "loop.example/switchpuzzles/laws.FnBookDo", spec := "fnBookDo", apart := false, narrowed := true }
def FnBookDoUptoSaid : Prop := fnBookDoUptoRow.holds Try.pinned (OpenSpec.upto fnBookDoSpec)

/-- 'laws.FnExactBookRun', WHERE WHAT IT READS IS OF BULK AT MOST 1048576: true; the input reads as it did. -/
def fnExactBookRunUptoRow : OpenClaim := { program := "ytkebgldeahklmaa", sum := "a947f388d8d0e520efe364e7416d6cd11e50af351f6a715d9a2eea6a74646be8", func := "loop.example/switchpuzzles/laws.FnExactBookRun", spec := "fnExactBookRun", apart := false, narrowed := true }
def FnExactBookRunUptoSaid : Prop := fnExactBookRunUptoRow.holds Try.pinned (OpenSpec.upto fnExactBookRunSpec)

/-- 'laws.FnEndActs', WHERE WHAT IT READS IS OF BULK AT MOST 1048576: true; the input reads as it did. -/
def fnEndActsUptoRow : OpenClaim := { program := "ytkebgldeahklmaa", sum := "a947f388d8d0e520efe364e7416d6cd11e50af351f6a715d9a2eea6a74646be8", func := "loop.example/switchpuzzles/laws.FnEndActs", spec := "fnEndActs", apart := false, narrowed := true }
def FnEndActsUptoSaid : Prop := fnEndActsUptoRow.holds Try.pinned (OpenSpec.upto fnEndActsSpec)

/-- 'laws.FnBookRun', WHERE WHAT IT READS IS OF BULK AT MOST 1048576: true; the input reads as it did. -/
def fnBookRunUptoRow : OpenClaim := { program := "ytkebgldeahklmaa", sum := "a947f388d8d0e520efe364e7416d6cd11e50af351f6a715d9a2eea6a74646be8", func := "loop.example/switchpuzzles/laws.FnBookRun", spec := "fnBookRun", apart := false, narrowed := true }
def FnBookRunUptoSaid : Prop := fnBookRunUptoRow.holds Try.pinned (OpenSpec.upto fnBookRunSpec)

end Rows
end Go.Proofs.Ytkebgldeahklmaa
