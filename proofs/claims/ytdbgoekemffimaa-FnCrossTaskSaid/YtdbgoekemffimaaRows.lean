/-
  No cell of these rows narrows 'for every input' (looked for: loops, veiled, ifaces, maps, wideKeys, modest, calm, conditions, laid).
  DERIVED. THE GIVEN ROWS OF THIS SEAT. 6 by the template 'for every input the law returns true; each argument reads behind the call as it read before'; 0 by the template 'total and deterministic' (their statements: YtdbgoekemffimaaTotals.lean).
  GIVEN WITH THE SEED: the statements are not yours to turn. If you find one false, say at which input.
  Laid BY PROGRAM, IN A SANDBOX (cutbox-rows.mjs): the forced cells as the released guide's own fill.sh prints them over the translation a8b4dbb6485ce6f6… (all of the seat's roots in one cut). By AI agents, Wed Nov 11 2026. No macro, syntax, notation, axiom, sorry.
-/
import Derived.Test.YtdbgoekemffimaaChecked
import GoSem.Claim
import GoSem.ClaimJoined
import GoSem.ClaimMapViews
import Derived.JoinedTies
import Derived.KernelRfl
namespace Go.Proofs.Ytdbgoekemffimaa
/- THE CELL 'sum', in the pinned program and in every row, IS THE sha256 OF THE DUMP (.gsa) THAT YtdbgoekemffimaaProg.lean LOADS. Nothing in Lean hashes anything: it is a label: what it is worth is what the hold of that sum in a sandbox is worth. -/
noncomputable def Try.pinned : Pinned := { name := "ytdbgoekemffimaa", sum := "a8b4dbb6485ce6f6ec5b2b687f946ccb905375c839811ac2c765a4078aacdb00", checked := Try.checked }
namespace Rows
def none {H : Type} : Left H := { results := [], args := [] }

/-- 'laws.FnPlansMany': WHATEVER THE INPUT: true; the input reads as it did. -/
def fnPlansManySpec : ChangeSpec := { name := "fnPlansMany", fn := fun _ => fun
  | [d] => { results := [.lit (.bool true)], args := [d] }
  | _ => none }
def fnPlansManyRow : OpenClaim := { program := "ytdbgoekemffimaa", sum := "a8b4dbb6485ce6f6ec5b2b687f946ccb905375c839811ac2c765a4078aacdb00", func := "loop.example/switchpuzzles/laws.FnPlansMany", spec := "fnPlansMany", apart := false }
def FnPlansManySaid : Prop := fnPlansManyRow.holds Try.pinned (OpenSpec.ofChange fnPlansManySpec)

/-- ITS FALSE NEIGHBOUR: 'it returns false'. Refute it at one input. -/
def fnPlansManyWrong : ChangeSpec := { name := "fnPlansMany", fn := fun _ => fun
  | [d] => { results := [.lit (.bool false)], args := [d] }
  | _ => none }
def FnPlansManyWrongFalsely : Prop := fnPlansManyRow.holds Try.pinned (OpenSpec.ofChange fnPlansManyWrong)

/-- 'laws.FnOnWay': WHATEVER THE INPUT: true; the input reads as it did. -/
def fnOnWaySpec : ChangeSpec := { name := "fnOnWay", fn := fun _ => fun
  | [d] => { results := [.lit (.bool true)], args := [d] }
  | _ => none }
def fnOnWayRow : OpenClaim := { program := "ytdbgoekemffimaa", sum := "a8b4dbb6485ce6f6ec5b2b687f946ccb905375c839811ac2c765a4078aacdb00", func := "loop.example/switchpuzzles/laws.FnOnWay", spec := "fnOnWay", apart := false }
def FnOnWaySaid : Prop := fnOnWayRow.holds Try.pinned (OpenSpec.ofChange fnOnWaySpec)

/-- ITS FALSE NEIGHBOUR: 'it returns false'. Refute it at one input. -/
def fnOnWayWrong : ChangeSpec := { name := "fnOnWay", fn := fun _ => fun
  | [d] => { results := [.lit (.bool false)], args := [d] }
  | _ => none }
def FnOnWayWrongFalsely : Prop := fnOnWayRow.holds Try.pinned (OpenSpec.ofChange fnOnWayWrong)

/-- 'laws.FnLightsTask': WHATEVER THE INPUT: true; the input reads as it did. -/
def fnLightsTaskSpec : ChangeSpec := { name := "fnLightsTask", fn := fun _ => fun
  | [d] => { results := [.lit (.bool true)], args := [d] }
  | _ => none }
def fnLightsTaskRow : OpenClaim := { program := "ytdbgoekemffimaa", sum := "a8b4dbb6485ce6f6ec5b2b687f946ccb905375c839811ac2c765a4078aacdb00", func := "loop.example/switchpuzzles/laws.FnLightsTask", spec := "fnLightsTask", apart := false }
def FnLightsTaskSaid : Prop := fnLightsTaskRow.holds Try.pinned (OpenSpec.ofChange fnLightsTaskSpec)

/-- ITS FALSE NEIGHBOUR: 'it returns false'. Refute it at one input. -/
def fnLightsTaskWrong : ChangeSpec := { name := "fnLightsTask", fn := fun _ => fun
  | [d] => { results := [.lit (.bool false)], args := [d] }
  | _ => none }
def FnLightsTaskWrongFalsely : Prop := fnLightsTaskRow.holds Try.pinned (OpenSpec.ofChange fnLightsTaskWrong)

/-- 'laws.FnCrossTask': WHATEVER THE INPUT: true; the input reads as it did. -/
def fnCrossTaskSpec : ChangeSpec := { name := "fnCrossTask", fn := fun _ => fun
  | [d] => { results := [.lit (.bool true)], args := [d] }
  | _ => none }
def fnCrossTaskRow : OpenClaim := { program := "ytdbgoekemffimaa", sum := "a8b4dbb6485ce6f6ec5b2b687f946ccb905375c839811ac2c765a4078aacdb00", func := "loop.example/switchpuzzles/laws.FnCrossTask", spec := "fnCrossTask", apart := false }
def FnCrossTaskSaid : Prop := fnCrossTaskRow.holds Try.pinned (OpenSpec.ofChange fnCrossTaskSpec)

/-- ITS FALSE NEIGHBOUR: 'it returns false'. Refute it at one input. -/
def fnCrossTaskWrong : ChangeSpec := { name := "fnCrossTask", fn := fun _ => fun
  | [d] => { results := [.lit (.bool false)], args := [d] }
  | _ => none }
def FnCrossTaskWrongFalsely : Prop := fnCrossTaskRow.holds Try.pinned (OpenSpec.ofChange fnCrossTaskWrong)

/-- 'laws.FnTaskNamed': WHATEVER THE INPUT: true; the input reads as it did. -/
def fnTaskNamedSpec : ChangeSpec := { name := "fnTaskNamed", fn := fun _ => fun
  | [d] => { results := [.lit (.bool true)], args := [d] }
  | _ => none }
def fnTaskNamedRow : OpenClaim := { program := "ytdbgoekemffimaa", sum := "a8b4dbb6485ce6f6ec5b2b687f946ccb905375c839811ac2c765a4078aacdb00", func := "loop.example/switchpuzzles/laws.FnTaskNamed", spec := "fnTaskNamed", apart := false }
def FnTaskNamedSaid : Prop := fnTaskNamedRow.holds Try.pinned (OpenSpec.ofChange fnTaskNamedSpec)

/-- ITS FALSE NEIGHBOUR: 'it returns false'. Refute it at one input. -/
def fnTaskNamedWrong : ChangeSpec := { name := "fnTaskNamed", fn := fun _ => fun
  | [d] => { results := [.lit (.bool false)], args := [d] }
  | _ => none }
def FnTaskNamedWrongFalsely : Prop := fnTaskNamedRow.holds Try.pinned (OpenSpec.ofChange fnTaskNamedWrong)

/-- 'laws.FnBookValid': WHATEVER THE INPUT: true; the input reads as it did. -/
def fnBookValidSpec : ChangeSpec := { name := "fnBookValid", fn := fun _ => fun
  | [d] => { results := [.lit (.bool true)], args := [d] }
  | _ => none }
def fnBookValidRow : OpenClaim := { program := "ytdbgoekemffimaa", sum := "a8b4dbb6485ce6f6ec5b2b687f946ccb905375c839811ac2c765a4078aacdb00", func := "loop.example/switchpuzzles/laws.FnBookValid", spec := "fnBookValid", apart := false }
def FnBookValidSaid : Prop := fnBookValidRow.holds Try.pinned (OpenSpec.ofChange fnBookValidSpec)

/-- ITS FALSE NEIGHBOUR: 'it returns false'. Refute it at one input. -/
def fnBookValidWrong : ChangeSpec := { name := "fnBookValid", fn := fun _ => fun
  | [d] => { results := [.lit (.bool false)], args := [d] }
  | _ => none }
def FnBookValidWrongFalsely : Prop := fnBookValidRow.holds Try.pinned (OpenSpec.ofChange fnBookValidWrong)

/- THE SECOND FORM. 'bulk': how many values and letters a reading holds, each counted each time it is reached (what is shared counts as often as it is met; a slice's spare places count too). A statement '..UptoSaid' is the law's where the arguments, and the package variables that the reading takes, are together of bulk at most 1048576: NARROWER than '..Said'. Prove '..Said' where nothing that the law and all that it calls make is longer than what came in: it says more and counts as full. Else prove '..UptoSaid'. A law counts once. -/
mutual
def uptoBulk {H : Type} : DataW H → Nat
  | .lit (.string bytes) => bytes.length + 1
  | .lit _ => 1
  | .nil => 1
  | .ptr d => uptoBulk d + 1
  | .slice elems spare => uptoBulkAll elems + uptoBulkAll spare + 1
  | .agg parts => uptoBulkAll parts + 1
  | .iface _ d => uptoBulk d + 1
  | .map entries => uptoBulkEntries entries + 1
  | .held _ => 1
def uptoBulkAll {H : Type} : List (DataW H) → Nat
  | [] => 0
  | d :: r => uptoBulk d + uptoBulkAll r
def uptoBulkEntries {H : Type} : List (Lit × DataW H) → Nat
  | [] => 0
  | x :: r => uptoBulkEntry x + uptoBulkEntries r
def uptoBulkEntry {H : Type} : Lit × DataW H → Nat
  | (.string bytes, d) => bytes.length + uptoBulk d + 1
  | (_, d) => uptoBulk d + 1
 end
def uptoSmall : (H : Type) → List (DataW H) → Bool := fun _ ds => decide (uptoBulkAll ds ≤ 1048576)
def OpenSpec.upto (s : _root_.Go.ChangeSpec) : _root_.Go.OpenSpec := { _root_.Go.OpenSpec.ofChange s with cond := some uptoSmall }

/-- 'laws.FnPlansMany', WHERE WHAT IT READS IS OF BULK AT MOST 1048576: true; the input reads as it did. -/
def fnPlansManyUptoRow : OpenClaim := { program := "ytdbgoekemffimaa", sum := "a8b4dbb6485ce6f6ec5b2b687f946ccb905375c839811ac2c765a4078aacdb00", func := "loop.example/switchpuzzles/laws.FnPlansMany", spec := "fnPlansMany", apart := false, narrowed := true }
def FnPlansManyUptoSaid : Prop := fnPlansManyUptoRow.holds Try.pinned (OpenSpec.upto fnPlansManySpec)

/-- 'laws.FnOnWay', WHERE WHAT IT READS IS OF BULK AT MOST 1048576: true; the input reads as it did. -/
def fnOnWayUptoRow : OpenClaim := { program := "ytdbgoekemffimaa", sum := "a8b4dbb6485ce6f6ec5b2b687f946ccb905375c839811ac2c765a4078aacdb00", func := "loop.example/switchpuzzles/laws.FnOnWay", spec := "fnOnWay", apart := false, narrowed := true }
def FnOnWayUptoSaid : Prop := fnOnWayUptoRow.holds Try.pinned (OpenSpec.upto fnOnWaySpec)

/-- 'laws.FnLightsTask', WHERE WHAT IT READS IS OF BULK AT MOST 1048576: true; the input reads as it did. -/
def fnLightsTaskUptoRow : OpenClaim := { program := "ytdbgoekemffimaa", sum := "a8b4dbb6485ce6f6ec5b2b687f946ccb905375c839811ac2c765a4078aacdb00", func := "loop.example/switchpuzzles/laws.FnLightsTask", spec := "fnLightsTask", apart := false, narrowed := true }
def FnLightsTaskUptoSaid : Prop := fnLightsTaskUptoRow.holds Try.pinned (OpenSpec.upto fnLightsTaskSpec)

/-- 'laws.FnCrossTask', WHERE WHAT IT READS IS OF BULK AT MOST 1048576: true; the input reads as it did. -/
def fnCrossTaskUptoRow : OpenClaim := { program := "ytdbgoekemffimaa", sum := "a8b4dbb6485ce6f6ec5b2b687f946ccb905375c839811ac2c765a4078aacdb00", func := "loop.example/switchpuzzles/laws.FnCrossTask", spec := "fnCrossTask", apart := false, narrowed := true }
def FnCrossTaskUptoSaid : Prop := fnCrossTaskUptoRow.holds Try.pinned (OpenSpec.upto fnCrossTaskSpec)

/-- 'laws.FnTaskNamed', WHERE WHAT IT READS IS OF BULK AT MOST 1048576: true; the input reads as it did. -/
def fnTaskNamedUptoRow : OpenClaim := { program := "ytdbgoekemffimaa", sum := "a8b4dbb6485ce6f6ec5b2b687f946ccb905375c839811ac2c765a4078aacdb00", func := "loop.example/switchpuzzles/laws.FnTaskNamed", spec := "fnTaskNamed", apart := false, narrowed := true }
def FnTaskNamedUptoSaid : Prop := fnTaskNamedUptoRow.holds Try.pinned (OpenSpec.upto fnTaskNamedSpec)

/-- 'laws.FnBookValid', WHERE WHAT IT READS IS OF BULK AT MOST 1048576: true; the input reads as it did. -/
def fnBookValidUptoRow : OpenClaim := { program := "ytdbgoekemffimaa", sum := "a8b4dbb6485ce6f6ec5b2b687f946ccb905375c839811ac2c765a4078aacdb00", func := "loop.example/switchpuzzles/laws.FnBookValid", spec := "fnBookValid", apart := false, narrowed := true }
def FnBookValidUptoSaid : Prop := fnBookValidUptoRow.holds Try.pinned (OpenSpec.upto fnBookValidSpec)

end Rows
end Go.Proofs.Ytdbgoekemffimaa
