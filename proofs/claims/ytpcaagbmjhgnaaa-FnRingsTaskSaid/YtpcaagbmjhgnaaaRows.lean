/-
  No cell of these rows narrows 'for every input' (looked for: loops, veiled, ifaces, maps, wideKeys, modest, calm, conditions, laid).
  DERIVED. THE GIVEN ROWS OF THIS SEAT. 12 by the template 'for every input the law returns true; each argument reads behind the call as it read before'; 0 by the template 'total and deterministic' (their statements: YtpcaagbmjhgnaaaTotals.lean).
  GIVEN WITH THE SEED: the statements are not yours to turn. If you find one false, say at which input.
  Laid BY PROGRAM, IN A SANDBOX (cutbox-rows.mjs): the forced cells as the released guide's own fill.sh prints them over the translation b121f8b59f7f94a2… (all of the seat's roots in one cut). By AI agents, Wed Nov 11 2026. No macro, syntax, notation, axiom, sorry.
-/
import Derived.Test.YtpcaagbmjhgnaaaChecked
import GoSem.Claim
import GoSem.ClaimJoined
import GoSem.ClaimMapViews
import Derived.JoinedTies
import Derived.KernelRfl
namespace Go.Proofs.Ytpcaagbmjhgnaaa
/- THE CELL 'sum', in the pinned program and in every row, IS THE sha256 OF THE DUMP (.gsa) THAT YtpcaagbmjhgnaaaProg.lean LOADS. Nothing in Lean hashes anything: it is a label: what it is worth is what the hold of that sum in a sandbox is worth. -/
noncomputable def Try.pinned : Pinned := { name := "ytpcaagbmjhgnaaa", sum := "b121f8b59f7f94a2e8dc3b7a7e44652152157484f75260444801a5d544e3e065", checked := Try.checked }
namespace Rows
def none {H : Type} : Left H := { results := [], args := [] }

/-- 'laws.FnExactLightsTask': WHATEVER THE INPUT: true; the input reads as it did. -/
def fnExactLightsTaskSpec : ChangeSpec := { name := "fnExactLightsTask", fn := fun _ => fun
  | [d1, d2] => { results := [.lit (.bool true)], args := [d1, d2] }
  | _ => none }
def fnExactLightsTaskRow : OpenClaim := { program := "ytpcaagbmjhgnaaa", sum := "b121f8b59f7f94a2e8dc3b7a7e44652152157484f75260444801a5d544e3e065", func := "loop.example/switchpuzzles/laws.FnExactLightsTask", spec := "fnExactLightsTask", apart := false }
def FnExactLightsTaskSaid : Prop := fnExactLightsTaskRow.holds Try.pinned (OpenSpec.ofChange fnExactLightsTaskSpec)

/-- ITS FALSE NEIGHBOUR: 'it returns false'. Refute it at one input. -/
def fnExactLightsTaskWrong : ChangeSpec := { name := "fnExactLightsTask", fn := fun _ => fun
  | [d1, d2] => { results := [.lit (.bool false)], args := [d1, d2] }
  | _ => none }
def FnExactLightsTaskWrongFalsely : Prop := fnExactLightsTaskRow.holds Try.pinned (OpenSpec.ofChange fnExactLightsTaskWrong)

/-- 'laws.FnExactTaskTurned': WHATEVER THE INPUT: true; the input reads as it did. -/
def fnExactTaskTurnedSpec : ChangeSpec := { name := "fnExactTaskTurned", fn := fun _ => fun
  | [d1, d2] => { results := [.lit (.bool true)], args := [d1, d2] }
  | _ => none }
def fnExactTaskTurnedRow : OpenClaim := { program := "ytpcaagbmjhgnaaa", sum := "b121f8b59f7f94a2e8dc3b7a7e44652152157484f75260444801a5d544e3e065", func := "loop.example/switchpuzzles/laws.FnExactTaskTurned", spec := "fnExactTaskTurned", apart := false }
def FnExactTaskTurnedSaid : Prop := fnExactTaskTurnedRow.holds Try.pinned (OpenSpec.ofChange fnExactTaskTurnedSpec)

/-- ITS FALSE NEIGHBOUR: 'it returns false'. Refute it at one input. -/
def fnExactTaskTurnedWrong : ChangeSpec := { name := "fnExactTaskTurned", fn := fun _ => fun
  | [d1, d2] => { results := [.lit (.bool false)], args := [d1, d2] }
  | _ => none }
def FnExactTaskTurnedWrongFalsely : Prop := fnExactTaskTurnedRow.holds Try.pinned (OpenSpec.ofChange fnExactTaskTurnedWrong)

/-- 'laws.FnExactCrossTask': WHATEVER THE INPUT: true; the input reads as it did. -/
def fnExactCrossTaskSpec : ChangeSpec := { name := "fnExactCrossTask", fn := fun _ => fun
  | [d] => { results := [.lit (.bool true)], args := [d] }
  | _ => none }
def fnExactCrossTaskRow : OpenClaim := { program := "ytpcaagbmjhgnaaa", sum := "b121f8b59f7f94a2e8dc3b7a7e44652152157484f75260444801a5d544e3e065", func := "loop.example/switchpuzzles/laws.FnExactCrossTask", spec := "fnExactCrossTask", apart := false }
def FnExactCrossTaskSaid : Prop := fnExactCrossTaskRow.holds Try.pinned (OpenSpec.ofChange fnExactCrossTaskSpec)

/-- ITS FALSE NEIGHBOUR: 'it returns false'. Refute it at one input. -/
def fnExactCrossTaskWrong : ChangeSpec := { name := "fnExactCrossTask", fn := fun _ => fun
  | [d] => { results := [.lit (.bool false)], args := [d] }
  | _ => none }
def FnExactCrossTaskWrongFalsely : Prop := fnExactCrossTaskRow.holds Try.pinned (OpenSpec.ofChange fnExactCrossTaskWrong)

/-- 'laws.FnExactBookNew': WHATEVER THE INPUT: true; the input reads as it did. -/
def fnExactBookNewSpec : ChangeSpec := { name := "fnExactBookNew", fn := fun _ => fun
  | [d] => { results := [.lit (.bool true)], args := [d] }
  | _ => none }
def fnExactBookNewRow : OpenClaim := { program := "ytpcaagbmjhgnaaa", sum := "b121f8b59f7f94a2e8dc3b7a7e44652152157484f75260444801a5d544e3e065", func := "loop.example/switchpuzzles/laws.FnExactBookNew", spec := "fnExactBookNew", apart := false }
def FnExactBookNewSaid : Prop := fnExactBookNewRow.holds Try.pinned (OpenSpec.ofChange fnExactBookNewSpec)

/-- ITS FALSE NEIGHBOUR: 'it returns false'. Refute it at one input. -/
def fnExactBookNewWrong : ChangeSpec := { name := "fnExactBookNew", fn := fun _ => fun
  | [d] => { results := [.lit (.bool false)], args := [d] }
  | _ => none }
def FnExactBookNewWrongFalsely : Prop := fnExactBookNewRow.holds Try.pinned (OpenSpec.ofChange fnExactBookNewWrong)

/-- 'laws.FnExactBookValid': WHATEVER THE INPUT: true; the input reads as it did. -/
def fnExactBookValidSpec : ChangeSpec := { name := "fnExactBookValid", fn := fun _ => fun
  | [d] => { results := [.lit (.bool true)], args := [d] }
  | _ => none }
def fnExactBookValidRow : OpenClaim := { program := "ytpcaagbmjhgnaaa", sum := "b121f8b59f7f94a2e8dc3b7a7e44652152157484f75260444801a5d544e3e065", func := "loop.example/switchpuzzles/laws.FnExactBookValid", spec := "fnExactBookValid", apart := false }
def FnExactBookValidSaid : Prop := fnExactBookValidRow.holds Try.pinned (OpenSpec.ofChange fnExactBookValidSpec)

/-- ITS FALSE NEIGHBOUR: 'it returns false'. Refute it at one input. -/
def fnExactBookValidWrong : ChangeSpec := { name := "fnExactBookValid", fn := fun _ => fun
  | [d] => { results := [.lit (.bool false)], args := [d] }
  | _ => none }
def FnExactBookValidWrongFalsely : Prop := fnExactBookValidRow.holds Try.pinned (OpenSpec.ofChange fnExactBookValidWrong)

/-- 'laws.FnExactBookEnded': WHATEVER THE INPUT: true; the input reads as it did. -/
def fnExactBookEndedSpec : ChangeSpec := { name := "fnExactBookEnded", fn := fun _ => fun
  | [d] => { results := [.lit (.bool true)], args := [d] }
  | _ => none }
def fnExactBookEndedRow : OpenClaim := { program := "ytpcaagbmjhgnaaa", sum := "b121f8b59f7f94a2e8dc3b7a7e44652152157484f75260444801a5d544e3e065", func := "loop.example/switchpuzzles/laws.FnExactBookEnded", spec := "fnExactBookEnded", apart := false }
def FnExactBookEndedSaid : Prop := fnExactBookEndedRow.holds Try.pinned (OpenSpec.ofChange fnExactBookEndedSpec)

/-- ITS FALSE NEIGHBOUR: 'it returns false'. Refute it at one input. -/
def fnExactBookEndedWrong : ChangeSpec := { name := "fnExactBookEnded", fn := fun _ => fun
  | [d] => { results := [.lit (.bool false)], args := [d] }
  | _ => none }
def FnExactBookEndedWrongFalsely : Prop := fnExactBookEndedRow.holds Try.pinned (OpenSpec.ofChange fnExactBookEndedWrong)

/-- 'laws.FnExactTaskNamed': WHATEVER THE INPUT: true; the input reads as it did. -/
def fnExactTaskNamedSpec : ChangeSpec := { name := "fnExactTaskNamed", fn := fun _ => fun
  | [d1, d2] => { results := [.lit (.bool true)], args := [d1, d2] }
  | _ => none }
def fnExactTaskNamedRow : OpenClaim := { program := "ytpcaagbmjhgnaaa", sum := "b121f8b59f7f94a2e8dc3b7a7e44652152157484f75260444801a5d544e3e065", func := "loop.example/switchpuzzles/laws.FnExactTaskNamed", spec := "fnExactTaskNamed", apart := false }
def FnExactTaskNamedSaid : Prop := fnExactTaskNamedRow.holds Try.pinned (OpenSpec.ofChange fnExactTaskNamedSpec)

/-- ITS FALSE NEIGHBOUR: 'it returns false'. Refute it at one input. -/
def fnExactTaskNamedWrong : ChangeSpec := { name := "fnExactTaskNamed", fn := fun _ => fun
  | [d1, d2] => { results := [.lit (.bool false)], args := [d1, d2] }
  | _ => none }
def FnExactTaskNamedWrongFalsely : Prop := fnExactTaskNamedRow.holds Try.pinned (OpenSpec.ofChange fnExactTaskNamedWrong)

/-- 'laws.FnBookNew': WHATEVER THE INPUT: true; the input reads as it did. -/
def fnBookNewSpec : ChangeSpec := { name := "fnBookNew", fn := fun _ => fun
  | [d] => { results := [.lit (.bool true)], args := [d] }
  | _ => none }
def fnBookNewRow : OpenClaim := { program := "ytpcaagbmjhgnaaa", sum := "b121f8b59f7f94a2e8dc3b7a7e44652152157484f75260444801a5d544e3e065", func := "loop.example/switchpuzzles/laws.FnBookNew", spec := "fnBookNew", apart := false }
def FnBookNewSaid : Prop := fnBookNewRow.holds Try.pinned (OpenSpec.ofChange fnBookNewSpec)

/-- ITS FALSE NEIGHBOUR: 'it returns false'. Refute it at one input. -/
def fnBookNewWrong : ChangeSpec := { name := "fnBookNew", fn := fun _ => fun
  | [d] => { results := [.lit (.bool false)], args := [d] }
  | _ => none }
def FnBookNewWrongFalsely : Prop := fnBookNewRow.holds Try.pinned (OpenSpec.ofChange fnBookNewWrong)

/-- 'laws.FnRingsTask': WHATEVER THE INPUT: true; the input reads as it did. -/
def fnRingsTaskSpec : ChangeSpec := { name := "fnRingsTask", fn := fun _ => fun
  | [d] => { results := [.lit (.bool true)], args := [d] }
  | _ => none }
def fnRingsTaskRow : OpenClaim := { program := "ytpcaagbmjhgnaaa", sum := "b121f8b59f7f94a2e8dc3b7a7e44652152157484f75260444801a5d544e3e065", func := "loop.example/switchpuzzles/laws.FnRingsTask", spec := "fnRingsTask", apart := false }
def FnRingsTaskSaid : Prop := fnRingsTaskRow.holds Try.pinned (OpenSpec.ofChange fnRingsTaskSpec)

/-- ITS FALSE NEIGHBOUR: 'it returns false'. Refute it at one input. -/
def fnRingsTaskWrong : ChangeSpec := { name := "fnRingsTask", fn := fun _ => fun
  | [d] => { results := [.lit (.bool false)], args := [d] }
  | _ => none }
def FnRingsTaskWrongFalsely : Prop := fnRingsTaskRow.holds Try.pinned (OpenSpec.ofChange fnRingsTaskWrong)

/-- 'laws.FnTaskTurned': WHATEVER THE INPUT: true; the input reads as it did. -/
def fnTaskTurnedSpec : ChangeSpec := { name := "fnTaskTurned", fn := fun _ => fun
  | [d] => { results := [.lit (.bool true)], args := [d] }
  | _ => none }
def fnTaskTurnedRow : OpenClaim := { program := "ytpcaagbmjhgnaaa", sum := "b121f8b59f7f94a2e8dc3b7a7e44652152157484f75260444801a5d544e3e065", func := "loop.example/switchpuzzles/laws.FnTaskTurned", spec := "fnTaskTurned", apart := false }
def FnTaskTurnedSaid : Prop := fnTaskTurnedRow.holds Try.pinned (OpenSpec.ofChange fnTaskTurnedSpec)

/-- ITS FALSE NEIGHBOUR: 'it returns false'. Refute it at one input. -/
def fnTaskTurnedWrong : ChangeSpec := { name := "fnTaskTurned", fn := fun _ => fun
  | [d] => { results := [.lit (.bool false)], args := [d] }
  | _ => none }
def FnTaskTurnedWrongFalsely : Prop := fnTaskTurnedRow.holds Try.pinned (OpenSpec.ofChange fnTaskTurnedWrong)

/-- 'laws.FnExactRestFor': WHATEVER THE INPUT: true; the input reads as it did. -/
def fnExactRestForSpec : ChangeSpec := { name := "fnExactRestFor", fn := fun _ => fun
  | [d] => { results := [.lit (.bool true)], args := [d] }
  | _ => none }
def fnExactRestForRow : OpenClaim := { program := "ytpcaagbmjhgnaaa", sum := "b121f8b59f7f94a2e8dc3b7a7e44652152157484f75260444801a5d544e3e065", func := "loop.example/switchpuzzles/laws.FnExactRestFor", spec := "fnExactRestFor", apart := false }
def FnExactRestForSaid : Prop := fnExactRestForRow.holds Try.pinned (OpenSpec.ofChange fnExactRestForSpec)

/-- ITS FALSE NEIGHBOUR: 'it returns false'. Refute it at one input. -/
def fnExactRestForWrong : ChangeSpec := { name := "fnExactRestFor", fn := fun _ => fun
  | [d] => { results := [.lit (.bool false)], args := [d] }
  | _ => none }
def FnExactRestForWrongFalsely : Prop := fnExactRestForRow.holds Try.pinned (OpenSpec.ofChange fnExactRestForWrong)

/-- 'laws.FnExactEndActs': WHATEVER THE INPUT: true; the input reads as it did. -/
def fnExactEndActsSpec : ChangeSpec := { name := "fnExactEndActs", fn := fun _ => fun
  | [d] => { results := [.lit (.bool true)], args := [d] }
  | _ => none }
def fnExactEndActsRow : OpenClaim := { program := "ytpcaagbmjhgnaaa", sum := "b121f8b59f7f94a2e8dc3b7a7e44652152157484f75260444801a5d544e3e065", func := "loop.example/switchpuzzles/laws.FnExactEndActs", spec := "fnExactEndActs", apart := false }
def FnExactEndActsSaid : Prop := fnExactEndActsRow.holds Try.pinned (OpenSpec.ofChange fnExactEndActsSpec)

/-- ITS FALSE NEIGHBOUR: 'it returns false'. Refute it at one input. -/
def fnExactEndActsWrong : ChangeSpec := { name := "fnExactEndActs", fn := fun _ => fun
  | [d] => { results := [.lit (.bool false)], args := [d] }
  | _ => none }
def FnExactEndActsWrongFalsely : Prop := fnExactEndActsRow.holds Try.pinned (OpenSpec.ofChange fnExactEndActsWrong)

/- THE SECOND FORM. 'bulk': how many values and letters a reading holds, each counted each time it is reached (what is shared counts as often as it is met; a slice's spare places count too). A statement '..UptoSaid' is the law's where the arguments, and the package variables that the reading takes, are together of bulk at most 1048576: NARROWER than '..Said'. Prove '..Said' where nothing that the law and all that it calls make is longer than what came in: it says more and counts as full. Else prove '..UptoSaid'. A law counts once. -/
mutual
def uptoBulk {H : Type} : DataW H → Nat
  | .lit (.string bytes) => bytes.length + 1
  | .lit _ => 1
  | .nil => 1
  | .ptr d => uptoBulk d + 1
  | .slice elems spare => uptoBulkAll elems + uptoBulkAll spare + 1
  | .agg parts => uptoBulkAll parts + 1
  | .iface _ d => uptoBulk d + 1
  | .map entries => uptoBulkEntries entries + 1
  | .held _ => 1
def uptoBulkAll {H : Type} : List (DataW H) → Nat
  | [] => 0
  | d :: r => uptoBulk d + uptoBulkAll r
def uptoBulkEntries {H : Type} : List (Lit × DataW H) → Nat
  | [] => 0
  | x :: r => uptoBulkEntry x + uptoBulkEntries r
def uptoBulkEntry {H : Type} : Lit × DataW H → Nat
  | (.string bytes, d) => bytes.length + uptoBulk d + 1
  | (_, d) => uptoBulk d + 1
 end
def uptoSmall : (H : Type) → List (DataW H) → Bool := fun _ ds => decide (uptoBulkAll ds ≤ 1048576)
def OpenSpec.upto (s : _root_.Go.ChangeSpec) : _root_.Go.OpenSpec := { _root_.Go.OpenSpec.ofChange s with cond := some uptoSmall }

/-- 'laws.FnExactLightsTask', WHERE WHAT IT READS IS OF BULK AT MOST 1048576: true; the input reads as it did. -/
def fnExactLightsTaskUptoRow : OpenClaim := { program := "ytpcaagbmjhgnaaa", sum := "b121f8b59f7f94a2e8dc3b7a7e44652152157484f75260444801a5d544e3e065", func := "loop.example/switchpuzzles/laws.FnExactLightsTask", spec := "fnExactLightsTask", apart := false, narrowed := true }
def FnExactLightsTaskUptoSaid : Prop := fnExactLightsTaskUptoRow.holds Try.pinned (OpenSpec.upto fnExactLightsTaskSpec)

/-- 'laws.FnExactTaskTurned', WHERE WHAT IT READS IS OF BULK AT MOST 1048576: true; the input reads as it did. -/
def fnExactTaskTurnedUptoRow : OpenClaim := { program := "ytpcaagbmjhgnaaa", sum := "b121f8b59f7f94a2e8dc3b7a7e44652152157484f75260444801a5d544e3e065", func := "loop.example/switchpuzzles/laws.FnExactTaskTurned", spec := "fnExactTaskTurned", apart := false, narrowed := true }
def FnExactTaskTurnedUptoSaid : Prop := fnExactTaskTurnedUptoRow.holds Try.pinned (OpenSpec.upto fnExactTaskTurnedSpec)

/-- 'laws.FnExactCrossTask', WHERE WHAT IT READS IS OF BULK AT MOST 1048576: true; the input reads as it did. -/
def fnExactCrossTaskUptoRow : OpenClaim := { program := "ytpcaagbmjhgnaaa", sum := "b121f8b59f7f94a2e8dc3b7a7e44652152157484f75260444801a5d544e3e065", func := "loop.example/switchpuzzles/laws.FnExactCrossTask", spec := "fnExactCrossTask", apart := false, narrowed := true }
def FnExactCrossTaskUptoSaid : Prop := fnExactCrossTaskUptoRow.holds Try.pinned (OpenSpec.upto fnExactCrossTaskSpec)

/-- 'laws.FnExactBookNew', WHERE WHAT IT READS IS OF BULK AT MOST 1048576: true; the input reads as it did. -/
def fnExactBookNewUptoRow : OpenClaim := { program := "ytpcaagbmjhgnaaa", sum := "b121f8b59f7f94a2e8dc3b7a7e44652152157484f75260444801a5d544e3e065", func := "loop.example/switchpuzzles/laws.FnExactBookNew", spec := "fnExactBookNew", apart := false, narrowed := true }
def FnExactBookNewUptoSaid : Prop := fnExactBookNewUptoRow.holds Try.pinned (OpenSpec.upto fnExactBookNewSpec)

/-- 'laws.FnExactBookValid', WHERE WHAT IT READS IS OF BULK AT MOST 1048576: true; the input reads as it did. -/
def fnExactBookValidUptoRow : OpenClaim := { program := "ytpcaagbmjhgnaaa", sum := "b121f8b59f7f94a2e8dc3b7a7e44652152157484f75260444801a5d544e3e065", func := "loop.example/switchpuzzles/laws.FnExactBookValid", spec := "fnExactBookValid", apart := false, narrowed := true }
def FnExactBookValidUptoSaid : Prop := fnExactBookValidUptoRow.holds Try.pinned (OpenSpec.upto fnExactBookValidSpec)

/-- 'laws.FnExactBookEnded', WHERE WHAT IT READS IS OF BULK AT MOST 1048576: true; the input reads as it did. -/
def fnExactBookEndedUptoRow : OpenClaim := { program := "ytpcaagbmjhgnaaa", sum := "b121f8b59f7f94a2e8dc3b7a7e44652152157484f75260444801a5d544e3e065", func := "loop.example/switchpuzzles/laws.FnExactBookEnded", spec := "fnExactBookEnded", apart := false, narrowed := true }
def FnExactBookEndedUptoSaid : Prop := fnExactBookEndedUptoRow.holds Try.pinned (OpenSpec.upto fnExactBookEndedSpec)

/-- 'laws.FnExactTaskNamed', WHERE WHAT IT READS IS OF BULK AT MOST 1048576: true; the input reads as it did. -/
def fnExactTaskNamedUptoRow : OpenClaim := { program := "ytpcaagbmjhgnaaa", sum := "b121f8b59f7f94a2e8dc3b7a7e44652152157484f75260444801a5d544e3e065", func := "loop.example/switchpuzzles/laws.FnExactTaskNamed", spec := "fnExactTaskNamed", apart := false, narrowed := true }
def FnExactTaskNamedUptoSaid : Prop := fnExactTaskNamedUptoRow.holds Try.pinned (OpenSpec.upto fnExactTaskNamedSpec)

/-- 'laws.FnBookNew', WHERE WHAT IT READS IS OF BULK AT MOST 1048576: true; the input reads as it did. -/
def fnBookNewUptoRow : OpenClaim := { program := "ytpcaagbmjhgnaaa", sum := "b121f8b59f7f94a2e8dc3b7a7e44652152157484f75260444801a5d544e3e065", func := "loop.example/switchpuzzles/laws.FnBookNew", spec := "fnBookNew", apart := false, narrowed := true }
def FnBookNewUptoSaid : Prop := fnBookNewUptoRow.holds Try.pinned (OpenSpec.upto fnBookNewSpec)

/-- 'laws.FnRingsTask', WHERE WHAT IT READS IS OF BULK AT MOST 1048576: true; the input reads as it did. -/
def fnRingsTaskUptoRow : OpenClaim := { program := "ytpcaagbmjhgnaaa", sum := "b121f8b59f7f94a2e8dc3b7a7e44652152157484f75260444801a5d544e3e065", func := "loop.example/switchpuzzles/laws.FnRingsTask", spec := "fnRingsTask", apart := false, narrowed := true }
def FnRingsTaskUptoSaid : Prop := fnRingsTaskUptoRow.holds Try.pinned (OpenSpec.upto fnRingsTaskSpec)

/-- 'laws.FnTaskTurned', WHERE WHAT IT READS IS OF BULK AT MOST 1048576: true; the input reads as it did. -/
def fnTaskTurnedUptoRow : OpenClaim := { program := "ytpcaagbmjhgnaaa", sum := "b121f8b59f7f94a2e8dc3b7a7e44652152157484f75260444801a5d544e3e065", func := "loop.example/switchpuzzles/laws.FnTaskTurned", spec := "fnTaskTurned", apart := false, narrowed := true }
def FnTaskTurnedUptoSaid : Prop := fnTaskTurnedUptoRow.holds Try.pinned (OpenSpec.upto fnTaskTurnedSpec)

/-- 'laws.FnExactRestFor', WHERE WHAT IT READS IS OF BULK AT MOST 1048576: true; the input reads as it did. -/
def fnExactRestForUptoRow : OpenClaim := { program := "ytpcaagbmjhgnaaa", sum := "b121f8b59f7f94a2e8dc3b7a7e44652152157484f75260444801a5d544e3e065", func := "loop.example/switchpuzzles/laws.FnExactRestFor", spec := "fnExactRestFor", apart := false, narrowed := true }
def FnExactRestForUptoSaid : Prop := fnExactRestForUptoRow.holds Try.pinned (OpenSpec.upto fnExactRestForSpec)

/-- 'laws.FnExactEndActs', WHERE WHAT IT READS IS OF BULK AT MOST 1048576: true; the input reads as it did. -/
def fnExactEndActsUptoRow : OpenClaim := { program := "ytpcaagbmjhgnaaa", sum := "b121f8b59f7f94a2e8dc3b7a7e44652152157484f75260444801a5d544e3e065", func := "loop.example/switchpuzzles/laws.FnExactEndActs", spec := "fnExactEndActs", apart := false, narrowed := true }
def FnExactEndActsUptoSaid : Prop := fnExactEndActsUptoRow.holds Try.pinned (OpenSpec.upto fnExactEndActsSpec)

end Rows
end Go.Proofs.Ytpcaagbmjhgnaaa
