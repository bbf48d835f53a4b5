/-
  No cell of these rows narrows 'for every input' (looked for: loops, veiled, ifaces, maps, wideKeys, modest, calm, conditions, laid).
  DERIVED. THE GIVEN ROWS OF THIS SEAT. 11 by the template 'for every input the law returns true; each argument reads behind the call as it read before'; 0 by the template 'total and deterministic' (their statements: YtgnmlpklojgpfaaTotals.lean).
  GIVEN WITH THE SEED: the statements are not yours to turn. If you find one false, say at which input.
  Laid BY PROGRAM, IN A SANDBOX (cutbox-rows.mjs): the forced cells as the released guide's own fill.sh prints them over the translation 8d691360b3d40a8d… (all of the seat's roots in one cut). By AI agents, Wed Nov 11 2026. No macro, syntax, notation, axiom, sorry.
-/
import Derived.Test.YtgnmlpklojgpfaaChecked
import GoSem.Claim
import GoSem.ClaimJoined
import GoSem.ClaimMapViews
import Derived.JoinedTies
import Derived.KernelRfl
namespace Go.Proofs.Ytgnmlpklojgpfaa
/- THE CELL 'sum', in the pinned program and in every row, IS THE sha256 OF THE DUMP (.gsa) THAT YtgnmlpklojgpfaaProg.lean LOADS. Nothing in Lean hashes anything: it is a label: what it is worth is what the hold of that sum in a sandbox is worth. -/
noncomputable def Try.pinned : Pinned := { name := "ytgnmlpklojgpfaa", sum := "8d691360b3d40a8d00cce71afe2f1e7c8b38d6ccadcef78701b2818535164af4", checked := Try.checked }
namespace Rows
def none {H : Type} : Left H := { results := [], args := [] }

/-- 'laws.FnExactRingsMay': WHATEVER THE INPUT: true; the input reads as it did. -/
def fnExactRingsMaySpec : ChangeSpec := { name := "fnExactRingsMay", fn := fun _ => fun
  | [d1, d2, d3] => { results := [.lit (.bool true)], args := [d1, d2, d3] }
  | _ => none }
def fnExactRingsMayRow : OpenClaim := { program := "ytgnmlpklojgpfaa", sum := "8d691360b3d40a8d00cce71afe2f1e7c8b38d6ccadcef78701b2818535164af4", func := "loop.example/switchpuzzles/laws.FnExactRingsMay", spec := "fnExactRingsMay", apart := false }
def FnExactRingsMaySaid : Prop := fnExactRingsMayRow.holds Try.pinned (OpenSpec.ofChange fnExactRingsMaySpec)

/-- ITS FALSE NEIGHBOUR: 'it returns false'. Refute it at one input. -/
def fnExactRingsMayWrong : ChangeSpec := { name := "fnExactRingsMay", fn := fun _ => fun
  | [d1, d2, d3] => { results := [.lit (.bool false)], args := [d1, d2, d3] }
  | _ => none }
def FnExactRingsMayWrongFalsely : Prop := fnExactRingsMayRow.holds Try.pinned (OpenSpec.ofChange fnExactRingsMayWrong)

/-- 'laws.FnExactGrayOf': WHATEVER THE INPUT: true; the input reads as it did. -/
def fnExactGrayOfSpec : ChangeSpec := { name := "fnExactGrayOf", fn := fun _ => fun
  | [d] => { results := [.lit (.bool true)], args := [d] }
  | _ => none }
def fnExactGrayOfRow : OpenClaim := { program := "ytgnmlpklojgpfaa", sum := "8d691360b3d40a8d00cce71afe2f1e7c8b38d6ccadcef78701b2818535164af4", func := "loop.example/switchpuzzles/laws.FnExactGrayOf", spec := "fnExactGrayOf", apart := false }
def FnExactGrayOfSaid : Prop := fnExactGrayOfRow.holds Try.pinned (OpenSpec.ofChange fnExactGrayOfSpec)

/-- ITS FALSE NEIGHBOUR: 'it returns false'. Refute it at one input. -/
def fnExactGrayOfWrong : ChangeSpec := { name := "fnExactGrayOf", fn := fun _ => fun
  | [d] => { results := [.lit (.bool false)], args := [d] }
  | _ => none }
def FnExactGrayOfWrongFalsely : Prop := fnExactGrayOfRow.holds Try.pinned (OpenSpec.ofChange fnExactGrayOfWrong)

/-- 'laws.FnExactGrayPlace': WHATEVER THE INPUT: true; the input reads as it did. -/
def fnExactGrayPlaceSpec : ChangeSpec := { name := "fnExactGrayPlace", fn := fun _ => fun
  | [d] => { results := [.lit (.bool true)], args := [d] }
  | _ => none }
def fnExactGrayPlaceRow : OpenClaim := { program := "ytgnmlpklojgpfaa", sum := "8d691360b3d40a8d00cce71afe2f1e7c8b38d6ccadcef78701b2818535164af4", func := "loop.example/switchpuzzles/laws.FnExactGrayPlace", spec := "fnExactGrayPlace", apart := false }
def FnExactGrayPlaceSaid : Prop := fnExactGrayPlaceRow.holds Try.pinned (OpenSpec.ofChange fnExactGrayPlaceSpec)

/-- ITS FALSE NEIGHBOUR: 'it returns false'. Refute it at one input. -/
def fnExactGrayPlaceWrong : ChangeSpec := { name := "fnExactGrayPlace", fn := fun _ => fun
  | [d] => { results := [.lit (.bool false)], args := [d] }
  | _ => none }
def FnExactGrayPlaceWrongFalsely : Prop := fnExactGrayPlaceRow.holds Try.pinned (OpenSpec.ofChange fnExactGrayPlaceWrong)

/-- 'laws.FnExactPressesOf': WHATEVER THE INPUT: true; the input reads as it did. -/
def fnExactPressesOfSpec : ChangeSpec := { name := "fnExactPressesOf", fn := fun _ => fun
  | [d] => { results := [.lit (.bool true)], args := [d] }
  | _ => none }
def fnExactPressesOfRow : OpenClaim := { program := "ytgnmlpklojgpfaa", sum := "8d691360b3d40a8d00cce71afe2f1e7c8b38d6ccadcef78701b2818535164af4", func := "loop.example/switchpuzzles/laws.FnExactPressesOf", spec := "fnExactPressesOf", apart := false }
def FnExactPressesOfSaid : Prop := fnExactPressesOfRow.holds Try.pinned (OpenSpec.ofChange fnExactPressesOfSpec)

/-- ITS FALSE NEIGHBOUR: 'it returns false'. Refute it at one input. -/
def fnExactPressesOfWrong : ChangeSpec := { name := "fnExactPressesOf", fn := fun _ => fun
  | [d] => { results := [.lit (.bool false)], args := [d] }
  | _ => none }
def FnExactPressesOfWrongFalsely : Prop := fnExactPressesOfRow.holds Try.pinned (OpenSpec.ofChange fnExactPressesOfWrong)

/-- 'laws.FnExactReadAct': WHATEVER THE INPUT: true; the input reads as it did. -/
def fnExactReadActSpec : ChangeSpec := { name := "fnExactReadAct", fn := fun _ => fun
  | [d] => { results := [.lit (.bool true)], args := [d] }
  | _ => none }
def fnExactReadActRow : OpenClaim := { program := "ytgnmlpklojgpfaa", sum := "8d691360b3d40a8d00cce71afe2f1e7c8b38d6ccadcef78701b2818535164af4", func := "loop.example/switchpuzzles/laws.FnExactReadAct", spec := "fnExactReadAct", recurses := true, apart := false }
def FnExactReadActSaid : Prop := fnExactReadActRow.holds Try.pinned (OpenSpec.ofChange fnExactReadActSpec)

/-- ITS FALSE NEIGHBOUR: 'it returns false'. Refute it at one input. -/
def fnExactReadActWrong : ChangeSpec := { name := "fnExactReadAct", fn := fun _ => fun
  | [d] => { results := [.lit (.bool false)], args := [d] }
  | _ => none }
def FnExactReadActWrongFalsely : Prop := fnExactReadActRow.holds Try.pinned (OpenSpec.ofChange fnExactReadActWrong)

/-- 'laws.FnRingsMay': WHATEVER THE INPUT: true; the input reads as it did. -/
def fnRingsMaySpec : ChangeSpec := { name := "fnRingsMay", fn := fun _ => fun
  | [d] => { results := [.lit (.bool true)], args := [d] }
  | _ => none }
def fnRingsMayRow : OpenClaim := { program := "ytgnmlpklojgpfaa", sum := "8d691360b3d40a8d00cce71afe2f1e7c8b38d6ccadcef78701b2818535164af4", func := "loop.example/switchpuzzles/laws.FnRingsMay", spec := "fnRingsMay", apart := false }
def FnRingsMaySaid : Prop := fnRingsMayRow.holds Try.pinned (OpenSpec.ofChange fnRingsMaySpec)

/-- ITS FALSE NEIGHBOUR: 'it returns false'. Refute it at one input. -/
def fnRingsMayWrong : ChangeSpec := { name := "fnRingsMay", fn := fun _ => fun
  | [d] => { results := [.lit (.bool false)], args := [d] }
  | _ => none }
def FnRingsMayWrongFalsely : Prop := fnRingsMayRow.holds Try.pinned (OpenSpec.ofChange fnRingsMayWrong)

/-- 'laws.FnPressesOf': WHATEVER THE INPUT: true; the input reads as it did. -/
def fnPressesOfSpec : ChangeSpec := { name := "fnPressesOf", fn := fun _ => fun
  | [d] => { results := [.lit (.bool true)], args := [d] }
  | _ => none }
def fnPressesOfRow : OpenClaim := { program := "ytgnmlpklojgpfaa", sum := "8d691360b3d40a8d00cce71afe2f1e7c8b38d6ccadcef78701b2818535164af4", func := "loop.example/switchpuzzles/laws.FnPressesOf", spec := "fnPressesOf", apart := false }
def FnPressesOfSaid : Prop := fnPressesOfRow.holds Try.pinned (OpenSpec.ofChange fnPressesOfSpec)

/-- ITS FALSE NEIGHBOUR: 'it returns false'. Refute it at one input. -/
def fnPressesOfWrong : ChangeSpec := { name := "fnPressesOf", fn := fun _ => fun
  | [d] => { results := [.lit (.bool false)], args := [d] }
  | _ => none }
def FnPressesOfWrongFalsely : Prop := fnPressesOfRow.holds Try.pinned (OpenSpec.ofChange fnPressesOfWrong)

/-- 'laws.FnGrayPlace': WHATEVER THE INPUT: true; the input reads as it did. -/
def fnGrayPlaceSpec : ChangeSpec := { name := "fnGrayPlace", fn := fun _ => fun
  | [d] => { results := [.lit (.bool true)], args := [d] }
  | _ => none }
def fnGrayPlaceRow : OpenClaim := { program := "ytgnmlpklojgpfaa", sum := "8d691360b3d40a8d00cce71afe2f1e7c8b38d6ccadcef78701b2818535164af4", func := "loop.example/switchpuzzles/laws.FnGrayPlace", spec := "fnGrayPlace", apart := false }
def FnGrayPlaceSaid : Prop := fnGrayPlaceRow.holds Try.pinned (OpenSpec.ofChange fnGrayPlaceSpec)

/-- ITS FALSE NEIGHBOUR: 'it returns false'. Refute it at one input. -/
def fnGrayPlaceWrong : ChangeSpec := { name := "fnGrayPlace", fn := fun _ => fun
  | [d] => { results := [.lit (.bool false)], args := [d] }
  | _ => none }
def FnGrayPlaceWrongFalsely : Prop := fnGrayPlaceRow.holds Try.pinned (OpenSpec.ofChange fnGrayPlaceWrong)

/-- 'laws.FnGrayOf': WHATEVER THE INPUT: true; the input reads as it did. -/
def fnGrayOfSpec : ChangeSpec := { name := "fnGrayOf", fn := fun _ => fun
  | [d] => { results := [.lit (.bool true)], args := [d] }
  | _ => none }
def fnGrayOfRow : OpenClaim := { program := "ytgnmlpklojgpfaa", sum := "8d691360b3d40a8d00cce71afe2f1e7c8b38d6ccadcef78701b2818535164af4", func := "loop.example/switchpuzzles/laws.FnGrayOf", spec := "fnGrayOf", apart := false }
def FnGrayOfSaid : Prop := fnGrayOfRow.holds Try.pinned (OpenSpec.ofChange fnGrayOfSpec)

/-- ITS FALSE NEIGHBOUR: 'it returns false'. Refute it at one input. -/
def fnGrayOfWrong : ChangeSpec := { name := "fnGrayOf", fn := fun _ => fun
  | [d] => { results := [.lit (.bool false)], args := [d] }
  | _ => none }
def FnGrayOfWrongFalsely : Prop := fnGrayOfRow.holds Try.pinned (OpenSpec.ofChange fnGrayOfWrong)

/-- 'laws.FnExactRingsTask': WHATEVER THE INPUT: true; the input reads as it did. -/
def fnExactRingsTaskSpec : ChangeSpec := { name := "fnExactRingsTask", fn := fun _ => fun
  | [d1, d2] => { results := [.lit (.bool true)], args := [d1, d2] }
  | _ => none }
def fnExactRingsTaskRow : OpenClaim := { program := "ytgnmlpklojgpfaa", sum := "8d691360b3d40a8d00cce71afe2f1e7c8b38d6ccadcef78701b2818535164af4", func := "loop.example/switchpuzzles/laws.FnExactRingsTask", spec := "fnExactRingsTask", apart := false }
def FnExactRingsTaskSaid : Prop := fnExactRingsTaskRow.holds Try.pinned (OpenSpec.ofChange fnExactRingsTaskSpec)

/-- ITS FALSE NEIGHBOUR: 'it returns false'. Refute it at one input. -/
def fnExactRingsTaskWrong : ChangeSpec := { name := "fnExactRingsTask", fn := fun _ => fun
  | [d1, d2] => { results := [.lit (.bool false)], args := [d1, d2] }
  | _ => none }
def FnExactRingsTaskWrongFalsely : Prop := fnExactRingsTaskRow.holds Try.pinned (OpenSpec.ofChange fnExactRingsTaskWrong)

/-- 'laws.FnExactReadJournal': WHATEVER THE INPUT: true; the input reads as it did. -/
def fnExactReadJournalSpec : ChangeSpec := { name := "fnExactReadJournal", fn := fun _ => fun
  | [d] => { results := [.lit (.bool true)], args := [d] }
  | _ => none }
def fnExactReadJournalRow : OpenClaim := { program := "ytgnmlpklojgpfaa", sum := "8d691360b3d40a8d00cce71afe2f1e7c8b38d6ccadcef78701b2818535164af4", func := "loop.example/switchpuzzles/laws.FnExactReadJournal", spec := "fnExactReadJournal", inPlace := ["internal/bytealg.IndexByteString", "internal/bytealg.IndexString"], recurses := true, named := ["internal/bytealg.MaxLen"], apart := false }
def FnExactReadJournalSaid : Prop := fnExactReadJournalRow.holds Try.pinned (OpenSpec.ofChange fnExactReadJournalSpec)

/-- ITS FALSE NEIGHBOUR: 'it returns false'. Refute it at one input. -/
def fnExactReadJournalWrong : ChangeSpec := { name := "fnExactReadJournal", fn := fun _ => fun
  | [d] => { results := [.lit (.bool false)], args := [d] }
  | _ => none }
def FnExactReadJournalWrongFalsely : Prop := fnExactReadJournalRow.holds Try.pinned (OpenSpec.ofChange fnExactReadJournalWrong)

/- THE SECOND FORM. 'bulk': how many values and letters a reading holds, each counted each time it is reached (what is shared counts as often as it is met; a slice's spare places count too). A statement '..UptoSaid' is the law's where the arguments, and the package variables that the reading takes, are together of bulk at most 1048576: NARROWER than '..Said'. Prove '..Said' where nothing that the law and all that it calls make is longer than what came in: it says more and counts as full. Else prove '..UptoSaid'. A law counts once. -/
mutual
def uptoBulk {H : Type} : DataW H → Nat
  | .lit (.string bytes) => bytes.length + 1
  | .lit _ => 1
  | .nil => 1
  | .ptr d => uptoBulk d + 1
  | .slice elems spare => uptoBulkAll elems + uptoBulkAll spare + 1
  | .agg parts => uptoBulkAll parts + 1
  | .iface _ d => uptoBulk d + 1
  | .map entries => uptoBulkEntries entries + 1
  | .held _ => 1
def uptoBulkAll {H : Type} : List (DataW H) → Nat
  | [] => 0
  | d :: r => uptoBulk d + uptoBulkAll r
def uptoBulkEntries {H : Type} : List (Lit × DataW H) → Nat
  | [] => 0
  | x :: r => uptoBulkEntry x + uptoBulkEntries r
def uptoBulkEntry {H : Type} : Lit × DataW H → Nat
  | (.string bytes, d) => bytes.length + uptoBulk d + 1
  | (_, d) => uptoBulk d + 1
 end
def uptoSmall : (H : Type) → List (DataW H) → Bool := fun _ ds => decide (uptoBulkAll ds ≤ 1048576)
def OpenSpec.upto (s : _root_.Go.ChangeSpec) : _root_.Go.OpenSpec := { _root_.Go.OpenSpec.ofChange s with cond := some uptoSmall }

/-- 'laws.FnExactRingsMay', WHERE WHAT IT READS IS OF BULK AT MOST 1048576: true; the input reads as it did. -/
def fnExactRingsMayUptoRow : OpenClaim := { program := "ytgnmlpklojgpfaa", sum := "8d691360b3d40a8d00cce71afe2f1e7c8b38d6ccadcef78701b2818535164af4", func := "loop.example/switchpuzzles/laws.FnExactRingsMay", spec := "fnExactRingsMay", apart := false, narrowed := true }
def FnExactRingsMayUptoSaid : Prop := fnExactRingsMayUptoRow.holds Try.pinned (OpenSpec.upto fnExactRingsMaySpec)

/-- 'laws.FnExactGrayOf', WHERE WHAT IT READS IS OF BULK AT MOST 1048576: true; the input reads as it did. -/
def fnExactGrayOfUptoRow : OpenClaim := { program := "ytgnmlpklojgpfaa", sum := "8d691360b3d40a8d00cce71afe2f1e7c8b38d6ccadcef78701b2818535164af4", func := "loop.example/switchpuzzles/laws.FnExactGrayOf", spec := "fnExactGrayOf", apart := false, narrowed := true }
def FnExactGrayOfUptoSaid : Prop := fnExactGrayOfUptoRow.holds Try.pinned (OpenSpec.upto fnExactGrayOfSpec)

/-- 'laws.FnExactGrayPlace', WHERE WHAT IT READS IS OF BULK AT MOST 1048576: true; the input reads as it did. -/
def fnExactGrayPlaceUptoRow : OpenClaim := { program := "ytgnmlpklojgpfaa", sum := "8d691360b3d40a8d00cce71afe2f1e7c8b38d6ccadcef78701b2818535164af4", func := "loop.example/switchpuzzles/laws.FnExactGrayPlace", spec := "fnExactGrayPlace", apart := false, narrowed := true }
def FnExactGrayPlaceUptoSaid : Prop := fnExactGrayPlaceUptoRow.holds Try.pinned (OpenSpec.upto fnExactGrayPlaceSpec)

/-- 'laws.FnExactPressesOf', WHERE WHAT IT READS IS OF BULK AT MOST 1048576: true; the input reads as it did. -/
def fnExactPressesOfUptoRow : OpenClaim := { program := "ytgnmlpklojgpfaa", sum := "8d691360b3d40a8d00cce71afe2f1e7c8b38d6ccadcef78701b2818535164af4", func := "loop.example/switchpuzzles/laws.FnExactPressesOf", spec := "fnExactPressesOf", apart := false, narrowed := true }
def FnExactPressesOfUptoSaid : Prop := fnExactPressesOfUptoRow.holds Try.pinned (OpenSpec.upto fnExactPressesOfSpec)

/-- 'laws.FnExactReadAct', WHERE WHAT IT READS IS OF BULK AT MOST 1048576: true; the input reads as it did. -/
def fnExactReadActUptoRow : OpenClaim := { program := "ytgnmlpklojgpfaa", sum := "8d691360b3d40a8d00cce71afe2f1e7c8b38d6ccadcef78701b2818535164af4", func := "loop.example/switchpuzzles/laws.FnExactReadAct", spec := "fnExactReadAct", recurses := true, apart := false, narrowed := true }
def FnExactReadActUptoSaid : Prop := fnExactReadActUptoRow.holds Try.pinned (OpenSpec.upto fnExactReadActSpec)

/-- 'laws.FnRingsMay', WHERE WHAT IT READS IS OF BULK AT MOST 1048576: true; the input reads as it did. -/
def fnRingsMayUptoRow : OpenClaim := { program := "ytgnmlpklojgpfaa", sum := "8d691360b3d40a8d00cce71afe2f1e7c8b38d6ccadcef78701b2818535164af4", func := "loop.example/switchpuzzles/laws.FnRingsMay", spec := "fnRingsMay", apart := false, narrowed := true }
def FnRingsMayUptoSaid : Prop := fnRingsMayUptoRow.holds Try.pinned (OpenSpec.upto fnRingsMaySpec)

/-- 'laws.FnPressesOf', WHERE WHAT IT READS IS OF BULK AT MOST 1048576: true; the input reads as it did. -/
def fnPressesOfUptoRow : OpenClaim := { program := "ytgnmlpklojgpfaa", sum := "8d691360b3d40a8d00cce71afe2f1e7c8b38d6ccadcef78701b2818535164af4", func := "loop.example/switchpuzzles/laws.FnPressesOf", spec := "fnPressesOf", apart := false, narrowed := true }
def FnPressesOfUptoSaid : Prop := fnPressesOfUptoRow.holds Try.pinned (OpenSpec.upto fnPressesOfSpec)

/-- 'laws.FnGrayPlace', WHERE WHAT IT READS IS OF BULK AT MOST 1048576: true; the input reads as it did. -/
def fnGrayPlaceUptoRow : OpenClaim := { program := "ytgnmlpklojgpfaa", sum := "8d691360b3d40a8d00cce71afe2f1e7c8b38d6ccadcef78701b2818535164af4", func := "loop.example/switchpuzzles/laws.FnGrayPlace", spec := "fnGrayPlace", apart := false, narrowed := true }
def FnGrayPlaceUptoSaid : Prop := fnGrayPlaceUptoRow.holds Try.pinned (OpenSpec.upto fnGrayPlaceSpec)

/-- 'laws.FnGrayOf', WHERE WHAT IT READS IS OF BULK AT MOST 1048576: true; the input reads as it did. -/
def fnGrayOfUptoRow : OpenClaim := { program := "ytgnmlpklojgpfaa", sum := "8d691360b3d40a8d00cce71afe2f1e7c8b38d6ccadcef78701b2818535164af4", func := "loop.example/switchpuzzles/laws.FnGrayOf", spec := "fnGrayOf", apart := false, narrowed := true }
def FnGrayOfUptoSaid : Prop := fnGrayOfUptoRow.holds Try.pinned (OpenSpec.upto fnGrayOfSpec)

/-- 'laws.FnExactRingsTask', WHERE WHAT IT READS IS OF BULK AT MOST 1048576: true; the input reads as it did. -/
def fnExactRingsTaskUptoRow : OpenClaim := { program := "ytgnmlpklojgpfaa", sum := "8d691360b3d40a8d00cce71afe2f1e7c8b38d6ccadcef78701b2818535164af4", func := "loop.example/switchpuzzles/laws.FnExactRingsTask", spec := "fnExactRingsTask", apart := false, narrowed := true }
def FnExactRingsTaskUptoSaid : Prop := fnExactRingsTaskUptoRow.holds Try.pinned (OpenSpec.upto fnExactRingsTaskSpec)

/-- 'laws.FnExactReadJournal', WHERE WHAT IT READS IS OF BULK AT MOST 1048576: true; the input reads as it did. -/
def fnExactReadJournalUptoRow : OpenClaim := { program := "ytgnmlpklojgpfaa", sum := "8d691360b3d40a8d00cce71afe2f1e7c8b38d6ccadcef78701b2818535164af4", func := "loop.example/switchpuzzles/laws.FnExactReadJournal", spec := "fnExactReadJournal", inPlace := ["internal/bytealg.IndexByteString", "internal/bytealg.IndexString"], recurses := true, named := ["internal/bytealg.MaxLen"], apart := false, narrowed := true }
def FnExactReadJournalUptoSaid : Prop := fnExactReadJournalUptoRow.holds Try.pinned (OpenSpec.upto fnExactReadJournalSpec)

end Rows
end Go.Proofs.Ytgnmlpklojgpfaa
