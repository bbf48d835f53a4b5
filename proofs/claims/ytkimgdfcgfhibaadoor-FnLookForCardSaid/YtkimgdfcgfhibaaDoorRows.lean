/-
  NARROWER THAN 'FOR EVERY INPUT', by the rows' own cells (each row's printed sentence says how): FnShadowNumbers: laid · FnExactMustLook: laid · FnMustLook: laid · FnLookFor: laid.
  DERIVED. THE GIVEN ROWS OF THIS SEAT. 4 by the template 'for every input the law returns true; each argument reads behind the call as it read before'; 0 by the template 'total and deterministic' (their statements: YtkimgdfcgfhibaaDoorTotals.lean).
  GIVEN WITH THE SEED: the statements are not yours to turn. If you find one false, say at which input.
  Laid BY PROGRAM, IN A SANDBOX (cutbox-rows.mjs): the forced cells as the released guide's own fill.sh prints them over the translation a5d86318226177dc… (all of the seat's roots in one cut). By AI agents, Wed Nov 11 2026. No macro, syntax, notation, axiom, sorry.
-/
import Derived.Test.YtkimgdfcgfhibaaDoorChecked
import GoSem.Claim
import GoSem.ClaimJoined
import GoSem.ClaimMapViews
import Derived.JoinedTies
import Derived.KernelRfl
namespace Go.Proofs.YtkimgdfcgfhibaaDoor
/- THE CELL 'sum', in the pinned program and in every row, IS THE sha256 OF THE DUMP (.gsa) THAT YtkimgdfcgfhibaaDoorProg.lean LOADS. Nothing in Lean hashes anything: it is a label: what it is worth is what the hold of that sum in a sandbox is worth. -/
noncomputable def Tryd.pinned : Pinned := { name := "ytkimgdfcgfhibaadoor", sum := "a5d86318226177dc74e24f55e18a307165adc4e6b4a34f6721d7ddc8f467e7dd", checked := Tryd.checked }
namespace Rows
def none {H : Type} : Left H := { results := [], args := [] }

/- WHAT THE LISTED PACKAGE-LEVEL VARIABLES READ AS WHEN THE CALL BEGINS. Each datum BY PROGRAM (the guide's laid-datum.mjs) off the statement by which the dump's own 'gosem.cut.vars' lays the variable. In a bare row this is a premise. The card (YtkimgdfcgfhibaaDoorCards.lean) ties it to the program's text. -/
def laid_errors_errorType {H : Type} : DataW H := .iface "internal/reflectlite.rtype" (.agg [.ptr (.lit (.string [101, 114, 114, 111, 114]))])

/-- 'laws.FnShadowNumbers': WHATEVER THE INPUT: true; the input reads as it did. -/
def fnShadowNumbersSpec : ChangeSpec := { name := "fnShadowNumbers", fn := fun _ => fun
  | [d] => { results := [.lit (.bool true)], args := [d] }
  | _ => none }
def fnShadowNumbersRow : OpenClaim := { program := "ytkimgdfcgfhibaadoor", sum := "a5d86318226177dc74e24f55e18a307165adc4e6b4a34f6721d7ddc8f467e7dd", func := "loop.example/switchpuzzles/laws.FnShadowNumbers", spec := "fnShadowNumbers", inPlace := ["internal/reflectlite.ValueOf", "(internal/reflectlite.Value).Type", "(internal/reflectlite.Value).IsNil", "internal/reflectlite.TypeOf", "(internal/reflectlite.Value).Elem", "(internal/reflectlite.Value).Set"], unfollowed := true, recurses := true, named := ["errors.errorType"], apart := false, laid := [("errors.errorType", laid_errors_errorType)] }
def FnShadowNumbersSaid : Prop := fnShadowNumbersRow.holds Tryd.pinned (OpenSpec.ofChange fnShadowNumbersSpec)

/-- ITS FALSE NEIGHBOUR: 'it returns false'. Refute it at one input. -/
def fnShadowNumbersWrong : ChangeSpec := { name := "fnShadowNumbers", fn := fun _ => fun
  | [d] => { results := [.lit (.bool false)], args := [d] }
  | _ => none }
def FnShadowNumbersWrongFalsely : Prop := fnShadowNumbersRow.holds Tryd.pinned (OpenSpec.ofChange fnShadowNumbersWrong)

/-- 'laws.FnExactMustLook': WHATEVER THE INPUT: true; the input reads as it did. -/
def fnExactMustLookSpec : ChangeSpec := { name := "fnExactMustLook", fn := fun _ => fun
  | [d1, d2] => { results := [.lit (.bool true)], args := [d1, d2] }
  | _ => none }
def fnExactMustLookRow : OpenClaim := { program := "ytkimgdfcgfhibaadoor", sum := "a5d86318226177dc74e24f55e18a307165adc4e6b4a34f6721d7ddc8f467e7dd", func := "loop.example/switchpuzzles/laws.FnExactMustLook", spec := "fnExactMustLook", inPlace := ["internal/reflectlite.ValueOf", "(internal/reflectlite.Value).Type", "(internal/reflectlite.Value).IsNil", "internal/reflectlite.TypeOf", "(internal/reflectlite.Value).Elem", "(internal/reflectlite.Value).Set"], unfollowed := true, recurses := true, named := ["errors.errorType"], apart := false, laid := [("errors.errorType", laid_errors_errorType)] }
def FnExactMustLookSaid : Prop := fnExactMustLookRow.holds Tryd.pinned (OpenSpec.ofChange fnExactMustLookSpec)

/-- ITS FALSE NEIGHBOUR: 'it returns false'. Refute it at one input. -/
def fnExactMustLookWrong : ChangeSpec := { name := "fnExactMustLook", fn := fun _ => fun
  | [d1, d2] => { results := [.lit (.bool false)], args := [d1, d2] }
  | _ => none }
def FnExactMustLookWrongFalsely : Prop := fnExactMustLookRow.holds Tryd.pinned (OpenSpec.ofChange fnExactMustLookWrong)

/-- 'laws.FnMustLook': WHATEVER THE INPUT: true; the input reads as it did. -/
def fnMustLookSpec : ChangeSpec := { name := "fnMustLook", fn := fun _ => fun
  | [d] => { results := [.lit (.bool true)], args := [d] }
  | _ => none }
def fnMustLookRow : OpenClaim := { program := "ytkimgdfcgfhibaadoor", sum := "a5d86318226177dc74e24f55e18a307165adc4e6b4a34f6721d7ddc8f467e7dd", func := "loop.example/switchpuzzles/laws.FnMustLook", spec := "fnMustLook", inPlace := ["internal/reflectlite.ValueOf", "(internal/reflectlite.Value).Type", "(internal/reflectlite.Value).IsNil", "internal/reflectlite.TypeOf", "(internal/reflectlite.Value).Elem", "(internal/reflectlite.Value).Set"], unfollowed := true, recurses := true, named := ["errors.errorType"], apart := false, laid := [("errors.errorType", laid_errors_errorType)] }
def FnMustLookSaid : Prop := fnMustLookRow.holds Tryd.pinned (OpenSpec.ofChange fnMustLookSpec)

/-- ITS FALSE NEIGHBOUR: 'it returns false'. Refute it at one input. -/
def fnMustLookWrong : ChangeSpec := { name := "fnMustLook", fn := fun _ => fun
  | [d] => { results := [.lit (.bool false)], args := [d] }
  | _ => none }
def FnMustLookWrongFalsely : Prop := fnMustLookRow.holds Tryd.pinned (OpenSpec.ofChange fnMustLookWrong)

/-- 'laws.FnLookFor': WHATEVER THE INPUT: true; the input reads as it did. -/
def fnLookForSpec : ChangeSpec := { name := "fnLookFor", fn := fun _ => fun
  | [d] => { results := [.lit (.bool true)], args := [d] }
  | _ => none }
def fnLookForRow : OpenClaim := { program := "ytkimgdfcgfhibaadoor", sum := "a5d86318226177dc74e24f55e18a307165adc4e6b4a34f6721d7ddc8f467e7dd", func := "loop.example/switchpuzzles/laws.FnLookFor", spec := "fnLookFor", inPlace := ["internal/reflectlite.ValueOf", "(internal/reflectlite.Value).Type", "(internal/reflectlite.Value).IsNil", "internal/reflectlite.TypeOf", "(internal/reflectlite.Value).Elem", "(internal/reflectlite.Value).Set"], unfollowed := true, recurses := true, named := ["errors.errorType"], apart := false, laid := [("errors.errorType", laid_errors_errorType)] }
def FnLookForSaid : Prop := fnLookForRow.holds Tryd.pinned (OpenSpec.ofChange fnLookForSpec)

/-- ITS FALSE NEIGHBOUR: 'it returns false'. Refute it at one input. -/
def fnLookForWrong : ChangeSpec := { name := "fnLookFor", fn := fun _ => fun
  | [d] => { results := [.lit (.bool false)], args := [d] }
  | _ => none }
def FnLookForWrongFalsely : Prop := fnLookForRow.holds Tryd.pinned (OpenSpec.ofChange fnLookForWrong)

/- THE SECOND FORM. 'bulk': how many values and letters a reading holds, each counted each time it is reached (what is shared counts as often as it is met; a slice's spare places count too). A statement '..UptoSaid' is the law's where the arguments, and the package variables that the reading takes, are together of bulk at most 1048576: NARROWER than '..Said'. Prove '..Said' where nothing that the law and all that it calls make is longer than what came in: it says more and counts as full. Else prove '..UptoSaid'. A law counts once. -/
mutual
def uptoBulk {H : Type} : DataW H → Nat
  | .lit (.string bytes) => bytes.length + 1
  | .lit _ => 1
  | .nil => 1
  | .ptr d => uptoBulk d + 1
  | .slice elems spare => uptoBulkAll elems + uptoBulkAll spare + 1
  | .agg parts => uptoBulkAll parts + 1
  | .iface _ d => uptoBulk d + 1
  | .map entries => uptoBulkEntries entries + 1
  | .held _ => 1
def uptoBulkAll {H : Type} : List (DataW H) → Nat
  | [] => 0
  | d :: r => uptoBulk d + uptoBulkAll r
def uptoBulkEntries {H : Type} : List (Lit × DataW H) → Nat
  | [] => 0
  | x :: r => uptoBulkEntry x + uptoBulkEntries r
def uptoBulkEntry {H : Type} : Lit × DataW H → Nat
  | (.string bytes, d) => bytes.length + uptoBulk d + 1
  | (_, d) => uptoBulk d + 1
 end
def uptoSmall : (H : Type) → List (DataW H) → Bool := fun _ ds => decide (uptoBulkAll ds ≤ 1048576)
def OpenSpec.upto (s : _root_.Go.ChangeSpec) : _root_.Go.OpenSpec := { _root_.Go.OpenSpec.ofChange s with cond := some uptoSmall }

/-- 'laws.FnShadowNumbers', WHERE WHAT IT READS IS OF BULK AT MOST 1048576: true; the input reads as it did. -/
def fnShadowNumbersUptoRow : OpenClaim := { program := "ytkimgdfcgfhibaadoor", sum := "a5d86318226177dc74e24f55e18a307165adc4e6b4a34f6721d7ddc8f467e7dd", func := "loop.example/switchpuzzles/laws.FnShadowNumbers", spec := "fnShadowNumbers", inPlace := ["internal/reflectlite.ValueOf", "(internal/reflectlite.Value).Type", "(internal/reflectlite.Value).IsNil", "internal/reflectlite.TypeOf", "(internal/reflectlite.Value).Elem", "(internal/reflectlite.Value).Set"], unfollowed := true, recurses := true, named := ["errors.errorType"], apart := false, laid := [("errors.errorType", laid_errors_errorType)], narrowed := true }
def FnShadowNumbersUptoSaid : Prop := fnShadowNumbersUptoRow.holds Tryd.pinned (OpenSpec.upto fnShadowNumbersSpec)

/-- 'laws.FnExactMustLook', WHERE WHAT IT READS IS OF BULK AT MOST 1048576: true; the input reads as it did. -/
def fnExactMustLookUptoRow : OpenClaim := { program := "ytkimgdfcgfhibaadoor", sum := "a5d86318226177dc74e24f55e18a307165adc4e6b4a34f6721d7ddc8f467e7dd", func := "loop.example/switchpuzzles/laws.FnExactMustLook", spec := "fnExactMustLook", inPlace := ["internal/reflectlite.ValueOf", "(internal/reflectlite.Value).Type", "(internal/reflectlite.Value).IsNil", "internal/reflectlite.TypeOf", "(internal/reflectlite.Value).Elem", "(internal/reflectlite.Value).Set"], unfollowed := true, recurses := true, named := ["errors.errorType"], apart := false, laid := [("errors.errorType", laid_errors_errorType)], narrowed := true }
def FnExactMustLookUptoSaid : Prop := fnExactMustLookUptoRow.holds Tryd.pinned (OpenSpec.upto fnExactMustLookSpec)

/-- 'laws.FnMustLook', WHERE WHAT IT READS IS OF BULK AT MOST 1048576: true; the input reads as it did. -/
def fnMustLookUptoRow : OpenClaim := { program := "ytkimgdfcgfhibaadoor", sum := "a5d86318226177dc74e24f55e18a307165adc4e6b4a34f6721d7ddc8f467e7dd", func := "loop.example/switchpuzzles/laws.FnMustLook", spec := "fnMustLook", inPlace := ["internal/reflectlite.ValueOf", "(internal/reflectlite.Value).Type", "(internal/reflectlite.Value).IsNil", "internal/reflectlite.TypeOf", "(internal/reflectlite.Value).Elem", "(internal/reflectlite.Value).Set"], unfollowed := true, recurses := true, named := ["errors.errorType"], apart := false, laid := [("errors.errorType", laid_errors_errorType)], narrowed := true }
def FnMustLookUptoSaid : Prop := fnMustLookUptoRow.holds Tryd.pinned (OpenSpec.upto fnMustLookSpec)

/-- 'laws.FnLookFor', WHERE WHAT IT READS IS OF BULK AT MOST 1048576: true; the input reads as it did. -/
def fnLookForUptoRow : OpenClaim := { program := "ytkimgdfcgfhibaadoor", sum := "a5d86318226177dc74e24f55e18a307165adc4e6b4a34f6721d7ddc8f467e7dd", func := "loop.example/switchpuzzles/laws.FnLookFor", spec := "fnLookFor", inPlace := ["internal/reflectlite.ValueOf", "(internal/reflectlite.Value).Type", "(internal/reflectlite.Value).IsNil", "internal/reflectlite.TypeOf", "(internal/reflectlite.Value).Elem", "(internal/reflectlite.Value).Set"], unfollowed := true, recurses := true, named := ["errors.errorType"], apart := false, laid := [("errors.errorType", laid_errors_errorType)], narrowed := true }
def FnLookForUptoSaid : Prop := fnLookForUptoRow.holds Tryd.pinned (OpenSpec.upto fnLookForSpec)

end Rows
end Go.Proofs.YtkimgdfcgfhibaaDoor
