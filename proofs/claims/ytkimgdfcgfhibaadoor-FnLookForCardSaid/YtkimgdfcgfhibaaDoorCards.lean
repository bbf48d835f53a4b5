/-
  DERIVED. GIVEN WITH THE SEED: THE CARDS: each row of YtkimgdfcgfhibaaDoorRows.lean that lists a variable, with what it lists TIED to the program's text (the seventh form; the later family's looks); each row that meets fmt, with fmt's text TOLD by the authors' own Lean function (tested against real Go, not proved from fmt's source: count such statements apart). THE CARD IS WHAT COUNTS. Prove the row's statement (the work); the ties are given (YtkimgdfcgfhibaaDoorTie.lean); close each card by the builder's one call (the guide's Derived/Test/ToyasCard.lean, 'card_holds'). Laid BY PROGRAM, IN A SANDBOX (cutbox-door.mjs). By AI agents, Wed Nov 11 2026. No macro, syntax, notation, axiom, sorry.
-/
import Derived.Test.YtkimgdfcgfhibaaDoorRows
import GoSem.ClaimSeven
namespace Go.Proofs.YtkimgdfcgfhibaaDoor
namespace Rows

/-- THE TIED CARD OF 'laws.FnShadowNumbers'. -/
def fnShadowNumbersCard : Claim7 := { stood := { row := fnShadowNumbersRow, standIns := [], harness := (true, "48271edc03fe5f4ac9e1cbe45d4811de05c331450075890eb64721ec5af004f3"), looks := true }, kinds := [], alts := [], laidByText := true, laidKinds := [.handle], laidTests := true, laidLooks := .later }
def FnShadowNumbersCardSaid : Prop := Claim7.holds Tryd.pinned (.plain (OpenSpec.ofChange fnShadowNumbersSpec)) fnShadowNumbersCard

/-- THE TIED CARD OF 'laws.FnExactMustLook'. -/
def fnExactMustLookCard : Claim7 := { stood := { row := fnExactMustLookRow, standIns := [], harness := (true, "48271edc03fe5f4ac9e1cbe45d4811de05c331450075890eb64721ec5af004f3"), looks := true }, kinds := [], alts := [], laidByText := true, laidKinds := [.handle], laidTests := true, laidLooks := .later }
def FnExactMustLookCardSaid : Prop := Claim7.holds Tryd.pinned (.plain (OpenSpec.ofChange fnExactMustLookSpec)) fnExactMustLookCard

/-- THE TIED CARD OF 'laws.FnMustLook'. -/
def fnMustLookCard : Claim7 := { stood := { row := fnMustLookRow, standIns := [], harness := (true, "48271edc03fe5f4ac9e1cbe45d4811de05c331450075890eb64721ec5af004f3"), looks := true }, kinds := [], alts := [], laidByText := true, laidKinds := [.handle], laidTests := true, laidLooks := .later }
def FnMustLookCardSaid : Prop := Claim7.holds Tryd.pinned (.plain (OpenSpec.ofChange fnMustLookSpec)) fnMustLookCard

/-- THE TIED CARD OF 'laws.FnLookFor'. -/
def fnLookForCard : Claim7 := { stood := { row := fnLookForRow, standIns := [], harness := (true, "48271edc03fe5f4ac9e1cbe45d4811de05c331450075890eb64721ec5af004f3"), looks := true }, kinds := [], alts := [], laidByText := true, laidKinds := [.handle], laidTests := true, laidLooks := .later }
def FnLookForCardSaid : Prop := Claim7.holds Tryd.pinned (.plain (OpenSpec.ofChange fnLookForSpec)) fnLookForCard

/-- THE SECOND FORM's CARD OF 'laws.FnShadowNumbers'. -/
def fnShadowNumbersUptoCard : Claim7 := { stood := { row := fnShadowNumbersUptoRow, standIns := [], harness := (true, "48271edc03fe5f4ac9e1cbe45d4811de05c331450075890eb64721ec5af004f3"), looks := true }, kinds := [], alts := [], laidByText := true, laidKinds := [.handle], laidTests := true, laidLooks := .later }
def FnShadowNumbersUptoCardSaid : Prop := Claim7.holds Tryd.pinned (.plain (OpenSpec.upto fnShadowNumbersSpec)) fnShadowNumbersUptoCard

/-- THE SECOND FORM's CARD OF 'laws.FnExactMustLook'. -/
def fnExactMustLookUptoCard : Claim7 := { stood := { row := fnExactMustLookUptoRow, standIns := [], harness := (true, "48271edc03fe5f4ac9e1cbe45d4811de05c331450075890eb64721ec5af004f3"), looks := true }, kinds := [], alts := [], laidByText := true, laidKinds := [.handle], laidTests := true, laidLooks := .later }
def FnExactMustLookUptoCardSaid : Prop := Claim7.holds Tryd.pinned (.plain (OpenSpec.upto fnExactMustLookSpec)) fnExactMustLookUptoCard

/-- THE SECOND FORM's CARD OF 'laws.FnMustLook'. -/
def fnMustLookUptoCard : Claim7 := { stood := { row := fnMustLookUptoRow, standIns := [], harness := (true, "48271edc03fe5f4ac9e1cbe45d4811de05c331450075890eb64721ec5af004f3"), looks := true }, kinds := [], alts := [], laidByText := true, laidKinds := [.handle], laidTests := true, laidLooks := .later }
def FnMustLookUptoCardSaid : Prop := Claim7.holds Tryd.pinned (.plain (OpenSpec.upto fnMustLookSpec)) fnMustLookUptoCard

/-- THE SECOND FORM's CARD OF 'laws.FnLookFor'. -/
def fnLookForUptoCard : Claim7 := { stood := { row := fnLookForUptoRow, standIns := [], harness := (true, "48271edc03fe5f4ac9e1cbe45d4811de05c331450075890eb64721ec5af004f3"), looks := true }, kinds := [], alts := [], laidByText := true, laidKinds := [.handle], laidTests := true, laidLooks := .later }
def FnLookForUptoCardSaid : Prop := Claim7.holds Tryd.pinned (.plain (OpenSpec.upto fnLookForSpec)) fnLookForUptoCard
end Rows
end Go.Proofs.YtkimgdfcgfhibaaDoor
