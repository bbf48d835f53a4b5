/-
  DERIVED. GIVEN WITH THE SEED: THE CARDS: each row of YtadlfffhddpajaaDoorRows.lean that lists a variable, with what it lists TIED to the program's text (the seventh form; the later family's looks); each row that meets fmt, with fmt's text TOLD by the authors' own Lean function (tested against real Go, not proved from fmt's source: count such statements apart). THE CARD IS WHAT COUNTS. Prove the row's statement (the work); the ties are given (YtadlfffhddpajaaDoorTie.lean); close each card by the builder's one call (the guide's Derived/Test/ToyasCard.lean, 'card_holds'). Laid BY PROGRAM, IN A SANDBOX (cutbox-door.mjs). By AI agents, Wed Nov 11 2026. No macro, syntax, notation, axiom, sorry.
-/
import Derived.Test.YtadlfffhddpajaaDoorRows
import GoSem.ClaimSeven
namespace Go.Proofs.YtadlfffhddpajaaDoor
namespace Rows

/-- THE TIED CARD OF 'laws.FnExactJournalText'. -/
def fnExactJournalTextCard : Claim7 := { stood := { row := fnExactJournalTextRow, standIns := [], harness := (true, "1ea28a3af5b4f0c0a236cc794b6049ad8b54dd89b11f2e77ab58578d4a48c36f"), looks := false }, kinds := [], alts := [], laidByText := true, laidKinds := [.data, .data, .data], laidTests := true, laidLooks := .later }
def FnExactJournalTextCardSaid : Prop := Claim7.holds Tryd.pinned (.plain (OpenSpec.ofChange fnExactJournalTextSpec)) fnExactJournalTextCard

/-- THE TIED CARD OF 'laws.FnActText'. -/
def fnActTextCard : Claim7 := { stood := { row := fnActTextRow, standIns := [], harness := (true, "1ea28a3af5b4f0c0a236cc794b6049ad8b54dd89b11f2e77ab58578d4a48c36f"), looks := false }, kinds := [], alts := [], laidByText := true, laidKinds := [.data, .data, .data], laidTests := true, laidLooks := .later }
def FnActTextCardSaid : Prop := Claim7.holds Tryd.pinned (.plain (OpenSpec.ofChange fnActTextSpec)) fnActTextCard

/-- THE TIED CARD OF 'laws.FnReadAct'. -/
def fnReadActCard : Claim7 := { stood := { row := fnReadActRow, standIns := [], harness := (true, "1ea28a3af5b4f0c0a236cc794b6049ad8b54dd89b11f2e77ab58578d4a48c36f"), looks := false }, kinds := [], alts := [], laidByText := true, laidKinds := [.data, .data, .data], laidTests := true, laidLooks := .later }
def FnReadActCardSaid : Prop := Claim7.holds Tryd.pinned (.plain (OpenSpec.ofChange fnReadActSpec)) fnReadActCard

/-- THE TIED CARD OF 'laws.FnJournalText'. -/
def fnJournalTextCard : Claim7 := { stood := { row := fnJournalTextRow, standIns := [], harness := (true, "1ea28a3af5b4f0c0a236cc794b6049ad8b54dd89b11f2e77ab58578d4a48c36f"), looks := false }, kinds := [], alts := [], laidByText := true, laidKinds := [.data, .data, .data], laidTests := true, laidLooks := .later }
def FnJournalTextCardSaid : Prop := Claim7.holds Tryd.pinned (.plain (OpenSpec.ofChange fnJournalTextSpec)) fnJournalTextCard

/-- THE SECOND FORM's CARD OF 'laws.FnExactJournalText'. -/
def fnExactJournalTextUptoCard : Claim7 := { stood := { row := fnExactJournalTextUptoRow, standIns := [], harness := (true, "1ea28a3af5b4f0c0a236cc794b6049ad8b54dd89b11f2e77ab58578d4a48c36f"), looks := false }, kinds := [], alts := [], laidByText := true, laidKinds := [.data, .data, .data], laidTests := true, laidLooks := .later }
def FnExactJournalTextUptoCardSaid : Prop := Claim7.holds Tryd.pinned (.plain (OpenSpec.upto fnExactJournalTextSpec)) fnExactJournalTextUptoCard

/-- THE SECOND FORM's CARD OF 'laws.FnActText'. -/
def fnActTextUptoCard : Claim7 := { stood := { row := fnActTextUptoRow, standIns := [], harness := (true, "1ea28a3af5b4f0c0a236cc794b6049ad8b54dd89b11f2e77ab58578d4a48c36f"), looks := false }, kinds := [], alts := [], laidByText := true, laidKinds := [.data, .data, .data], laidTests := true, laidLooks := .later }
def FnActTextUptoCardSaid : Prop := Claim7.holds Tryd.pinned (.plain (OpenSpec.upto fnActTextSpec)) fnActTextUptoCard

/-- THE SECOND FORM's CARD OF 'laws.FnReadAct'. -/
def fnReadActUptoCard : Claim7 := { stood := { row := fnReadActUptoRow, standIns := [], harness := (true, "1ea28a3af5b4f0c0a236cc794b6049ad8b54dd89b11f2e77ab58578d4a48c36f"), looks := false }, kinds := [], alts := [], laidByText := true, laidKinds := [.data, .data, .data], laidTests := true, laidLooks := .later }
def FnReadActUptoCardSaid : Prop := Claim7.holds Tryd.pinned (.plain (OpenSpec.upto fnReadActSpec)) fnReadActUptoCard

/-- THE SECOND FORM's CARD OF 'laws.FnJournalText'. -/
def fnJournalTextUptoCard : Claim7 := { stood := { row := fnJournalTextUptoRow, standIns := [], harness := (true, "1ea28a3af5b4f0c0a236cc794b6049ad8b54dd89b11f2e77ab58578d4a48c36f"), looks := false }, kinds := [], alts := [], laidByText := true, laidKinds := [.data, .data, .data], laidTests := true, laidLooks := .later }
def FnJournalTextUptoCardSaid : Prop := Claim7.holds Tryd.pinned (.plain (OpenSpec.upto fnJournalTextSpec)) fnJournalTextUptoCard
end Rows
end Go.Proofs.YtadlfffhddpajaaDoor
