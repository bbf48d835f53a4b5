/-
  DERIVED. GIVEN WITH THE SEED: THE CARDS: each row of YtkmcengmglgdeaaGreatDoorRows.lean that lists a variable, with what it lists TIED to the program's text (the seventh form; the later family's looks); each row that meets fmt, with fmt's text TOLD by the authors' own Lean function (tested against real Go, not proved from fmt's source: count such statements apart). THE CARD IS WHAT COUNTS. Prove the row's statement (the work); the ties are given (YtkmcengmglgdeaaGreatDoorTie.lean); close each card by the builder's one call (the guide's Derived/Test/ToyasCard.lean, 'card_holds'). Laid BY PROGRAM, IN A SANDBOX (cutbox-door.mjs). By AI agents, Wed Nov 11 2026. No macro, syntax, notation, axiom, sorry.
-/
import Derived.Test.YtkmcengmglgdeaaGreatDoorRows
import GoSem.ClaimSeven
namespace Go.Proofs.YtkmcengmglgdeaaGreatDoor
namespace Rows

/-- THE TIED CARD OF 'laws.FnBookLine'. -/
def fnBookLineCard : Claim7 := { stood := { row := fnBookLineRow, standIns := [], harness := (true, "1bc5eb75f62fa2f1ab1ed5f71757810c8955d2e1f19959ebcb3b2aae3be8eb67"), looks := true }, kinds := [], alts := [], laidByText := true, laidKinds := [.data, .data, .data, .data, .handle, .pinned], laidTests := true, laidLooks := .later }
def FnBookLineCardSaid : Prop := Claim7.holds Tryz.pinned (.plain (OpenSpec.ofChange fnBookLineSpec)) fnBookLineCard

/-- THE TIED CARD OF 'laws.FnExactBookSay'. -/
def fnExactBookSayCard : Claim7 := { stood := { row := fnExactBookSayRow, standIns := [], harness := (true, "1bc5eb75f62fa2f1ab1ed5f71757810c8955d2e1f19959ebcb3b2aae3be8eb67"), looks := true }, kinds := [], alts := [], laidByText := true, laidKinds := [.data, .data, .data, .data, .handle, .pinned], laidTests := true, laidLooks := .later }
def FnExactBookSayCardSaid : Prop := Claim7.holds Tryz.pinned (.plain (OpenSpec.ofChange fnExactBookSaySpec)) fnExactBookSayCard

/-- THE TIED CARD OF 'laws.FnBookSay'. -/
def fnBookSayCard : Claim7 := { stood := { row := fnBookSayRow, standIns := [], harness := (true, "1bc5eb75f62fa2f1ab1ed5f71757810c8955d2e1f19959ebcb3b2aae3be8eb67"), looks := true }, kinds := [], alts := [], laidByText := true, laidKinds := [.data, .data, .data, .data, .handle, .pinned], laidTests := true, laidLooks := .later }
def FnBookSayCardSaid : Prop := Claim7.holds Tryz.pinned (.plain (OpenSpec.ofChange fnBookSaySpec)) fnBookSayCard

/-- THE TIED CARD OF 'laws.FnReadJournal'. -/
def fnReadJournalCard : Claim7 := { stood := { row := fnReadJournalRow, standIns := [], harness := (true, "1bc5eb75f62fa2f1ab1ed5f71757810c8955d2e1f19959ebcb3b2aae3be8eb67"), looks := true }, kinds := [], alts := [], laidByText := true, laidKinds := [.data, .data, .data, .data, .handle, .pinned], laidTests := true, laidLooks := .later }
def FnReadJournalCardSaid : Prop := Claim7.holds Tryz.pinned (.plain (OpenSpec.ofChange fnReadJournalSpec)) fnReadJournalCard

/-- THE TIED CARD OF 'laws.FnExactBookLine'. -/
def fnExactBookLineCard : Claim7 := { stood := { row := fnExactBookLineRow, standIns := [], harness := (true, "1bc5eb75f62fa2f1ab1ed5f71757810c8955d2e1f19959ebcb3b2aae3be8eb67"), looks := true }, kinds := [], alts := [], laidByText := true, laidKinds := [.data, .data, .data, .data, .handle, .pinned], laidTests := true, laidLooks := .later }
def FnExactBookLineCardSaid : Prop := Claim7.holds Tryz.pinned (.plain (OpenSpec.ofChange fnExactBookLineSpec)) fnExactBookLineCard

/-- THE SECOND FORM's CARD OF 'laws.FnBookLine'. -/
def fnBookLineUptoCard : Claim7 := { stood := { row := fnBookLineUptoRow, standIns := [], harness := (true, "1bc5eb75f62fa2f1ab1ed5f71757810c8955d2e1f19959ebcb3b2aae3be8eb67"), looks := true }, kinds := [], alts := [], laidByText := true, laidKinds := [.data, .data, .data, .data, .handle, .pinned], laidTests := true, laidLooks := .later }
def FnBookLineUptoCardSaid : Prop := Claim7.holds Tryz.pinned (.plain (OpenSpec.upto fnBookLineSpec)) fnBookLineUptoCard

/-- THE SECOND FORM's CARD OF 'laws.FnExactBookSay'. -/
def fnExactBookSayUptoCard : Claim7 := { stood := { row := fnExactBookSayUptoRow, standIns := [], harness := (true, "1bc5eb75f62fa2f1ab1ed5f71757810c8955d2e1f19959ebcb3b2aae3be8eb67"), looks := true }, kinds := [], alts := [], laidByText := true, laidKinds := [.data, .data, .data, .data, .handle, .pinned], laidTests := true, laidLooks := .later }
def FnExactBookSayUptoCardSaid : Prop := Claim7.holds Tryz.pinned (.plain (OpenSpec.upto fnExactBookSaySpec)) fnExactBookSayUptoCard

/-- THE SECOND FORM's CARD OF 'laws.FnBookSay'. -/
def fnBookSayUptoCard : Claim7 := { stood := { row := fnBookSayUptoRow, standIns := [], harness := (true, "1bc5eb75f62fa2f1ab1ed5f71757810c8955d2e1f19959ebcb3b2aae3be8eb67"), looks := true }, kinds := [], alts := [], laidByText := true, laidKinds := [.data, .data, .data, .data, .handle, .pinned], laidTests := true, laidLooks := .later }
def FnBookSayUptoCardSaid : Prop := Claim7.holds Tryz.pinned (.plain (OpenSpec.upto fnBookSaySpec)) fnBookSayUptoCard

/-- THE SECOND FORM's CARD OF 'laws.FnReadJournal'. -/
def fnReadJournalUptoCard : Claim7 := { stood := { row := fnReadJournalUptoRow, standIns := [], harness := (true, "1bc5eb75f62fa2f1ab1ed5f71757810c8955d2e1f19959ebcb3b2aae3be8eb67"), looks := true }, kinds := [], alts := [], laidByText := true, laidKinds := [.data, .data, .data, .data, .handle, .pinned], laidTests := true, laidLooks := .later }
def FnReadJournalUptoCardSaid : Prop := Claim7.holds Tryz.pinned (.plain (OpenSpec.upto fnReadJournalSpec)) fnReadJournalUptoCard

/-- THE SECOND FORM's CARD OF 'laws.FnExactBookLine'. -/
def fnExactBookLineUptoCard : Claim7 := { stood := { row := fnExactBookLineUptoRow, standIns := [], harness := (true, "1bc5eb75f62fa2f1ab1ed5f71757810c8955d2e1f19959ebcb3b2aae3be8eb67"), looks := true }, kinds := [], alts := [], laidByText := true, laidKinds := [.data, .data, .data, .data, .handle, .pinned], laidTests := true, laidLooks := .later }
def FnExactBookLineUptoCardSaid : Prop := Claim7.holds Tryz.pinned (.plain (OpenSpec.upto fnExactBookLineSpec)) fnExactBookLineUptoCard
end Rows
end Go.Proofs.YtkmcengmglgdeaaGreatDoor
