/-
  DERIVED. GIVEN WITH THE SEED: THE CARDS: each row of YtapeebjjljohdaaGreatDoorRows.lean that lists a variable, with what it lists TIED to the program's text (the seventh form; the later family's looks); each row that meets fmt, with fmt's text TOLD by the authors' own Lean function (tested against real Go, not proved from fmt's source: count such statements apart). THE CARD IS WHAT COUNTS. Prove the row's statement (the work); the ties are given (YtapeebjjljohdaaGreatDoorTie.lean); close each card by the builder's one call (the guide's Derived/Test/ToyasCard.lean, 'card_holds'). Laid BY PROGRAM, IN A SANDBOX (cutbox-door.mjs). By AI agents, Wed Nov 11 2026. No macro, syntax, notation, axiom, sorry.
-/
import Derived.Test.YtapeebjjljohdaaGreatDoorRows
import GoSem.ClaimSeven
namespace Go.Proofs.YtapeebjjljohdaaGreatDoor
namespace Rows

/-- THE TIED CARD OF 'laws.FnDeskSay'. -/
def fnDeskSayCard : Claim7 := { stood := { row := fnDeskSayRow, standIns := [], harness := (true, "aa10526b98933b57390f5d2b3855fde4b7e7c10a78e4387fe2c8686b3c646460"), looks := true }, kinds := [], alts := [], laidByText := true, laidKinds := [.data, .data, .data, .data, .sentinel, .sentinel, .pinned], laidTests := true, laidLooks := .later }
def FnDeskSayCardSaid : Prop := Claim7.holds Tryz.pinned (.plain (OpenSpec.ofChange fnDeskSaySpec)) fnDeskSayCard

/-- THE TIED CARD OF 'laws.FnStoreSameWay'. -/
def fnStoreSameWayCard : Claim7 := { stood := { row := fnStoreSameWayRow, standIns := [], harness := (true, "aa10526b98933b57390f5d2b3855fde4b7e7c10a78e4387fe2c8686b3c646460"), looks := true }, kinds := [], alts := [], laidByText := true, laidKinds := [.data, .data, .data, .data, .sentinel, .sentinel, .pinned], laidTests := true, laidLooks := .later }
def FnStoreSameWayCardSaid : Prop := Claim7.holds Tryz.pinned (.plain (OpenSpec.ofChange fnStoreSameWaySpec)) fnStoreSameWayCard

/-- THE TIED CARD OF 'laws.FnReadJournal'. -/
def fnReadJournalCard : Claim7 := { stood := { row := fnReadJournalRow, standIns := [], harness := (true, "aa10526b98933b57390f5d2b3855fde4b7e7c10a78e4387fe2c8686b3c646460"), looks := true }, kinds := [], alts := [], laidByText := true, laidKinds := [.data, .data, .data, .data, .sentinel, .sentinel, .pinned], laidTests := true, laidLooks := .later }
def FnReadJournalCardSaid : Prop := Claim7.holds Tryz.pinned (.plain (OpenSpec.ofChange fnReadJournalSpec)) fnReadJournalCard

/-- THE TIED CARD OF 'laws.FnDeskLine'. -/
def fnDeskLineCard : Claim7 := { stood := { row := fnDeskLineRow, standIns := [], harness := (true, "aa10526b98933b57390f5d2b3855fde4b7e7c10a78e4387fe2c8686b3c646460"), looks := true }, kinds := [], alts := [], laidByText := true, laidKinds := [.data, .data, .data, .data, .sentinel, .sentinel, .pinned], laidTests := true, laidLooks := .later }
def FnDeskLineCardSaid : Prop := Claim7.holds Tryz.pinned (.plain (OpenSpec.ofChange fnDeskLineSpec)) fnDeskLineCard

/-- THE SECOND FORM's CARD OF 'laws.FnDeskSay'. -/
def fnDeskSayUptoCard : Claim7 := { stood := { row := fnDeskSayUptoRow, standIns := [], harness := (true, "aa10526b98933b57390f5d2b3855fde4b7e7c10a78e4387fe2c8686b3c646460"), looks := true }, kinds := [], alts := [], laidByText := true, laidKinds := [.data, .data, .data, .data, .sentinel, .sentinel, .pinned], laidTests := true, laidLooks := .later }
def FnDeskSayUptoCardSaid : Prop := Claim7.holds Tryz.pinned (.plain (OpenSpec.upto fnDeskSaySpec)) fnDeskSayUptoCard

/-- THE SECOND FORM's CARD OF 'laws.FnStoreSameWay'. -/
def fnStoreSameWayUptoCard : Claim7 := { stood := { row := fnStoreSameWayUptoRow, standIns := [], harness := (true, "aa10526b98933b57390f5d2b3855fde4b7e7c10a78e4387fe2c8686b3c646460"), looks := true }, kinds := [], alts := [], laidByText := true, laidKinds := [.data, .data, .data, .data, .sentinel, .sentinel, .pinned], laidTests := true, laidLooks := .later }
def FnStoreSameWayUptoCardSaid : Prop := Claim7.holds Tryz.pinned (.plain (OpenSpec.upto fnStoreSameWaySpec)) fnStoreSameWayUptoCard

/-- THE SECOND FORM's CARD OF 'laws.FnReadJournal'. -/
def fnReadJournalUptoCard : Claim7 := { stood := { row := fnReadJournalUptoRow, standIns := [], harness := (true, "aa10526b98933b57390f5d2b3855fde4b7e7c10a78e4387fe2c8686b3c646460"), looks := true }, kinds := [], alts := [], laidByText := true, laidKinds := [.data, .data, .data, .data, .sentinel, .sentinel, .pinned], laidTests := true, laidLooks := .later }
def FnReadJournalUptoCardSaid : Prop := Claim7.holds Tryz.pinned (.plain (OpenSpec.upto fnReadJournalSpec)) fnReadJournalUptoCard

/-- THE SECOND FORM's CARD OF 'laws.FnDeskLine'. -/
def fnDeskLineUptoCard : Claim7 := { stood := { row := fnDeskLineUptoRow, standIns := [], harness := (true, "aa10526b98933b57390f5d2b3855fde4b7e7c10a78e4387fe2c8686b3c646460"), looks := true }, kinds := [], alts := [], laidByText := true, laidKinds := [.data, .data, .data, .data, .sentinel, .sentinel, .pinned], laidTests := true, laidLooks := .later }
def FnDeskLineUptoCardSaid : Prop := Claim7.holds Tryz.pinned (.plain (OpenSpec.upto fnDeskLineSpec)) fnDeskLineUptoCard
end Rows
end Go.Proofs.YtapeebjjljohdaaGreatDoor
