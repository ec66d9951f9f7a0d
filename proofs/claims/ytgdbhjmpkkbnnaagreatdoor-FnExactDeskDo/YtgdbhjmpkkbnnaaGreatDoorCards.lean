/-
  DERIVED. GIVEN WITH THE SEED: THE CARDS: each row of YtgdbhjmpkkbnnaaGreatDoorRows.lean that lists a variable, with what it lists TIED to the program's text (the seventh form; the later family's looks); each row that meets fmt, with fmt's text TOLD by the authors' own Lean function (tested against real Go, not proved from fmt's source: count such statements apart). THE CARD IS WHAT COUNTS. Prove the row's statement (the work); the ties are given (YtgdbhjmpkkbnnaaGreatDoorTie.lean); close each card by the builder's one call (the guide's Derived/Test/ToyasCard.lean, 'card_holds'). Laid BY PROGRAM, IN A SANDBOX (cutbox-door.mjs). By AI agents, Wed Nov 11 2026. No macro, syntax, notation, axiom, sorry.
-/
import Derived.Test.YtgdbhjmpkkbnnaaGreatDoorRows
import GoSem.ClaimSeven
namespace Go.Proofs.YtgdbhjmpkkbnnaaGreatDoor
namespace Rows

/-- THE TIED CARD OF 'laws.FnExactDeskLine'. -/
def fnExactDeskLineCard : Claim7 := { stood := { row := fnExactDeskLineRow, standIns := [], harness := (true, "f6f39d4a626ba7f87b335703b1a498babc9062d686ec3f78e78186f6c328ea1e"), looks := true }, kinds := [], alts := [], laidByText := true, laidKinds := [.data, .data, .data, .data, .sentinel, .sentinel, .pinned], laidTests := true, laidLooks := .later }
def FnExactDeskLineCardSaid : Prop := Claim7.holds Tryz.pinned (.plain (OpenSpec.ofChange fnExactDeskLineSpec)) fnExactDeskLineCard

/-- THE TIED CARD OF 'laws.FnExactDeskSay'. -/
def fnExactDeskSayCard : Claim7 := { stood := { row := fnExactDeskSayRow, standIns := [], harness := (true, "f6f39d4a626ba7f87b335703b1a498babc9062d686ec3f78e78186f6c328ea1e"), looks := true }, kinds := [], alts := [], laidByText := true, laidKinds := [.data, .data, .data, .data, .sentinel, .sentinel, .pinned], laidTests := true, laidLooks := .later }
def FnExactDeskSayCardSaid : Prop := Claim7.holds Tryz.pinned (.plain (OpenSpec.ofChange fnExactDeskSaySpec)) fnExactDeskSayCard

/-- THE TIED CARD OF 'laws.FnExactDeskDo'. -/
def fnExactDeskDoCard : Claim7 := { stood := { row := fnExactDeskDoRow, standIns := [], harness := (true, "f6f39d4a626ba7f87b335703b1a498babc9062d686ec3f78e78186f6c328ea1e"), looks := true }, kinds := [], alts := [], laidByText := true, laidKinds := [.data, .data, .data], laidTests := true, laidLooks := .later }
def FnExactDeskDoCardSaid : Prop := Claim7.holds Tryz.pinned (.plain (OpenSpec.ofChange fnExactDeskDoSpec)) fnExactDeskDoCard

/-- THE TIED CARD OF 'laws.FnExactDeskRun'. -/
def fnExactDeskRunCard : Claim7 := { stood := { row := fnExactDeskRunRow, standIns := [], harness := (true, "f6f39d4a626ba7f87b335703b1a498babc9062d686ec3f78e78186f6c328ea1e"), looks := true }, kinds := [], alts := [], laidByText := true, laidKinds := [.data, .data, .data], laidTests := true, laidLooks := .later }
def FnExactDeskRunCardSaid : Prop := Claim7.holds Tryz.pinned (.plain (OpenSpec.ofChange fnExactDeskRunSpec)) fnExactDeskRunCard

/-- THE TIED CARD OF 'laws.FnExactStoreOpen'. -/
def fnExactStoreOpenCard : Claim7 := { stood := { row := fnExactStoreOpenRow, standIns := [], harness := (true, "f6f39d4a626ba7f87b335703b1a498babc9062d686ec3f78e78186f6c328ea1e"), looks := true }, kinds := [], alts := [], laidByText := true, laidKinds := [.data, .data, .data, .data, .sentinel, .sentinel, .pinned], laidTests := true, laidLooks := .later }
def FnExactStoreOpenCardSaid : Prop := Claim7.holds Tryz.pinned (.plain (OpenSpec.ofChange fnExactStoreOpenSpec)) fnExactStoreOpenCard

/-- THE SECOND FORM's CARD OF 'laws.FnExactDeskLine'. -/
def fnExactDeskLineUptoCard : Claim7 := { stood := { row := fnExactDeskLineUptoRow, standIns := [], harness := (true, "f6f39d4a626ba7f87b335703b1a498babc9062d686ec3f78e78186f6c328ea1e"), looks := true }, kinds := [], alts := [], laidByText := true, laidKinds := [.data, .data, .data, .data, .sentinel, .sentinel, .pinned], laidTests := true, laidLooks := .later }
def FnExactDeskLineUptoCardSaid : Prop := Claim7.holds Tryz.pinned (.plain (OpenSpec.upto fnExactDeskLineSpec)) fnExactDeskLineUptoCard

/-- THE SECOND FORM's CARD OF 'laws.FnExactDeskSay'. -/
def fnExactDeskSayUptoCard : Claim7 := { stood := { row := fnExactDeskSayUptoRow, standIns := [], harness := (true, "f6f39d4a626ba7f87b335703b1a498babc9062d686ec3f78e78186f6c328ea1e"), looks := true }, kinds := [], alts := [], laidByText := true, laidKinds := [.data, .data, .data, .data, .sentinel, .sentinel, .pinned], laidTests := true, laidLooks := .later }
def FnExactDeskSayUptoCardSaid : Prop := Claim7.holds Tryz.pinned (.plain (OpenSpec.upto fnExactDeskSaySpec)) fnExactDeskSayUptoCard

/-- THE SECOND FORM's CARD OF 'laws.FnExactDeskDo'. -/
def fnExactDeskDoUptoCard : Claim7 := { stood := { row := fnExactDeskDoUptoRow, standIns := [], harness := (true, "f6f39d4a626ba7f87b335703b1a498babc9062d686ec3f78e78186f6c328ea1e"), looks := true }, kinds := [], alts := [], laidByText := true, laidKinds := [.data, .data, .data], laidTests := true, laidLooks := .later }
def FnExactDeskDoUptoCardSaid : Prop := Claim7.holds Tryz.pinned (.plain (OpenSpec.upto fnExactDeskDoSpec)) fnExactDeskDoUptoCard

/-- THE SECOND FORM's CARD OF 'laws.FnExactDeskRun'. -/
def fnExactDeskRunUptoCard : Claim7 := { stood := { row := fnExactDeskRunUptoRow, standIns := [], harness := (true, "f6f39d4a626ba7f87b335703b1a498babc9062d686ec3f78e78186f6c328ea1e"), looks := true }, kinds := [], alts := [], laidByText := true, laidKinds := [.data, .data, .data], laidTests := true, laidLooks := .later }
def FnExactDeskRunUptoCardSaid : Prop := Claim7.holds Tryz.pinned (.plain (OpenSpec.upto fnExactDeskRunSpec)) fnExactDeskRunUptoCard

/-- THE SECOND FORM's CARD OF 'laws.FnExactStoreOpen'. -/
def fnExactStoreOpenUptoCard : Claim7 := { stood := { row := fnExactStoreOpenUptoRow, standIns := [], harness := (true, "f6f39d4a626ba7f87b335703b1a498babc9062d686ec3f78e78186f6c328ea1e"), looks := true }, kinds := [], alts := [], laidByText := true, laidKinds := [.data, .data, .data, .data, .sentinel, .sentinel, .pinned], laidTests := true, laidLooks := .later }
def FnExactStoreOpenUptoCardSaid : Prop := Claim7.holds Tryz.pinned (.plain (OpenSpec.upto fnExactStoreOpenSpec)) fnExactStoreOpenUptoCard
end Rows
end Go.Proofs.YtgdbhjmpkkbnnaaGreatDoor
