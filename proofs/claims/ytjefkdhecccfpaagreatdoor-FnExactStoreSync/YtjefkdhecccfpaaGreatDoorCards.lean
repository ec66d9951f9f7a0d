/-
  DERIVED. GIVEN WITH THE SEED: THE CARDS: each row of YtjefkdhecccfpaaGreatDoorRows.lean that lists a variable, with what it lists TIED to the program's text (the seventh form; the later family's looks); each row that meets fmt, with fmt's text TOLD by the authors' own Lean function (tested against real Go, not proved from fmt's source: count such statements apart). THE CARD IS WHAT COUNTS. Prove the row's statement (the work); the ties are given (YtjefkdhecccfpaaGreatDoorTie.lean); close each card by the builder's one call (the guide's Derived/Test/ToyasCard.lean, 'card_holds'). Laid BY PROGRAM, IN A SANDBOX (cutbox-door.mjs). By AI agents, Wed Nov 11 2026. No macro, syntax, notation, axiom, sorry.
-/
import Derived.Test.YtjefkdhecccfpaaGreatDoorRows
import GoSem.ClaimSeven
namespace Go.Proofs.YtjefkdhecccfpaaGreatDoor
namespace Rows

/-- THE TIED CARD OF 'laws.FnExactDeskDo'. -/
def fnExactDeskDoCard : Claim7 := { stood := { row := fnExactDeskDoRow, standIns := [], harness := (true, "967abbc4e0da0669b8fe7dc73d19ab0bcb4388af2adeb3996976d42e0f3b1efa"), looks := true }, kinds := [], alts := [], laidByText := true, laidKinds := [.data, .data, .data], laidTests := true, laidLooks := .later }
def FnExactDeskDoCardSaid : Prop := Claim7.holds Tryz.pinned (.plain (OpenSpec.ofChange fnExactDeskDoSpec)) fnExactDeskDoCard

/-- THE TIED CARD OF 'laws.FnExactDeskRun'. -/
def fnExactDeskRunCard : Claim7 := { stood := { row := fnExactDeskRunRow, standIns := [], harness := (true, "967abbc4e0da0669b8fe7dc73d19ab0bcb4388af2adeb3996976d42e0f3b1efa"), looks := true }, kinds := [], alts := [], laidByText := true, laidKinds := [.data, .data, .data], laidTests := true, laidLooks := .later }
def FnExactDeskRunCardSaid : Prop := Claim7.holds Tryz.pinned (.plain (OpenSpec.ofChange fnExactDeskRunSpec)) fnExactDeskRunCard

/-- THE TIED CARD OF 'laws.FnExactStoreCrash'. -/
def fnExactStoreCrashCard : Claim7 := { stood := { row := fnExactStoreCrashRow, standIns := [], harness := (true, "967abbc4e0da0669b8fe7dc73d19ab0bcb4388af2adeb3996976d42e0f3b1efa"), looks := true }, kinds := [], alts := [], laidByText := true, laidKinds := [.data, .data, .data, .data, .sentinel, .sentinel, .pinned], laidTests := true, laidLooks := .later }
def FnExactStoreCrashCardSaid : Prop := Claim7.holds Tryz.pinned (.plain (OpenSpec.ofChange fnExactStoreCrashSpec)) fnExactStoreCrashCard

/-- THE TIED CARD OF 'laws.FnExactStoreSync'. -/
def fnExactStoreSyncCard : Claim7 := { stood := { row := fnExactStoreSyncRow, standIns := [], harness := (true, "967abbc4e0da0669b8fe7dc73d19ab0bcb4388af2adeb3996976d42e0f3b1efa"), looks := true }, kinds := [], alts := [], laidByText := true, laidKinds := [.data, .data, .data, .data, .sentinel, .sentinel, .pinned], laidTests := true, laidLooks := .later }
def FnExactStoreSyncCardSaid : Prop := Claim7.holds Tryz.pinned (.plain (OpenSpec.ofChange fnExactStoreSyncSpec)) fnExactStoreSyncCard

/-- THE TIED CARD OF 'laws.FnExactStoreMend'. -/
def fnExactStoreMendCard : Claim7 := { stood := { row := fnExactStoreMendRow, standIns := [], harness := (true, "967abbc4e0da0669b8fe7dc73d19ab0bcb4388af2adeb3996976d42e0f3b1efa"), looks := true }, kinds := [], alts := [], laidByText := true, laidKinds := [.data, .data, .data, .data, .sentinel, .sentinel, .pinned], laidTests := true, laidLooks := .later }
def FnExactStoreMendCardSaid : Prop := Claim7.holds Tryz.pinned (.plain (OpenSpec.ofChange fnExactStoreMendSpec)) fnExactStoreMendCard

/-- THE SECOND FORM's CARD OF 'laws.FnExactDeskDo'. -/
def fnExactDeskDoUptoCard : Claim7 := { stood := { row := fnExactDeskDoUptoRow, standIns := [], harness := (true, "967abbc4e0da0669b8fe7dc73d19ab0bcb4388af2adeb3996976d42e0f3b1efa"), looks := true }, kinds := [], alts := [], laidByText := true, laidKinds := [.data, .data, .data], laidTests := true, laidLooks := .later }
def FnExactDeskDoUptoCardSaid : Prop := Claim7.holds Tryz.pinned (.plain (OpenSpec.upto fnExactDeskDoSpec)) fnExactDeskDoUptoCard

/-- THE SECOND FORM's CARD OF 'laws.FnExactDeskRun'. -/
def fnExactDeskRunUptoCard : Claim7 := { stood := { row := fnExactDeskRunUptoRow, standIns := [], harness := (true, "967abbc4e0da0669b8fe7dc73d19ab0bcb4388af2adeb3996976d42e0f3b1efa"), looks := true }, kinds := [], alts := [], laidByText := true, laidKinds := [.data, .data, .data], laidTests := true, laidLooks := .later }
def FnExactDeskRunUptoCardSaid : Prop := Claim7.holds Tryz.pinned (.plain (OpenSpec.upto fnExactDeskRunSpec)) fnExactDeskRunUptoCard

/-- THE SECOND FORM's CARD OF 'laws.FnExactStoreCrash'. -/
def fnExactStoreCrashUptoCard : Claim7 := { stood := { row := fnExactStoreCrashUptoRow, standIns := [], harness := (true, "967abbc4e0da0669b8fe7dc73d19ab0bcb4388af2adeb3996976d42e0f3b1efa"), looks := true }, kinds := [], alts := [], laidByText := true, laidKinds := [.data, .data, .data, .data, .sentinel, .sentinel, .pinned], laidTests := true, laidLooks := .later }
def FnExactStoreCrashUptoCardSaid : Prop := Claim7.holds Tryz.pinned (.plain (OpenSpec.upto fnExactStoreCrashSpec)) fnExactStoreCrashUptoCard

/-- THE SECOND FORM's CARD OF 'laws.FnExactStoreSync'. -/
def fnExactStoreSyncUptoCard : Claim7 := { stood := { row := fnExactStoreSyncUptoRow, standIns := [], harness := (true, "967abbc4e0da0669b8fe7dc73d19ab0bcb4388af2adeb3996976d42e0f3b1efa"), looks := true }, kinds := [], alts := [], laidByText := true, laidKinds := [.data, .data, .data, .data, .sentinel, .sentinel, .pinned], laidTests := true, laidLooks := .later }
def FnExactStoreSyncUptoCardSaid : Prop := Claim7.holds Tryz.pinned (.plain (OpenSpec.upto fnExactStoreSyncSpec)) fnExactStoreSyncUptoCard

/-- THE SECOND FORM's CARD OF 'laws.FnExactStoreMend'. -/
def fnExactStoreMendUptoCard : Claim7 := { stood := { row := fnExactStoreMendUptoRow, standIns := [], harness := (true, "967abbc4e0da0669b8fe7dc73d19ab0bcb4388af2adeb3996976d42e0f3b1efa"), looks := true }, kinds := [], alts := [], laidByText := true, laidKinds := [.data, .data, .data, .data, .sentinel, .sentinel, .pinned], laidTests := true, laidLooks := .later }
def FnExactStoreMendUptoCardSaid : Prop := Claim7.holds Tryz.pinned (.plain (OpenSpec.upto fnExactStoreMendSpec)) fnExactStoreMendUptoCard
end Rows
end Go.Proofs.YtjefkdhecccfpaaGreatDoor
