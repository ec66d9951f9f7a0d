/-
  DERIVED. GIVEN WITH THE SEED: THE CARDS: each row of YtkafoolhbflfkaaGreatDoorRows.lean that lists a variable, with what it lists TIED to the program's text (the seventh form; the later family's looks); each row that meets fmt, with fmt's text TOLD by the authors' own Lean function (tested against real Go, not proved from fmt's source: count such statements apart). THE CARD IS WHAT COUNTS. Prove the row's statement (the work); the ties are given (YtkafoolhbflfkaaGreatDoorTie.lean); close each card by the builder's one call (the guide's Derived/Test/ToyasCard.lean, 'card_holds'). Laid BY PROGRAM, IN A SANDBOX (cutbox-door.mjs). By AI agents, Wed Nov 11 2026. No macro, syntax, notation, axiom, sorry.
-/
import Derived.Test.YtkafoolhbflfkaaGreatDoorRows
import GoSem.ClaimSeven
namespace Go.Proofs.YtkafoolhbflfkaaGreatDoor
namespace Rows

/-- THE TIED CARD OF 'laws.FnStoreOk'. -/
def fnStoreOkCard : Claim7 := { stood := { row := fnStoreOkRow, standIns := [], harness := (true, "99044211e4d0615f72fb8b44ef2f0829a8151503b6f3d016591cba8e371bb2bc"), looks := true }, kinds := [], alts := [], laidByText := true, laidKinds := [.data, .data, .data, .data, .sentinel, .sentinel, .pinned], laidTests := true, laidLooks := .later }
def FnStoreOkCardSaid : Prop := Claim7.holds Tryz.pinned (.plain (OpenSpec.ofChange fnStoreOkSpec)) fnStoreOkCard

/-- THE TIED CARD OF 'laws.FnStoreCrash'. -/
def fnStoreCrashCard : Claim7 := { stood := { row := fnStoreCrashRow, standIns := [], harness := (true, "99044211e4d0615f72fb8b44ef2f0829a8151503b6f3d016591cba8e371bb2bc"), looks := true }, kinds := [], alts := [], laidByText := true, laidKinds := [.data, .data, .data, .data, .sentinel, .sentinel, .pinned], laidTests := true, laidLooks := .later }
def FnStoreCrashCardSaid : Prop := Claim7.holds Tryz.pinned (.plain (OpenSpec.ofChange fnStoreCrashSpec)) fnStoreCrashCard

/-- THE TIED CARD OF 'laws.FnStoreSync'. -/
def fnStoreSyncCard : Claim7 := { stood := { row := fnStoreSyncRow, standIns := [], harness := (true, "99044211e4d0615f72fb8b44ef2f0829a8151503b6f3d016591cba8e371bb2bc"), looks := true }, kinds := [], alts := [], laidByText := true, laidKinds := [.data, .data, .data, .data, .sentinel, .sentinel, .pinned], laidTests := true, laidLooks := .later }
def FnStoreSyncCardSaid : Prop := Claim7.holds Tryz.pinned (.plain (OpenSpec.ofChange fnStoreSyncSpec)) fnStoreSyncCard

/-- THE TIED CARD OF 'laws.FnStoreNew'. -/
def fnStoreNewCard : Claim7 := { stood := { row := fnStoreNewRow, standIns := [], harness := (true, "99044211e4d0615f72fb8b44ef2f0829a8151503b6f3d016591cba8e371bb2bc"), looks := true }, kinds := [], alts := [], laidByText := true, laidKinds := [.data, .data, .data, .data, .sentinel, .sentinel, .pinned], laidTests := true, laidLooks := .later }
def FnStoreNewCardSaid : Prop := Claim7.holds Tryz.pinned (.plain (OpenSpec.ofChange fnStoreNewSpec)) fnStoreNewCard

/-- THE TIED CARD OF 'laws.FnExactStoreSave'. -/
def fnExactStoreSaveCard : Claim7 := { stood := { row := fnExactStoreSaveRow, standIns := [], harness := (true, "99044211e4d0615f72fb8b44ef2f0829a8151503b6f3d016591cba8e371bb2bc"), looks := true }, kinds := [], alts := [], laidByText := true, laidKinds := [.data, .data, .data, .data, .sentinel, .sentinel, .pinned], laidTests := true, laidLooks := .later }
def FnExactStoreSaveCardSaid : Prop := Claim7.holds Tryz.pinned (.plain (OpenSpec.ofChange fnExactStoreSaveSpec)) fnExactStoreSaveCard

/-- THE TIED CARD OF 'laws.FnExactStoreAct'. -/
def fnExactStoreActCard : Claim7 := { stood := { row := fnExactStoreActRow, standIns := [], harness := (true, "99044211e4d0615f72fb8b44ef2f0829a8151503b6f3d016591cba8e371bb2bc"), looks := true }, kinds := [], alts := [], laidByText := true, laidKinds := [.data, .data, .data, .data, .sentinel, .sentinel, .pinned], laidTests := true, laidLooks := .later }
def FnExactStoreActCardSaid : Prop := Claim7.holds Tryz.pinned (.plain (OpenSpec.ofChange fnExactStoreActSpec)) fnExactStoreActCard

/-- THE TIED CARD OF 'laws.FnStoreSave'. -/
def fnStoreSaveCard : Claim7 := { stood := { row := fnStoreSaveRow, standIns := [], harness := (true, "99044211e4d0615f72fb8b44ef2f0829a8151503b6f3d016591cba8e371bb2bc"), looks := true }, kinds := [], alts := [], laidByText := true, laidKinds := [.data, .data, .data, .data, .sentinel, .sentinel, .pinned], laidTests := true, laidLooks := .later }
def FnStoreSaveCardSaid : Prop := Claim7.holds Tryz.pinned (.plain (OpenSpec.ofChange fnStoreSaveSpec)) fnStoreSaveCard

/-- THE TIED CARD OF 'laws.FnStoreOpen'. -/
def fnStoreOpenCard : Claim7 := { stood := { row := fnStoreOpenRow, standIns := [], harness := (true, "99044211e4d0615f72fb8b44ef2f0829a8151503b6f3d016591cba8e371bb2bc"), looks := true }, kinds := [], alts := [], laidByText := true, laidKinds := [.data, .data, .data, .data, .sentinel, .sentinel, .pinned], laidTests := true, laidLooks := .later }
def FnStoreOpenCardSaid : Prop := Claim7.holds Tryz.pinned (.plain (OpenSpec.ofChange fnStoreOpenSpec)) fnStoreOpenCard

/-- THE TIED CARD OF 'laws.FnStoreAct'. -/
def fnStoreActCard : Claim7 := { stood := { row := fnStoreActRow, standIns := [], harness := (true, "99044211e4d0615f72fb8b44ef2f0829a8151503b6f3d016591cba8e371bb2bc"), looks := true }, kinds := [], alts := [], laidByText := true, laidKinds := [.data, .data, .data, .data, .sentinel, .sentinel, .pinned], laidTests := true, laidLooks := .later }
def FnStoreActCardSaid : Prop := Claim7.holds Tryz.pinned (.plain (OpenSpec.ofChange fnStoreActSpec)) fnStoreActCard

/-- THE TIED CARD OF 'laws.FnStoreMend'. -/
def fnStoreMendCard : Claim7 := { stood := { row := fnStoreMendRow, standIns := [], harness := (true, "99044211e4d0615f72fb8b44ef2f0829a8151503b6f3d016591cba8e371bb2bc"), looks := true }, kinds := [], alts := [], laidByText := true, laidKinds := [.data, .data, .data, .data, .sentinel, .sentinel, .pinned], laidTests := true, laidLooks := .later }
def FnStoreMendCardSaid : Prop := Claim7.holds Tryz.pinned (.plain (OpenSpec.ofChange fnStoreMendSpec)) fnStoreMendCard

/-- THE TIED CARD OF 'laws.FnStoreEnd'. -/
def fnStoreEndCard : Claim7 := { stood := { row := fnStoreEndRow, standIns := [], harness := (true, "99044211e4d0615f72fb8b44ef2f0829a8151503b6f3d016591cba8e371bb2bc"), looks := true }, kinds := [], alts := [], laidByText := true, laidKinds := [.data, .data, .data, .data, .sentinel, .sentinel, .pinned], laidTests := true, laidLooks := .later }
def FnStoreEndCardSaid : Prop := Claim7.holds Tryz.pinned (.plain (OpenSpec.ofChange fnStoreEndSpec)) fnStoreEndCard

/-- THE TIED CARD OF 'laws.FnStoreNever'. -/
def fnStoreNeverCard : Claim7 := { stood := { row := fnStoreNeverRow, standIns := [], harness := (true, "99044211e4d0615f72fb8b44ef2f0829a8151503b6f3d016591cba8e371bb2bc"), looks := true }, kinds := [], alts := [], laidByText := true, laidKinds := [.data, .data, .data, .data, .sentinel, .sentinel, .pinned], laidTests := true, laidLooks := .later }
def FnStoreNeverCardSaid : Prop := Claim7.holds Tryz.pinned (.plain (OpenSpec.ofChange fnStoreNeverSpec)) fnStoreNeverCard

/-- THE SECOND FORM's CARD OF 'laws.FnStoreOk'. -/
def fnStoreOkUptoCard : Claim7 := { stood := { row := fnStoreOkUptoRow, standIns := [], harness := (true, "99044211e4d0615f72fb8b44ef2f0829a8151503b6f3d016591cba8e371bb2bc"), looks := true }, kinds := [], alts := [], laidByText := true, laidKinds := [.data, .data, .data, .data, .sentinel, .sentinel, .pinned], laidTests := true, laidLooks := .later }
def FnStoreOkUptoCardSaid : Prop := Claim7.holds Tryz.pinned (.plain (OpenSpec.upto fnStoreOkSpec)) fnStoreOkUptoCard

/-- THE SECOND FORM's CARD OF 'laws.FnStoreCrash'. -/
def fnStoreCrashUptoCard : Claim7 := { stood := { row := fnStoreCrashUptoRow, standIns := [], harness := (true, "99044211e4d0615f72fb8b44ef2f0829a8151503b6f3d016591cba8e371bb2bc"), looks := true }, kinds := [], alts := [], laidByText := true, laidKinds := [.data, .data, .data, .data, .sentinel, .sentinel, .pinned], laidTests := true, laidLooks := .later }
def FnStoreCrashUptoCardSaid : Prop := Claim7.holds Tryz.pinned (.plain (OpenSpec.upto fnStoreCrashSpec)) fnStoreCrashUptoCard

/-- THE SECOND FORM's CARD OF 'laws.FnStoreSync'. -/
def fnStoreSyncUptoCard : Claim7 := { stood := { row := fnStoreSyncUptoRow, standIns := [], harness := (true, "99044211e4d0615f72fb8b44ef2f0829a8151503b6f3d016591cba8e371bb2bc"), looks := true }, kinds := [], alts := [], laidByText := true, laidKinds := [.data, .data, .data, .data, .sentinel, .sentinel, .pinned], laidTests := true, laidLooks := .later }
def FnStoreSyncUptoCardSaid : Prop := Claim7.holds Tryz.pinned (.plain (OpenSpec.upto fnStoreSyncSpec)) fnStoreSyncUptoCard

/-- THE SECOND FORM's CARD OF 'laws.FnStoreNew'. -/
def fnStoreNewUptoCard : Claim7 := { stood := { row := fnStoreNewUptoRow, standIns := [], harness := (true, "99044211e4d0615f72fb8b44ef2f0829a8151503b6f3d016591cba8e371bb2bc"), looks := true }, kinds := [], alts := [], laidByText := true, laidKinds := [.data, .data, .data, .data, .sentinel, .sentinel, .pinned], laidTests := true, laidLooks := .later }
def FnStoreNewUptoCardSaid : Prop := Claim7.holds Tryz.pinned (.plain (OpenSpec.upto fnStoreNewSpec)) fnStoreNewUptoCard

/-- THE SECOND FORM's CARD OF 'laws.FnExactStoreSave'. -/
def fnExactStoreSaveUptoCard : Claim7 := { stood := { row := fnExactStoreSaveUptoRow, standIns := [], harness := (true, "99044211e4d0615f72fb8b44ef2f0829a8151503b6f3d016591cba8e371bb2bc"), looks := true }, kinds := [], alts := [], laidByText := true, laidKinds := [.data, .data, .data, .data, .sentinel, .sentinel, .pinned], laidTests := true, laidLooks := .later }
def FnExactStoreSaveUptoCardSaid : Prop := Claim7.holds Tryz.pinned (.plain (OpenSpec.upto fnExactStoreSaveSpec)) fnExactStoreSaveUptoCard

/-- THE SECOND FORM's CARD OF 'laws.FnExactStoreAct'. -/
def fnExactStoreActUptoCard : Claim7 := { stood := { row := fnExactStoreActUptoRow, standIns := [], harness := (true, "99044211e4d0615f72fb8b44ef2f0829a8151503b6f3d016591cba8e371bb2bc"), looks := true }, kinds := [], alts := [], laidByText := true, laidKinds := [.data, .data, .data, .data, .sentinel, .sentinel, .pinned], laidTests := true, laidLooks := .later }
def FnExactStoreActUptoCardSaid : Prop := Claim7.holds Tryz.pinned (.plain (OpenSpec.upto fnExactStoreActSpec)) fnExactStoreActUptoCard

/-- THE SECOND FORM's CARD OF 'laws.FnStoreSave'. -/
def fnStoreSaveUptoCard : Claim7 := { stood := { row := fnStoreSaveUptoRow, standIns := [], harness := (true, "99044211e4d0615f72fb8b44ef2f0829a8151503b6f3d016591cba8e371bb2bc"), looks := true }, kinds := [], alts := [], laidByText := true, laidKinds := [.data, .data, .data, .data, .sentinel, .sentinel, .pinned], laidTests := true, laidLooks := .later }
def FnStoreSaveUptoCardSaid : Prop := Claim7.holds Tryz.pinned (.plain (OpenSpec.upto fnStoreSaveSpec)) fnStoreSaveUptoCard

/-- THE SECOND FORM's CARD OF 'laws.FnStoreOpen'. -/
def fnStoreOpenUptoCard : Claim7 := { stood := { row := fnStoreOpenUptoRow, standIns := [], harness := (true, "99044211e4d0615f72fb8b44ef2f0829a8151503b6f3d016591cba8e371bb2bc"), looks := true }, kinds := [], alts := [], laidByText := true, laidKinds := [.data, .data, .data, .data, .sentinel, .sentinel, .pinned], laidTests := true, laidLooks := .later }
def FnStoreOpenUptoCardSaid : Prop := Claim7.holds Tryz.pinned (.plain (OpenSpec.upto fnStoreOpenSpec)) fnStoreOpenUptoCard

/-- THE SECOND FORM's CARD OF 'laws.FnStoreAct'. -/
def fnStoreActUptoCard : Claim7 := { stood := { row := fnStoreActUptoRow, standIns := [], harness := (true, "99044211e4d0615f72fb8b44ef2f0829a8151503b6f3d016591cba8e371bb2bc"), looks := true }, kinds := [], alts := [], laidByText := true, laidKinds := [.data, .data, .data, .data, .sentinel, .sentinel, .pinned], laidTests := true, laidLooks := .later }
def FnStoreActUptoCardSaid : Prop := Claim7.holds Tryz.pinned (.plain (OpenSpec.upto fnStoreActSpec)) fnStoreActUptoCard

/-- THE SECOND FORM's CARD OF 'laws.FnStoreMend'. -/
def fnStoreMendUptoCard : Claim7 := { stood := { row := fnStoreMendUptoRow, standIns := [], harness := (true, "99044211e4d0615f72fb8b44ef2f0829a8151503b6f3d016591cba8e371bb2bc"), looks := true }, kinds := [], alts := [], laidByText := true, laidKinds := [.data, .data, .data, .data, .sentinel, .sentinel, .pinned], laidTests := true, laidLooks := .later }
def FnStoreMendUptoCardSaid : Prop := Claim7.holds Tryz.pinned (.plain (OpenSpec.upto fnStoreMendSpec)) fnStoreMendUptoCard

/-- THE SECOND FORM's CARD OF 'laws.FnStoreEnd'. -/
def fnStoreEndUptoCard : Claim7 := { stood := { row := fnStoreEndUptoRow, standIns := [], harness := (true, "99044211e4d0615f72fb8b44ef2f0829a8151503b6f3d016591cba8e371bb2bc"), looks := true }, kinds := [], alts := [], laidByText := true, laidKinds := [.data, .data, .data, .data, .sentinel, .sentinel, .pinned], laidTests := true, laidLooks := .later }
def FnStoreEndUptoCardSaid : Prop := Claim7.holds Tryz.pinned (.plain (OpenSpec.upto fnStoreEndSpec)) fnStoreEndUptoCard

/-- THE SECOND FORM's CARD OF 'laws.FnStoreNever'. -/
def fnStoreNeverUptoCard : Claim7 := { stood := { row := fnStoreNeverUptoRow, standIns := [], harness := (true, "99044211e4d0615f72fb8b44ef2f0829a8151503b6f3d016591cba8e371bb2bc"), looks := true }, kinds := [], alts := [], laidByText := true, laidKinds := [.data, .data, .data, .data, .sentinel, .sentinel, .pinned], laidTests := true, laidLooks := .later }
def FnStoreNeverUptoCardSaid : Prop := Claim7.holds Tryz.pinned (.plain (OpenSpec.upto fnStoreNeverSpec)) fnStoreNeverUptoCard
end Rows
end Go.Proofs.YtkafoolhbflfkaaGreatDoor
