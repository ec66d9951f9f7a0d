/-
  DERIVED. GIVEN WITH THE SEED: THE CARDS: each row of YtahfdkdneojkmaaDoorRows.lean that lists a variable, with what it lists TIED to the program's text (the seventh form; the later family's looks); each row that meets fmt, with fmt's text TOLD by the authors' own Lean function (tested against real Go, not proved from fmt's source: count such statements apart). THE CARD IS WHAT COUNTS. Prove the row's statement (the work); the ties are given (YtahfdkdneojkmaaDoorTie.lean); close each card by the builder's one call (the guide's Derived/Test/ToyasCard.lean, 'card_holds'). Laid BY PROGRAM, IN A SANDBOX (cutbox-door.mjs). By AI agents, Wed Nov 11 2026. No macro, syntax, notation, axiom, sorry.
-/
import Derived.Test.YtahfdkdneojkmaaDoorRows
import GoSem.ClaimSeven
namespace Go.Proofs.YtahfdkdneojkmaaDoor
namespace Rows

/-- THE TIED CARD OF 'laws.FnPlaceOk'. -/
def fnPlaceOkCard : Claim7 := { stood := { row := fnPlaceOkRow, standIns := [], harness := (true, "0cf6c93c66d9569fecfff28faae96792b7deb667e30193a6a9ff8eae6cd2ef9b"), looks := false }, kinds := [], alts := [], laidByText := true, laidKinds := [.data, .data, .data], laidTests := true, laidLooks := .later }
def FnPlaceOkCardSaid : Prop := Claim7.holds Tryd.pinned (.plain (OpenSpec.ofChange fnPlaceOkSpec)) fnPlaceOkCard

/-- THE TIED CARD OF 'laws.FnExactPlaceOk'. -/
def fnExactPlaceOkCard : Claim7 := { stood := { row := fnExactPlaceOkRow, standIns := [], harness := (true, "0cf6c93c66d9569fecfff28faae96792b7deb667e30193a6a9ff8eae6cd2ef9b"), looks := false }, kinds := [], alts := [], laidByText := true, laidKinds := [.data, .data, .data], laidTests := true, laidLooks := .later }
def FnExactPlaceOkCardSaid : Prop := Claim7.holds Tryd.pinned (.plain (OpenSpec.ofChange fnExactPlaceOkSpec)) fnExactPlaceOkCard

/-- THE TIED CARD OF 'laws.FnDeskNew'. -/
def fnDeskNewCard : Claim7 := { stood := { row := fnDeskNewRow, standIns := [], harness := (true, "0cf6c93c66d9569fecfff28faae96792b7deb667e30193a6a9ff8eae6cd2ef9b"), looks := false }, kinds := [], alts := [], laidByText := true, laidKinds := [.data, .data, .data], laidTests := true, laidLooks := .later }
def FnDeskNewCardSaid : Prop := Claim7.holds Tryd.pinned (.plain (OpenSpec.ofChange fnDeskNewSpec)) fnDeskNewCard

/-- THE TIED CARD OF 'laws.FnExactDeskOk'. -/
def fnExactDeskOkCard : Claim7 := { stood := { row := fnExactDeskOkRow, standIns := [], harness := (true, "0cf6c93c66d9569fecfff28faae96792b7deb667e30193a6a9ff8eae6cd2ef9b"), looks := false }, kinds := [], alts := [], laidByText := true, laidKinds := [.data, .data, .data], laidTests := true, laidLooks := .later }
def FnExactDeskOkCardSaid : Prop := Claim7.holds Tryd.pinned (.plain (OpenSpec.ofChange fnExactDeskOkSpec)) fnExactDeskOkCard

/-- THE TIED CARD OF 'laws.FnExactPlaceText'. -/
def fnExactPlaceTextCard : Claim7 := { stood := { row := fnExactPlaceTextRow, standIns := [], harness := (true, "0cf6c93c66d9569fecfff28faae96792b7deb667e30193a6a9ff8eae6cd2ef9b"), looks := false }, kinds := [], alts := [], laidByText := true, laidKinds := [.data, .data, .data], laidTests := true, laidLooks := .later }
def FnExactPlaceTextCardSaid : Prop := Claim7.holds Tryd.pinned (.plain (OpenSpec.ofChange fnExactPlaceTextSpec)) fnExactPlaceTextCard

/-- THE TIED CARD OF 'laws.FnExactStoreNew'. -/
def fnExactStoreNewCard : Claim7 := { stood := { row := fnExactStoreNewRow, standIns := [], harness := (true, "0cf6c93c66d9569fecfff28faae96792b7deb667e30193a6a9ff8eae6cd2ef9b"), looks := false }, kinds := [], alts := [], laidByText := true, laidKinds := [.data, .data, .data], laidTests := true, laidLooks := .later }
def FnExactStoreNewCardSaid : Prop := Claim7.holds Tryd.pinned (.plain (OpenSpec.ofChange fnExactStoreNewSpec)) fnExactStoreNewCard

/-- THE TIED CARD OF 'laws.FnDeskOk'. -/
def fnDeskOkCard : Claim7 := { stood := { row := fnDeskOkRow, standIns := [], harness := (true, "0cf6c93c66d9569fecfff28faae96792b7deb667e30193a6a9ff8eae6cd2ef9b"), looks := false }, kinds := [], alts := [], laidByText := true, laidKinds := [.data, .data, .data], laidTests := true, laidLooks := .later }
def FnDeskOkCardSaid : Prop := Claim7.holds Tryd.pinned (.plain (OpenSpec.ofChange fnDeskOkSpec)) fnDeskOkCard

/-- THE TIED CARD OF 'laws.FnExactDeskNew'. -/
def fnExactDeskNewCard : Claim7 := { stood := { row := fnExactDeskNewRow, standIns := [], harness := (true, "0cf6c93c66d9569fecfff28faae96792b7deb667e30193a6a9ff8eae6cd2ef9b"), looks := false }, kinds := [], alts := [], laidByText := true, laidKinds := [.data, .data, .data], laidTests := true, laidLooks := .later }
def FnExactDeskNewCardSaid : Prop := Claim7.holds Tryd.pinned (.plain (OpenSpec.ofChange fnExactDeskNewSpec)) fnExactDeskNewCard

/-- THE SECOND FORM's CARD OF 'laws.FnPlaceOk'. -/
def fnPlaceOkUptoCard : Claim7 := { stood := { row := fnPlaceOkUptoRow, standIns := [], harness := (true, "0cf6c93c66d9569fecfff28faae96792b7deb667e30193a6a9ff8eae6cd2ef9b"), looks := false }, kinds := [], alts := [], laidByText := true, laidKinds := [.data, .data, .data], laidTests := true, laidLooks := .later }
def FnPlaceOkUptoCardSaid : Prop := Claim7.holds Tryd.pinned (.plain (OpenSpec.upto fnPlaceOkSpec)) fnPlaceOkUptoCard

/-- THE SECOND FORM's CARD OF 'laws.FnExactPlaceOk'. -/
def fnExactPlaceOkUptoCard : Claim7 := { stood := { row := fnExactPlaceOkUptoRow, standIns := [], harness := (true, "0cf6c93c66d9569fecfff28faae96792b7deb667e30193a6a9ff8eae6cd2ef9b"), looks := false }, kinds := [], alts := [], laidByText := true, laidKinds := [.data, .data, .data], laidTests := true, laidLooks := .later }
def FnExactPlaceOkUptoCardSaid : Prop := Claim7.holds Tryd.pinned (.plain (OpenSpec.upto fnExactPlaceOkSpec)) fnExactPlaceOkUptoCard

/-- THE SECOND FORM's CARD OF 'laws.FnDeskNew'. -/
def fnDeskNewUptoCard : Claim7 := { stood := { row := fnDeskNewUptoRow, standIns := [], harness := (true, "0cf6c93c66d9569fecfff28faae96792b7deb667e30193a6a9ff8eae6cd2ef9b"), looks := false }, kinds := [], alts := [], laidByText := true, laidKinds := [.data, .data, .data], laidTests := true, laidLooks := .later }
def FnDeskNewUptoCardSaid : Prop := Claim7.holds Tryd.pinned (.plain (OpenSpec.upto fnDeskNewSpec)) fnDeskNewUptoCard

/-- THE SECOND FORM's CARD OF 'laws.FnExactDeskOk'. -/
def fnExactDeskOkUptoCard : Claim7 := { stood := { row := fnExactDeskOkUptoRow, standIns := [], harness := (true, "0cf6c93c66d9569fecfff28faae96792b7deb667e30193a6a9ff8eae6cd2ef9b"), looks := false }, kinds := [], alts := [], laidByText := true, laidKinds := [.data, .data, .data], laidTests := true, laidLooks := .later }
def FnExactDeskOkUptoCardSaid : Prop := Claim7.holds Tryd.pinned (.plain (OpenSpec.upto fnExactDeskOkSpec)) fnExactDeskOkUptoCard

/-- THE SECOND FORM's CARD OF 'laws.FnExactPlaceText'. -/
def fnExactPlaceTextUptoCard : Claim7 := { stood := { row := fnExactPlaceTextUptoRow, standIns := [], harness := (true, "0cf6c93c66d9569fecfff28faae96792b7deb667e30193a6a9ff8eae6cd2ef9b"), looks := false }, kinds := [], alts := [], laidByText := true, laidKinds := [.data, .data, .data], laidTests := true, laidLooks := .later }
def FnExactPlaceTextUptoCardSaid : Prop := Claim7.holds Tryd.pinned (.plain (OpenSpec.upto fnExactPlaceTextSpec)) fnExactPlaceTextUptoCard

/-- THE SECOND FORM's CARD OF 'laws.FnExactStoreNew'. -/
def fnExactStoreNewUptoCard : Claim7 := { stood := { row := fnExactStoreNewUptoRow, standIns := [], harness := (true, "0cf6c93c66d9569fecfff28faae96792b7deb667e30193a6a9ff8eae6cd2ef9b"), looks := false }, kinds := [], alts := [], laidByText := true, laidKinds := [.data, .data, .data], laidTests := true, laidLooks := .later }
def FnExactStoreNewUptoCardSaid : Prop := Claim7.holds Tryd.pinned (.plain (OpenSpec.upto fnExactStoreNewSpec)) fnExactStoreNewUptoCard

/-- THE SECOND FORM's CARD OF 'laws.FnDeskOk'. -/
def fnDeskOkUptoCard : Claim7 := { stood := { row := fnDeskOkUptoRow, standIns := [], harness := (true, "0cf6c93c66d9569fecfff28faae96792b7deb667e30193a6a9ff8eae6cd2ef9b"), looks := false }, kinds := [], alts := [], laidByText := true, laidKinds := [.data, .data, .data], laidTests := true, laidLooks := .later }
def FnDeskOkUptoCardSaid : Prop := Claim7.holds Tryd.pinned (.plain (OpenSpec.upto fnDeskOkSpec)) fnDeskOkUptoCard

/-- THE SECOND FORM's CARD OF 'laws.FnExactDeskNew'. -/
def fnExactDeskNewUptoCard : Claim7 := { stood := { row := fnExactDeskNewUptoRow, standIns := [], harness := (true, "0cf6c93c66d9569fecfff28faae96792b7deb667e30193a6a9ff8eae6cd2ef9b"), looks := false }, kinds := [], alts := [], laidByText := true, laidKinds := [.data, .data, .data], laidTests := true, laidLooks := .later }
def FnExactDeskNewUptoCardSaid : Prop := Claim7.holds Tryd.pinned (.plain (OpenSpec.upto fnExactDeskNewSpec)) fnExactDeskNewUptoCard
end Rows
end Go.Proofs.YtahfdkdneojkmaaDoor
