/-
  DERIVED. GIVEN WITH THE SEED: THE CARDS: each row of YtjlhdgmcaiiagaaGreatDoorRows.lean that lists a variable, with what it lists TIED to the program's text (the seventh form; the later family's looks); each row that meets fmt, with fmt's text TOLD by the authors' own Lean function (tested against real Go, not proved from fmt's source: count such statements apart). THE CARD IS WHAT COUNTS. Prove the row's statement (the work); the ties are given (YtjlhdgmcaiiagaaGreatDoorTie.lean); close each card by the builder's one call (the guide's Derived/Test/ToyasCard.lean, 'card_holds'). Laid BY PROGRAM, IN A SANDBOX (cutbox-door.mjs). By AI agents, Wed Nov 11 2026. No macro, syntax, notation, axiom, sorry.
-/
import Derived.Test.YtjlhdgmcaiiagaaGreatDoorRows
import GoSem.ClaimSeven
namespace Go.Proofs.YtjlhdgmcaiiagaaGreatDoor
namespace Rows

/-- THE TIED CARD OF 'pannierlaw09.ItemsFinds'. -/
def itemsFindsCard : Claim7 := { stood := { row := itemsFindsRow, standIns := [], harness := (true, "2a410c11f72228d00b9a57d75aeb91d7c1f46f064270be6cd920cade0705e5d6"), looks := false }, kinds := [], alts := [], laidByText := true, laidKinds := [.data, .pinned], laidTests := true, laidLooks := .later }
def ItemsFindsCardSaid : Prop := Claim7.holds Tryz.pinned (.plain (OpenSpec.ofChange itemsFindsSpec)) itemsFindsCard

/-- THE TIED CARD OF 'pannierlaw09.ItemsPuts'. -/
def itemsPutsCard : Claim7 := { stood := { row := itemsPutsRow, standIns := [], harness := (true, "2a410c11f72228d00b9a57d75aeb91d7c1f46f064270be6cd920cade0705e5d6"), looks := false }, kinds := [], alts := [], laidByText := true, laidKinds := [.data, .pinned], laidTests := true, laidLooks := .later }
def ItemsPutsCardSaid : Prop := Claim7.holds Tryz.pinned (.plain (OpenSpec.ofChange itemsPutsSpec)) itemsPutsCard

/-- THE TIED CARD OF 'pannierlaw09.ItemsRemoves'. -/
def itemsRemovesCard : Claim7 := { stood := { row := itemsRemovesRow, standIns := [], harness := (true, "2a410c11f72228d00b9a57d75aeb91d7c1f46f064270be6cd920cade0705e5d6"), looks := false }, kinds := [], alts := [], laidByText := true, laidKinds := [.data, .pinned], laidTests := true, laidLooks := .later }
def ItemsRemovesCardSaid : Prop := Claim7.holds Tryz.pinned (.plain (OpenSpec.ofChange itemsRemovesSpec)) itemsRemovesCard

/-- THE TIED CARD OF 'pannierlaw09.ItemsOrders'. -/
def itemsOrdersCard : Claim7 := { stood := { row := itemsOrdersRow, standIns := [], harness := (true, "2a410c11f72228d00b9a57d75aeb91d7c1f46f064270be6cd920cade0705e5d6"), looks := false }, kinds := [], alts := [], laidByText := true, laidKinds := [.data, .pinned], laidTests := true, laidLooks := .later }
def ItemsOrdersCardSaid : Prop := Claim7.holds Tryz.pinned (.plain (OpenSpec.ofChange itemsOrdersSpec)) itemsOrdersCard

/-- THE TIED CARD OF 'pannierlaw09.ItemsHolds'. -/
def itemsHoldsCard : Claim7 := { stood := { row := itemsHoldsRow, standIns := [], harness := (true, "2a410c11f72228d00b9a57d75aeb91d7c1f46f064270be6cd920cade0705e5d6"), looks := false }, kinds := [], alts := [], laidByText := true, laidKinds := [.data, .pinned], laidTests := true, laidLooks := .later }
def ItemsHoldsCardSaid : Prop := Claim7.holds Tryz.pinned (.plain (OpenSpec.ofChange itemsHoldsSpec)) itemsHoldsCard

/-- THE TIED CARD OF 'pannierlaw09.ItemsValid'. -/
def itemsValidCard : Claim7 := { stood := { row := itemsValidRow, standIns := [], harness := (true, "2a410c11f72228d00b9a57d75aeb91d7c1f46f064270be6cd920cade0705e5d6"), looks := false }, kinds := [], alts := [], laidByText := true, laidKinds := [.data, .pinned], laidTests := true, laidLooks := .later }
def ItemsValidCardSaid : Prop := Claim7.holds Tryz.pinned (.plain (OpenSpec.ofChange itemsValidSpec)) itemsValidCard

/-- THE SECOND FORM's CARD OF 'pannierlaw09.ItemsFinds'. -/
def itemsFindsUptoCard : Claim7 := { stood := { row := itemsFindsUptoRow, standIns := [], harness := (true, "2a410c11f72228d00b9a57d75aeb91d7c1f46f064270be6cd920cade0705e5d6"), looks := false }, kinds := [], alts := [], laidByText := true, laidKinds := [.data, .pinned], laidTests := true, laidLooks := .later }
def ItemsFindsUptoCardSaid : Prop := Claim7.holds Tryz.pinned (.plain (OpenSpec.upto itemsFindsSpec)) itemsFindsUptoCard

/-- THE SECOND FORM's CARD OF 'pannierlaw09.ItemsPuts'. -/
def itemsPutsUptoCard : Claim7 := { stood := { row := itemsPutsUptoRow, standIns := [], harness := (true, "2a410c11f72228d00b9a57d75aeb91d7c1f46f064270be6cd920cade0705e5d6"), looks := false }, kinds := [], alts := [], laidByText := true, laidKinds := [.data, .pinned], laidTests := true, laidLooks := .later }
def ItemsPutsUptoCardSaid : Prop := Claim7.holds Tryz.pinned (.plain (OpenSpec.upto itemsPutsSpec)) itemsPutsUptoCard

/-- THE SECOND FORM's CARD OF 'pannierlaw09.ItemsRemoves'. -/
def itemsRemovesUptoCard : Claim7 := { stood := { row := itemsRemovesUptoRow, standIns := [], harness := (true, "2a410c11f72228d00b9a57d75aeb91d7c1f46f064270be6cd920cade0705e5d6"), looks := false }, kinds := [], alts := [], laidByText := true, laidKinds := [.data, .pinned], laidTests := true, laidLooks := .later }
def ItemsRemovesUptoCardSaid : Prop := Claim7.holds Tryz.pinned (.plain (OpenSpec.upto itemsRemovesSpec)) itemsRemovesUptoCard

/-- THE SECOND FORM's CARD OF 'pannierlaw09.ItemsOrders'. -/
def itemsOrdersUptoCard : Claim7 := { stood := { row := itemsOrdersUptoRow, standIns := [], harness := (true, "2a410c11f72228d00b9a57d75aeb91d7c1f46f064270be6cd920cade0705e5d6"), looks := false }, kinds := [], alts := [], laidByText := true, laidKinds := [.data, .pinned], laidTests := true, laidLooks := .later }
def ItemsOrdersUptoCardSaid : Prop := Claim7.holds Tryz.pinned (.plain (OpenSpec.upto itemsOrdersSpec)) itemsOrdersUptoCard

/-- THE SECOND FORM's CARD OF 'pannierlaw09.ItemsHolds'. -/
def itemsHoldsUptoCard : Claim7 := { stood := { row := itemsHoldsUptoRow, standIns := [], harness := (true, "2a410c11f72228d00b9a57d75aeb91d7c1f46f064270be6cd920cade0705e5d6"), looks := false }, kinds := [], alts := [], laidByText := true, laidKinds := [.data, .pinned], laidTests := true, laidLooks := .later }
def ItemsHoldsUptoCardSaid : Prop := Claim7.holds Tryz.pinned (.plain (OpenSpec.upto itemsHoldsSpec)) itemsHoldsUptoCard

/-- THE SECOND FORM's CARD OF 'pannierlaw09.ItemsValid'. -/
def itemsValidUptoCard : Claim7 := { stood := { row := itemsValidUptoRow, standIns := [], harness := (true, "2a410c11f72228d00b9a57d75aeb91d7c1f46f064270be6cd920cade0705e5d6"), looks := false }, kinds := [], alts := [], laidByText := true, laidKinds := [.data, .pinned], laidTests := true, laidLooks := .later }
def ItemsValidUptoCardSaid : Prop := Claim7.holds Tryz.pinned (.plain (OpenSpec.upto itemsValidSpec)) itemsValidUptoCard
end Rows
end Go.Proofs.YtjlhdgmcaiiagaaGreatDoor
