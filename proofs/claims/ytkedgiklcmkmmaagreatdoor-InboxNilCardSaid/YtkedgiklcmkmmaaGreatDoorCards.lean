/-
  DERIVED. GIVEN WITH THE SEED: THE CARDS: each row of YtkedgiklcmkmmaaGreatDoorRows.lean that lists a variable, with what it lists TIED to the program's text (the seventh form; the later family's looks); each row that meets fmt, with fmt's text TOLD by the authors' own Lean function (tested against real Go, not proved from fmt's source: count such statements apart). THE CARD IS WHAT COUNTS. Prove the row's statement (the work); the ties are given (YtkedgiklcmkmmaaGreatDoorTie.lean); close each card by the builder's one call (the guide's Derived/Test/ToyasCard.lean, 'card_holds'). Laid BY PROGRAM, IN A SANDBOX (cutbox-door.mjs). By AI agents, Wed Nov 11 2026. No macro, syntax, notation, axiom, sorry.
-/
import Derived.Test.YtkedgiklcmkmmaaGreatDoorRows
import GoSem.ClaimSeven
namespace Go.Proofs.YtkedgiklcmkmmaaGreatDoor
namespace Rows

/-- THE TIED CARD OF 'pannierlaw20.InboxNew'. -/
def inboxNewCard : Claim7 := { stood := { row := inboxNewRow, standIns := [], harness := (true, "8116a20cb4b2af9f8508168ed452cd60ade114360159b58ad2597003552e828f"), looks := false }, kinds := [], alts := [], laidByText := true, laidKinds := [.data, .pinned], laidTests := true, laidLooks := .later }
def InboxNewCardSaid : Prop := Claim7.holds Tryz.pinned (.plain (OpenSpec.ofChange inboxNewSpec)) inboxNewCard

/-- THE TIED CARD OF 'pannierlaw20.InboxRounds'. -/
def inboxRoundsCard : Claim7 := { stood := { row := inboxRoundsRow, standIns := [], harness := (true, "8116a20cb4b2af9f8508168ed452cd60ade114360159b58ad2597003552e828f"), looks := false }, kinds := [], alts := [], laidByText := true, laidKinds := [.data, .pinned], laidTests := true, laidLooks := .later }
def InboxRoundsCardSaid : Prop := Claim7.holds Tryz.pinned (.plain (OpenSpec.ofChange inboxRoundsSpec)) inboxRoundsCard

/-- THE TIED CARD OF 'pannierlaw20.InboxFulls'. -/
def inboxFullsCard : Claim7 := { stood := { row := inboxFullsRow, standIns := [], harness := (true, "8116a20cb4b2af9f8508168ed452cd60ade114360159b58ad2597003552e828f"), looks := false }, kinds := [], alts := [], laidByText := true, laidKinds := [.data, .pinned], laidTests := true, laidLooks := .later }
def InboxFullsCardSaid : Prop := Claim7.holds Tryz.pinned (.plain (OpenSpec.ofChange inboxFullsSpec)) inboxFullsCard

/-- THE TIED CARD OF 'pannierlaw20.InboxHolds'. -/
def inboxHoldsCard : Claim7 := { stood := { row := inboxHoldsRow, standIns := [], harness := (true, "8116a20cb4b2af9f8508168ed452cd60ade114360159b58ad2597003552e828f"), looks := false }, kinds := [], alts := [], laidByText := true, laidKinds := [.data, .pinned], laidTests := true, laidLooks := .later }
def InboxHoldsCardSaid : Prop := Claim7.holds Tryz.pinned (.plain (OpenSpec.ofChange inboxHoldsSpec)) inboxHoldsCard

/-- THE TIED CARD OF 'pannierlaw20.InboxPlays'. -/
def inboxPlaysCard : Claim7 := { stood := { row := inboxPlaysRow, standIns := [], harness := (true, "8116a20cb4b2af9f8508168ed452cd60ade114360159b58ad2597003552e828f"), looks := false }, kinds := [], alts := [], laidByText := true, laidKinds := [.data, .pinned], laidTests := true, laidLooks := .later }
def InboxPlaysCardSaid : Prop := Claim7.holds Tryz.pinned (.plain (OpenSpec.ofChange inboxPlaysSpec)) inboxPlaysCard

/-- THE TIED CARD OF 'pannierlaw20.InboxNil'. -/
def inboxNilCard : Claim7 := { stood := { row := inboxNilRow, standIns := [], harness := (true, "8116a20cb4b2af9f8508168ed452cd60ade114360159b58ad2597003552e828f"), looks := false }, kinds := [], alts := [], laidByText := true, laidKinds := [.data, .pinned], laidTests := true, laidLooks := .later }
def InboxNilCardSaid : Prop := Claim7.holds Tryz.pinned (.plain (OpenSpec.ofChange inboxNilSpec)) inboxNilCard

/-- THE SECOND FORM's CARD OF 'pannierlaw20.InboxNew'. -/
def inboxNewUptoCard : Claim7 := { stood := { row := inboxNewUptoRow, standIns := [], harness := (true, "8116a20cb4b2af9f8508168ed452cd60ade114360159b58ad2597003552e828f"), looks := false }, kinds := [], alts := [], laidByText := true, laidKinds := [.data, .pinned], laidTests := true, laidLooks := .later }
def InboxNewUptoCardSaid : Prop := Claim7.holds Tryz.pinned (.plain (OpenSpec.upto inboxNewSpec)) inboxNewUptoCard

/-- THE SECOND FORM's CARD OF 'pannierlaw20.InboxRounds'. -/
def inboxRoundsUptoCard : Claim7 := { stood := { row := inboxRoundsUptoRow, standIns := [], harness := (true, "8116a20cb4b2af9f8508168ed452cd60ade114360159b58ad2597003552e828f"), looks := false }, kinds := [], alts := [], laidByText := true, laidKinds := [.data, .pinned], laidTests := true, laidLooks := .later }
def InboxRoundsUptoCardSaid : Prop := Claim7.holds Tryz.pinned (.plain (OpenSpec.upto inboxRoundsSpec)) inboxRoundsUptoCard

/-- THE SECOND FORM's CARD OF 'pannierlaw20.InboxFulls'. -/
def inboxFullsUptoCard : Claim7 := { stood := { row := inboxFullsUptoRow, standIns := [], harness := (true, "8116a20cb4b2af9f8508168ed452cd60ade114360159b58ad2597003552e828f"), looks := false }, kinds := [], alts := [], laidByText := true, laidKinds := [.data, .pinned], laidTests := true, laidLooks := .later }
def InboxFullsUptoCardSaid : Prop := Claim7.holds Tryz.pinned (.plain (OpenSpec.upto inboxFullsSpec)) inboxFullsUptoCard

/-- THE SECOND FORM's CARD OF 'pannierlaw20.InboxHolds'. -/
def inboxHoldsUptoCard : Claim7 := { stood := { row := inboxHoldsUptoRow, standIns := [], harness := (true, "8116a20cb4b2af9f8508168ed452cd60ade114360159b58ad2597003552e828f"), looks := false }, kinds := [], alts := [], laidByText := true, laidKinds := [.data, .pinned], laidTests := true, laidLooks := .later }
def InboxHoldsUptoCardSaid : Prop := Claim7.holds Tryz.pinned (.plain (OpenSpec.upto inboxHoldsSpec)) inboxHoldsUptoCard

/-- THE SECOND FORM's CARD OF 'pannierlaw20.InboxPlays'. -/
def inboxPlaysUptoCard : Claim7 := { stood := { row := inboxPlaysUptoRow, standIns := [], harness := (true, "8116a20cb4b2af9f8508168ed452cd60ade114360159b58ad2597003552e828f"), looks := false }, kinds := [], alts := [], laidByText := true, laidKinds := [.data, .pinned], laidTests := true, laidLooks := .later }
def InboxPlaysUptoCardSaid : Prop := Claim7.holds Tryz.pinned (.plain (OpenSpec.upto inboxPlaysSpec)) inboxPlaysUptoCard

/-- THE SECOND FORM's CARD OF 'pannierlaw20.InboxNil'. -/
def inboxNilUptoCard : Claim7 := { stood := { row := inboxNilUptoRow, standIns := [], harness := (true, "8116a20cb4b2af9f8508168ed452cd60ade114360159b58ad2597003552e828f"), looks := false }, kinds := [], alts := [], laidByText := true, laidKinds := [.data, .pinned], laidTests := true, laidLooks := .later }
def InboxNilUptoCardSaid : Prop := Claim7.holds Tryz.pinned (.plain (OpenSpec.upto inboxNilSpec)) inboxNilUptoCard
end Rows
end Go.Proofs.YtkedgiklcmkmmaaGreatDoor
