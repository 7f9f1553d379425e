/-
  DERIVED. GIVEN WITH THE SEED: THE CARDS: each row of YtadbmineobldbaaGreatDoorRows.lean that lists a variable, with what it lists TIED to the program's text (the seventh form; the later family's looks); each row that meets fmt, with fmt's text TOLD by the authors' own Lean function (tested against real Go, not proved from fmt's source: count such statements apart). THE CARD IS WHAT COUNTS. Prove the row's statement (the work); the ties are given (YtadbmineobldbaaGreatDoorTie.lean); close each card by the builder's one call (the guide's Derived/Test/ToyasCard.lean, 'card_holds'). Laid BY PROGRAM, IN A SANDBOX (cutbox-door.mjs). By AI agents, Wed Nov 11 2026. No macro, syntax, notation, axiom, sorry.
-/
import Derived.Test.YtadbmineobldbaaGreatDoorRows
import GoSem.ClaimSeven
namespace Go.Proofs.YtadbmineobldbaaGreatDoor
namespace Rows

/-- THE TIED CARD OF 'pannierlaw10.CartCanons'. -/
def cartCanonsCard : Claim7 := { stood := { row := cartCanonsRow, standIns := [], harness := (true, "a0aaa63245531e7c4035aa954c54db3c81fe207caac17f58ea7084d375643162"), looks := false }, kinds := [], alts := [], laidByText := true, laidKinds := [.data, .pinned], laidTests := true, laidLooks := .later }
def CartCanonsCardSaid : Prop := Claim7.holds Tryz.pinned (.plain (OpenSpec.ofChange cartCanonsSpec)) cartCanonsCard

/-- THE TIED CARD OF 'pannierlaw10.CartLooks'. -/
def cartLooksCard : Claim7 := { stood := { row := cartLooksRow, standIns := [], harness := (true, "a0aaa63245531e7c4035aa954c54db3c81fe207caac17f58ea7084d375643162"), looks := false }, kinds := [], alts := [], laidByText := true, laidKinds := [.data, .pinned], laidTests := true, laidLooks := .later }
def CartLooksCardSaid : Prop := Claim7.holds Tryz.pinned (.plain (OpenSpec.ofChange cartLooksSpec)) cartLooksCard

/-- THE TIED CARD OF 'pannierlaw10.CartOrders'. -/
def cartOrdersCard : Claim7 := { stood := { row := cartOrdersRow, standIns := [], harness := (true, "a0aaa63245531e7c4035aa954c54db3c81fe207caac17f58ea7084d375643162"), looks := false }, kinds := [], alts := [], laidByText := true, laidKinds := [.data, .pinned], laidTests := true, laidLooks := .later }
def CartOrdersCardSaid : Prop := Claim7.holds Tryz.pinned (.plain (OpenSpec.ofChange cartOrdersSpec)) cartOrdersCard

/-- THE TIED CARD OF 'pannierlaw10.CartHolds'. -/
def cartHoldsCard : Claim7 := { stood := { row := cartHoldsRow, standIns := [], harness := (true, "a0aaa63245531e7c4035aa954c54db3c81fe207caac17f58ea7084d375643162"), looks := false }, kinds := [], alts := [], laidByText := true, laidKinds := [.data, .pinned], laidTests := true, laidLooks := .later }
def CartHoldsCardSaid : Prop := Claim7.holds Tryz.pinned (.plain (OpenSpec.ofChange cartHoldsSpec)) cartHoldsCard

/-- THE TIED CARD OF 'pannierlaw10.CartValid'. -/
def cartValidCard : Claim7 := { stood := { row := cartValidRow, standIns := [], harness := (true, "a0aaa63245531e7c4035aa954c54db3c81fe207caac17f58ea7084d375643162"), looks := false }, kinds := [], alts := [], laidByText := true, laidKinds := [.data, .pinned], laidTests := true, laidLooks := .later }
def CartValidCardSaid : Prop := Claim7.holds Tryz.pinned (.plain (OpenSpec.ofChange cartValidSpec)) cartValidCard

/-- THE SECOND FORM's CARD OF 'pannierlaw10.CartCanons'. -/
def cartCanonsUptoCard : Claim7 := { stood := { row := cartCanonsUptoRow, standIns := [], harness := (true, "a0aaa63245531e7c4035aa954c54db3c81fe207caac17f58ea7084d375643162"), looks := false }, kinds := [], alts := [], laidByText := true, laidKinds := [.data, .pinned], laidTests := true, laidLooks := .later }
def CartCanonsUptoCardSaid : Prop := Claim7.holds Tryz.pinned (.plain (OpenSpec.upto cartCanonsSpec)) cartCanonsUptoCard

/-- THE SECOND FORM's CARD OF 'pannierlaw10.CartLooks'. -/
def cartLooksUptoCard : Claim7 := { stood := { row := cartLooksUptoRow, standIns := [], harness := (true, "a0aaa63245531e7c4035aa954c54db3c81fe207caac17f58ea7084d375643162"), looks := false }, kinds := [], alts := [], laidByText := true, laidKinds := [.data, .pinned], laidTests := true, laidLooks := .later }
def CartLooksUptoCardSaid : Prop := Claim7.holds Tryz.pinned (.plain (OpenSpec.upto cartLooksSpec)) cartLooksUptoCard

/-- THE SECOND FORM's CARD OF 'pannierlaw10.CartOrders'. -/
def cartOrdersUptoCard : Claim7 := { stood := { row := cartOrdersUptoRow, standIns := [], harness := (true, "a0aaa63245531e7c4035aa954c54db3c81fe207caac17f58ea7084d375643162"), looks := false }, kinds := [], alts := [], laidByText := true, laidKinds := [.data, .pinned], laidTests := true, laidLooks := .later }
def CartOrdersUptoCardSaid : Prop := Claim7.holds Tryz.pinned (.plain (OpenSpec.upto cartOrdersSpec)) cartOrdersUptoCard

/-- THE SECOND FORM's CARD OF 'pannierlaw10.CartHolds'. -/
def cartHoldsUptoCard : Claim7 := { stood := { row := cartHoldsUptoRow, standIns := [], harness := (true, "a0aaa63245531e7c4035aa954c54db3c81fe207caac17f58ea7084d375643162"), looks := false }, kinds := [], alts := [], laidByText := true, laidKinds := [.data, .pinned], laidTests := true, laidLooks := .later }
def CartHoldsUptoCardSaid : Prop := Claim7.holds Tryz.pinned (.plain (OpenSpec.upto cartHoldsSpec)) cartHoldsUptoCard

/-- THE SECOND FORM's CARD OF 'pannierlaw10.CartValid'. -/
def cartValidUptoCard : Claim7 := { stood := { row := cartValidUptoRow, standIns := [], harness := (true, "a0aaa63245531e7c4035aa954c54db3c81fe207caac17f58ea7084d375643162"), looks := false }, kinds := [], alts := [], laidByText := true, laidKinds := [.data, .pinned], laidTests := true, laidLooks := .later }
def CartValidUptoCardSaid : Prop := Claim7.holds Tryz.pinned (.plain (OpenSpec.upto cartValidSpec)) cartValidUptoCard
end Rows
end Go.Proofs.YtadbmineobldbaaGreatDoor
