/-
  DERIVED. GIVEN WITH THE SEED: THE CARDS: each row of YtjoljfnlkddfbaaGreatDoorRows.lean that lists a variable, with what it lists TIED to the program's text (the seventh form; the later family's looks); each row that meets fmt, with fmt's text TOLD by the authors' own Lean function (tested against real Go, not proved from fmt's source: count such statements apart). THE CARD IS WHAT COUNTS. Prove the row's statement (the work); the ties are given (YtjoljfnlkddfbaaGreatDoorTie.lean); close each card by the builder's one call (the guide's Derived/Test/ToyasCard.lean, 'card_holds'). Laid BY PROGRAM, IN A SANDBOX (cutbox-door.mjs). By AI agents, Wed Nov 11 2026. No macro, syntax, notation, axiom, sorry.
-/
import Derived.Test.YtjoljfnlkddfbaaGreatDoorRows
import GoSem.ClaimSeven
namespace Go.Proofs.YtjoljfnlkddfbaaGreatDoor
namespace Rows

/-- THE TIED CARD OF 'pannierlaw22.MoveSums'. -/
def moveSumsCard : Claim7 := { stood := { row := moveSumsRow, standIns := [], harness := (true, "bb7fb516c5dfda7ecbf59c13c021711e2f8d45b9ed0abe81fc6d001be5361edd"), looks := false }, kinds := [], alts := [], laidByText := true, laidKinds := [.data, .pinned], laidTests := true, laidLooks := .later }
def MoveSumsCardSaid : Prop := Claim7.holds Tryz.pinned (.plain (OpenSpec.ofChange moveSumsSpec)) moveSumsCard

/-- THE TIED CARD OF 'pannierlaw22.MoveWishes'. -/
def moveWishesCard : Claim7 := { stood := { row := moveWishesRow, standIns := [], harness := (true, "bb7fb516c5dfda7ecbf59c13c021711e2f8d45b9ed0abe81fc6d001be5361edd"), looks := false }, kinds := [], alts := [], laidByText := true, laidKinds := [.data, .pinned], laidTests := true, laidLooks := .later }
def MoveWishesCardSaid : Prop := Claim7.holds Tryz.pinned (.plain (OpenSpec.ofChange moveWishesSpec)) moveWishesCard

/-- THE TIED CARD OF 'pannierlaw22.MoveLogins'. -/
def moveLoginsCard : Claim7 := { stood := { row := moveLoginsRow, standIns := [], harness := (true, "bb7fb516c5dfda7ecbf59c13c021711e2f8d45b9ed0abe81fc6d001be5361edd"), looks := false }, kinds := [], alts := [], laidByText := true, laidKinds := [.data, .pinned], laidTests := true, laidLooks := .later }
def MoveLoginsCardSaid : Prop := Claim7.holds Tryz.pinned (.plain (OpenSpec.ofChange moveLoginsSpec)) moveLoginsCard

/-- THE TIED CARD OF 'pannierlaw22.MoveMany'. -/
def moveManyCard : Claim7 := { stood := { row := moveManyRow, standIns := [], harness := (true, "bb7fb516c5dfda7ecbf59c13c021711e2f8d45b9ed0abe81fc6d001be5361edd"), looks := false }, kinds := [], alts := [], laidByText := true, laidKinds := [.data, .pinned], laidTests := true, laidLooks := .later }
def MoveManyCardSaid : Prop := Claim7.holds Tryz.pinned (.plain (OpenSpec.ofChange moveManySpec)) moveManyCard

/-- THE TIED CARD OF 'pannierlaw22.MoveHolds'. -/
def moveHoldsCard : Claim7 := { stood := { row := moveHoldsRow, standIns := [], harness := (true, "bb7fb516c5dfda7ecbf59c13c021711e2f8d45b9ed0abe81fc6d001be5361edd"), looks := false }, kinds := [], alts := [], laidByText := true, laidKinds := [.data, .pinned], laidTests := true, laidLooks := .later }
def MoveHoldsCardSaid : Prop := Claim7.holds Tryz.pinned (.plain (OpenSpec.ofChange moveHoldsSpec)) moveHoldsCard

/-- THE SECOND FORM's CARD OF 'pannierlaw22.MoveSums'. -/
def moveSumsUptoCard : Claim7 := { stood := { row := moveSumsUptoRow, standIns := [], harness := (true, "bb7fb516c5dfda7ecbf59c13c021711e2f8d45b9ed0abe81fc6d001be5361edd"), looks := false }, kinds := [], alts := [], laidByText := true, laidKinds := [.data, .pinned], laidTests := true, laidLooks := .later }
def MoveSumsUptoCardSaid : Prop := Claim7.holds Tryz.pinned (.plain (OpenSpec.upto moveSumsSpec)) moveSumsUptoCard

/-- THE SECOND FORM's CARD OF 'pannierlaw22.MoveWishes'. -/
def moveWishesUptoCard : Claim7 := { stood := { row := moveWishesUptoRow, standIns := [], harness := (true, "bb7fb516c5dfda7ecbf59c13c021711e2f8d45b9ed0abe81fc6d001be5361edd"), looks := false }, kinds := [], alts := [], laidByText := true, laidKinds := [.data, .pinned], laidTests := true, laidLooks := .later }
def MoveWishesUptoCardSaid : Prop := Claim7.holds Tryz.pinned (.plain (OpenSpec.upto moveWishesSpec)) moveWishesUptoCard

/-- THE SECOND FORM's CARD OF 'pannierlaw22.MoveLogins'. -/
def moveLoginsUptoCard : Claim7 := { stood := { row := moveLoginsUptoRow, standIns := [], harness := (true, "bb7fb516c5dfda7ecbf59c13c021711e2f8d45b9ed0abe81fc6d001be5361edd"), looks := false }, kinds := [], alts := [], laidByText := true, laidKinds := [.data, .pinned], laidTests := true, laidLooks := .later }
def MoveLoginsUptoCardSaid : Prop := Claim7.holds Tryz.pinned (.plain (OpenSpec.upto moveLoginsSpec)) moveLoginsUptoCard

/-- THE SECOND FORM's CARD OF 'pannierlaw22.MoveMany'. -/
def moveManyUptoCard : Claim7 := { stood := { row := moveManyUptoRow, standIns := [], harness := (true, "bb7fb516c5dfda7ecbf59c13c021711e2f8d45b9ed0abe81fc6d001be5361edd"), looks := false }, kinds := [], alts := [], laidByText := true, laidKinds := [.data, .pinned], laidTests := true, laidLooks := .later }
def MoveManyUptoCardSaid : Prop := Claim7.holds Tryz.pinned (.plain (OpenSpec.upto moveManySpec)) moveManyUptoCard

/-- THE SECOND FORM's CARD OF 'pannierlaw22.MoveHolds'. -/
def moveHoldsUptoCard : Claim7 := { stood := { row := moveHoldsUptoRow, standIns := [], harness := (true, "bb7fb516c5dfda7ecbf59c13c021711e2f8d45b9ed0abe81fc6d001be5361edd"), looks := false }, kinds := [], alts := [], laidByText := true, laidKinds := [.data, .pinned], laidTests := true, laidLooks := .later }
def MoveHoldsUptoCardSaid : Prop := Claim7.holds Tryz.pinned (.plain (OpenSpec.upto moveHoldsSpec)) moveHoldsUptoCard
end Rows
end Go.Proofs.YtjoljfnlkddfbaaGreatDoor
