/-
  DERIVED. GIVEN WITH THE SEED: THE CARDS: each row of YtfnfbcaoihhbpaaGreatDoorRows.lean that lists a variable, with what it lists TIED to the program's text (the seventh form; the later family's looks); each row that meets fmt, with fmt's text TOLD by the authors' own Lean function (tested against real Go, not proved from fmt's source: count such statements apart). THE CARD IS WHAT COUNTS. Prove the row's statement (the work); the ties are given (YtfnfbcaoihhbpaaGreatDoorTie.lean); close each card by the builder's one call (the guide's Derived/Test/ToyasCard.lean, 'card_holds'). Laid BY PROGRAM, IN A SANDBOX (cutbox-door.mjs). By AI agents, Wed Nov 11 2026. No macro, syntax, notation, axiom, sorry.
-/
import Derived.Test.YtfnfbcaoihhbpaaGreatDoorRows
import GoSem.ClaimSeven
namespace Go.Proofs.YtfnfbcaoihhbpaaGreatDoor
namespace Rows

/-- THE TIED CARD OF 'pannierlaw12.DeltaPuts'. -/
def deltaPutsCard : Claim7 := { stood := { row := deltaPutsRow, standIns := [], harness := (true, "cd1c13fc0bcde5ba4dc2715fecb406e05b72b6822b404b9999f3915b89c65538"), looks := false }, kinds := [], alts := [], laidByText := true, laidKinds := [.data, .pinned], laidTests := true, laidLooks := .later }
def DeltaPutsCardSaid : Prop := Claim7.holds Tryz.pinned (.plain (OpenSpec.ofChange deltaPutsSpec)) deltaPutsCard

/-- THE TIED CARD OF 'pannierlaw12.DeltaRemoves'. -/
def deltaRemovesCard : Claim7 := { stood := { row := deltaRemovesRow, standIns := [], harness := (true, "cd1c13fc0bcde5ba4dc2715fecb406e05b72b6822b404b9999f3915b89c65538"), looks := false }, kinds := [], alts := [], laidByText := true, laidKinds := [.data, .pinned], laidTests := true, laidLooks := .later }
def DeltaRemovesCardSaid : Prop := Claim7.holds Tryz.pinned (.plain (OpenSpec.ofChange deltaRemovesSpec)) deltaRemovesCard

/-- THE TIED CARD OF 'pannierlaw12.DeltaMany'. -/
def deltaManyCard : Claim7 := { stood := { row := deltaManyRow, standIns := [], harness := (true, "cd1c13fc0bcde5ba4dc2715fecb406e05b72b6822b404b9999f3915b89c65538"), looks := false }, kinds := [], alts := [], laidByText := true, laidKinds := [.data, .pinned], laidTests := true, laidLooks := .later }
def DeltaManyCardSaid : Prop := Claim7.holds Tryz.pinned (.plain (OpenSpec.ofChange deltaManySpec)) deltaManyCard

/-- THE TIED CARD OF 'pannierlaw12.DeltaTimes'. -/
def deltaTimesCard : Claim7 := { stood := { row := deltaTimesRow, standIns := [], harness := (true, "cd1c13fc0bcde5ba4dc2715fecb406e05b72b6822b404b9999f3915b89c65538"), looks := false }, kinds := [], alts := [], laidByText := true, laidKinds := [.data, .pinned], laidTests := true, laidLooks := .later }
def DeltaTimesCardSaid : Prop := Claim7.holds Tryz.pinned (.plain (OpenSpec.ofChange deltaTimesSpec)) deltaTimesCard

/-- THE TIED CARD OF 'pannierlaw12.DeltaTwo'. -/
def deltaTwoCard : Claim7 := { stood := { row := deltaTwoRow, standIns := [], harness := (true, "cd1c13fc0bcde5ba4dc2715fecb406e05b72b6822b404b9999f3915b89c65538"), looks := false }, kinds := [], alts := [], laidByText := true, laidKinds := [.data, .pinned], laidTests := true, laidLooks := .later }
def DeltaTwoCardSaid : Prop := Claim7.holds Tryz.pinned (.plain (OpenSpec.ofChange deltaTwoSpec)) deltaTwoCard

/-- THE TIED CARD OF 'pannierlaw12.DeltaHolds'. -/
def deltaHoldsCard : Claim7 := { stood := { row := deltaHoldsRow, standIns := [], harness := (true, "cd1c13fc0bcde5ba4dc2715fecb406e05b72b6822b404b9999f3915b89c65538"), looks := false }, kinds := [], alts := [], laidByText := true, laidKinds := [.data, .pinned], laidTests := true, laidLooks := .later }
def DeltaHoldsCardSaid : Prop := Claim7.holds Tryz.pinned (.plain (OpenSpec.ofChange deltaHoldsSpec)) deltaHoldsCard

/-- THE SECOND FORM's CARD OF 'pannierlaw12.DeltaPuts'. -/
def deltaPutsUptoCard : Claim7 := { stood := { row := deltaPutsUptoRow, standIns := [], harness := (true, "cd1c13fc0bcde5ba4dc2715fecb406e05b72b6822b404b9999f3915b89c65538"), looks := false }, kinds := [], alts := [], laidByText := true, laidKinds := [.data, .pinned], laidTests := true, laidLooks := .later }
def DeltaPutsUptoCardSaid : Prop := Claim7.holds Tryz.pinned (.plain (OpenSpec.upto deltaPutsSpec)) deltaPutsUptoCard

/-- THE SECOND FORM's CARD OF 'pannierlaw12.DeltaRemoves'. -/
def deltaRemovesUptoCard : Claim7 := { stood := { row := deltaRemovesUptoRow, standIns := [], harness := (true, "cd1c13fc0bcde5ba4dc2715fecb406e05b72b6822b404b9999f3915b89c65538"), looks := false }, kinds := [], alts := [], laidByText := true, laidKinds := [.data, .pinned], laidTests := true, laidLooks := .later }
def DeltaRemovesUptoCardSaid : Prop := Claim7.holds Tryz.pinned (.plain (OpenSpec.upto deltaRemovesSpec)) deltaRemovesUptoCard

/-- THE SECOND FORM's CARD OF 'pannierlaw12.DeltaMany'. -/
def deltaManyUptoCard : Claim7 := { stood := { row := deltaManyUptoRow, standIns := [], harness := (true, "cd1c13fc0bcde5ba4dc2715fecb406e05b72b6822b404b9999f3915b89c65538"), looks := false }, kinds := [], alts := [], laidByText := true, laidKinds := [.data, .pinned], laidTests := true, laidLooks := .later }
def DeltaManyUptoCardSaid : Prop := Claim7.holds Tryz.pinned (.plain (OpenSpec.upto deltaManySpec)) deltaManyUptoCard

/-- THE SECOND FORM's CARD OF 'pannierlaw12.DeltaTimes'. -/
def deltaTimesUptoCard : Claim7 := { stood := { row := deltaTimesUptoRow, standIns := [], harness := (true, "cd1c13fc0bcde5ba4dc2715fecb406e05b72b6822b404b9999f3915b89c65538"), looks := false }, kinds := [], alts := [], laidByText := true, laidKinds := [.data, .pinned], laidTests := true, laidLooks := .later }
def DeltaTimesUptoCardSaid : Prop := Claim7.holds Tryz.pinned (.plain (OpenSpec.upto deltaTimesSpec)) deltaTimesUptoCard

/-- THE SECOND FORM's CARD OF 'pannierlaw12.DeltaTwo'. -/
def deltaTwoUptoCard : Claim7 := { stood := { row := deltaTwoUptoRow, standIns := [], harness := (true, "cd1c13fc0bcde5ba4dc2715fecb406e05b72b6822b404b9999f3915b89c65538"), looks := false }, kinds := [], alts := [], laidByText := true, laidKinds := [.data, .pinned], laidTests := true, laidLooks := .later }
def DeltaTwoUptoCardSaid : Prop := Claim7.holds Tryz.pinned (.plain (OpenSpec.upto deltaTwoSpec)) deltaTwoUptoCard

/-- THE SECOND FORM's CARD OF 'pannierlaw12.DeltaHolds'. -/
def deltaHoldsUptoCard : Claim7 := { stood := { row := deltaHoldsUptoRow, standIns := [], harness := (true, "cd1c13fc0bcde5ba4dc2715fecb406e05b72b6822b404b9999f3915b89c65538"), looks := false }, kinds := [], alts := [], laidByText := true, laidKinds := [.data, .pinned], laidTests := true, laidLooks := .later }
def DeltaHoldsUptoCardSaid : Prop := Claim7.holds Tryz.pinned (.plain (OpenSpec.upto deltaHoldsSpec)) deltaHoldsUptoCard
end Rows
end Go.Proofs.YtfnfbcaoihhbpaaGreatDoor
