/-
  DERIVED. GIVEN WITH THE SEED: THE CARDS: each row of YtemfaojmelljpaaGreatDoorRows.lean that lists a variable, with what it lists TIED to the program's text (the seventh form; the later family's looks); each row that meets fmt, with fmt's text TOLD by the authors' own Lean function (tested against real Go, not proved from fmt's source: count such statements apart). THE CARD IS WHAT COUNTS. Prove the row's statement (the work); the ties are given (YtemfaojmelljpaaGreatDoorTie.lean); close each card by the builder's one call (the guide's Derived/Test/ToyasCard.lean, 'card_holds'). Laid BY PROGRAM, IN A SANDBOX (cutbox-door.mjs). By AI agents, Wed Nov 11 2026. No macro, syntax, notation, axiom, sorry.
-/
import Derived.Test.YtemfaojmelljpaaGreatDoorRows
import GoSem.ClaimSeven
namespace Go.Proofs.YtemfaojmelljpaaGreatDoor
namespace Rows

/-- THE TIED CARD OF 'pannierlaw11.JoinJoins'. -/
def joinJoinsCard : Claim7 := { stood := { row := joinJoinsRow, standIns := [], harness := (true, "3682446d8efa8aab335c57342adcd7b1d134ec32d3d78d27199a85a34cfce49b"), looks := false }, kinds := [], alts := [], laidByText := true, laidKinds := [.data, .pinned], laidTests := true, laidLooks := .later }
def JoinJoinsCardSaid : Prop := Claim7.holds Tryz.pinned (.plain (OpenSpec.ofChange joinJoinsSpec)) joinJoinsCard

/-- THE TIED CARD OF 'pannierlaw11.JoinAlls'. -/
def joinAllsCard : Claim7 := { stood := { row := joinAllsRow, standIns := [], harness := (true, "3682446d8efa8aab335c57342adcd7b1d134ec32d3d78d27199a85a34cfce49b"), looks := false }, kinds := [], alts := [], laidByText := true, laidKinds := [.data, .pinned], laidTests := true, laidLooks := .later }
def JoinAllsCardSaid : Prop := Claim7.holds Tryz.pinned (.plain (OpenSpec.ofChange joinAllsSpec)) joinAllsCard

/-- THE TIED CARD OF 'pannierlaw11.JoinWithin'. -/
def joinWithinCard : Claim7 := { stood := { row := joinWithinRow, standIns := [], harness := (true, "3682446d8efa8aab335c57342adcd7b1d134ec32d3d78d27199a85a34cfce49b"), looks := false }, kinds := [], alts := [], laidByText := true, laidKinds := [.data, .pinned], laidTests := true, laidLooks := .later }
def JoinWithinCardSaid : Prop := Claim7.holds Tryz.pinned (.plain (OpenSpec.ofChange joinWithinSpec)) joinWithinCard

/-- THE TIED CARD OF 'pannierlaw11.JoinGroups'. -/
def joinGroupsCard : Claim7 := { stood := { row := joinGroupsRow, standIns := [], harness := (true, "3682446d8efa8aab335c57342adcd7b1d134ec32d3d78d27199a85a34cfce49b"), looks := false }, kinds := [], alts := [], laidByText := true, laidKinds := [.data, .pinned], laidTests := true, laidLooks := .later }
def JoinGroupsCardSaid : Prop := Claim7.holds Tryz.pinned (.plain (OpenSpec.ofChange joinGroupsSpec)) joinGroupsCard

/-- THE TIED CARD OF 'pannierlaw11.JoinHolds'. -/
def joinHoldsCard : Claim7 := { stood := { row := joinHoldsRow, standIns := [], harness := (true, "3682446d8efa8aab335c57342adcd7b1d134ec32d3d78d27199a85a34cfce49b"), looks := false }, kinds := [], alts := [], laidByText := true, laidKinds := [.data, .pinned], laidTests := true, laidLooks := .later }
def JoinHoldsCardSaid : Prop := Claim7.holds Tryz.pinned (.plain (OpenSpec.ofChange joinHoldsSpec)) joinHoldsCard

/-- THE SECOND FORM's CARD OF 'pannierlaw11.JoinJoins'. -/
def joinJoinsUptoCard : Claim7 := { stood := { row := joinJoinsUptoRow, standIns := [], harness := (true, "3682446d8efa8aab335c57342adcd7b1d134ec32d3d78d27199a85a34cfce49b"), looks := false }, kinds := [], alts := [], laidByText := true, laidKinds := [.data, .pinned], laidTests := true, laidLooks := .later }
def JoinJoinsUptoCardSaid : Prop := Claim7.holds Tryz.pinned (.plain (OpenSpec.upto joinJoinsSpec)) joinJoinsUptoCard

/-- THE SECOND FORM's CARD OF 'pannierlaw11.JoinAlls'. -/
def joinAllsUptoCard : Claim7 := { stood := { row := joinAllsUptoRow, standIns := [], harness := (true, "3682446d8efa8aab335c57342adcd7b1d134ec32d3d78d27199a85a34cfce49b"), looks := false }, kinds := [], alts := [], laidByText := true, laidKinds := [.data, .pinned], laidTests := true, laidLooks := .later }
def JoinAllsUptoCardSaid : Prop := Claim7.holds Tryz.pinned (.plain (OpenSpec.upto joinAllsSpec)) joinAllsUptoCard

/-- THE SECOND FORM's CARD OF 'pannierlaw11.JoinWithin'. -/
def joinWithinUptoCard : Claim7 := { stood := { row := joinWithinUptoRow, standIns := [], harness := (true, "3682446d8efa8aab335c57342adcd7b1d134ec32d3d78d27199a85a34cfce49b"), looks := false }, kinds := [], alts := [], laidByText := true, laidKinds := [.data, .pinned], laidTests := true, laidLooks := .later }
def JoinWithinUptoCardSaid : Prop := Claim7.holds Tryz.pinned (.plain (OpenSpec.upto joinWithinSpec)) joinWithinUptoCard

/-- THE SECOND FORM's CARD OF 'pannierlaw11.JoinGroups'. -/
def joinGroupsUptoCard : Claim7 := { stood := { row := joinGroupsUptoRow, standIns := [], harness := (true, "3682446d8efa8aab335c57342adcd7b1d134ec32d3d78d27199a85a34cfce49b"), looks := false }, kinds := [], alts := [], laidByText := true, laidKinds := [.data, .pinned], laidTests := true, laidLooks := .later }
def JoinGroupsUptoCardSaid : Prop := Claim7.holds Tryz.pinned (.plain (OpenSpec.upto joinGroupsSpec)) joinGroupsUptoCard

/-- THE SECOND FORM's CARD OF 'pannierlaw11.JoinHolds'. -/
def joinHoldsUptoCard : Claim7 := { stood := { row := joinHoldsUptoRow, standIns := [], harness := (true, "3682446d8efa8aab335c57342adcd7b1d134ec32d3d78d27199a85a34cfce49b"), looks := false }, kinds := [], alts := [], laidByText := true, laidKinds := [.data, .pinned], laidTests := true, laidLooks := .later }
def JoinHoldsUptoCardSaid : Prop := Claim7.holds Tryz.pinned (.plain (OpenSpec.upto joinHoldsSpec)) joinHoldsUptoCard
end Rows
end Go.Proofs.YtemfaojmelljpaaGreatDoor
