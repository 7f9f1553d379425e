/-
  DERIVED. GIVEN WITH THE SEED: THE CARDS: each row of YtdeljhehcjknbaaDoorRows.lean that lists a variable, with what it lists TIED to the program's text (the seventh form; the later family's looks); each row that meets fmt, with fmt's text TOLD by the authors' own Lean function (tested against real Go, not proved from fmt's source: count such statements apart). THE CARD IS WHAT COUNTS. Prove the row's statement (the work); the ties are given (YtdeljhehcjknbaaDoorTie.lean); close each card by the builder's one call (the guide's Derived/Test/ToyasCard.lean, 'card_holds'). Laid BY PROGRAM, IN A SANDBOX (cutbox-door.mjs). By AI agents, Wed Nov 11 2026. No macro, syntax, notation, axiom, sorry.
-/
import Derived.Test.YtdeljhehcjknbaaDoorRows
import GoSem.ClaimSeven
namespace Go.Proofs.YtdeljhehcjknbaaDoor
namespace Rows

/-- THE TIED CARD OF 'pannierlaw47.ShareNeeds'. -/
def shareNeedsCard : Claim7 := { stood := { row := shareNeedsRow, standIns := [], harness := (true, "78e134a13004f0cee526347152ed0ca177c9aa824a2dbb6d9be6083a705cef14"), looks := true }, kinds := [], alts := [], laidByText := true, laidKinds := [.data], laidTests := true, laidLooks := .later }
def ShareNeedsCardSaid : Prop := Claim7.holds Tryd.pinned (.plain (OpenSpec.ofChange shareNeedsSpec)) shareNeedsCard

/-- THE TIED CARD OF 'pannierlaw47.ShareFulls'. -/
def shareFullsCard : Claim7 := { stood := { row := shareFullsRow, standIns := [], harness := (true, "78e134a13004f0cee526347152ed0ca177c9aa824a2dbb6d9be6083a705cef14"), looks := true }, kinds := [], alts := [], laidByText := true, laidKinds := [.data], laidTests := true, laidLooks := .later }
def ShareFullsCardSaid : Prop := Claim7.holds Tryd.pinned (.plain (OpenSpec.ofChange shareFullsSpec)) shareFullsCard

/-- THE TIED CARD OF 'pannierlaw47.ShareHolds'. -/
def shareHoldsCard : Claim7 := { stood := { row := shareHoldsRow, standIns := [], harness := (true, "78e134a13004f0cee526347152ed0ca177c9aa824a2dbb6d9be6083a705cef14"), looks := true }, kinds := [], alts := [], laidByText := true, laidKinds := [.data], laidTests := true, laidLooks := .later }
def ShareHoldsCardSaid : Prop := Claim7.holds Tryd.pinned (.plain (OpenSpec.ofChange shareHoldsSpec)) shareHoldsCard

/-- THE TIED CARD OF 'pannierlaw47.SharePlays'. -/
def sharePlaysCard : Claim7 := { stood := { row := sharePlaysRow, standIns := [], harness := (true, "78e134a13004f0cee526347152ed0ca177c9aa824a2dbb6d9be6083a705cef14"), looks := true }, kinds := [], alts := [], laidByText := true, laidKinds := [.data], laidTests := true, laidLooks := .later }
def SharePlaysCardSaid : Prop := Claim7.holds Tryd.pinned (.plain (OpenSpec.ofChange sharePlaysSpec)) sharePlaysCard

/-- THE TIED CARD OF 'pannierlaw47.ShareNone'. -/
def shareNoneCard : Claim7 := { stood := { row := shareNoneRow, standIns := [], harness := (true, "78e134a13004f0cee526347152ed0ca177c9aa824a2dbb6d9be6083a705cef14"), looks := true }, kinds := [], alts := [], laidByText := true, laidKinds := [.data], laidTests := true, laidLooks := .later }
def ShareNoneCardSaid : Prop := Claim7.holds Tryd.pinned (.plain (OpenSpec.ofChange shareNoneSpec)) shareNoneCard

/-- THE SECOND FORM's CARD OF 'pannierlaw47.ShareNeeds'. -/
def shareNeedsUptoCard : Claim7 := { stood := { row := shareNeedsUptoRow, standIns := [], harness := (true, "78e134a13004f0cee526347152ed0ca177c9aa824a2dbb6d9be6083a705cef14"), looks := true }, kinds := [], alts := [], laidByText := true, laidKinds := [.data], laidTests := true, laidLooks := .later }
def ShareNeedsUptoCardSaid : Prop := Claim7.holds Tryd.pinned (.plain (OpenSpec.upto shareNeedsSpec)) shareNeedsUptoCard

/-- THE SECOND FORM's CARD OF 'pannierlaw47.ShareFulls'. -/
def shareFullsUptoCard : Claim7 := { stood := { row := shareFullsUptoRow, standIns := [], harness := (true, "78e134a13004f0cee526347152ed0ca177c9aa824a2dbb6d9be6083a705cef14"), looks := true }, kinds := [], alts := [], laidByText := true, laidKinds := [.data], laidTests := true, laidLooks := .later }
def ShareFullsUptoCardSaid : Prop := Claim7.holds Tryd.pinned (.plain (OpenSpec.upto shareFullsSpec)) shareFullsUptoCard

/-- THE SECOND FORM's CARD OF 'pannierlaw47.ShareHolds'. -/
def shareHoldsUptoCard : Claim7 := { stood := { row := shareHoldsUptoRow, standIns := [], harness := (true, "78e134a13004f0cee526347152ed0ca177c9aa824a2dbb6d9be6083a705cef14"), looks := true }, kinds := [], alts := [], laidByText := true, laidKinds := [.data], laidTests := true, laidLooks := .later }
def ShareHoldsUptoCardSaid : Prop := Claim7.holds Tryd.pinned (.plain (OpenSpec.upto shareHoldsSpec)) shareHoldsUptoCard

/-- THE SECOND FORM's CARD OF 'pannierlaw47.SharePlays'. -/
def sharePlaysUptoCard : Claim7 := { stood := { row := sharePlaysUptoRow, standIns := [], harness := (true, "78e134a13004f0cee526347152ed0ca177c9aa824a2dbb6d9be6083a705cef14"), looks := true }, kinds := [], alts := [], laidByText := true, laidKinds := [.data], laidTests := true, laidLooks := .later }
def SharePlaysUptoCardSaid : Prop := Claim7.holds Tryd.pinned (.plain (OpenSpec.upto sharePlaysSpec)) sharePlaysUptoCard

/-- THE SECOND FORM's CARD OF 'pannierlaw47.ShareNone'. -/
def shareNoneUptoCard : Claim7 := { stood := { row := shareNoneUptoRow, standIns := [], harness := (true, "78e134a13004f0cee526347152ed0ca177c9aa824a2dbb6d9be6083a705cef14"), looks := true }, kinds := [], alts := [], laidByText := true, laidKinds := [.data], laidTests := true, laidLooks := .later }
def ShareNoneUptoCardSaid : Prop := Claim7.holds Tryd.pinned (.plain (OpenSpec.upto shareNoneSpec)) shareNoneUptoCard
end Rows
end Go.Proofs.YtdeljhehcjknbaaDoor
