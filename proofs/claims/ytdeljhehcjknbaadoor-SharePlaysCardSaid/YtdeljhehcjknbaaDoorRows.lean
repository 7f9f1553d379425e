/-
  NARROWER THAN 'FOR EVERY INPUT', by the rows' own cells (each row's printed sentence says how): ShareNeeds: laid · ShareFulls: laid · ShareHolds: laid · SharePlays: laid · ShareNone: laid.
  DERIVED. THE GIVEN ROWS OF THIS SEAT. 5 by the template 'for every input the law returns true; each argument reads behind the call as it read before'; 0 by the template 'total and deterministic' (their statements: YtdeljhehcjknbaaDoorTotals.lean).
  GIVEN WITH THE SEED: the statements are not yours to turn. If you find one false, say at which input.
  Laid BY PROGRAM, IN A SANDBOX (cutbox-rows.mjs): the forced cells as the released guide's own fill.sh prints them over the translation 5e27d3afd1b2c3af… (all of the seat's roots in one cut). By AI agents, Wed Nov 11 2026. No macro, syntax, notation, axiom, sorry.
-/
import Derived.Test.YtdeljhehcjknbaaDoorChecked
import GoSem.Claim
import GoSem.ClaimJoined
import GoSem.ClaimMapViews
import Derived.JoinedTies
import Derived.KernelRfl
namespace Go.Proofs.YtdeljhehcjknbaaDoor
/- THE CELL 'sum', in the pinned program and in every row, IS THE sha256 OF THE DUMP (.gsa) THAT YtdeljhehcjknbaaDoorProg.lean LOADS. Nothing in Lean hashes anything: it is a label: what it is worth is what the hold of that sum in a sandbox is worth. -/
noncomputable def Tryd.pinned : Pinned := { name := "ytdeljhehcjknbaadoor", sum := "5e27d3afd1b2c3afbb3d98e6a409a676ff1e395554093379df30724d183e5779", checked := Tryd.checked }
namespace Rows
def none {H : Type} : Left H := { results := [], args := [] }

/- WHAT THE LISTED PACKAGE-LEVEL VARIABLES READ AS WHEN THE CALL BEGINS. Each datum BY PROGRAM (the guide's laid-datum.mjs) off the statement by which the dump's own 'gosem.cut.vars' lays the variable. In a bare row this is a premise. The card (YtdeljhehcjknbaaDoorCards.lean) ties it to the program's text. -/
def laid_pannier_client_rows {H : Type} : DataW H := .agg [.agg [.lit (.string []), .lit (.string [])], .agg [.lit (.string [97, 100, 100]), .lit (.string [107, 113, 105])], .agg [.lit (.string [115, 101, 116]), .lit (.string [107, 113, 105])], .agg [.lit (.string [114, 101, 109, 111, 118, 101]), .lit (.string [107, 105])], .agg [.lit (.string [103, 101, 116]), .lit (.string [107])], .agg [.lit (.string [99, 108, 101, 97, 114]), .lit (.string [107])], .agg [.lit (.string [119, 105, 115, 104]), .lit (.string [107, 111, 105])], .agg [.lit (.string [108, 111, 103, 105, 110]), .lit (.string [107, 111])], .agg [.lit (.string [100, 101, 108, 105, 118, 101, 114]), .lit (.string [100])], .agg [.lit (.string [109, 101, 114, 103, 101]), .lit (.string [])], .agg [.lit (.string [100, 114, 97, 105, 110]), .lit (.string [])], .agg [.lit (.string [99, 108, 111, 115, 101]), .lit (.string [])]]

/-- 'pannierlaw47.ShareNeeds': WHATEVER THE INPUT: true; the input reads as it did. -/
def shareNeedsSpec : ChangeSpec := { name := "shareNeeds", fn := fun _ => fun
  | [d1, d2, d3, d4] => { results := [.lit (.bool true)], args := [d1, d2, d3, d4] }
  | _ => none }
def shareNeedsRow : OpenClaim := { program := "ytdeljhehcjknbaadoor", sum := "5e27d3afd1b2c3afbb3d98e6a409a676ff1e395554093379df30724d183e5779", func := "pannier/pannierlaw47.ShareNeeds", spec := "shareNeeds", inPlace := ["internal/bytealg.IndexByteString", "internal/bytealg.IndexString"], unfollowed := true, recurses := true, named := ["pannier/client.rows", "internal/bytealg.MaxLen"], apart := false, laid := [("pannier/client.rows", laid_pannier_client_rows)] }
def ShareNeedsSaid : Prop := shareNeedsRow.holds Tryd.pinned (OpenSpec.ofChange shareNeedsSpec)

/-- ITS FALSE NEIGHBOUR: 'it returns false'. Refute it at one input. -/
def shareNeedsWrong : ChangeSpec := { name := "shareNeeds", fn := fun _ => fun
  | [d1, d2, d3, d4] => { results := [.lit (.bool false)], args := [d1, d2, d3, d4] }
  | _ => none }
def ShareNeedsWrongFalsely : Prop := shareNeedsRow.holds Tryd.pinned (OpenSpec.ofChange shareNeedsWrong)

/-- 'pannierlaw47.ShareFulls': WHATEVER THE INPUT: true; the input reads as it did. -/
def shareFullsSpec : ChangeSpec := { name := "shareFulls", fn := fun _ => fun
  | [d1, d2, d3] => { results := [.lit (.bool true)], args := [d1, d2, d3] }
  | _ => none }
def shareFullsRow : OpenClaim := { program := "ytdeljhehcjknbaadoor", sum := "5e27d3afd1b2c3afbb3d98e6a409a676ff1e395554093379df30724d183e5779", func := "pannier/pannierlaw47.ShareFulls", spec := "shareFulls", inPlace := ["internal/bytealg.IndexByteString", "internal/bytealg.IndexString"], unfollowed := true, recurses := true, named := ["pannier/client.rows", "internal/bytealg.MaxLen"], apart := false, laid := [("pannier/client.rows", laid_pannier_client_rows)] }
def ShareFullsSaid : Prop := shareFullsRow.holds Tryd.pinned (OpenSpec.ofChange shareFullsSpec)

/-- ITS FALSE NEIGHBOUR: 'it returns false'. Refute it at one input. -/
def shareFullsWrong : ChangeSpec := { name := "shareFulls", fn := fun _ => fun
  | [d1, d2, d3] => { results := [.lit (.bool false)], args := [d1, d2, d3] }
  | _ => none }
def ShareFullsWrongFalsely : Prop := shareFullsRow.holds Tryd.pinned (OpenSpec.ofChange shareFullsWrong)

/-- 'pannierlaw47.ShareHolds': WHATEVER THE INPUT: true; the input reads as it did. -/
def shareHoldsSpec : ChangeSpec := { name := "shareHolds", fn := fun _ => fun
  | [d1, d2] => { results := [.lit (.bool true)], args := [d1, d2] }
  | _ => none }
def shareHoldsRow : OpenClaim := { program := "ytdeljhehcjknbaadoor", sum := "5e27d3afd1b2c3afbb3d98e6a409a676ff1e395554093379df30724d183e5779", func := "pannier/pannierlaw47.ShareHolds", spec := "shareHolds", inPlace := ["internal/bytealg.IndexByteString", "internal/bytealg.IndexString"], unfollowed := true, recurses := true, named := ["pannier/client.rows", "internal/bytealg.MaxLen"], apart := false, laid := [("pannier/client.rows", laid_pannier_client_rows)] }
def ShareHoldsSaid : Prop := shareHoldsRow.holds Tryd.pinned (OpenSpec.ofChange shareHoldsSpec)

/-- ITS FALSE NEIGHBOUR: 'it returns false'. Refute it at one input. -/
def shareHoldsWrong : ChangeSpec := { name := "shareHolds", fn := fun _ => fun
  | [d1, d2] => { results := [.lit (.bool false)], args := [d1, d2] }
  | _ => none }
def ShareHoldsWrongFalsely : Prop := shareHoldsRow.holds Tryd.pinned (OpenSpec.ofChange shareHoldsWrong)

/-- 'pannierlaw47.SharePlays': WHATEVER THE INPUT: true; the input reads as it did. -/
def sharePlaysSpec : ChangeSpec := { name := "sharePlays", fn := fun _ => fun
  | [d] => { results := [.lit (.bool true)], args := [d] }
  | _ => none }
def sharePlaysRow : OpenClaim := { program := "ytdeljhehcjknbaadoor", sum := "5e27d3afd1b2c3afbb3d98e6a409a676ff1e395554093379df30724d183e5779", func := "pannier/pannierlaw47.SharePlays", spec := "sharePlays", inPlace := ["internal/bytealg.IndexByteString", "internal/bytealg.IndexString", "maps.clone"], unfollowed := true, recurses := true, named := ["pannier/client.rows", "internal/bytealg.MaxLen"], apart := false, laid := [("pannier/client.rows", laid_pannier_client_rows)] }
def SharePlaysSaid : Prop := sharePlaysRow.holds Tryd.pinned (OpenSpec.ofChange sharePlaysSpec)

/-- ITS FALSE NEIGHBOUR: 'it returns false'. Refute it at one input. -/
def sharePlaysWrong : ChangeSpec := { name := "sharePlays", fn := fun _ => fun
  | [d] => { results := [.lit (.bool false)], args := [d] }
  | _ => none }
def SharePlaysWrongFalsely : Prop := sharePlaysRow.holds Tryd.pinned (OpenSpec.ofChange sharePlaysWrong)

/-- 'pannierlaw47.ShareNone': WHATEVER THE INPUT: true; the input reads as it did. -/
def shareNoneSpec : ChangeSpec := { name := "shareNone", fn := fun _ => fun
  | [d] => { results := [.lit (.bool true)], args := [d] }
  | _ => none }
def shareNoneRow : OpenClaim := { program := "ytdeljhehcjknbaadoor", sum := "5e27d3afd1b2c3afbb3d98e6a409a676ff1e395554093379df30724d183e5779", func := "pannier/pannierlaw47.ShareNone", spec := "shareNone", inPlace := ["internal/bytealg.IndexByteString", "internal/bytealg.IndexString", "maps.clone"], unfollowed := true, recurses := true, named := ["pannier/client.rows", "internal/bytealg.MaxLen"], apart := false, laid := [("pannier/client.rows", laid_pannier_client_rows)] }
def ShareNoneSaid : Prop := shareNoneRow.holds Tryd.pinned (OpenSpec.ofChange shareNoneSpec)

/-- ITS FALSE NEIGHBOUR: 'it returns false'. Refute it at one input. -/
def shareNoneWrong : ChangeSpec := { name := "shareNone", fn := fun _ => fun
  | [d] => { results := [.lit (.bool false)], args := [d] }
  | _ => none }
def ShareNoneWrongFalsely : Prop := shareNoneRow.holds Tryd.pinned (OpenSpec.ofChange shareNoneWrong)

/- THE SECOND FORM. 'bulk': how many values and letters a reading holds, each counted each time it is reached (what is shared counts as often as it is met; a slice's spare places count too). A statement '..UptoSaid' is the law's where the arguments, and the package variables that the reading takes, are together of bulk at most 1048576: NARROWER than '..Said'. Prove '..Said' where nothing that the law and all that it calls make is longer than what came in: it says more and counts as full. Else prove '..UptoSaid'. A law counts once. -/
mutual
def uptoBulk {H : Type} : DataW H → Nat
  | .lit (.string bytes) => bytes.length + 1
  | .lit _ => 1
  | .nil => 1
  | .ptr d => uptoBulk d + 1
  | .slice elems spare => uptoBulkAll elems + uptoBulkAll spare + 1
  | .agg parts => uptoBulkAll parts + 1
  | .iface _ d => uptoBulk d + 1
  | .map entries => uptoBulkEntries entries + 1
  | .held _ => 1
def uptoBulkAll {H : Type} : List (DataW H) → Nat
  | [] => 0
  | d :: r => uptoBulk d + uptoBulkAll r
def uptoBulkEntries {H : Type} : List (Lit × DataW H) → Nat
  | [] => 0
  | x :: r => uptoBulkEntry x + uptoBulkEntries r
def uptoBulkEntry {H : Type} : Lit × DataW H → Nat
  | (.string bytes, d) => bytes.length + uptoBulk d + 1
  | (_, d) => uptoBulk d + 1
 end
def uptoSmall : (H : Type) → List (DataW H) → Bool := fun _ ds => decide (uptoBulkAll ds ≤ 1048576)
def OpenSpec.upto (s : _root_.Go.ChangeSpec) : _root_.Go.OpenSpec := { _root_.Go.OpenSpec.ofChange s with cond := some uptoSmall }

/-- 'pannierlaw47.ShareNeeds', WHERE WHAT IT READS IS OF BULK AT MOST 1048576: true; the input reads as it did. -/
def shareNeedsUptoRow : OpenClaim := { program := "ytdeljhehcjknbaadoor", sum := "5e27d3afd1b2c3afbb3d98e6a409a676ff1e395554093379df30724d183e5779", func := "pannier/pannierlaw47.ShareNeeds", spec := "shareNeeds", inPlace := ["internal/bytealg.IndexByteString", "internal/bytealg.IndexString"], unfollowed := true, recurses := true, named := ["pannier/client.rows", "internal/bytealg.MaxLen"], apart := false, laid := [("pannier/client.rows", laid_pannier_client_rows)], narrowed := true }
def ShareNeedsUptoSaid : Prop := shareNeedsUptoRow.holds Tryd.pinned (OpenSpec.upto shareNeedsSpec)

/-- 'pannierlaw47.ShareFulls', WHERE WHAT IT READS IS OF BULK AT MOST 1048576: true; the input reads as it did. -/
def shareFullsUptoRow : OpenClaim := { program := "ytdeljhehcjknbaadoor", sum := "5e27d3afd1b2c3afbb3d98e6a409a676ff1e395554093379df30724d183e5779", func := "pannier/pannierlaw47.ShareFulls", spec := "shareFulls", inPlace := ["internal/bytealg.IndexByteString", "internal/bytealg.IndexString"], unfollowed := true, recurses := true, named := ["pannier/client.rows", "internal/bytealg.MaxLen"], apart := false, laid := [("pannier/client.rows", laid_pannier_client_rows)], narrowed := true }
def ShareFullsUptoSaid : Prop := shareFullsUptoRow.holds Tryd.pinned (OpenSpec.upto shareFullsSpec)

/-- 'pannierlaw47.ShareHolds', WHERE WHAT IT READS IS OF BULK AT MOST 1048576: true; the input reads as it did. -/
def shareHoldsUptoRow : OpenClaim := { program := "ytdeljhehcjknbaadoor", sum := "5e27d3afd1b2c3afbb3d98e6a409a676ff1e395554093379df30724d183e5779", func := "pannier/pannierlaw47.ShareHolds", spec := "shareHolds", inPlace := ["internal/bytealg.IndexByteString", "internal/bytealg.IndexString"], unfollowed := true, recurses := true, named := ["pannier/client.rows", "internal/bytealg.MaxLen"], apart := false, laid := [("pannier/client.rows", laid_pannier_client_rows)], narrowed := true }
def ShareHoldsUptoSaid : Prop := shareHoldsUptoRow.holds Tryd.pinned (OpenSpec.upto shareHoldsSpec)

/-- 'pannierlaw47.SharePlays', WHERE WHAT IT READS IS OF BULK AT MOST 1048576: true; the input reads as it did. -/
def sharePlaysUptoRow : OpenClaim := { program := "ytdeljhehcjknbaadoor", sum := "5e27d3afd1b2c3afbb3d98e6a409a676ff1e395554093379df30724d183e5779", func := "pannier/pannierlaw47.SharePlays", spec := "sharePlays", inPlace := ["internal/bytealg.IndexByteString", "internal/bytealg.IndexString", "maps.clone"], unfollowed := true, recurses := true, named := ["pannier/client.rows", "internal/bytealg.MaxLen"], apart := false, laid := [("pannier/client.rows", laid_pannier_client_rows)], narrowed := true }
def SharePlaysUptoSaid : Prop := sharePlaysUptoRow.holds Tryd.pinned (OpenSpec.upto sharePlaysSpec)

/-- 'pannierlaw47.ShareNone', WHERE WHAT IT READS IS OF BULK AT MOST 1048576: true; the input reads as it did. -/
def shareNoneUptoRow : OpenClaim := { program := "ytdeljhehcjknbaadoor", sum := "5e27d3afd1b2c3afbb3d98e6a409a676ff1e395554093379df30724d183e5779", func := "pannier/pannierlaw47.ShareNone", spec := "shareNone", inPlace := ["internal/bytealg.IndexByteString", "internal/bytealg.IndexString", "maps.clone"], unfollowed := true, recurses := true, named := ["pannier/client.rows", "internal/bytealg.MaxLen"], apart := false, laid := [("pannier/client.rows", laid_pannier_client_rows)], narrowed := true }
def ShareNoneUptoSaid : Prop := shareNoneUptoRow.holds Tryd.pinned (OpenSpec.upto shareNoneSpec)

end Rows
end Go.Proofs.YtdeljhehcjknbaaDoor
