/-
  NARROWER THAN 'FOR EVERY INPUT', by the rows' own cells (each row's printed sentence says how): MoveSums: laid · MoveWishes: laid · MoveLogins: laid · MoveMany: laid · MoveHolds: laid.
  DERIVED. THE GIVEN ROWS OF THIS SEAT. 5 by the template 'for every input the law returns true; each argument reads behind the call as it read before'; 0 by the template 'total and deterministic' (their statements: YtjoljfnlkddfbaaGreatDoorTotals.lean).
  GIVEN WITH THE SEED: the statements are not yours to turn. If you find one false, say at which input.
  Laid BY PROGRAM, IN A SANDBOX (cutbox-rows.mjs): the forced cells as the released guide's own fill.sh prints them over the translation 8d27dae2da2e8cd9… (all of the seat's roots in one cut). By AI agents, Wed Nov 11 2026. No macro, syntax, notation, axiom, sorry.
-/
import Derived.Test.YtjoljfnlkddfbaaGreatDoorChecked
import GoSem.PinnedTables
import GoSem.Claim
import GoSem.ClaimJoined
import GoSem.ClaimMapViews
import Derived.JoinedTies
import Derived.KernelRfl
namespace Go.Proofs.YtjoljfnlkddfbaaGreatDoor
/- THE CELL 'sum', in the pinned program and in every row, IS THE sha256 OF THE DUMP (.gsa) THAT YtjoljfnlkddfbaaGreatDoorProg.lean LOADS. Nothing in Lean hashes anything: it is a label: what it is worth is what the hold of that sum in a sandbox is worth. -/
noncomputable def Tryz.pinned : Pinned := { name := "ytjoljfnlkddfbaagreatdoor", sum := "8d27dae2da2e8cd9e122d08adf0cbc3f39bdabae59c238273a0a42c6950f8df8", checked := Tryz.checked }
namespace Rows
def none {H : Type} : Left H := { results := [], args := [] }

/- WHAT THE LISTED PACKAGE-LEVEL VARIABLES READ AS WHEN THE CALL BEGINS. Each datum BY PROGRAM (the guide's laid-datum.mjs) off the statement by which the dump's own 'gosem.cut.vars' lays the variable. In a bare row this is a premise. The card (YtjoljfnlkddfbaaGreatDoorCards.lean) ties it to the program's text. -/
def laid_unicode_utf8_acceptRanges {H : Type} : DataW H := .agg [.agg [.lit (.int .u8 128), .lit (.int .u8 191)], .agg [.lit (.int .u8 160), .lit (.int .u8 191)], .agg [.lit (.int .u8 128), .lit (.int .u8 159)], .agg [.lit (.int .u8 144), .lit (.int .u8 191)], .agg [.lit (.int .u8 128), .lit (.int .u8 143)], .agg [.lit (.int .u8 0), .lit (.int .u8 0)], .agg [.lit (.int .u8 0), .lit (.int .u8 0)], .agg [.lit (.int .u8 0), .lit (.int .u8 0)], .agg [.lit (.int .u8 0), .lit (.int .u8 0)], .agg [.lit (.int .u8 0), .lit (.int .u8 0)], .agg [.lit (.int .u8 0), .lit (.int .u8 0)], .agg [.lit (.int .u8 0), .lit (.int .u8 0)], .agg [.lit (.int .u8 0), .lit (.int .u8 0)], .agg [.lit (.int .u8 0), .lit (.int .u8 0)], .agg [.lit (.int .u8 0), .lit (.int .u8 0)], .agg [.lit (.int .u8 0), .lit (.int .u8 0)]]
/-- One of Go's own tables, pinned by name: the form's constant. -/
def laid_unicode_utf8_first : DataW Unit := Go.Pinned.utf8First

/-- 'pannierlaw22.MoveSums': WHATEVER THE INPUT: true; the input reads as it did. -/
def moveSumsSpec : ChangeSpec := { name := "moveSums", fn := fun _ => fun
  | [d1, d2, d3, d4] => { results := [.lit (.bool true)], args := [d1, d2, d3, d4] }
  | _ => none }
def moveSumsRow : OpenClaim := { program := "ytjoljfnlkddfbaagreatdoor", sum := "8d27dae2da2e8cd9e122d08adf0cbc3f39bdabae59c238273a0a42c6950f8df8", func := "pannier/pannierlaw22.MoveSums", spec := "moveSums", inPlace := ["internal/bytealg.IndexByteString", "internal/bytealg.IndexString"], unfollowed := true, recurses := true, named := ["unicode/utf8.first", "unicode/utf8.acceptRanges", "internal/bytealg.MaxLen"], apart := false, laid := [("unicode/utf8.acceptRanges", laid_unicode_utf8_acceptRanges), ("unicode/utf8.first", laid_unicode_utf8_first)] }
def MoveSumsSaid : Prop := moveSumsRow.holds Tryz.pinned (OpenSpec.ofChange moveSumsSpec)

/-- ITS FALSE NEIGHBOUR: 'it returns false'. Refute it at one input. -/
def moveSumsWrong : ChangeSpec := { name := "moveSums", fn := fun _ => fun
  | [d1, d2, d3, d4] => { results := [.lit (.bool false)], args := [d1, d2, d3, d4] }
  | _ => none }
def MoveSumsWrongFalsely : Prop := moveSumsRow.holds Tryz.pinned (OpenSpec.ofChange moveSumsWrong)

/-- 'pannierlaw22.MoveWishes': WHATEVER THE INPUT: true; the input reads as it did. -/
def moveWishesSpec : ChangeSpec := { name := "moveWishes", fn := fun _ => fun
  | [d1, d2, d3, d4] => { results := [.lit (.bool true)], args := [d1, d2, d3, d4] }
  | _ => none }
def moveWishesRow : OpenClaim := { program := "ytjoljfnlkddfbaagreatdoor", sum := "8d27dae2da2e8cd9e122d08adf0cbc3f39bdabae59c238273a0a42c6950f8df8", func := "pannier/pannierlaw22.MoveWishes", spec := "moveWishes", inPlace := ["internal/bytealg.IndexByteString", "internal/bytealg.IndexString"], unfollowed := true, recurses := true, named := ["unicode/utf8.first", "unicode/utf8.acceptRanges", "internal/bytealg.MaxLen"], apart := false, laid := [("unicode/utf8.acceptRanges", laid_unicode_utf8_acceptRanges), ("unicode/utf8.first", laid_unicode_utf8_first)] }
def MoveWishesSaid : Prop := moveWishesRow.holds Tryz.pinned (OpenSpec.ofChange moveWishesSpec)

/-- ITS FALSE NEIGHBOUR: 'it returns false'. Refute it at one input. -/
def moveWishesWrong : ChangeSpec := { name := "moveWishes", fn := fun _ => fun
  | [d1, d2, d3, d4] => { results := [.lit (.bool false)], args := [d1, d2, d3, d4] }
  | _ => none }
def MoveWishesWrongFalsely : Prop := moveWishesRow.holds Tryz.pinned (OpenSpec.ofChange moveWishesWrong)

/-- 'pannierlaw22.MoveLogins': WHATEVER THE INPUT: true; the input reads as it did. -/
def moveLoginsSpec : ChangeSpec := { name := "moveLogins", fn := fun _ => fun
  | [d1, d2, d3] => { results := [.lit (.bool true)], args := [d1, d2, d3] }
  | _ => none }
def moveLoginsRow : OpenClaim := { program := "ytjoljfnlkddfbaagreatdoor", sum := "8d27dae2da2e8cd9e122d08adf0cbc3f39bdabae59c238273a0a42c6950f8df8", func := "pannier/pannierlaw22.MoveLogins", spec := "moveLogins", inPlace := ["internal/bytealg.IndexByteString", "internal/bytealg.IndexString"], unfollowed := true, recurses := true, named := ["unicode/utf8.first", "unicode/utf8.acceptRanges", "internal/bytealg.MaxLen"], apart := false, laid := [("unicode/utf8.acceptRanges", laid_unicode_utf8_acceptRanges), ("unicode/utf8.first", laid_unicode_utf8_first)] }
def MoveLoginsSaid : Prop := moveLoginsRow.holds Tryz.pinned (OpenSpec.ofChange moveLoginsSpec)

/-- ITS FALSE NEIGHBOUR: 'it returns false'. Refute it at one input. -/
def moveLoginsWrong : ChangeSpec := { name := "moveLogins", fn := fun _ => fun
  | [d1, d2, d3] => { results := [.lit (.bool false)], args := [d1, d2, d3] }
  | _ => none }
def MoveLoginsWrongFalsely : Prop := moveLoginsRow.holds Tryz.pinned (OpenSpec.ofChange moveLoginsWrong)

/-- 'pannierlaw22.MoveMany': WHATEVER THE INPUT: true; the input reads as it did. -/
def moveManySpec : ChangeSpec := { name := "moveMany", fn := fun _ => fun
  | [d1, d2, d3] => { results := [.lit (.bool true)], args := [d1, d2, d3] }
  | _ => none }
def moveManyRow : OpenClaim := { program := "ytjoljfnlkddfbaagreatdoor", sum := "8d27dae2da2e8cd9e122d08adf0cbc3f39bdabae59c238273a0a42c6950f8df8", func := "pannier/pannierlaw22.MoveMany", spec := "moveMany", inPlace := ["internal/bytealg.IndexByteString", "internal/bytealg.IndexString"], unfollowed := true, recurses := true, named := ["unicode/utf8.first", "unicode/utf8.acceptRanges", "internal/bytealg.MaxLen"], apart := false, laid := [("unicode/utf8.acceptRanges", laid_unicode_utf8_acceptRanges), ("unicode/utf8.first", laid_unicode_utf8_first)] }
def MoveManySaid : Prop := moveManyRow.holds Tryz.pinned (OpenSpec.ofChange moveManySpec)

/-- ITS FALSE NEIGHBOUR: 'it returns false'. Refute it at one input. -/
def moveManyWrong : ChangeSpec := { name := "moveMany", fn := fun _ => fun
  | [d1, d2, d3] => { results := [.lit (.bool false)], args := [d1, d2, d3] }
  | _ => none }
def MoveManyWrongFalsely : Prop := moveManyRow.holds Tryz.pinned (OpenSpec.ofChange moveManyWrong)

/-- 'pannierlaw22.MoveHolds': WHATEVER THE INPUT: true; the input reads as it did. -/
def moveHoldsSpec : ChangeSpec := { name := "moveHolds", fn := fun _ => fun
  | [d1, d2, d3, d4] => { results := [.lit (.bool true)], args := [d1, d2, d3, d4] }
  | _ => none }
def moveHoldsRow : OpenClaim := { program := "ytjoljfnlkddfbaagreatdoor", sum := "8d27dae2da2e8cd9e122d08adf0cbc3f39bdabae59c238273a0a42c6950f8df8", func := "pannier/pannierlaw22.MoveHolds", spec := "moveHolds", inPlace := ["internal/bytealg.IndexByteString", "internal/bytealg.IndexString"], unfollowed := true, recurses := true, named := ["unicode/utf8.first", "unicode/utf8.acceptRanges", "internal/bytealg.MaxLen"], apart := false, laid := [("unicode/utf8.acceptRanges", laid_unicode_utf8_acceptRanges), ("unicode/utf8.first", laid_unicode_utf8_first)] }
def MoveHoldsSaid : Prop := moveHoldsRow.holds Tryz.pinned (OpenSpec.ofChange moveHoldsSpec)

/-- ITS FALSE NEIGHBOUR: 'it returns false'. Refute it at one input. -/
def moveHoldsWrong : ChangeSpec := { name := "moveHolds", fn := fun _ => fun
  | [d1, d2, d3, d4] => { results := [.lit (.bool false)], args := [d1, d2, d3, d4] }
  | _ => none }
def MoveHoldsWrongFalsely : Prop := moveHoldsRow.holds Tryz.pinned (OpenSpec.ofChange moveHoldsWrong)

/- THE SECOND FORM. 'bulk': how many values and letters a reading holds, each counted each time it is reached (what is shared counts as often as it is met; a slice's spare places count too). A statement '..UptoSaid' is the law's where the arguments, and the package variables that the reading takes, are together of bulk at most 1048576: NARROWER than '..Said'. Prove '..Said' where nothing that the law and all that it calls make is longer than what came in: it says more and counts as full. Else prove '..UptoSaid'. A law counts once. -/
mutual
def uptoBulk {H : Type} : DataW H → Nat
  | .lit (.string bytes) => bytes.length + 1
  | .lit _ => 1
  | .nil => 1
  | .ptr d => uptoBulk d + 1
  | .slice elems spare => uptoBulkAll elems + uptoBulkAll spare + 1
  | .agg parts => uptoBulkAll parts + 1
  | .iface _ d => uptoBulk d + 1
  | .map entries => uptoBulkEntries entries + 1
  | .held _ => 1
def uptoBulkAll {H : Type} : List (DataW H) → Nat
  | [] => 0
  | d :: r => uptoBulk d + uptoBulkAll r
def uptoBulkEntries {H : Type} : List (Lit × DataW H) → Nat
  | [] => 0
  | x :: r => uptoBulkEntry x + uptoBulkEntries r
def uptoBulkEntry {H : Type} : Lit × DataW H → Nat
  | (.string bytes, d) => bytes.length + uptoBulk d + 1
  | (_, d) => uptoBulk d + 1
 end
def uptoSmall : (H : Type) → List (DataW H) → Bool := fun _ ds => decide (uptoBulkAll ds ≤ 1048576)
def OpenSpec.upto (s : _root_.Go.ChangeSpec) : _root_.Go.OpenSpec := { _root_.Go.OpenSpec.ofChange s with cond := some uptoSmall }

/-- 'pannierlaw22.MoveSums', WHERE WHAT IT READS IS OF BULK AT MOST 1048576: true; the input reads as it did. -/
def moveSumsUptoRow : OpenClaim := { program := "ytjoljfnlkddfbaagreatdoor", sum := "8d27dae2da2e8cd9e122d08adf0cbc3f39bdabae59c238273a0a42c6950f8df8", func := "pannier/pannierlaw22.MoveSums", spec := "moveSums", inPlace := ["internal/bytealg.IndexByteString", "internal/bytealg.IndexString"], unfollowed := true, recurses := true, named := ["unicode/utf8.first", "unicode/utf8.acceptRanges", "internal/bytealg.MaxLen"], apart := false, laid := [("unicode/utf8.acceptRanges", laid_unicode_utf8_acceptRanges), ("unicode/utf8.first", laid_unicode_utf8_first)], narrowed := true }
def MoveSumsUptoSaid : Prop := moveSumsUptoRow.holds Tryz.pinned (OpenSpec.upto moveSumsSpec)

/-- 'pannierlaw22.MoveWishes', WHERE WHAT IT READS IS OF BULK AT MOST 1048576: true; the input reads as it did. -/
def moveWishesUptoRow : OpenClaim := { program := "ytjoljfnlkddfbaagreatdoor", sum := "8d27dae2da2e8cd9e122d08adf0cbc3f39bdabae59c238273a0a42c6950f8df8", func := "pannier/pannierlaw22.MoveWishes", spec := "moveWishes", inPlace := ["internal/bytealg.IndexByteString", "internal/bytealg.IndexString"], unfollowed := true, recurses := true, named := ["unicode/utf8.first", "unicode/utf8.acceptRanges", "internal/bytealg.MaxLen"], apart := false, laid := [("unicode/utf8.acceptRanges", laid_unicode_utf8_acceptRanges), ("unicode/utf8.first", laid_unicode_utf8_first)], narrowed := true }
def MoveWishesUptoSaid : Prop := moveWishesUptoRow.holds Tryz.pinned (OpenSpec.upto moveWishesSpec)

/-- 'pannierlaw22.MoveLogins', WHERE WHAT IT READS IS OF BULK AT MOST 1048576: true; the input reads as it did. -/
def moveLoginsUptoRow : OpenClaim := { program := "ytjoljfnlkddfbaagreatdoor", sum := "8d27dae2da2e8cd9e122d08adf0cbc3f39bdabae59c238273a0a42c6950f8df8", func := "pannier/pannierlaw22.MoveLogins", spec := "moveLogins", inPlace := ["internal/bytealg.IndexByteString", "internal/bytealg.IndexString"], unfollowed := true, recurses := true, named := ["unicode/utf8.first", "unicode/utf8.acceptRanges", "internal/bytealg.MaxLen"], apart := false, laid := [("unicode/utf8.acceptRanges", laid_unicode_utf8_acceptRanges), ("unicode/utf8.first", laid_unicode_utf8_first)], narrowed := true }
def MoveLoginsUptoSaid : Prop := moveLoginsUptoRow.holds Tryz.pinned (OpenSpec.upto moveLoginsSpec)

/-- 'pannierlaw22.MoveMany', WHERE WHAT IT READS IS OF BULK AT MOST 1048576: true; the input reads as it did. -/
def moveManyUptoRow : OpenClaim := { program := "ytjoljfnlkddfbaagreatdoor", sum := "8d27dae2da2e8cd9e122d08adf0cbc3f39bdabae59c238273a0a42c6950f8df8", func := "pannier/pannierlaw22.MoveMany", spec := "moveMany", inPlace := ["internal/bytealg.IndexByteString", "internal/bytealg.IndexString"], unfollowed := true, recurses := true, named := ["unicode/utf8.first", "unicode/utf8.acceptRanges", "internal/bytealg.MaxLen"], apart := false, laid := [("unicode/utf8.acceptRanges", laid_unicode_utf8_acceptRanges), ("unicode/utf8.first", laid_unicode_utf8_first)], narrowed := true }
def MoveManyUptoSaid : Prop := moveManyUptoRow.holds Tryz.pinned (OpenSpec.upto moveManySpec)

/-- 'pannierlaw22.MoveHolds', WHERE WHAT IT READS IS OF BULK AT MOST 1048576: true; the input reads as it did. -/
def moveHoldsUptoRow : OpenClaim := { program := "ytjoljfnlkddfbaagreatdoor", sum := "8d27dae2da2e8cd9e122d08adf0cbc3f39bdabae59c238273a0a42c6950f8df8", func := "pannier/pannierlaw22.MoveHolds", spec := "moveHolds", inPlace := ["internal/bytealg.IndexByteString", "internal/bytealg.IndexString"], unfollowed := true, recurses := true, named := ["unicode/utf8.first", "unicode/utf8.acceptRanges", "internal/bytealg.MaxLen"], apart := false, laid := [("unicode/utf8.acceptRanges", laid_unicode_utf8_acceptRanges), ("unicode/utf8.first", laid_unicode_utf8_first)], narrowed := true }
def MoveHoldsUptoSaid : Prop := moveHoldsUptoRow.holds Tryz.pinned (OpenSpec.upto moveHoldsSpec)

end Rows
end Go.Proofs.YtjoljfnlkddfbaaGreatDoor
