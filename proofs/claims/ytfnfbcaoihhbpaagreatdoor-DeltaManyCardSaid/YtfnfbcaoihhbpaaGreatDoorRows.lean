/-
  NARROWER THAN 'FOR EVERY INPUT', by the rows' own cells (each row's printed sentence says how): DeltaPuts: laid · DeltaRemoves: laid · DeltaMany: laid · DeltaTimes: laid · DeltaTwo: laid · DeltaHolds: laid.
  DERIVED. THE GIVEN ROWS OF THIS SEAT. 6 by the template 'for every input the law returns true; each argument reads behind the call as it read before'; 0 by the template 'total and deterministic' (their statements: YtfnfbcaoihhbpaaGreatDoorTotals.lean).
  GIVEN WITH THE SEED: the statements are not yours to turn. If you find one false, say at which input.
  Laid BY PROGRAM, IN A SANDBOX (cutbox-rows.mjs): the forced cells as the released guide's own fill.sh prints them over the translation 96086ec08a9c73e1… (all of the seat's roots in one cut). By AI agents, Wed Nov 11 2026. No macro, syntax, notation, axiom, sorry.
-/
import Derived.Test.YtfnfbcaoihhbpaaGreatDoorChecked
import GoSem.PinnedTables
import GoSem.Claim
import GoSem.ClaimJoined
import GoSem.ClaimMapViews
import Derived.JoinedTies
import Derived.KernelRfl
namespace Go.Proofs.YtfnfbcaoihhbpaaGreatDoor
/- THE CELL 'sum', in the pinned program and in every row, IS THE sha256 OF THE DUMP (.gsa) THAT YtfnfbcaoihhbpaaGreatDoorProg.lean LOADS. Nothing in Lean hashes anything: it is a label: what it is worth is what the hold of that sum in a sandbox is worth. -/
noncomputable def Tryz.pinned : Pinned := { name := "ytfnfbcaoihhbpaagreatdoor", sum := "96086ec08a9c73e1d6a303a5dd507ad2103a9d6bf0a4597bd91a6173215abbeb", checked := Tryz.checked }
namespace Rows
def none {H : Type} : Left H := { results := [], args := [] }

/- WHAT THE LISTED PACKAGE-LEVEL VARIABLES READ AS WHEN THE CALL BEGINS. Each datum BY PROGRAM (the guide's laid-datum.mjs) off the statement by which the dump's own 'gosem.cut.vars' lays the variable. In a bare row this is a premise. The card (YtfnfbcaoihhbpaaGreatDoorCards.lean) ties it to the program's text. -/
def laid_unicode_utf8_acceptRanges {H : Type} : DataW H := .agg [.agg [.lit (.int .u8 128), .lit (.int .u8 191)], .agg [.lit (.int .u8 160), .lit (.int .u8 191)], .agg [.lit (.int .u8 128), .lit (.int .u8 159)], .agg [.lit (.int .u8 144), .lit (.int .u8 191)], .agg [.lit (.int .u8 128), .lit (.int .u8 143)], .agg [.lit (.int .u8 0), .lit (.int .u8 0)], .agg [.lit (.int .u8 0), .lit (.int .u8 0)], .agg [.lit (.int .u8 0), .lit (.int .u8 0)], .agg [.lit (.int .u8 0), .lit (.int .u8 0)], .agg [.lit (.int .u8 0), .lit (.int .u8 0)], .agg [.lit (.int .u8 0), .lit (.int .u8 0)], .agg [.lit (.int .u8 0), .lit (.int .u8 0)], .agg [.lit (.int .u8 0), .lit (.int .u8 0)], .agg [.lit (.int .u8 0), .lit (.int .u8 0)], .agg [.lit (.int .u8 0), .lit (.int .u8 0)], .agg [.lit (.int .u8 0), .lit (.int .u8 0)]]
/-- One of Go's own tables, pinned by name: the form's constant. -/
def laid_unicode_utf8_first : DataW Unit := Go.Pinned.utf8First

/-- 'pannierlaw12.DeltaPuts': WHATEVER THE INPUT: true; the input reads as it did. -/
def deltaPutsSpec : ChangeSpec := { name := "deltaPuts", fn := fun _ => fun
  | [d1, d2, d3, d4] => { results := [.lit (.bool true)], args := [d1, d2, d3, d4] }
  | _ => none }
def deltaPutsRow : OpenClaim := { program := "ytfnfbcaoihhbpaagreatdoor", sum := "96086ec08a9c73e1d6a303a5dd507ad2103a9d6bf0a4597bd91a6173215abbeb", func := "pannier/pannierlaw12.DeltaPuts", spec := "deltaPuts", inPlace := ["internal/bytealg.IndexByteString", "internal/bytealg.IndexString"], unfollowed := true, recurses := true, named := ["unicode/utf8.first", "unicode/utf8.acceptRanges", "internal/bytealg.MaxLen"], apart := false, laid := [("unicode/utf8.acceptRanges", laid_unicode_utf8_acceptRanges), ("unicode/utf8.first", laid_unicode_utf8_first)] }
def DeltaPutsSaid : Prop := deltaPutsRow.holds Tryz.pinned (OpenSpec.ofChange deltaPutsSpec)

/-- ITS FALSE NEIGHBOUR: 'it returns false'. Refute it at one input. -/
def deltaPutsWrong : ChangeSpec := { name := "deltaPuts", fn := fun _ => fun
  | [d1, d2, d3, d4] => { results := [.lit (.bool false)], args := [d1, d2, d3, d4] }
  | _ => none }
def DeltaPutsWrongFalsely : Prop := deltaPutsRow.holds Tryz.pinned (OpenSpec.ofChange deltaPutsWrong)

/-- 'pannierlaw12.DeltaRemoves': WHATEVER THE INPUT: true; the input reads as it did. -/
def deltaRemovesSpec : ChangeSpec := { name := "deltaRemoves", fn := fun _ => fun
  | [d1, d2, d3] => { results := [.lit (.bool true)], args := [d1, d2, d3] }
  | _ => none }
def deltaRemovesRow : OpenClaim := { program := "ytfnfbcaoihhbpaagreatdoor", sum := "96086ec08a9c73e1d6a303a5dd507ad2103a9d6bf0a4597bd91a6173215abbeb", func := "pannier/pannierlaw12.DeltaRemoves", spec := "deltaRemoves", inPlace := ["internal/bytealg.IndexByteString", "internal/bytealg.IndexString"], unfollowed := true, recurses := true, named := ["unicode/utf8.first", "unicode/utf8.acceptRanges", "internal/bytealg.MaxLen"], apart := false, laid := [("unicode/utf8.acceptRanges", laid_unicode_utf8_acceptRanges), ("unicode/utf8.first", laid_unicode_utf8_first)] }
def DeltaRemovesSaid : Prop := deltaRemovesRow.holds Tryz.pinned (OpenSpec.ofChange deltaRemovesSpec)

/-- ITS FALSE NEIGHBOUR: 'it returns false'. Refute it at one input. -/
def deltaRemovesWrong : ChangeSpec := { name := "deltaRemoves", fn := fun _ => fun
  | [d1, d2, d3] => { results := [.lit (.bool false)], args := [d1, d2, d3] }
  | _ => none }
def DeltaRemovesWrongFalsely : Prop := deltaRemovesRow.holds Tryz.pinned (OpenSpec.ofChange deltaRemovesWrong)

/-- 'pannierlaw12.DeltaMany': WHATEVER THE INPUT: true; the input reads as it did. -/
def deltaManySpec : ChangeSpec := { name := "deltaMany", fn := fun _ => fun
  | [d] => { results := [.lit (.bool true)], args := [d] }
  | _ => none }
def deltaManyRow : OpenClaim := { program := "ytfnfbcaoihhbpaagreatdoor", sum := "96086ec08a9c73e1d6a303a5dd507ad2103a9d6bf0a4597bd91a6173215abbeb", func := "pannier/pannierlaw12.DeltaMany", spec := "deltaMany", inPlace := ["internal/bytealg.IndexByteString", "internal/bytealg.IndexString"], unfollowed := true, recurses := true, named := ["unicode/utf8.first", "unicode/utf8.acceptRanges", "internal/bytealg.MaxLen"], apart := false, laid := [("unicode/utf8.acceptRanges", laid_unicode_utf8_acceptRanges), ("unicode/utf8.first", laid_unicode_utf8_first)] }
def DeltaManySaid : Prop := deltaManyRow.holds Tryz.pinned (OpenSpec.ofChange deltaManySpec)

/-- ITS FALSE NEIGHBOUR: 'it returns false'. Refute it at one input. -/
def deltaManyWrong : ChangeSpec := { name := "deltaMany", fn := fun _ => fun
  | [d] => { results := [.lit (.bool false)], args := [d] }
  | _ => none }
def DeltaManyWrongFalsely : Prop := deltaManyRow.holds Tryz.pinned (OpenSpec.ofChange deltaManyWrong)

/-- 'pannierlaw12.DeltaTimes': WHATEVER THE INPUT: true; the input reads as it did. -/
def deltaTimesSpec : ChangeSpec := { name := "deltaTimes", fn := fun _ => fun
  | [d1, d2] => { results := [.lit (.bool true)], args := [d1, d2] }
  | _ => none }
def deltaTimesRow : OpenClaim := { program := "ytfnfbcaoihhbpaagreatdoor", sum := "96086ec08a9c73e1d6a303a5dd507ad2103a9d6bf0a4597bd91a6173215abbeb", func := "pannier/pannierlaw12.DeltaTimes", spec := "deltaTimes", inPlace := ["internal/bytealg.IndexByteString", "internal/bytealg.IndexString"], unfollowed := true, recurses := true, named := ["unicode/utf8.first", "unicode/utf8.acceptRanges", "internal/bytealg.MaxLen"], apart := false, laid := [("unicode/utf8.acceptRanges", laid_unicode_utf8_acceptRanges), ("unicode/utf8.first", laid_unicode_utf8_first)] }
def DeltaTimesSaid : Prop := deltaTimesRow.holds Tryz.pinned (OpenSpec.ofChange deltaTimesSpec)

/-- ITS FALSE NEIGHBOUR: 'it returns false'. Refute it at one input. -/
def deltaTimesWrong : ChangeSpec := { name := "deltaTimes", fn := fun _ => fun
  | [d1, d2] => { results := [.lit (.bool false)], args := [d1, d2] }
  | _ => none }
def DeltaTimesWrongFalsely : Prop := deltaTimesRow.holds Tryz.pinned (OpenSpec.ofChange deltaTimesWrong)

/-- 'pannierlaw12.DeltaTwo': WHATEVER THE INPUT: true; the input reads as it did. -/
def deltaTwoSpec : ChangeSpec := { name := "deltaTwo", fn := fun _ => fun
  | [d1, d2, d3, d4, d5, d6, d7] => { results := [.lit (.bool true)], args := [d1, d2, d3, d4, d5, d6, d7] }
  | _ => none }
def deltaTwoRow : OpenClaim := { program := "ytfnfbcaoihhbpaagreatdoor", sum := "96086ec08a9c73e1d6a303a5dd507ad2103a9d6bf0a4597bd91a6173215abbeb", func := "pannier/pannierlaw12.DeltaTwo", spec := "deltaTwo", inPlace := ["internal/bytealg.IndexByteString", "internal/bytealg.IndexString"], unfollowed := true, recurses := true, named := ["unicode/utf8.first", "unicode/utf8.acceptRanges", "internal/bytealg.MaxLen"], apart := false, laid := [("unicode/utf8.acceptRanges", laid_unicode_utf8_acceptRanges), ("unicode/utf8.first", laid_unicode_utf8_first)] }
def DeltaTwoSaid : Prop := deltaTwoRow.holds Tryz.pinned (OpenSpec.ofChange deltaTwoSpec)

/-- ITS FALSE NEIGHBOUR: 'it returns false'. Refute it at one input. -/
def deltaTwoWrong : ChangeSpec := { name := "deltaTwo", fn := fun _ => fun
  | [d1, d2, d3, d4, d5, d6, d7] => { results := [.lit (.bool false)], args := [d1, d2, d3, d4, d5, d6, d7] }
  | _ => none }
def DeltaTwoWrongFalsely : Prop := deltaTwoRow.holds Tryz.pinned (OpenSpec.ofChange deltaTwoWrong)

/-- 'pannierlaw12.DeltaHolds': WHATEVER THE INPUT: true; the input reads as it did. -/
def deltaHoldsSpec : ChangeSpec := { name := "deltaHolds", fn := fun _ => fun
  | [d1, d2, d3, d4, d5] => { results := [.lit (.bool true)], args := [d1, d2, d3, d4, d5] }
  | _ => none }
def deltaHoldsRow : OpenClaim := { program := "ytfnfbcaoihhbpaagreatdoor", sum := "96086ec08a9c73e1d6a303a5dd507ad2103a9d6bf0a4597bd91a6173215abbeb", func := "pannier/pannierlaw12.DeltaHolds", spec := "deltaHolds", inPlace := ["internal/bytealg.IndexByteString", "internal/bytealg.IndexString"], unfollowed := true, recurses := true, named := ["unicode/utf8.first", "unicode/utf8.acceptRanges", "internal/bytealg.MaxLen"], apart := false, laid := [("unicode/utf8.acceptRanges", laid_unicode_utf8_acceptRanges), ("unicode/utf8.first", laid_unicode_utf8_first)] }
def DeltaHoldsSaid : Prop := deltaHoldsRow.holds Tryz.pinned (OpenSpec.ofChange deltaHoldsSpec)

/-- ITS FALSE NEIGHBOUR: 'it returns false'. Refute it at one input. -/
def deltaHoldsWrong : ChangeSpec := { name := "deltaHolds", fn := fun _ => fun
  | [d1, d2, d3, d4, d5] => { results := [.lit (.bool false)], args := [d1, d2, d3, d4, d5] }
  | _ => none }
def DeltaHoldsWrongFalsely : Prop := deltaHoldsRow.holds Tryz.pinned (OpenSpec.ofChange deltaHoldsWrong)

/- THE SECOND FORM. 'bulk': how many values and letters a reading holds, each counted each time it is reached (what is shared counts as often as it is met; a slice's spare places count too). A statement '..UptoSaid' is the law's where the arguments, and the package variables that the reading takes, are together of bulk at most 1048576: NARROWER than '..Said'. Prove '..Said' where nothing that the law and all that it calls make is longer than what came in: it says more and counts as full. Else prove '..UptoSaid'. A law counts once. -/
mutual
def uptoBulk {H : Type} : DataW H → Nat
  | .lit (.string bytes) => bytes.length + 1
  | .lit _ => 1
  | .nil => 1
  | .ptr d => uptoBulk d + 1
  | .slice elems spare => uptoBulkAll elems + uptoBulkAll spare + 1
  | .agg parts => uptoBulkAll parts + 1
  | .iface _ d => uptoBulk d + 1
  | .map entries => uptoBulkEntries entries + 1
  | .held _ => 1
def uptoBulkAll {H : Type} : List (DataW H) → Nat
  | [] => 0
  | d :: r => uptoBulk d + uptoBulkAll r
def uptoBulkEntries {H : Type} : List (Lit × DataW H) → Nat
  | [] => 0
  | x :: r => uptoBulkEntry x + uptoBulkEntries r
def uptoBulkEntry {H : Type} : Lit × DataW H → Nat
  | (.string bytes, d) => bytes.length + uptoBulk d + 1
  | (_, d) => uptoBulk d + 1
 end
def uptoSmall : (H : Type) → List (DataW H) → Bool := fun _ ds => decide (uptoBulkAll ds ≤ 1048576)
def OpenSpec.upto (s : _root_.Go.ChangeSpec) : _root_.Go.OpenSpec := { _root_.Go.OpenSpec.ofChange s with cond := some uptoSmall }

/-- 'pannierlaw12.DeltaPuts', WHERE WHAT IT READS IS OF BULK AT MOST 1048576: true; the input reads as it did. -/
def deltaPutsUptoRow : OpenClaim := { program := "ytfnfbcaoihhbpaagreatdoor", sum := "96086ec08a9c73e1d6a303a5dd507ad2103a9d6bf0a4597bd91a6173215abbeb", func := "pannier/pannierlaw12.DeltaPuts", spec := "deltaPuts", inPlace := ["internal/bytealg.IndexByteString", "internal/bytealg.IndexString"], unfollowed := true, recurses := true, named := ["unicode/utf8.first", "unicode/utf8.acceptRanges", "internal/bytealg.MaxLen"], apart := false, laid := [("unicode/utf8.acceptRanges", laid_unicode_utf8_acceptRanges), ("unicode/utf8.first", laid_unicode_utf8_first)], narrowed := true }
def DeltaPutsUptoSaid : Prop := deltaPutsUptoRow.holds Tryz.pinned (OpenSpec.upto deltaPutsSpec)

/-- 'pannierlaw12.DeltaRemoves', WHERE WHAT IT READS IS OF BULK AT MOST 1048576: true; the input reads as it did. -/
def deltaRemovesUptoRow : OpenClaim := { program := "ytfnfbcaoihhbpaagreatdoor", sum := "96086ec08a9c73e1d6a303a5dd507ad2103a9d6bf0a4597bd91a6173215abbeb", func := "pannier/pannierlaw12.DeltaRemoves", spec := "deltaRemoves", inPlace := ["internal/bytealg.IndexByteString", "internal/bytealg.IndexString"], unfollowed := true, recurses := true, named := ["unicode/utf8.first", "unicode/utf8.acceptRanges", "internal/bytealg.MaxLen"], apart := false, laid := [("unicode/utf8.acceptRanges", laid_unicode_utf8_acceptRanges), ("unicode/utf8.first", laid_unicode_utf8_first)], narrowed := true }
def DeltaRemovesUptoSaid : Prop := deltaRemovesUptoRow.holds Tryz.pinned (OpenSpec.upto deltaRemovesSpec)

/-- 'pannierlaw12.DeltaMany', WHERE WHAT IT READS IS OF BULK AT MOST 1048576: true; the input reads as it did. -/
def deltaManyUptoRow : OpenClaim := { program := "ytfnfbcaoihhbpaagreatdoor", sum := "96086ec08a9c73e1d6a303a5dd507ad2103a9d6bf0a4597bd91a6173215abbeb", func := "pannier/pannierlaw12.DeltaMany", spec := "deltaMany", inPlace := ["internal/bytealg.IndexByteString", "internal/bytealg.IndexString"], unfollowed := true, recurses := true, named := ["unicode/utf8.first", "unicode/utf8.acceptRanges", "internal/bytealg.MaxLen"], apart := false, laid := [("unicode/utf8.acceptRanges", laid_unicode_utf8_acceptRanges), ("unicode/utf8.first", laid_unicode_utf8_first)], narrowed := true }
def DeltaManyUptoSaid : Prop := deltaManyUptoRow.holds Tryz.pinned (OpenSpec.upto deltaManySpec)

/-- 'pannierlaw12.DeltaTimes', WHERE WHAT IT READS IS OF BULK AT MOST 1048576: true; the input reads as it did. -/
def deltaTimesUptoRow : OpenClaim := { program := "ytfnfbcaoihhbpaagreatdoor", sum := "96086ec08a9c73e1d6a303a5dd507ad2103a9d6bf0a4597bd91a6173215abbeb", func := "pannier/pannierlaw12.DeltaTimes", spec := "deltaTimes", inPlace := ["internal/bytealg.IndexByteString", "internal/bytealg.IndexString"], unfollowed := true, recurses := true, named := ["unicode/utf8.first", "unicode/utf8.acceptRanges", "internal/bytealg.MaxLen"], apart := false, laid := [("unicode/utf8.acceptRanges", laid_unicode_utf8_acceptRanges), ("unicode/utf8.first", laid_unicode_utf8_first)], narrowed := true }
def DeltaTimesUptoSaid : Prop := deltaTimesUptoRow.holds Tryz.pinned (OpenSpec.upto deltaTimesSpec)

/-- 'pannierlaw12.DeltaTwo', WHERE WHAT IT READS IS OF BULK AT MOST 1048576: true; the input reads as it did. -/
def deltaTwoUptoRow : OpenClaim := { program := "ytfnfbcaoihhbpaagreatdoor", sum := "96086ec08a9c73e1d6a303a5dd507ad2103a9d6bf0a4597bd91a6173215abbeb", func := "pannier/pannierlaw12.DeltaTwo", spec := "deltaTwo", inPlace := ["internal/bytealg.IndexByteString", "internal/bytealg.IndexString"], unfollowed := true, recurses := true, named := ["unicode/utf8.first", "unicode/utf8.acceptRanges", "internal/bytealg.MaxLen"], apart := false, laid := [("unicode/utf8.acceptRanges", laid_unicode_utf8_acceptRanges), ("unicode/utf8.first", laid_unicode_utf8_first)], narrowed := true }
def DeltaTwoUptoSaid : Prop := deltaTwoUptoRow.holds Tryz.pinned (OpenSpec.upto deltaTwoSpec)

/-- 'pannierlaw12.DeltaHolds', WHERE WHAT IT READS IS OF BULK AT MOST 1048576: true; the input reads as it did. -/
def deltaHoldsUptoRow : OpenClaim := { program := "ytfnfbcaoihhbpaagreatdoor", sum := "96086ec08a9c73e1d6a303a5dd507ad2103a9d6bf0a4597bd91a6173215abbeb", func := "pannier/pannierlaw12.DeltaHolds", spec := "deltaHolds", inPlace := ["internal/bytealg.IndexByteString", "internal/bytealg.IndexString"], unfollowed := true, recurses := true, named := ["unicode/utf8.first", "unicode/utf8.acceptRanges", "internal/bytealg.MaxLen"], apart := false, laid := [("unicode/utf8.acceptRanges", laid_unicode_utf8_acceptRanges), ("unicode/utf8.first", laid_unicode_utf8_first)], narrowed := true }
def DeltaHoldsUptoSaid : Prop := deltaHoldsUptoRow.holds Tryz.pinned (OpenSpec.upto deltaHoldsSpec)

end Rows
end Go.Proofs.YtfnfbcaoihhbpaaGreatDoor
