/-
  NARROWER THAN 'FOR EVERY INPUT', by the rows' own cells (each row's printed sentence says how): JoinJoins: laid · JoinAlls: laid · JoinWithin: laid · JoinGroups: laid · JoinHolds: laid.
  DERIVED. THE GIVEN ROWS OF THIS SEAT. 5 by the template 'for every input the law returns true; each argument reads behind the call as it read before'; 0 by the template 'total and deterministic' (their statements: YtemfaojmelljpaaGreatDoorTotals.lean).
  GIVEN WITH THE SEED: the statements are not yours to turn. If you find one false, say at which input.
  Laid BY PROGRAM, IN A SANDBOX (cutbox-rows.mjs): the forced cells as the released guide's own fill.sh prints them over the translation 8bd74b664b328dc4… (all of the seat's roots in one cut). By AI agents, Wed Nov 11 2026. No macro, syntax, notation, axiom, sorry.
-/
import Derived.Test.YtemfaojmelljpaaGreatDoorChecked
import GoSem.PinnedTables
import GoSem.Claim
import GoSem.ClaimJoined
import GoSem.ClaimMapViews
import Derived.JoinedTies
import Derived.KernelRfl
namespace Go.Proofs.YtemfaojmelljpaaGreatDoor
/- THE CELL 'sum', in the pinned program and in every row, IS THE sha256 OF THE DUMP (.gsa) THAT YtemfaojmelljpaaGreatDoorProg.lean LOADS. Nothing in Lean hashes anything: it is a label: what it is worth is what the hold of that sum in a sandbox is worth. -/
noncomputable def Tryz.pinned : Pinned := { name := "ytemfaojmelljpaagreatdoor", sum := "8bd74b664b328dc4ef378800b9efd6b911a690bee31f7952ccf6561ee6a6a049", checked := Tryz.checked }
namespace Rows
def none {H : Type} : Left H := { results := [], args := [] }

/- WHAT THE LISTED PACKAGE-LEVEL VARIABLES READ AS WHEN THE CALL BEGINS. Each datum BY PROGRAM (the guide's laid-datum.mjs) off the statement by which the dump's own 'gosem.cut.vars' lays the variable. In a bare row this is a premise. The card (YtemfaojmelljpaaGreatDoorCards.lean) ties it to the program's text. -/
def laid_unicode_utf8_acceptRanges {H : Type} : DataW H := .agg [.agg [.lit (.int .u8 128), .lit (.int .u8 191)], .agg [.lit (.int .u8 160), .lit (.int .u8 191)], .agg [.lit (.int .u8 128), .lit (.int .u8 159)], .agg [.lit (.int .u8 144), .lit (.int .u8 191)], .agg [.lit (.int .u8 128), .lit (.int .u8 143)], .agg [.lit (.int .u8 0), .lit (.int .u8 0)], .agg [.lit (.int .u8 0), .lit (.int .u8 0)], .agg [.lit (.int .u8 0), .lit (.int .u8 0)], .agg [.lit (.int .u8 0), .lit (.int .u8 0)], .agg [.lit (.int .u8 0), .lit (.int .u8 0)], .agg [.lit (.int .u8 0), .lit (.int .u8 0)], .agg [.lit (.int .u8 0), .lit (.int .u8 0)], .agg [.lit (.int .u8 0), .lit (.int .u8 0)], .agg [.lit (.int .u8 0), .lit (.int .u8 0)], .agg [.lit (.int .u8 0), .lit (.int .u8 0)], .agg [.lit (.int .u8 0), .lit (.int .u8 0)]]
/-- One of Go's own tables, pinned by name: the form's constant. -/
def laid_unicode_utf8_first : DataW Unit := Go.Pinned.utf8First

/-- 'pannierlaw11.JoinJoins': WHATEVER THE INPUT: true; the input reads as it did. -/
def joinJoinsSpec : ChangeSpec := { name := "joinJoins", fn := fun _ => fun
  | [d1, d2] => { results := [.lit (.bool true)], args := [d1, d2] }
  | _ => none }
def joinJoinsRow : OpenClaim := { program := "ytemfaojmelljpaagreatdoor", sum := "8bd74b664b328dc4ef378800b9efd6b911a690bee31f7952ccf6561ee6a6a049", func := "pannier/pannierlaw11.JoinJoins", spec := "joinJoins", inPlace := ["internal/bytealg.IndexByteString", "internal/bytealg.IndexString"], unfollowed := true, recurses := true, named := ["unicode/utf8.first", "unicode/utf8.acceptRanges", "internal/bytealg.MaxLen"], apart := false, laid := [("unicode/utf8.acceptRanges", laid_unicode_utf8_acceptRanges), ("unicode/utf8.first", laid_unicode_utf8_first)] }
def JoinJoinsSaid : Prop := joinJoinsRow.holds Tryz.pinned (OpenSpec.ofChange joinJoinsSpec)

/-- ITS FALSE NEIGHBOUR: 'it returns false'. Refute it at one input. -/
def joinJoinsWrong : ChangeSpec := { name := "joinJoins", fn := fun _ => fun
  | [d1, d2] => { results := [.lit (.bool false)], args := [d1, d2] }
  | _ => none }
def JoinJoinsWrongFalsely : Prop := joinJoinsRow.holds Tryz.pinned (OpenSpec.ofChange joinJoinsWrong)

/-- 'pannierlaw11.JoinAlls': WHATEVER THE INPUT: true; the input reads as it did. -/
def joinAllsSpec : ChangeSpec := { name := "joinAlls", fn := fun _ => fun
  | [d1, d2] => { results := [.lit (.bool true)], args := [d1, d2] }
  | _ => none }
def joinAllsRow : OpenClaim := { program := "ytemfaojmelljpaagreatdoor", sum := "8bd74b664b328dc4ef378800b9efd6b911a690bee31f7952ccf6561ee6a6a049", func := "pannier/pannierlaw11.JoinAlls", spec := "joinAlls", inPlace := ["internal/bytealg.IndexByteString", "internal/bytealg.IndexString"], unfollowed := true, recurses := true, named := ["unicode/utf8.first", "unicode/utf8.acceptRanges", "internal/bytealg.MaxLen"], apart := false, laid := [("unicode/utf8.acceptRanges", laid_unicode_utf8_acceptRanges), ("unicode/utf8.first", laid_unicode_utf8_first)] }
def JoinAllsSaid : Prop := joinAllsRow.holds Tryz.pinned (OpenSpec.ofChange joinAllsSpec)

/-- ITS FALSE NEIGHBOUR: 'it returns false'. Refute it at one input. -/
def joinAllsWrong : ChangeSpec := { name := "joinAlls", fn := fun _ => fun
  | [d1, d2] => { results := [.lit (.bool false)], args := [d1, d2] }
  | _ => none }
def JoinAllsWrongFalsely : Prop := joinAllsRow.holds Tryz.pinned (OpenSpec.ofChange joinAllsWrong)

/-- 'pannierlaw11.JoinWithin': WHATEVER THE INPUT: true; the input reads as it did. -/
def joinWithinSpec : ChangeSpec := { name := "joinWithin", fn := fun _ => fun
  | [d1, d2] => { results := [.lit (.bool true)], args := [d1, d2] }
  | _ => none }
def joinWithinRow : OpenClaim := { program := "ytemfaojmelljpaagreatdoor", sum := "8bd74b664b328dc4ef378800b9efd6b911a690bee31f7952ccf6561ee6a6a049", func := "pannier/pannierlaw11.JoinWithin", spec := "joinWithin", inPlace := ["internal/bytealg.IndexByteString", "internal/bytealg.IndexString"], unfollowed := true, recurses := true, named := ["unicode/utf8.first", "unicode/utf8.acceptRanges", "internal/bytealg.MaxLen"], apart := false, laid := [("unicode/utf8.acceptRanges", laid_unicode_utf8_acceptRanges), ("unicode/utf8.first", laid_unicode_utf8_first)] }
def JoinWithinSaid : Prop := joinWithinRow.holds Tryz.pinned (OpenSpec.ofChange joinWithinSpec)

/-- ITS FALSE NEIGHBOUR: 'it returns false'. Refute it at one input. -/
def joinWithinWrong : ChangeSpec := { name := "joinWithin", fn := fun _ => fun
  | [d1, d2] => { results := [.lit (.bool false)], args := [d1, d2] }
  | _ => none }
def JoinWithinWrongFalsely : Prop := joinWithinRow.holds Tryz.pinned (OpenSpec.ofChange joinWithinWrong)

/-- 'pannierlaw11.JoinGroups': WHATEVER THE INPUT: true; the input reads as it did. -/
def joinGroupsSpec : ChangeSpec := { name := "joinGroups", fn := fun _ => fun
  | [d1, d2, d3] => { results := [.lit (.bool true)], args := [d1, d2, d3] }
  | _ => none }
def joinGroupsRow : OpenClaim := { program := "ytemfaojmelljpaagreatdoor", sum := "8bd74b664b328dc4ef378800b9efd6b911a690bee31f7952ccf6561ee6a6a049", func := "pannier/pannierlaw11.JoinGroups", spec := "joinGroups", inPlace := ["internal/bytealg.IndexByteString", "internal/bytealg.IndexString"], unfollowed := true, recurses := true, named := ["unicode/utf8.first", "unicode/utf8.acceptRanges", "internal/bytealg.MaxLen"], apart := false, laid := [("unicode/utf8.acceptRanges", laid_unicode_utf8_acceptRanges), ("unicode/utf8.first", laid_unicode_utf8_first)] }
def JoinGroupsSaid : Prop := joinGroupsRow.holds Tryz.pinned (OpenSpec.ofChange joinGroupsSpec)

/-- ITS FALSE NEIGHBOUR: 'it returns false'. Refute it at one input. -/
def joinGroupsWrong : ChangeSpec := { name := "joinGroups", fn := fun _ => fun
  | [d1, d2, d3] => { results := [.lit (.bool false)], args := [d1, d2, d3] }
  | _ => none }
def JoinGroupsWrongFalsely : Prop := joinGroupsRow.holds Tryz.pinned (OpenSpec.ofChange joinGroupsWrong)

/-- 'pannierlaw11.JoinHolds': WHATEVER THE INPUT: true; the input reads as it did. -/
def joinHoldsSpec : ChangeSpec := { name := "joinHolds", fn := fun _ => fun
  | [d1, d2] => { results := [.lit (.bool true)], args := [d1, d2] }
  | _ => none }
def joinHoldsRow : OpenClaim := { program := "ytemfaojmelljpaagreatdoor", sum := "8bd74b664b328dc4ef378800b9efd6b911a690bee31f7952ccf6561ee6a6a049", func := "pannier/pannierlaw11.JoinHolds", spec := "joinHolds", inPlace := ["internal/bytealg.IndexByteString", "internal/bytealg.IndexString"], unfollowed := true, recurses := true, named := ["unicode/utf8.first", "unicode/utf8.acceptRanges", "internal/bytealg.MaxLen"], apart := false, laid := [("unicode/utf8.acceptRanges", laid_unicode_utf8_acceptRanges), ("unicode/utf8.first", laid_unicode_utf8_first)] }
def JoinHoldsSaid : Prop := joinHoldsRow.holds Tryz.pinned (OpenSpec.ofChange joinHoldsSpec)

/-- ITS FALSE NEIGHBOUR: 'it returns false'. Refute it at one input. -/
def joinHoldsWrong : ChangeSpec := { name := "joinHolds", fn := fun _ => fun
  | [d1, d2] => { results := [.lit (.bool false)], args := [d1, d2] }
  | _ => none }
def JoinHoldsWrongFalsely : Prop := joinHoldsRow.holds Tryz.pinned (OpenSpec.ofChange joinHoldsWrong)

/- THE SECOND FORM. 'bulk': how many values and letters a reading holds, each counted each time it is reached (what is shared counts as often as it is met; a slice's spare places count too). A statement '..UptoSaid' is the law's where the arguments, and the package variables that the reading takes, are together of bulk at most 1048576: NARROWER than '..Said'. Prove '..Said' where nothing that the law and all that it calls make is longer than what came in: it says more and counts as full. Else prove '..UptoSaid'. A law counts once. -/
mutual
def uptoBulk {H : Type} : DataW H → Nat
  | .lit (.string bytes) => bytes.length + 1
  | .lit _ => 1
  | .nil => 1
  | .ptr d => uptoBulk d + 1
  | .slice elems spare => uptoBulkAll elems + uptoBulkAll spare + 1
  | .agg parts => uptoBulkAll parts + 1
  | .iface _ d => uptoBulk d + 1
  | .map entries => uptoBulkEntries entries + 1
  | .held _ => 1
def uptoBulkAll {H : Type} : List (DataW H) → Nat
  | [] => 0
  | d :: r => uptoBulk d + uptoBulkAll r
def uptoBulkEntries {H : Type} : List (Lit × DataW H) → Nat
  | [] => 0
  | x :: r => uptoBulkEntry x + uptoBulkEntries r
def uptoBulkEntry {H : Type} : Lit × DataW H → Nat
  | (.string bytes, d) => bytes.length + uptoBulk d + 1
  | (_, d) => uptoBulk d + 1
 end
def uptoSmall : (H : Type) → List (DataW H) → Bool := fun _ ds => decide (uptoBulkAll ds ≤ 1048576)
def OpenSpec.upto (s : _root_.Go.ChangeSpec) : _root_.Go.OpenSpec := { _root_.Go.OpenSpec.ofChange s with cond := some uptoSmall }

/-- 'pannierlaw11.JoinJoins', WHERE WHAT IT READS IS OF BULK AT MOST 1048576: true; the input reads as it did. -/
def joinJoinsUptoRow : OpenClaim := { program := "ytemfaojmelljpaagreatdoor", sum := "8bd74b664b328dc4ef378800b9efd6b911a690bee31f7952ccf6561ee6a6a049", func := "pannier/pannierlaw11.JoinJoins", spec := "joinJoins", inPlace := ["internal/bytealg.IndexByteString", "internal/bytealg.IndexString"], unfollowed := true, recurses := true, named := ["unicode/utf8.first", "unicode/utf8.acceptRanges", "internal/bytealg.MaxLen"], apart := false, laid := [("unicode/utf8.acceptRanges", laid_unicode_utf8_acceptRanges), ("unicode/utf8.first", laid_unicode_utf8_first)], narrowed := true }
def JoinJoinsUptoSaid : Prop := joinJoinsUptoRow.holds Tryz.pinned (OpenSpec.upto joinJoinsSpec)

/-- 'pannierlaw11.JoinAlls', WHERE WHAT IT READS IS OF BULK AT MOST 1048576: true; the input reads as it did. -/
def joinAllsUptoRow : OpenClaim := { program := "ytemfaojmelljpaagreatdoor", sum := "8bd74b664b328dc4ef378800b9efd6b911a690bee31f7952ccf6561ee6a6a049", func := "pannier/pannierlaw11.JoinAlls", spec := "joinAlls", inPlace := ["internal/bytealg.IndexByteString", "internal/bytealg.IndexString"], unfollowed := true, recurses := true, named := ["unicode/utf8.first", "unicode/utf8.acceptRanges", "internal/bytealg.MaxLen"], apart := false, laid := [("unicode/utf8.acceptRanges", laid_unicode_utf8_acceptRanges), ("unicode/utf8.first", laid_unicode_utf8_first)], narrowed := true }
def JoinAllsUptoSaid : Prop := joinAllsUptoRow.holds Tryz.pinned (OpenSpec.upto joinAllsSpec)

/-- 'pannierlaw11.JoinWithin', WHERE WHAT IT READS IS OF BULK AT MOST 1048576: true; the input reads as it did. -/
def joinWithinUptoRow : OpenClaim := { program := "ytemfaojmelljpaagreatdoor", sum := "8bd74b664b328dc4ef378800b9efd6b911a690bee31f7952ccf6561ee6a6a049", func := "pannier/pannierlaw11.JoinWithin", spec := "joinWithin", inPlace := ["internal/bytealg.IndexByteString", "internal/bytealg.IndexString"], unfollowed := true, recurses := true, named := ["unicode/utf8.first", "unicode/utf8.acceptRanges", "internal/bytealg.MaxLen"], apart := false, laid := [("unicode/utf8.acceptRanges", laid_unicode_utf8_acceptRanges), ("unicode/utf8.first", laid_unicode_utf8_first)], narrowed := true }
def JoinWithinUptoSaid : Prop := joinWithinUptoRow.holds Tryz.pinned (OpenSpec.upto joinWithinSpec)

/-- 'pannierlaw11.JoinGroups', WHERE WHAT IT READS IS OF BULK AT MOST 1048576: true; the input reads as it did. -/
def joinGroupsUptoRow : OpenClaim := { program := "ytemfaojmelljpaagreatdoor", sum := "8bd74b664b328dc4ef378800b9efd6b911a690bee31f7952ccf6561ee6a6a049", func := "pannier/pannierlaw11.JoinGroups", spec := "joinGroups", inPlace := ["internal/bytealg.IndexByteString", "internal/bytealg.IndexString"], unfollowed := true, recurses := true, named := ["unicode/utf8.first", "unicode/utf8.acceptRanges", "internal/bytealg.MaxLen"], apart := false, laid := [("unicode/utf8.acceptRanges", laid_unicode_utf8_acceptRanges), ("unicode/utf8.first", laid_unicode_utf8_first)], narrowed := true }
def JoinGroupsUptoSaid : Prop := joinGroupsUptoRow.holds Tryz.pinned (OpenSpec.upto joinGroupsSpec)

/-- 'pannierlaw11.JoinHolds', WHERE WHAT IT READS IS OF BULK AT MOST 1048576: true; the input reads as it did. -/
def joinHoldsUptoRow : OpenClaim := { program := "ytemfaojmelljpaagreatdoor", sum := "8bd74b664b328dc4ef378800b9efd6b911a690bee31f7952ccf6561ee6a6a049", func := "pannier/pannierlaw11.JoinHolds", spec := "joinHolds", inPlace := ["internal/bytealg.IndexByteString", "internal/bytealg.IndexString"], unfollowed := true, recurses := true, named := ["unicode/utf8.first", "unicode/utf8.acceptRanges", "internal/bytealg.MaxLen"], apart := false, laid := [("unicode/utf8.acceptRanges", laid_unicode_utf8_acceptRanges), ("unicode/utf8.first", laid_unicode_utf8_first)], narrowed := true }
def JoinHoldsUptoSaid : Prop := joinHoldsUptoRow.holds Tryz.pinned (OpenSpec.upto joinHoldsSpec)

end Rows
end Go.Proofs.YtemfaojmelljpaaGreatDoor
