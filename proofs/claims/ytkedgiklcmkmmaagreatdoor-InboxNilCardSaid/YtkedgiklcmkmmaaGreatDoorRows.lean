/-
  NARROWER THAN 'FOR EVERY INPUT', by the rows' own cells (each row's printed sentence says how): InboxNew: laid · InboxRounds: laid · InboxFulls: laid · InboxHolds: laid · InboxPlays: laid · InboxNil: laid.
  DERIVED. THE GIVEN ROWS OF THIS SEAT. 6 by the template 'for every input the law returns true; each argument reads behind the call as it read before'; 0 by the template 'total and deterministic' (their statements: YtkedgiklcmkmmaaGreatDoorTotals.lean).
  GIVEN WITH THE SEED: the statements are not yours to turn. If you find one false, say at which input.
  Laid BY PROGRAM, IN A SANDBOX (cutbox-rows.mjs): the forced cells as the released guide's own fill.sh prints them over the translation 18fa3fca2887a35a… (all of the seat's roots in one cut). By AI agents, Wed Nov 11 2026. No macro, syntax, notation, axiom, sorry.
-/
import Derived.Test.YtkedgiklcmkmmaaGreatDoorChecked
import GoSem.PinnedTables
import GoSem.Claim
import GoSem.ClaimJoined
import GoSem.ClaimMapViews
import Derived.JoinedTies
import Derived.KernelRfl
namespace Go.Proofs.YtkedgiklcmkmmaaGreatDoor
/- THE CELL 'sum', in the pinned program and in every row, IS THE sha256 OF THE DUMP (.gsa) THAT YtkedgiklcmkmmaaGreatDoorProg.lean LOADS. Nothing in Lean hashes anything: it is a label: what it is worth is what the hold of that sum in a sandbox is worth. -/
noncomputable def Tryz.pinned : Pinned := { name := "ytkedgiklcmkmmaagreatdoor", sum := "18fa3fca2887a35a057902eee2cf40c49130d78fbfda623ed295f62f0c82e879", checked := Tryz.checked }
namespace Rows
def none {H : Type} : Left H := { results := [], args := [] }

/- WHAT THE LISTED PACKAGE-LEVEL VARIABLES READ AS WHEN THE CALL BEGINS. Each datum BY PROGRAM (the guide's laid-datum.mjs) off the statement by which the dump's own 'gosem.cut.vars' lays the variable. In a bare row this is a premise. The card (YtkedgiklcmkmmaaGreatDoorCards.lean) ties it to the program's text. -/
def laid_unicode_utf8_acceptRanges {H : Type} : DataW H := .agg [.agg [.lit (.int .u8 128), .lit (.int .u8 191)], .agg [.lit (.int .u8 160), .lit (.int .u8 191)], .agg [.lit (.int .u8 128), .lit (.int .u8 159)], .agg [.lit (.int .u8 144), .lit (.int .u8 191)], .agg [.lit (.int .u8 128), .lit (.int .u8 143)], .agg [.lit (.int .u8 0), .lit (.int .u8 0)], .agg [.lit (.int .u8 0), .lit (.int .u8 0)], .agg [.lit (.int .u8 0), .lit (.int .u8 0)], .agg [.lit (.int .u8 0), .lit (.int .u8 0)], .agg [.lit (.int .u8 0), .lit (.int .u8 0)], .agg [.lit (.int .u8 0), .lit (.int .u8 0)], .agg [.lit (.int .u8 0), .lit (.int .u8 0)], .agg [.lit (.int .u8 0), .lit (.int .u8 0)], .agg [.lit (.int .u8 0), .lit (.int .u8 0)], .agg [.lit (.int .u8 0), .lit (.int .u8 0)], .agg [.lit (.int .u8 0), .lit (.int .u8 0)]]
/-- One of Go's own tables, pinned by name: the form's constant. -/
def laid_unicode_utf8_first : DataW Unit := Go.Pinned.utf8First

/-- 'pannierlaw20.InboxNew': WHATEVER THE INPUT: true; the input reads as it did. -/
def inboxNewSpec : ChangeSpec := { name := "inboxNew", fn := fun _ => fun
  | [d] => { results := [.lit (.bool true)], args := [d] }
  | _ => none }
def inboxNewRow : OpenClaim := { program := "ytkedgiklcmkmmaagreatdoor", sum := "18fa3fca2887a35a057902eee2cf40c49130d78fbfda623ed295f62f0c82e879", func := "pannier/pannierlaw20.InboxNew", spec := "inboxNew", inPlace := ["internal/bytealg.IndexByteString", "internal/bytealg.IndexString", "internal/bytealg.abigen_runtime_cmpstring"], unfollowed := true, recurses := true, named := ["unicode/utf8.first", "unicode/utf8.acceptRanges", "internal/bytealg.MaxLen"], apart := false, laid := [("unicode/utf8.acceptRanges", laid_unicode_utf8_acceptRanges), ("unicode/utf8.first", laid_unicode_utf8_first)] }
def InboxNewSaid : Prop := inboxNewRow.holds Tryz.pinned (OpenSpec.ofChange inboxNewSpec)

/-- ITS FALSE NEIGHBOUR: 'it returns false'. Refute it at one input. -/
def inboxNewWrong : ChangeSpec := { name := "inboxNew", fn := fun _ => fun
  | [d] => { results := [.lit (.bool false)], args := [d] }
  | _ => none }
def InboxNewWrongFalsely : Prop := inboxNewRow.holds Tryz.pinned (OpenSpec.ofChange inboxNewWrong)

/-- 'pannierlaw20.InboxRounds': WHATEVER THE INPUT: true; the input reads as it did. -/
def inboxRoundsSpec : ChangeSpec := { name := "inboxRounds", fn := fun _ => fun
  | [d1, d2, d3, d4] => { results := [.lit (.bool true)], args := [d1, d2, d3, d4] }
  | _ => none }
def inboxRoundsRow : OpenClaim := { program := "ytkedgiklcmkmmaagreatdoor", sum := "18fa3fca2887a35a057902eee2cf40c49130d78fbfda623ed295f62f0c82e879", func := "pannier/pannierlaw20.InboxRounds", spec := "inboxRounds", inPlace := ["internal/bytealg.IndexByteString", "internal/bytealg.IndexString", "internal/bytealg.abigen_runtime_cmpstring"], unfollowed := true, recurses := true, named := ["unicode/utf8.first", "unicode/utf8.acceptRanges", "internal/bytealg.MaxLen"], apart := false, laid := [("unicode/utf8.acceptRanges", laid_unicode_utf8_acceptRanges), ("unicode/utf8.first", laid_unicode_utf8_first)] }
def InboxRoundsSaid : Prop := inboxRoundsRow.holds Tryz.pinned (OpenSpec.ofChange inboxRoundsSpec)

/-- ITS FALSE NEIGHBOUR: 'it returns false'. Refute it at one input. -/
def inboxRoundsWrong : ChangeSpec := { name := "inboxRounds", fn := fun _ => fun
  | [d1, d2, d3, d4] => { results := [.lit (.bool false)], args := [d1, d2, d3, d4] }
  | _ => none }
def InboxRoundsWrongFalsely : Prop := inboxRoundsRow.holds Tryz.pinned (OpenSpec.ofChange inboxRoundsWrong)

/-- 'pannierlaw20.InboxFulls': WHATEVER THE INPUT: true; the input reads as it did. -/
def inboxFullsSpec : ChangeSpec := { name := "inboxFulls", fn := fun _ => fun
  | [d1, d2] => { results := [.lit (.bool true)], args := [d1, d2] }
  | _ => none }
def inboxFullsRow : OpenClaim := { program := "ytkedgiklcmkmmaagreatdoor", sum := "18fa3fca2887a35a057902eee2cf40c49130d78fbfda623ed295f62f0c82e879", func := "pannier/pannierlaw20.InboxFulls", spec := "inboxFulls", inPlace := ["internal/bytealg.IndexByteString", "internal/bytealg.IndexString", "internal/bytealg.abigen_runtime_cmpstring"], unfollowed := true, recurses := true, named := ["unicode/utf8.first", "unicode/utf8.acceptRanges", "internal/bytealg.MaxLen"], apart := false, laid := [("unicode/utf8.acceptRanges", laid_unicode_utf8_acceptRanges), ("unicode/utf8.first", laid_unicode_utf8_first)] }
def InboxFullsSaid : Prop := inboxFullsRow.holds Tryz.pinned (OpenSpec.ofChange inboxFullsSpec)

/-- ITS FALSE NEIGHBOUR: 'it returns false'. Refute it at one input. -/
def inboxFullsWrong : ChangeSpec := { name := "inboxFulls", fn := fun _ => fun
  | [d1, d2] => { results := [.lit (.bool false)], args := [d1, d2] }
  | _ => none }
def InboxFullsWrongFalsely : Prop := inboxFullsRow.holds Tryz.pinned (OpenSpec.ofChange inboxFullsWrong)

/-- 'pannierlaw20.InboxHolds': WHATEVER THE INPUT: true; the input reads as it did. -/
def inboxHoldsSpec : ChangeSpec := { name := "inboxHolds", fn := fun _ => fun
  | [d1, d2] => { results := [.lit (.bool true)], args := [d1, d2] }
  | _ => none }
def inboxHoldsRow : OpenClaim := { program := "ytkedgiklcmkmmaagreatdoor", sum := "18fa3fca2887a35a057902eee2cf40c49130d78fbfda623ed295f62f0c82e879", func := "pannier/pannierlaw20.InboxHolds", spec := "inboxHolds", inPlace := ["internal/bytealg.IndexByteString", "internal/bytealg.IndexString", "internal/bytealg.abigen_runtime_cmpstring"], unfollowed := true, recurses := true, named := ["unicode/utf8.first", "unicode/utf8.acceptRanges", "internal/bytealg.MaxLen"], apart := false, laid := [("unicode/utf8.acceptRanges", laid_unicode_utf8_acceptRanges), ("unicode/utf8.first", laid_unicode_utf8_first)] }
def InboxHoldsSaid : Prop := inboxHoldsRow.holds Tryz.pinned (OpenSpec.ofChange inboxHoldsSpec)

/-- ITS FALSE NEIGHBOUR: 'it returns false'. Refute it at one input. -/
def inboxHoldsWrong : ChangeSpec := { name := "inboxHolds", fn := fun _ => fun
  | [d1, d2] => { results := [.lit (.bool false)], args := [d1, d2] }
  | _ => none }
def InboxHoldsWrongFalsely : Prop := inboxHoldsRow.holds Tryz.pinned (OpenSpec.ofChange inboxHoldsWrong)

/-- 'pannierlaw20.InboxPlays': WHATEVER THE INPUT: true; the input reads as it did. -/
def inboxPlaysSpec : ChangeSpec := { name := "inboxPlays", fn := fun _ => fun
  | [d1, d2] => { results := [.lit (.bool true)], args := [d1, d2] }
  | _ => none }
def inboxPlaysRow : OpenClaim := { program := "ytkedgiklcmkmmaagreatdoor", sum := "18fa3fca2887a35a057902eee2cf40c49130d78fbfda623ed295f62f0c82e879", func := "pannier/pannierlaw20.InboxPlays", spec := "inboxPlays", inPlace := ["internal/bytealg.IndexByteString", "internal/bytealg.IndexString", "internal/bytealg.abigen_runtime_cmpstring"], unfollowed := true, recurses := true, named := ["unicode/utf8.first", "unicode/utf8.acceptRanges", "internal/bytealg.MaxLen"], apart := false, laid := [("unicode/utf8.acceptRanges", laid_unicode_utf8_acceptRanges), ("unicode/utf8.first", laid_unicode_utf8_first)] }
def InboxPlaysSaid : Prop := inboxPlaysRow.holds Tryz.pinned (OpenSpec.ofChange inboxPlaysSpec)

/-- ITS FALSE NEIGHBOUR: 'it returns false'. Refute it at one input. -/
def inboxPlaysWrong : ChangeSpec := { name := "inboxPlays", fn := fun _ => fun
  | [d1, d2] => { results := [.lit (.bool false)], args := [d1, d2] }
  | _ => none }
def InboxPlaysWrongFalsely : Prop := inboxPlaysRow.holds Tryz.pinned (OpenSpec.ofChange inboxPlaysWrong)

/-- 'pannierlaw20.InboxNil': WHATEVER THE INPUT: true; the input reads as it did. -/
def inboxNilSpec : ChangeSpec := { name := "inboxNil", fn := fun _ => fun
  | [d] => { results := [.lit (.bool true)], args := [d] }
  | _ => none }
def inboxNilRow : OpenClaim := { program := "ytkedgiklcmkmmaagreatdoor", sum := "18fa3fca2887a35a057902eee2cf40c49130d78fbfda623ed295f62f0c82e879", func := "pannier/pannierlaw20.InboxNil", spec := "inboxNil", inPlace := ["internal/bytealg.IndexByteString", "internal/bytealg.IndexString", "internal/bytealg.abigen_runtime_cmpstring"], unfollowed := true, recurses := true, named := ["unicode/utf8.first", "unicode/utf8.acceptRanges", "internal/bytealg.MaxLen"], apart := false, laid := [("unicode/utf8.acceptRanges", laid_unicode_utf8_acceptRanges), ("unicode/utf8.first", laid_unicode_utf8_first)] }
def InboxNilSaid : Prop := inboxNilRow.holds Tryz.pinned (OpenSpec.ofChange inboxNilSpec)

/-- ITS FALSE NEIGHBOUR: 'it returns false'. Refute it at one input. -/
def inboxNilWrong : ChangeSpec := { name := "inboxNil", fn := fun _ => fun
  | [d] => { results := [.lit (.bool false)], args := [d] }
  | _ => none }
def InboxNilWrongFalsely : Prop := inboxNilRow.holds Tryz.pinned (OpenSpec.ofChange inboxNilWrong)

/- THE SECOND FORM. 'bulk': how many values and letters a reading holds, each counted each time it is reached (what is shared counts as often as it is met; a slice's spare places count too). A statement '..UptoSaid' is the law's where the arguments, and the package variables that the reading takes, are together of bulk at most 1048576: NARROWER than '..Said'. Prove '..Said' where nothing that the law and all that it calls make is longer than what came in: it says more and counts as full. Else prove '..UptoSaid'. A law counts once. -/
mutual
def uptoBulk {H : Type} : DataW H → Nat
  | .lit (.string bytes) => bytes.length + 1
  | .lit _ => 1
  | .nil => 1
  | .ptr d => uptoBulk d + 1
  | .slice elems spare => uptoBulkAll elems + uptoBulkAll spare + 1
  | .agg parts => uptoBulkAll parts + 1
  | .iface _ d => uptoBulk d + 1
  | .map entries => uptoBulkEntries entries + 1
  | .held _ => 1
def uptoBulkAll {H : Type} : List (DataW H) → Nat
  | [] => 0
  | d :: r => uptoBulk d + uptoBulkAll r
def uptoBulkEntries {H : Type} : List (Lit × DataW H) → Nat
  | [] => 0
  | x :: r => uptoBulkEntry x + uptoBulkEntries r
def uptoBulkEntry {H : Type} : Lit × DataW H → Nat
  | (.string bytes, d) => bytes.length + uptoBulk d + 1
  | (_, d) => uptoBulk d + 1
 end
def uptoSmall : (H : Type) → List (DataW H) → Bool := fun _ ds => decide (uptoBulkAll ds ≤ 1048576)
def OpenSpec.upto (s : _root_.Go.ChangeSpec) : _root_.Go.OpenSpec := { _root_.Go.OpenSpec.ofChange s with cond := some uptoSmall }

/-- 'pannierlaw20.InboxNew', WHERE WHAT IT READS IS OF BULK AT MOST 1048576: true; the input reads as it did. -/
def inboxNewUptoRow : OpenClaim := { program := "ytkedgiklcmkmmaagreatdoor", sum := "18fa3fca2887a35a057902eee2cf40c49130d78fbfda623ed295f62f0c82e879", func := "pannier/pannierlaw20.InboxNew", spec := "inboxNew", inPlace := ["internal/bytealg.IndexByteString", "internal/bytealg.IndexString", "internal/bytealg.abigen_runtime_cmpstring"], unfollowed := true, recurses := true, named := ["unicode/utf8.first", "unicode/utf8.acceptRanges", "internal/bytealg.MaxLen"], apart := false, laid := [("unicode/utf8.acceptRanges", laid_unicode_utf8_acceptRanges), ("unicode/utf8.first", laid_unicode_utf8_first)], narrowed := true }
def InboxNewUptoSaid : Prop := inboxNewUptoRow.holds Tryz.pinned (OpenSpec.upto inboxNewSpec)

/-- 'pannierlaw20.InboxRounds', WHERE WHAT IT READS IS OF BULK AT MOST 1048576: true; the input reads as it did. -/
def inboxRoundsUptoRow : OpenClaim := { program := "ytkedgiklcmkmmaagreatdoor", sum := "18fa3fca2887a35a057902eee2cf40c49130d78fbfda623ed295f62f0c82e879", func := "pannier/pannierlaw20.InboxRounds", spec := "inboxRounds", inPlace := ["internal/bytealg.IndexByteString", "internal/bytealg.IndexString", "internal/bytealg.abigen_runtime_cmpstring"], unfollowed := true, recurses := true, named := ["unicode/utf8.first", "unicode/utf8.acceptRanges", "internal/bytealg.MaxLen"], apart := false, laid := [("unicode/utf8.acceptRanges", laid_unicode_utf8_acceptRanges), ("unicode/utf8.first", laid_unicode_utf8_first)], narrowed := true }
def InboxRoundsUptoSaid : Prop := inboxRoundsUptoRow.holds Tryz.pinned (OpenSpec.upto inboxRoundsSpec)

/-- 'pannierlaw20.InboxFulls', WHERE WHAT IT READS IS OF BULK AT MOST 1048576: true; the input reads as it did. -/
def inboxFullsUptoRow : OpenClaim := { program := "ytkedgiklcmkmmaagreatdoor", sum := "18fa3fca2887a35a057902eee2cf40c49130d78fbfda623ed295f62f0c82e879", func := "pannier/pannierlaw20.InboxFulls", spec := "inboxFulls", inPlace := ["internal/bytealg.IndexByteString", "internal/bytealg.IndexString", "internal/bytealg.abigen_runtime_cmpstring"], unfollowed := true, recurses := true, named := ["unicode/utf8.first", "unicode/utf8.acceptRanges", "internal/bytealg.MaxLen"], apart := false, laid := [("unicode/utf8.acceptRanges", laid_unicode_utf8_acceptRanges), ("unicode/utf8.first", laid_unicode_utf8_first)], narrowed := true }
def InboxFullsUptoSaid : Prop := inboxFullsUptoRow.holds Tryz.pinned (OpenSpec.upto inboxFullsSpec)

/-- 'pannierlaw20.InboxHolds', WHERE WHAT IT READS IS OF BULK AT MOST 1048576: true; the input reads as it did. -/
def inboxHoldsUptoRow : OpenClaim := { program := "ytkedgiklcmkmmaagreatdoor", sum := "18fa3fca2887a35a057902eee2cf40c49130d78fbfda623ed295f62f0c82e879", func := "pannier/pannierlaw20.InboxHolds", spec := "inboxHolds", inPlace := ["internal/bytealg.IndexByteString", "internal/bytealg.IndexString", "internal/bytealg.abigen_runtime_cmpstring"], unfollowed := true, recurses := true, named := ["unicode/utf8.first", "unicode/utf8.acceptRanges", "internal/bytealg.MaxLen"], apart := false, laid := [("unicode/utf8.acceptRanges", laid_unicode_utf8_acceptRanges), ("unicode/utf8.first", laid_unicode_utf8_first)], narrowed := true }
def InboxHoldsUptoSaid : Prop := inboxHoldsUptoRow.holds Tryz.pinned (OpenSpec.upto inboxHoldsSpec)

/-- 'pannierlaw20.InboxPlays', WHERE WHAT IT READS IS OF BULK AT MOST 1048576: true; the input reads as it did. -/
def inboxPlaysUptoRow : OpenClaim := { program := "ytkedgiklcmkmmaagreatdoor", sum := "18fa3fca2887a35a057902eee2cf40c49130d78fbfda623ed295f62f0c82e879", func := "pannier/pannierlaw20.InboxPlays", spec := "inboxPlays", inPlace := ["internal/bytealg.IndexByteString", "internal/bytealg.IndexString", "internal/bytealg.abigen_runtime_cmpstring"], unfollowed := true, recurses := true, named := ["unicode/utf8.first", "unicode/utf8.acceptRanges", "internal/bytealg.MaxLen"], apart := false, laid := [("unicode/utf8.acceptRanges", laid_unicode_utf8_acceptRanges), ("unicode/utf8.first", laid_unicode_utf8_first)], narrowed := true }
def InboxPlaysUptoSaid : Prop := inboxPlaysUptoRow.holds Tryz.pinned (OpenSpec.upto inboxPlaysSpec)

/-- 'pannierlaw20.InboxNil', WHERE WHAT IT READS IS OF BULK AT MOST 1048576: true; the input reads as it did. -/
def inboxNilUptoRow : OpenClaim := { program := "ytkedgiklcmkmmaagreatdoor", sum := "18fa3fca2887a35a057902eee2cf40c49130d78fbfda623ed295f62f0c82e879", func := "pannier/pannierlaw20.InboxNil", spec := "inboxNil", inPlace := ["internal/bytealg.IndexByteString", "internal/bytealg.IndexString", "internal/bytealg.abigen_runtime_cmpstring"], unfollowed := true, recurses := true, named := ["unicode/utf8.first", "unicode/utf8.acceptRanges", "internal/bytealg.MaxLen"], apart := false, laid := [("unicode/utf8.acceptRanges", laid_unicode_utf8_acceptRanges), ("unicode/utf8.first", laid_unicode_utf8_first)], narrowed := true }
def InboxNilUptoSaid : Prop := inboxNilUptoRow.holds Tryz.pinned (OpenSpec.upto inboxNilSpec)

end Rows
end Go.Proofs.YtkedgiklcmkmmaaGreatDoor
