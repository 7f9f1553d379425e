/-
  NARROWER THAN 'FOR EVERY INPUT', by the rows' own cells (each row's printed sentence says how): CartCanons: laid · CartLooks: laid · CartOrders: laid · CartHolds: laid · CartValid: laid.
  DERIVED. THE GIVEN ROWS OF THIS SEAT. 5 by the template 'for every input the law returns true; each argument reads behind the call as it read before'; 0 by the template 'total and deterministic' (their statements: YtadbmineobldbaaGreatDoorTotals.lean).
  GIVEN WITH THE SEED: the statements are not yours to turn. If you find one false, say at which input.
  Laid BY PROGRAM, IN A SANDBOX (cutbox-rows.mjs): the forced cells as the released guide's own fill.sh prints them over the translation 86f7a96cc93a06f1… (all of the seat's roots in one cut). By AI agents, Wed Nov 11 2026. No macro, syntax, notation, axiom, sorry.
-/
import Derived.Test.YtadbmineobldbaaGreatDoorChecked
import GoSem.PinnedTables
import GoSem.Claim
import GoSem.ClaimJoined
import GoSem.ClaimMapViews
import Derived.JoinedTies
import Derived.KernelRfl
namespace Go.Proofs.YtadbmineobldbaaGreatDoor
/- THE CELL 'sum', in the pinned program and in every row, IS THE sha256 OF THE DUMP (.gsa) THAT YtadbmineobldbaaGreatDoorProg.lean LOADS. Nothing in Lean hashes anything: it is a label: what it is worth is what the hold of that sum in a sandbox is worth. -/
noncomputable def Tryz.pinned : Pinned := { name := "ytadbmineobldbaagreatdoor", sum := "86f7a96cc93a06f1def2a07d73deb51ca66e9f506e0d00d600787583ef4baf33", checked := Tryz.checked }
namespace Rows
def none {H : Type} : Left H := { results := [], args := [] }

/- WHAT THE LISTED PACKAGE-LEVEL VARIABLES READ AS WHEN THE CALL BEGINS. Each datum BY PROGRAM (the guide's laid-datum.mjs) off the statement by which the dump's own 'gosem.cut.vars' lays the variable. In a bare row this is a premise. The card (YtadbmineobldbaaGreatDoorCards.lean) ties it to the program's text. -/
def laid_unicode_utf8_acceptRanges {H : Type} : DataW H := .agg [.agg [.lit (.int .u8 128), .lit (.int .u8 191)], .agg [.lit (.int .u8 160), .lit (.int .u8 191)], .agg [.lit (.int .u8 128), .lit (.int .u8 159)], .agg [.lit (.int .u8 144), .lit (.int .u8 191)], .agg [.lit (.int .u8 128), .lit (.int .u8 143)], .agg [.lit (.int .u8 0), .lit (.int .u8 0)], .agg [.lit (.int .u8 0), .lit (.int .u8 0)], .agg [.lit (.int .u8 0), .lit (.int .u8 0)], .agg [.lit (.int .u8 0), .lit (.int .u8 0)], .agg [.lit (.int .u8 0), .lit (.int .u8 0)], .agg [.lit (.int .u8 0), .lit (.int .u8 0)], .agg [.lit (.int .u8 0), .lit (.int .u8 0)], .agg [.lit (.int .u8 0), .lit (.int .u8 0)], .agg [.lit (.int .u8 0), .lit (.int .u8 0)], .agg [.lit (.int .u8 0), .lit (.int .u8 0)], .agg [.lit (.int .u8 0), .lit (.int .u8 0)]]
/-- One of Go's own tables, pinned by name: the form's constant. -/
def laid_unicode_utf8_first : DataW Unit := Go.Pinned.utf8First

/-- 'pannierlaw10.CartCanons': WHATEVER THE INPUT: true; the input reads as it did. -/
def cartCanonsSpec : ChangeSpec := { name := "cartCanons", fn := fun _ => fun
  | [d] => { results := [.lit (.bool true)], args := [d] }
  | _ => none }
def cartCanonsRow : OpenClaim := { program := "ytadbmineobldbaagreatdoor", sum := "86f7a96cc93a06f1def2a07d73deb51ca66e9f506e0d00d600787583ef4baf33", func := "pannier/pannierlaw10.CartCanons", spec := "cartCanons", inPlace := ["internal/bytealg.IndexByteString", "internal/bytealg.IndexString"], unfollowed := true, recurses := true, named := ["unicode/utf8.first", "unicode/utf8.acceptRanges", "internal/bytealg.MaxLen"], plainKeys := false, apart := false, laid := [("unicode/utf8.acceptRanges", laid_unicode_utf8_acceptRanges), ("unicode/utf8.first", laid_unicode_utf8_first)] }
def CartCanonsSaid : Prop := cartCanonsRow.holds Tryz.pinned (OpenSpec.ofChange cartCanonsSpec)

/-- ITS FALSE NEIGHBOUR: 'it returns false'. Refute it at one input. -/
def cartCanonsWrong : ChangeSpec := { name := "cartCanons", fn := fun _ => fun
  | [d] => { results := [.lit (.bool false)], args := [d] }
  | _ => none }
def CartCanonsWrongFalsely : Prop := cartCanonsRow.holds Tryz.pinned (OpenSpec.ofChange cartCanonsWrong)

/-- 'pannierlaw10.CartLooks': WHATEVER THE INPUT: true; the input reads as it did. -/
def cartLooksSpec : ChangeSpec := { name := "cartLooks", fn := fun _ => fun
  | [d1, d2] => { results := [.lit (.bool true)], args := [d1, d2] }
  | _ => none }
def cartLooksRow : OpenClaim := { program := "ytadbmineobldbaagreatdoor", sum := "86f7a96cc93a06f1def2a07d73deb51ca66e9f506e0d00d600787583ef4baf33", func := "pannier/pannierlaw10.CartLooks", spec := "cartLooks", inPlace := ["internal/bytealg.IndexByteString", "internal/bytealg.IndexString"], unfollowed := true, recurses := true, named := ["unicode/utf8.first", "unicode/utf8.acceptRanges", "internal/bytealg.MaxLen"], plainKeys := false, apart := false, laid := [("unicode/utf8.acceptRanges", laid_unicode_utf8_acceptRanges), ("unicode/utf8.first", laid_unicode_utf8_first)] }
def CartLooksSaid : Prop := cartLooksRow.holds Tryz.pinned (OpenSpec.ofChange cartLooksSpec)

/-- ITS FALSE NEIGHBOUR: 'it returns false'. Refute it at one input. -/
def cartLooksWrong : ChangeSpec := { name := "cartLooks", fn := fun _ => fun
  | [d1, d2] => { results := [.lit (.bool false)], args := [d1, d2] }
  | _ => none }
def CartLooksWrongFalsely : Prop := cartLooksRow.holds Tryz.pinned (OpenSpec.ofChange cartLooksWrong)

/-- 'pannierlaw10.CartOrders': WHATEVER THE INPUT: true; the input reads as it did. -/
def cartOrdersSpec : ChangeSpec := { name := "cartOrders", fn := fun _ => fun
  | [d1, d2] => { results := [.lit (.bool true)], args := [d1, d2] }
  | _ => none }
def cartOrdersRow : OpenClaim := { program := "ytadbmineobldbaagreatdoor", sum := "86f7a96cc93a06f1def2a07d73deb51ca66e9f506e0d00d600787583ef4baf33", func := "pannier/pannierlaw10.CartOrders", spec := "cartOrders", inPlace := ["internal/bytealg.IndexByteString", "internal/bytealg.IndexString"], unfollowed := true, recurses := true, named := ["unicode/utf8.first", "unicode/utf8.acceptRanges", "internal/bytealg.MaxLen"], plainKeys := false, apart := false, laid := [("unicode/utf8.acceptRanges", laid_unicode_utf8_acceptRanges), ("unicode/utf8.first", laid_unicode_utf8_first)] }
def CartOrdersSaid : Prop := cartOrdersRow.holds Tryz.pinned (OpenSpec.ofChange cartOrdersSpec)

/-- ITS FALSE NEIGHBOUR: 'it returns false'. Refute it at one input. -/
def cartOrdersWrong : ChangeSpec := { name := "cartOrders", fn := fun _ => fun
  | [d1, d2] => { results := [.lit (.bool false)], args := [d1, d2] }
  | _ => none }
def CartOrdersWrongFalsely : Prop := cartOrdersRow.holds Tryz.pinned (OpenSpec.ofChange cartOrdersWrong)

/-- 'pannierlaw10.CartHolds': WHATEVER THE INPUT: true; the input reads as it did. -/
def cartHoldsSpec : ChangeSpec := { name := "cartHolds", fn := fun _ => fun
  | [d] => { results := [.lit (.bool true)], args := [d] }
  | _ => none }
def cartHoldsRow : OpenClaim := { program := "ytadbmineobldbaagreatdoor", sum := "86f7a96cc93a06f1def2a07d73deb51ca66e9f506e0d00d600787583ef4baf33", func := "pannier/pannierlaw10.CartHolds", spec := "cartHolds", inPlace := ["internal/bytealg.IndexByteString", "internal/bytealg.IndexString"], unfollowed := true, recurses := true, named := ["unicode/utf8.first", "unicode/utf8.acceptRanges", "internal/bytealg.MaxLen"], plainKeys := false, apart := false, laid := [("unicode/utf8.acceptRanges", laid_unicode_utf8_acceptRanges), ("unicode/utf8.first", laid_unicode_utf8_first)] }
def CartHoldsSaid : Prop := cartHoldsRow.holds Tryz.pinned (OpenSpec.ofChange cartHoldsSpec)

/-- ITS FALSE NEIGHBOUR: 'it returns false'. Refute it at one input. -/
def cartHoldsWrong : ChangeSpec := { name := "cartHolds", fn := fun _ => fun
  | [d] => { results := [.lit (.bool false)], args := [d] }
  | _ => none }
def CartHoldsWrongFalsely : Prop := cartHoldsRow.holds Tryz.pinned (OpenSpec.ofChange cartHoldsWrong)

/-- 'pannierlaw10.CartValid': WHATEVER THE INPUT: true; the input reads as it did. -/
def cartValidSpec : ChangeSpec := { name := "cartValid", fn := fun _ => fun
  | [d1, d2] => { results := [.lit (.bool true)], args := [d1, d2] }
  | _ => none }
def cartValidRow : OpenClaim := { program := "ytadbmineobldbaagreatdoor", sum := "86f7a96cc93a06f1def2a07d73deb51ca66e9f506e0d00d600787583ef4baf33", func := "pannier/pannierlaw10.CartValid", spec := "cartValid", inPlace := ["internal/bytealg.IndexByteString", "internal/bytealg.IndexString"], unfollowed := true, recurses := true, named := ["unicode/utf8.first", "unicode/utf8.acceptRanges", "internal/bytealg.MaxLen"], plainKeys := false, apart := false, laid := [("unicode/utf8.acceptRanges", laid_unicode_utf8_acceptRanges), ("unicode/utf8.first", laid_unicode_utf8_first)] }
def CartValidSaid : Prop := cartValidRow.holds Tryz.pinned (OpenSpec.ofChange cartValidSpec)

/-- ITS FALSE NEIGHBOUR: 'it returns false'. Refute it at one input. -/
def cartValidWrong : ChangeSpec := { name := "cartValid", fn := fun _ => fun
  | [d1, d2] => { results := [.lit (.bool false)], args := [d1, d2] }
  | _ => none }
def CartValidWrongFalsely : Prop := cartValidRow.holds Tryz.pinned (OpenSpec.ofChange cartValidWrong)

/- THE SECOND FORM. 'bulk': how many values and letters a reading holds, each counted each time it is reached (what is shared counts as often as it is met; a slice's spare places count too). A statement '..UptoSaid' is the law's where the arguments, and the package variables that the reading takes, are together of bulk at most 1048576: NARROWER than '..Said'. Prove '..Said' where nothing that the law and all that it calls make is longer than what came in: it says more and counts as full. Else prove '..UptoSaid'. A law counts once. -/
mutual
def uptoBulk {H : Type} : DataW H → Nat
  | .lit (.string bytes) => bytes.length + 1
  | .lit _ => 1
  | .nil => 1
  | .ptr d => uptoBulk d + 1
  | .slice elems spare => uptoBulkAll elems + uptoBulkAll spare + 1
  | .agg parts => uptoBulkAll parts + 1
  | .iface _ d => uptoBulk d + 1
  | .map entries => uptoBulkEntries entries + 1
  | .held _ => 1
def uptoBulkAll {H : Type} : List (DataW H) → Nat
  | [] => 0
  | d :: r => uptoBulk d + uptoBulkAll r
def uptoBulkEntries {H : Type} : List (Lit × DataW H) → Nat
  | [] => 0
  | x :: r => uptoBulkEntry x + uptoBulkEntries r
def uptoBulkEntry {H : Type} : Lit × DataW H → Nat
  | (.string bytes, d) => bytes.length + uptoBulk d + 1
  | (_, d) => uptoBulk d + 1
 end
def uptoSmall : (H : Type) → List (DataW H) → Bool := fun _ ds => decide (uptoBulkAll ds ≤ 1048576)
def OpenSpec.upto (s : _root_.Go.ChangeSpec) : _root_.Go.OpenSpec := { _root_.Go.OpenSpec.ofChange s with cond := some uptoSmall }

/-- 'pannierlaw10.CartCanons', WHERE WHAT IT READS IS OF BULK AT MOST 1048576: true; the input reads as it did. -/
def cartCanonsUptoRow : OpenClaim := { program := "ytadbmineobldbaagreatdoor", sum := "86f7a96cc93a06f1def2a07d73deb51ca66e9f506e0d00d600787583ef4baf33", func := "pannier/pannierlaw10.CartCanons", spec := "cartCanons", inPlace := ["internal/bytealg.IndexByteString", "internal/bytealg.IndexString"], unfollowed := true, recurses := true, named := ["unicode/utf8.first", "unicode/utf8.acceptRanges", "internal/bytealg.MaxLen"], plainKeys := false, apart := false, laid := [("unicode/utf8.acceptRanges", laid_unicode_utf8_acceptRanges), ("unicode/utf8.first", laid_unicode_utf8_first)], narrowed := true }
def CartCanonsUptoSaid : Prop := cartCanonsUptoRow.holds Tryz.pinned (OpenSpec.upto cartCanonsSpec)

/-- 'pannierlaw10.CartLooks', WHERE WHAT IT READS IS OF BULK AT MOST 1048576: true; the input reads as it did. -/
def cartLooksUptoRow : OpenClaim := { program := "ytadbmineobldbaagreatdoor", sum := "86f7a96cc93a06f1def2a07d73deb51ca66e9f506e0d00d600787583ef4baf33", func := "pannier/pannierlaw10.CartLooks", spec := "cartLooks", inPlace := ["internal/bytealg.IndexByteString", "internal/bytealg.IndexString"], unfollowed := true, recurses := true, named := ["unicode/utf8.first", "unicode/utf8.acceptRanges", "internal/bytealg.MaxLen"], plainKeys := false, apart := false, laid := [("unicode/utf8.acceptRanges", laid_unicode_utf8_acceptRanges), ("unicode/utf8.first", laid_unicode_utf8_first)], narrowed := true }
def CartLooksUptoSaid : Prop := cartLooksUptoRow.holds Tryz.pinned (OpenSpec.upto cartLooksSpec)

/-- 'pannierlaw10.CartOrders', WHERE WHAT IT READS IS OF BULK AT MOST 1048576: true; the input reads as it did. -/
def cartOrdersUptoRow : OpenClaim := { program := "ytadbmineobldbaagreatdoor", sum := "86f7a96cc93a06f1def2a07d73deb51ca66e9f506e0d00d600787583ef4baf33", func := "pannier/pannierlaw10.CartOrders", spec := "cartOrders", inPlace := ["internal/bytealg.IndexByteString", "internal/bytealg.IndexString"], unfollowed := true, recurses := true, named := ["unicode/utf8.first", "unicode/utf8.acceptRanges", "internal/bytealg.MaxLen"], plainKeys := false, apart := false, laid := [("unicode/utf8.acceptRanges", laid_unicode_utf8_acceptRanges), ("unicode/utf8.first", laid_unicode_utf8_first)], narrowed := true }
def CartOrdersUptoSaid : Prop := cartOrdersUptoRow.holds Tryz.pinned (OpenSpec.upto cartOrdersSpec)

/-- 'pannierlaw10.CartHolds', WHERE WHAT IT READS IS OF BULK AT MOST 1048576: true; the input reads as it did. -/
def cartHoldsUptoRow : OpenClaim := { program := "ytadbmineobldbaagreatdoor", sum := "86f7a96cc93a06f1def2a07d73deb51ca66e9f506e0d00d600787583ef4baf33", func := "pannier/pannierlaw10.CartHolds", spec := "cartHolds", inPlace := ["internal/bytealg.IndexByteString", "internal/bytealg.IndexString"], unfollowed := true, recurses := true, named := ["unicode/utf8.first", "unicode/utf8.acceptRanges", "internal/bytealg.MaxLen"], plainKeys := false, apart := false, laid := [("unicode/utf8.acceptRanges", laid_unicode_utf8_acceptRanges), ("unicode/utf8.first", laid_unicode_utf8_first)], narrowed := true }
def CartHoldsUptoSaid : Prop := cartHoldsUptoRow.holds Tryz.pinned (OpenSpec.upto cartHoldsSpec)

/-- 'pannierlaw10.CartValid', WHERE WHAT IT READS IS OF BULK AT MOST 1048576: true; the input reads as it did. -/
def cartValidUptoRow : OpenClaim := { program := "ytadbmineobldbaagreatdoor", sum := "86f7a96cc93a06f1def2a07d73deb51ca66e9f506e0d00d600787583ef4baf33", func := "pannier/pannierlaw10.CartValid", spec := "cartValid", inPlace := ["internal/bytealg.IndexByteString", "internal/bytealg.IndexString"], unfollowed := true, recurses := true, named := ["unicode/utf8.first", "unicode/utf8.acceptRanges", "internal/bytealg.MaxLen"], plainKeys := false, apart := false, laid := [("unicode/utf8.acceptRanges", laid_unicode_utf8_acceptRanges), ("unicode/utf8.first", laid_unicode_utf8_first)], narrowed := true }
def CartValidUptoSaid : Prop := cartValidUptoRow.holds Tryz.pinned (OpenSpec.upto cartValidSpec)

end Rows
end Go.Proofs.YtadbmineobldbaaGreatDoor
