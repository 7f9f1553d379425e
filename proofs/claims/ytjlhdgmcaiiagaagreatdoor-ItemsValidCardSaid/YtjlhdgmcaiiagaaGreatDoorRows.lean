/-
  NARROWER THAN 'FOR EVERY INPUT', by the rows' own cells (each row's printed sentence says how): ItemsFinds: laid · ItemsPuts: laid · ItemsRemoves: laid · ItemsOrders: laid · ItemsHolds: laid · ItemsValid: laid.
  DERIVED. THE GIVEN ROWS OF THIS SEAT. 6 by the template 'for every input the law returns true; each argument reads behind the call as it read before'; 0 by the template 'total and deterministic' (their statements: YtjlhdgmcaiiagaaGreatDoorTotals.lean).
  GIVEN WITH THE SEED: the statements are not yours to turn. If you find one false, say at which input.
  Laid BY PROGRAM, IN A SANDBOX (cutbox-rows.mjs): the forced cells as the released guide's own fill.sh prints them over the translation 2d6ccc203eda521e… (all of the seat's roots in one cut). By AI agents, Wed Nov 11 2026. No macro, syntax, notation, axiom, sorry.
-/
import Derived.Test.YtjlhdgmcaiiagaaGreatDoorChecked
import GoSem.PinnedTables
import GoSem.Claim
import GoSem.ClaimJoined
import GoSem.ClaimMapViews
import Derived.JoinedTies
import Derived.KernelRfl
namespace Go.Proofs.YtjlhdgmcaiiagaaGreatDoor
/- THE CELL 'sum', in the pinned program and in every row, IS THE sha256 OF THE DUMP (.gsa) THAT YtjlhdgmcaiiagaaGreatDoorProg.lean LOADS. Nothing in Lean hashes anything: it is a label: what it is worth is what the hold of that sum in a sandbox is worth. -/
noncomputable def Tryz.pinned : Pinned := { name := "ytjlhdgmcaiiagaagreatdoor", sum := "2d6ccc203eda521e701f43122850e0f9142c300493f2185185a039ae345cbf93", checked := Tryz.checked }
namespace Rows
def none {H : Type} : Left H := { results := [], args := [] }

/- WHAT THE LISTED PACKAGE-LEVEL VARIABLES READ AS WHEN THE CALL BEGINS. Each datum BY PROGRAM (the guide's laid-datum.mjs) off the statement by which the dump's own 'gosem.cut.vars' lays the variable. In a bare row this is a premise. The card (YtjlhdgmcaiiagaaGreatDoorCards.lean) ties it to the program's text. -/
def laid_unicode_utf8_acceptRanges {H : Type} : DataW H := .agg [.agg [.lit (.int .u8 128), .lit (.int .u8 191)], .agg [.lit (.int .u8 160), .lit (.int .u8 191)], .agg [.lit (.int .u8 128), .lit (.int .u8 159)], .agg [.lit (.int .u8 144), .lit (.int .u8 191)], .agg [.lit (.int .u8 128), .lit (.int .u8 143)], .agg [.lit (.int .u8 0), .lit (.int .u8 0)], .agg [.lit (.int .u8 0), .lit (.int .u8 0)], .agg [.lit (.int .u8 0), .lit (.int .u8 0)], .agg [.lit (.int .u8 0), .lit (.int .u8 0)], .agg [.lit (.int .u8 0), .lit (.int .u8 0)], .agg [.lit (.int .u8 0), .lit (.int .u8 0)], .agg [.lit (.int .u8 0), .lit (.int .u8 0)], .agg [.lit (.int .u8 0), .lit (.int .u8 0)], .agg [.lit (.int .u8 0), .lit (.int .u8 0)], .agg [.lit (.int .u8 0), .lit (.int .u8 0)], .agg [.lit (.int .u8 0), .lit (.int .u8 0)]]
/-- One of Go's own tables, pinned by name: the form's constant. -/
def laid_unicode_utf8_first : DataW Unit := Go.Pinned.utf8First

/-- 'pannierlaw09.ItemsFinds': WHATEVER THE INPUT: true; the input reads as it did. -/
def itemsFindsSpec : ChangeSpec := { name := "itemsFinds", fn := fun _ => fun
  | [d1, d2, d3] => { results := [.lit (.bool true)], args := [d1, d2, d3] }
  | _ => none }
def itemsFindsRow : OpenClaim := { program := "ytjlhdgmcaiiagaagreatdoor", sum := "2d6ccc203eda521e701f43122850e0f9142c300493f2185185a039ae345cbf93", func := "pannier/pannierlaw09.ItemsFinds", spec := "itemsFinds", inPlace := ["internal/bytealg.IndexByteString", "internal/bytealg.IndexString"], unfollowed := true, recurses := true, named := ["unicode/utf8.first", "unicode/utf8.acceptRanges", "internal/bytealg.MaxLen"], apart := false, laid := [("unicode/utf8.acceptRanges", laid_unicode_utf8_acceptRanges), ("unicode/utf8.first", laid_unicode_utf8_first)] }
def ItemsFindsSaid : Prop := itemsFindsRow.holds Tryz.pinned (OpenSpec.ofChange itemsFindsSpec)

/-- ITS FALSE NEIGHBOUR: 'it returns false'. Refute it at one input. -/
def itemsFindsWrong : ChangeSpec := { name := "itemsFinds", fn := fun _ => fun
  | [d1, d2, d3] => { results := [.lit (.bool false)], args := [d1, d2, d3] }
  | _ => none }
def ItemsFindsWrongFalsely : Prop := itemsFindsRow.holds Tryz.pinned (OpenSpec.ofChange itemsFindsWrong)

/-- 'pannierlaw09.ItemsPuts': WHATEVER THE INPUT: true; the input reads as it did. -/
def itemsPutsSpec : ChangeSpec := { name := "itemsPuts", fn := fun _ => fun
  | [d1, d2] => { results := [.lit (.bool true)], args := [d1, d2] }
  | _ => none }
def itemsPutsRow : OpenClaim := { program := "ytjlhdgmcaiiagaagreatdoor", sum := "2d6ccc203eda521e701f43122850e0f9142c300493f2185185a039ae345cbf93", func := "pannier/pannierlaw09.ItemsPuts", spec := "itemsPuts", inPlace := ["internal/bytealg.IndexByteString", "internal/bytealg.IndexString"], unfollowed := true, recurses := true, named := ["unicode/utf8.first", "unicode/utf8.acceptRanges", "internal/bytealg.MaxLen"], apart := false, laid := [("unicode/utf8.acceptRanges", laid_unicode_utf8_acceptRanges), ("unicode/utf8.first", laid_unicode_utf8_first)] }
def ItemsPutsSaid : Prop := itemsPutsRow.holds Tryz.pinned (OpenSpec.ofChange itemsPutsSpec)

/-- ITS FALSE NEIGHBOUR: 'it returns false'. Refute it at one input. -/
def itemsPutsWrong : ChangeSpec := { name := "itemsPuts", fn := fun _ => fun
  | [d1, d2] => { results := [.lit (.bool false)], args := [d1, d2] }
  | _ => none }
def ItemsPutsWrongFalsely : Prop := itemsPutsRow.holds Tryz.pinned (OpenSpec.ofChange itemsPutsWrong)

/-- 'pannierlaw09.ItemsRemoves': WHATEVER THE INPUT: true; the input reads as it did. -/
def itemsRemovesSpec : ChangeSpec := { name := "itemsRemoves", fn := fun _ => fun
  | [d1, d2] => { results := [.lit (.bool true)], args := [d1, d2] }
  | _ => none }
def itemsRemovesRow : OpenClaim := { program := "ytjlhdgmcaiiagaagreatdoor", sum := "2d6ccc203eda521e701f43122850e0f9142c300493f2185185a039ae345cbf93", func := "pannier/pannierlaw09.ItemsRemoves", spec := "itemsRemoves", inPlace := ["internal/bytealg.IndexByteString", "internal/bytealg.IndexString"], unfollowed := true, recurses := true, named := ["unicode/utf8.first", "unicode/utf8.acceptRanges", "internal/bytealg.MaxLen"], apart := false, laid := [("unicode/utf8.acceptRanges", laid_unicode_utf8_acceptRanges), ("unicode/utf8.first", laid_unicode_utf8_first)] }
def ItemsRemovesSaid : Prop := itemsRemovesRow.holds Tryz.pinned (OpenSpec.ofChange itemsRemovesSpec)

/-- ITS FALSE NEIGHBOUR: 'it returns false'. Refute it at one input. -/
def itemsRemovesWrong : ChangeSpec := { name := "itemsRemoves", fn := fun _ => fun
  | [d1, d2] => { results := [.lit (.bool false)], args := [d1, d2] }
  | _ => none }
def ItemsRemovesWrongFalsely : Prop := itemsRemovesRow.holds Tryz.pinned (OpenSpec.ofChange itemsRemovesWrong)

/-- 'pannierlaw09.ItemsOrders': WHATEVER THE INPUT: true; the input reads as it did. -/
def itemsOrdersSpec : ChangeSpec := { name := "itemsOrders", fn := fun _ => fun
  | [d1, d2] => { results := [.lit (.bool true)], args := [d1, d2] }
  | _ => none }
def itemsOrdersRow : OpenClaim := { program := "ytjlhdgmcaiiagaagreatdoor", sum := "2d6ccc203eda521e701f43122850e0f9142c300493f2185185a039ae345cbf93", func := "pannier/pannierlaw09.ItemsOrders", spec := "itemsOrders", inPlace := ["internal/bytealg.IndexByteString", "internal/bytealg.IndexString"], unfollowed := true, recurses := true, named := ["unicode/utf8.first", "unicode/utf8.acceptRanges", "internal/bytealg.MaxLen"], apart := false, laid := [("unicode/utf8.acceptRanges", laid_unicode_utf8_acceptRanges), ("unicode/utf8.first", laid_unicode_utf8_first)] }
def ItemsOrdersSaid : Prop := itemsOrdersRow.holds Tryz.pinned (OpenSpec.ofChange itemsOrdersSpec)

/-- ITS FALSE NEIGHBOUR: 'it returns false'. Refute it at one input. -/
def itemsOrdersWrong : ChangeSpec := { name := "itemsOrders", fn := fun _ => fun
  | [d1, d2] => { results := [.lit (.bool false)], args := [d1, d2] }
  | _ => none }
def ItemsOrdersWrongFalsely : Prop := itemsOrdersRow.holds Tryz.pinned (OpenSpec.ofChange itemsOrdersWrong)

/-- 'pannierlaw09.ItemsHolds': WHATEVER THE INPUT: true; the input reads as it did. -/
def itemsHoldsSpec : ChangeSpec := { name := "itemsHolds", fn := fun _ => fun
  | [d1, d2] => { results := [.lit (.bool true)], args := [d1, d2] }
  | _ => none }
def itemsHoldsRow : OpenClaim := { program := "ytjlhdgmcaiiagaagreatdoor", sum := "2d6ccc203eda521e701f43122850e0f9142c300493f2185185a039ae345cbf93", func := "pannier/pannierlaw09.ItemsHolds", spec := "itemsHolds", inPlace := ["internal/bytealg.IndexByteString", "internal/bytealg.IndexString"], unfollowed := true, recurses := true, named := ["unicode/utf8.first", "unicode/utf8.acceptRanges", "internal/bytealg.MaxLen"], apart := false, laid := [("unicode/utf8.acceptRanges", laid_unicode_utf8_acceptRanges), ("unicode/utf8.first", laid_unicode_utf8_first)] }
def ItemsHoldsSaid : Prop := itemsHoldsRow.holds Tryz.pinned (OpenSpec.ofChange itemsHoldsSpec)

/-- ITS FALSE NEIGHBOUR: 'it returns false'. Refute it at one input. -/
def itemsHoldsWrong : ChangeSpec := { name := "itemsHolds", fn := fun _ => fun
  | [d1, d2] => { results := [.lit (.bool false)], args := [d1, d2] }
  | _ => none }
def ItemsHoldsWrongFalsely : Prop := itemsHoldsRow.holds Tryz.pinned (OpenSpec.ofChange itemsHoldsWrong)

/-- 'pannierlaw09.ItemsValid': WHATEVER THE INPUT: true; the input reads as it did. -/
def itemsValidSpec : ChangeSpec := { name := "itemsValid", fn := fun _ => fun
  | [d1, d2] => { results := [.lit (.bool true)], args := [d1, d2] }
  | _ => none }
def itemsValidRow : OpenClaim := { program := "ytjlhdgmcaiiagaagreatdoor", sum := "2d6ccc203eda521e701f43122850e0f9142c300493f2185185a039ae345cbf93", func := "pannier/pannierlaw09.ItemsValid", spec := "itemsValid", inPlace := ["internal/bytealg.IndexByteString", "internal/bytealg.IndexString"], unfollowed := true, recurses := true, named := ["unicode/utf8.first", "unicode/utf8.acceptRanges", "internal/bytealg.MaxLen"], apart := false, laid := [("unicode/utf8.acceptRanges", laid_unicode_utf8_acceptRanges), ("unicode/utf8.first", laid_unicode_utf8_first)] }
def ItemsValidSaid : Prop := itemsValidRow.holds Tryz.pinned (OpenSpec.ofChange itemsValidSpec)

/-- ITS FALSE NEIGHBOUR: 'it returns false'. Refute it at one input. -/
def itemsValidWrong : ChangeSpec := { name := "itemsValid", fn := fun _ => fun
  | [d1, d2] => { results := [.lit (.bool false)], args := [d1, d2] }
  | _ => none }
def ItemsValidWrongFalsely : Prop := itemsValidRow.holds Tryz.pinned (OpenSpec.ofChange itemsValidWrong)

/- THE SECOND FORM. 'bulk': how many values and letters a reading holds, each counted each time it is reached (what is shared counts as often as it is met; a slice's spare places count too). A statement '..UptoSaid' is the law's where the arguments, and the package variables that the reading takes, are together of bulk at most 1048576: NARROWER than '..Said'. Prove '..Said' where nothing that the law and all that it calls make is longer than what came in: it says more and counts as full. Else prove '..UptoSaid'. A law counts once. -/
mutual
def uptoBulk {H : Type} : DataW H → Nat
  | .lit (.string bytes) => bytes.length + 1
  | .lit _ => 1
  | .nil => 1
  | .ptr d => uptoBulk d + 1
  | .slice elems spare => uptoBulkAll elems + uptoBulkAll spare + 1
  | .agg parts => uptoBulkAll parts + 1
  | .iface _ d => uptoBulk d + 1
  | .map entries => uptoBulkEntries entries + 1
  | .held _ => 1
def uptoBulkAll {H : Type} : List (DataW H) → Nat
  | [] => 0
  | d :: r => uptoBulk d + uptoBulkAll r
def uptoBulkEntries {H : Type} : List (Lit × DataW H) → Nat
  | [] => 0
  | x :: r => uptoBulkEntry x + uptoBulkEntries r
def uptoBulkEntry {H : Type} : Lit × DataW H → Nat
  | (.string bytes, d) => bytes.length + uptoBulk d + 1
  | (_, d) => uptoBulk d + 1
 end
def uptoSmall : (H : Type) → List (DataW H) → Bool := fun _ ds => decide (uptoBulkAll ds ≤ 1048576)
def OpenSpec.upto (s : _root_.Go.ChangeSpec) : _root_.Go.OpenSpec := { _root_.Go.OpenSpec.ofChange s with cond := some uptoSmall }

/-- 'pannierlaw09.ItemsFinds', WHERE WHAT IT READS IS OF BULK AT MOST 1048576: true; the input reads as it did. -/
def itemsFindsUptoRow : OpenClaim := { program := "ytjlhdgmcaiiagaagreatdoor", sum := "2d6ccc203eda521e701f43122850e0f9142c300493f2185185a039ae345cbf93", func := "pannier/pannierlaw09.ItemsFinds", spec := "itemsFinds", inPlace := ["internal/bytealg.IndexByteString", "internal/bytealg.IndexString"], unfollowed := true, recurses := true, named := ["unicode/utf8.first", "unicode/utf8.acceptRanges", "internal/bytealg.MaxLen"], apart := false, laid := [("unicode/utf8.acceptRanges", laid_unicode_utf8_acceptRanges), ("unicode/utf8.first", laid_unicode_utf8_first)], narrowed := true }
def ItemsFindsUptoSaid : Prop := itemsFindsUptoRow.holds Tryz.pinned (OpenSpec.upto itemsFindsSpec)

/-- 'pannierlaw09.ItemsPuts', WHERE WHAT IT READS IS OF BULK AT MOST 1048576: true; the input reads as it did. -/
def itemsPutsUptoRow : OpenClaim := { program := "ytjlhdgmcaiiagaagreatdoor", sum := "2d6ccc203eda521e701f43122850e0f9142c300493f2185185a039ae345cbf93", func := "pannier/pannierlaw09.ItemsPuts", spec := "itemsPuts", inPlace := ["internal/bytealg.IndexByteString", "internal/bytealg.IndexString"], unfollowed := true, recurses := true, named := ["unicode/utf8.first", "unicode/utf8.acceptRanges", "internal/bytealg.MaxLen"], apart := false, laid := [("unicode/utf8.acceptRanges", laid_unicode_utf8_acceptRanges), ("unicode/utf8.first", laid_unicode_utf8_first)], narrowed := true }
def ItemsPutsUptoSaid : Prop := itemsPutsUptoRow.holds Tryz.pinned (OpenSpec.upto itemsPutsSpec)

/-- 'pannierlaw09.ItemsRemoves', WHERE WHAT IT READS IS OF BULK AT MOST 1048576: true; the input reads as it did. -/
def itemsRemovesUptoRow : OpenClaim := { program := "ytjlhdgmcaiiagaagreatdoor", sum := "2d6ccc203eda521e701f43122850e0f9142c300493f2185185a039ae345cbf93", func := "pannier/pannierlaw09.ItemsRemoves", spec := "itemsRemoves", inPlace := ["internal/bytealg.IndexByteString", "internal/bytealg.IndexString"], unfollowed := true, recurses := true, named := ["unicode/utf8.first", "unicode/utf8.acceptRanges", "internal/bytealg.MaxLen"], apart := false, laid := [("unicode/utf8.acceptRanges", laid_unicode_utf8_acceptRanges), ("unicode/utf8.first", laid_unicode_utf8_first)], narrowed := true }
def ItemsRemovesUptoSaid : Prop := itemsRemovesUptoRow.holds Tryz.pinned (OpenSpec.upto itemsRemovesSpec)

/-- 'pannierlaw09.ItemsOrders', WHERE WHAT IT READS IS OF BULK AT MOST 1048576: true; the input reads as it did. -/
def itemsOrdersUptoRow : OpenClaim := { program := "ytjlhdgmcaiiagaagreatdoor", sum := "2d6ccc203eda521e701f43122850e0f9142c300493f2185185a039ae345cbf93", func := "pannier/pannierlaw09.ItemsOrders", spec := "itemsOrders", inPlace := ["internal/bytealg.IndexByteString", "internal/bytealg.IndexString"], unfollowed := true, recurses := true, named := ["unicode/utf8.first", "unicode/utf8.acceptRanges", "internal/bytealg.MaxLen"], apart := false, laid := [("unicode/utf8.acceptRanges", laid_unicode_utf8_acceptRanges), ("unicode/utf8.first", laid_unicode_utf8_first)], narrowed := true }
def ItemsOrdersUptoSaid : Prop := itemsOrdersUptoRow.holds Tryz.pinned (OpenSpec.upto itemsOrdersSpec)

/-- 'pannierlaw09.ItemsHolds', WHERE WHAT IT READS IS OF BULK AT MOST 1048576: true; the input reads as it did. -/
def itemsHoldsUptoRow : OpenClaim := { program := "ytjlhdgmcaiiagaagreatdoor", sum := "2d6ccc203eda521e701f43122850e0f9142c300493f2185185a039ae345cbf93", func := "pannier/pannierlaw09.ItemsHolds", spec := "itemsHolds", inPlace := ["internal/bytealg.IndexByteString", "internal/bytealg.IndexString"], unfollowed := true, recurses := true, named := ["unicode/utf8.first", "unicode/utf8.acceptRanges", "internal/bytealg.MaxLen"], apart := false, laid := [("unicode/utf8.acceptRanges", laid_unicode_utf8_acceptRanges), ("unicode/utf8.first", laid_unicode_utf8_first)], narrowed := true }
def ItemsHoldsUptoSaid : Prop := itemsHoldsUptoRow.holds Tryz.pinned (OpenSpec.upto itemsHoldsSpec)

/-- 'pannierlaw09.ItemsValid', WHERE WHAT IT READS IS OF BULK AT MOST 1048576: true; the input reads as it did. -/
def itemsValidUptoRow : OpenClaim := { program := "ytjlhdgmcaiiagaagreatdoor", sum := "2d6ccc203eda521e701f43122850e0f9142c300493f2185185a039ae345cbf93", func := "pannier/pannierlaw09.ItemsValid", spec := "itemsValid", inPlace := ["internal/bytealg.IndexByteString", "internal/bytealg.IndexString"], unfollowed := true, recurses := true, named := ["unicode/utf8.first", "unicode/utf8.acceptRanges", "internal/bytealg.MaxLen"], apart := false, laid := [("unicode/utf8.acceptRanges", laid_unicode_utf8_acceptRanges), ("unicode/utf8.first", laid_unicode_utf8_first)], narrowed := true }
def ItemsValidUptoSaid : Prop := itemsValidUptoRow.holds Tryz.pinned (OpenSpec.upto itemsValidSpec)

end Rows
end Go.Proofs.YtjlhdgmcaiiagaaGreatDoor
