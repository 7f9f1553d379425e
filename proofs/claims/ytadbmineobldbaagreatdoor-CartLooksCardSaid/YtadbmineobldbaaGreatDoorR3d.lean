/- The reference's joined. -/
import Derived.Test.YtadbmineobldbaaGreatDoorR3b
set_option linter.unusedSimpArgs false
set_option linter.unusedVariables false
set_option maxRecDepth 100000
set_option maxHeartbeats 8000000
namespace Go.Proofs.YtadbmineobldbaaGreatDoor
open Go.RowKit Go.Maps

theorem minusD_len (a b : List DotD) : (minusD a b).length ≤ a.length := by
 have h := foldl_withD_len (a.filter (fun d => !decide (d ∈ b))) []
 have h2 : (a.filter (fun d => !decide (d ∈ b))).length ≤ a.length := List.length_filter_le _ _
 unfold minusD;simp only [List.length_nil] at h;omega
def set4 (w : World) (b : Nat) (x0 x1 x2 x3 : Value) : World := (((w.setCell ⟨b, 0, none⟩ x0).setCell ⟨b, 1, none⟩ x1).setCell ⟨b, 2, none⟩ x2).setCell ⟨b, 3, none⟩ x3
theorem set4_same {w : World} {b : Nat} {y0 y1 y2 y3 : Value} (x0 x1 x2 x3 : Value) {T : TypeId} (h : w.heap[b]? = some (.cells #[y0, y1, y2, y3] T)) : (set4 w b x0 x1 x2 x3).heap[b]? = some (.cells #[x0, x1, x2, x3] T) := by
 unfold set4;rw [setCell_same (setCell_same (setCell_same (setCell_same h 0 x0) 1 x1) 2 x2) 3 x3]
 rfl
theorem set4_below {w0 w : World} {n b : Nat} (x0 x1 x2 x3 : Value) (h : Below n w0 w) (hb : n ≤ b) : Below n w0 (set4 w b x0 x1 x2 x3) :=
 (((h.setCell (p := ⟨b, 0, none⟩) hb _).setCell (p := ⟨b, 1, none⟩) hb _).setCell (p := ⟨b, 2, none⟩) hb _).setCell (p := ⟨b, 3, none⟩) hb _
def markRV : Option MarkD → Value
 | none => .tuple #[.agg #[.int .i64 0, .int .i64 0, .int .i64 0, .int .u64 0], .bool false]
 | some m => .tuple #[.agg #[.int .i64 m.dot.rep, .int .i64 m.dot.ctr, .int .i64 m.qty, .int .u64 m.time], .bool true]
end Go.Proofs.YtadbmineobldbaaGreatDoor
namespace Go.Proofs.YtadbmineobldbaaGreatDoor
open Go.RowKit Go.Maps

end Go.Proofs.YtadbmineobldbaaGreatDoor

