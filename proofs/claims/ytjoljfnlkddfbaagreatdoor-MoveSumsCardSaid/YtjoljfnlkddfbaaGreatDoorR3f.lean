/- The reference's Union of contexts. -/
import Derived.Test.YtjoljfnlkddfbaaGreatDoorCanonP
import Derived.Test.YtjoljfnlkddfbaaGreatDoorV1
import Derived.Test.YtjoljfnlkddfbaaGreatDoorDot2
import Derived.Test.YtjoljfnlkddfbaaGreatDoorR1b
import Derived.Test.YtjoljfnlkddfbaaGreatDoorIt6
import Derived.Test.YtjoljfnlkddfbaaGreatDoorIt10
import Derived.Test.YtjoljfnlkddfbaaGreatDoorCart
import Derived.Test.YtjoljfnlkddfbaaGreatDoorGrow
import Derived.Test.YtjoljfnlkddfbaaGreatDoorItemsP
import Derived.Test.YtjoljfnlkddfbaaGreatDoorIt3
import Derived.Test.YtjoljfnlkddfbaaGreatDoorIt2
import Derived.Test.YtjoljfnlkddfbaaGreatDoorReg
import Derived.Test.YtjoljfnlkddfbaaGreatDoorC1
set_option linter.unusedSimpArgs false
set_option linter.unusedVariables false
set_option maxRecDepth 100000
set_option maxHeartbeats 8000000
namespace Go.Proofs.YtjoljfnlkddfbaaGreatDoor

/-! ### Compact -/
theorem stepX_valid {s : List DotD × List DotD} {d : DotD} (hv : validV s.1 = true) (hd : validDotD d = true) : validV (stepX s d).1 = true := by
 unfold stepX
 by_cases h1 : getV s.1 d.rep + 1 < d.ctr
 ·rw [if_pos h1]; exact hv
 ·rw [if_neg h1]
  by_cases h2 : d.ctr = getV s.1 d.rep + 1
  ·rw [if_pos h2]; exact validV_raise hv hd
  ·rw [if_neg h2]; exact hv
/-! ### Minus and Both -/
/-! ### Fits -/
end Go.Proofs.YtjoljfnlkddfbaaGreatDoor
namespace Go.Proofs.YtjoljfnlkddfbaaGreatDoor
open Go.RowKit Go.Maps

end Go.Proofs.YtjoljfnlkddfbaaGreatDoor
namespace Go.Proofs.YtjoljfnlkddfbaaGreatDoor
open Go.RowKit Go.Maps

end Go.Proofs.YtjoljfnlkddfbaaGreatDoor
set_option linter.unusedSimpArgs false
set_option linter.unusedVariables false
set_option maxRecDepth 100000
set_option maxHeartbeats 8000000
namespace Go.Proofs.YtjoljfnlkddfbaaGreatDoor
open Go.RowKit Go.Maps

def set4 (w : World) (b : Nat) (x0 x1 x2 x3 : Value) : World := (((w.setCell ⟨b, 0, none⟩ x0).setCell ⟨b, 1, none⟩ x1).setCell ⟨b, 2, none⟩ x2).setCell ⟨b, 3, none⟩ x3
theorem set4_same {w : World} {b : Nat} {y0 y1 y2 y3 : Value} (x0 x1 x2 x3 : Value) {T : TypeId} (h : w.heap[b]? = some (.cells #[y0, y1, y2, y3] T)) : (set4 w b x0 x1 x2 x3).heap[b]? = some (.cells #[x0, x1, x2, x3] T) := by
 unfold set4
 rw [setCell_same (setCell_same (setCell_same (setCell_same h 0 x0) 1 x1) 2 x2) 3 x3]
 rfl
theorem set4_below {w0 w : World} {n b : Nat} (x0 x1 x2 x3 : Value) (h : Below n w0 w) (hb : n ≤ b) : Below n w0 (set4 w b x0 x1 x2 x3) :=
 (((h.setCell (p := ⟨b, 0, none⟩) hb _).setCell (p := ⟨b, 1, none⟩) hb _).setCell (p := ⟨b, 2, none⟩) hb _).setCell (p := ⟨b, 3, none⟩) hb _
end Go.Proofs.YtjoljfnlkddfbaaGreatDoor
namespace Go.Proofs.YtjoljfnlkddfbaaGreatDoor
open Go.RowKit Go.Maps

end Go.Proofs.YtjoljfnlkddfbaaGreatDoor
set_option linter.unusedSimpArgs false
set_option linter.unusedVariables false
set_option maxRecDepth 100000
set_option maxHeartbeats 8000000
namespace Go.Proofs.YtjoljfnlkddfbaaGreatDoor
open Go.RowKit Go.Maps

def set2 (w : World) (b : Nat) (x0 x1 : Value) : World := (w.setCell ⟨b, 0, none⟩ x0).setCell ⟨b, 1, none⟩ x1
theorem set2_eq (w : World) (b : Nat) (x0 x1 : Value) : set2 w b x0 x1 = (w.setCell ⟨b, 0, none⟩ x0).setCell ⟨b, 1, none⟩ x1 := rfl
theorem set2_same {w : World} {b : Nat} {y0 y1 : Value} (x0 x1 : Value) {T : TypeId} {f : Nat × Nat} (h : w.heap[b]? = some (.cells #[y0, y1] T f)) : (set2 w b x0 x1).heap[b]? = some (.cells #[x0, x1] T f) := by
 unfold set2
 rw [setCell_same (setCell_same h 0 x0) 1 x1]
 rfl
theorem set2_cell {w : World} {a b i : Nat} {x y : Value} (h : a ≠ b) : (set2 w b x y).cell? ⟨a, i, none⟩ = w.cell? ⟨a, i, none⟩ := by
  unfold World.cell? set2
  rw [setCell_other h, setCell_other h]
theorem set2_other {w : World} {b k : Nat} {x0 x1 : Value} (h : k ≠ b) : (set2 w b x0 x1).heap[k]? = w.heap[k]? := by
 unfold set2
 rw [setCell_other h, setCell_other h]
theorem set2_below {w0 w : World} {n b : Nat} (x0 x1 : Value) (h : Below n w0 w) (hb : n ≤ b) : Below n w0 (set2 w b x0 x1) :=
 (h.setCell (p := ⟨b, 0, none⟩) hb _).setCell (p := ⟨b, 1, none⟩) hb _
end Go.Proofs.YtjoljfnlkddfbaaGreatDoor
namespace Go.Proofs.YtjoljfnlkddfbaaGreatDoor
open Go.RowKit Go.Maps

set_option linter.unusedSimpArgs false
set_option linter.unusedVariables false
set_option maxHeartbeats 8000000
end Go.Proofs.YtjoljfnlkddfbaaGreatDoor
