/- The reference's Union of contexts. -/
import Derived.Test.YtfnfbcaoihhbpaaGreatDoorCanonP
import Derived.Test.YtfnfbcaoihhbpaaGreatDoorV1
import Derived.Test.YtfnfbcaoihhbpaaGreatDoorR9
import Derived.Test.YtfnfbcaoihhbpaaGreatDoorCart
import Derived.Test.YtfnfbcaoihhbpaaGreatDoorGrow
import Derived.Test.YtfnfbcaoihhbpaaGreatDoorItemsP
import Derived.Test.YtfnfbcaoihhbpaaGreatDoorIt3
import Derived.Test.YtfnfbcaoihhbpaaGreatDoorIt10
import Derived.Test.YtfnfbcaoihhbpaaGreatDoorIt2
import Derived.Test.YtfnfbcaoihhbpaaGreatDoorReg
import Derived.Test.YtfnfbcaoihhbpaaGreatDoorC1
set_option linter.unusedSimpArgs false
set_option linter.unusedVariables false
set_option maxRecDepth 100000
set_option maxHeartbeats 8000000
namespace Go.Proofs.YtfnfbcaoihhbpaaGreatDoor

/-! ### Compact -/
theorem stepX_valid {s : List DotD × List DotD} {d : DotD} (hv : validV s.1 = true) (hd : validDotD d = true) : validV (stepX s d).1 = true := by
 unfold stepX
 by_cases h1 : getV s.1 d.rep + 1 < d.ctr
 ·rw [if_pos h1]; exact hv
 ·rw [if_neg h1]
  by_cases h2 : d.ctr = getV s.1 d.rep + 1
  ·rw [if_pos h2]; exact validV_raise hv hd
  ·rw [if_neg h2]; exact hv
/-! ### Minus and Both -/
/-! ### Fits -/
end Go.Proofs.YtfnfbcaoihhbpaaGreatDoor
namespace Go.Proofs.YtfnfbcaoihhbpaaGreatDoor
open Go.RowKit Go.Maps

end Go.Proofs.YtfnfbcaoihhbpaaGreatDoor
namespace Go.Proofs.YtfnfbcaoihhbpaaGreatDoor
open Go.RowKit Go.Maps

end Go.Proofs.YtfnfbcaoihhbpaaGreatDoor
set_option linter.unusedSimpArgs false
set_option linter.unusedVariables false
set_option maxRecDepth 100000
set_option maxHeartbeats 8000000
namespace Go.Proofs.YtfnfbcaoihhbpaaGreatDoor
open Go.RowKit Go.Maps

/-- Dots do not lie in a box of a context. -/
theorem arr_set {w : World} {v : Value} {l : List DotD} {b i : Nat} {a1 a2 : Option Addr} {n1 k1 n2 k2 : Nat} {T : TypeId} (x : Value) (h : Arr DotR 2 w v l) (hb : w.heap[b]? = some (.cells #[.slice a1 n1 k1, .slice a2 n2 k2] T)) : Arr DotR 2 (w.setCell ⟨b, i, none⟩ x) v l := by
 obtain ⟨o, c, rfl, h1, h2, h4⟩ := h
 refine ⟨o, c, rfl, h1, h2, fun j hj => ?_⟩
 obtain ⟨b', off, cs, rfl, hlt, hc, hR, hcell⟩ := h4 j hj
 have hne : b' ≠ b := fun e => by
  subst e
  have h0 := hcell 0 (by decide)
  rw [cell0 hb, hR.1] at h0
  generalize off + j * 2 + 0 = q at h0
  match q, h0 with
  | 0, h0 => simp at h0
  | 1, h0 => simp at h0
  | n + 2, h0 => simp at h0
 refine ⟨b', off, cs, rfl, by rw [setCell_size]; exact hlt, hc, hR, fun q hq => ?_⟩
 rw [← hcell q hq]
 unfold World.cell?
 rw [setCell_other hne]
def set2 (w : World) (b : Nat) (x0 x1 : Value) : World := (w.setCell ⟨b, 0, none⟩ x0).setCell ⟨b, 1, none⟩ x1
theorem set2_eq (w : World) (b : Nat) (x0 x1 : Value) : set2 w b x0 x1 = (w.setCell ⟨b, 0, none⟩ x0).setCell ⟨b, 1, none⟩ x1 := rfl
theorem set2_same {w : World} {b : Nat} {y0 y1 : Value} (x0 x1 : Value) {T : TypeId} {f : Nat × Nat} (h : w.heap[b]? = some (.cells #[y0, y1] T f)) : (set2 w b x0 x1).heap[b]? = some (.cells #[x0, x1] T f) := by
 unfold set2
 rw [setCell_same (setCell_same h 0 x0) 1 x1]
 rfl
theorem set2_cell {w : World} {a b i : Nat} {x y : Value} (h : a ≠ b) : (set2 w b x y).cell? ⟨a, i, none⟩ = w.cell? ⟨a, i, none⟩ := by
  unfold World.cell? set2
  rw [setCell_other h, setCell_other h]
theorem set2_other {w : World} {b k : Nat} {x0 x1 : Value} (h : k ≠ b) : (set2 w b x0 x1).heap[k]? = w.heap[k]? := by
 unfold set2
 rw [setCell_other h, setCell_other h]
theorem set2_below {w0 w : World} {n b : Nat} (x0 x1 : Value) (h : Below n w0 w) (hb : n ≤ b) : Below n w0 (set2 w b x0 x1) :=
 (h.setCell (p := ⟨b, 0, none⟩) hb _).setCell (p := ⟨b, 1, none⟩) hb _
theorem arr_set2 {w : World} {v : Value} {l : List DotD} {b : Nat} {a1 a2 o1 o2 : Option Addr} {n1 k1 n2 k2 m1 q1 m2 q2 : Nat} {T : TypeId} (h : Arr DotR 2 w v l) (hb : w.heap[b]? = some (.cells #[.slice a1 n1 k1, .slice a2 n2 k2] T)) : Arr DotR 2 (set2 w b (.slice o1 m1 q1) (.slice o2 m2 q2)) v l :=
 arr_set _ (arr_set _ h hb) (by rw [setCell_same hb 0 (.slice o1 m1 q1)]; rfl)
end Go.Proofs.YtfnfbcaoihhbpaaGreatDoor
namespace Go.Proofs.YtfnfbcaoihhbpaaGreatDoor
open Go.RowKit Go.Maps

set_option linter.unusedSimpArgs false
set_option linter.unusedVariables false
set_option maxHeartbeats 8000000
end Go.Proofs.YtfnfbcaoihhbpaaGreatDoor
