/- join.item walked. -/
import Derived.Test.YtfnfbcaoihhbpaaGreatDoorC5
import Derived.Test.YtfnfbcaoihhbpaaGreatDoorCanonP
import Derived.Test.YtfnfbcaoihhbpaaGreatDoorC13
import Derived.Test.YtfnfbcaoihhbpaaGreatDoorIt6
import Derived.Test.YtfnfbcaoihhbpaaGreatDoorX3
import Derived.Shelf.SlSortCmp.NoneTotal
import Derived.Test.YtfnfbcaoihhbpaaGreatDoorProg
import Derived.Test.YtfnfbcaoihhbpaaGreatDoorShelf
import Derived.Test.YtfnfbcaoihhbpaaGreatDoorIt10
set_option linter.unusedSimpArgs false
set_option linter.unusedVariables false
set_option maxRecDepth 100000
set_option maxHeartbeats 8000000
namespace Go.Proofs.YtfnfbcaoihhbpaaGreatDoor
open Go.RowKit Go.Maps Go.Sort Go.Shelf

section
variable {α : Type} [DecidableEq α]
/-- Nothing below base is changed, and of what is there only block g. -/
def BB (base g : Nat) (w w' : World) : Prop := Below base w w' ∧ w.heap.size ≤ w'.heap.size ∧ ∀ b, b < w.heap.size → b ≠ g → w'.heap[b]? = w.heap[b]?
theorem BB.refl (base g : Nat) (w : World) : BB base g w w := ⟨Below.refl _ _, Nat.le_refl _, fun _ _ _ => rfl⟩
theorem BB.drewN {base g : Nat} {w w' : World} (n : Nat) (h : BB base g w w') : BB base g w (w'.drewN n) := ⟨below_drewN _ h.1, h.2.1, h.2.2⟩
theorem BB.setCell {base g i : Nat} {w w' : World} (h : BB base g w w') (hb : base ≤ g) (v : Value) : BB base g w (w'.setCell ⟨g, i, none⟩ v) := ⟨h.1.setCell hb v, by rw [setCell_size]; exact h.2.1, fun b hl hne => by rw [setCell_other hne]; exact h.2.2 b hl hne⟩
omit [DecidableEq α] in
end

end Go.Proofs.YtfnfbcaoihhbpaaGreatDoor
set_option linter.unusedSimpArgs false
set_option linter.unusedVariables false
set_option maxRecDepth 100000
set_option maxHeartbeats 8000000
namespace Go.Proofs.YtfnfbcaoihhbpaaGreatDoor
open Go.RowKit Go.Maps Go.Sort Go.Shelf

theorem Grown.trans {a b c : World} (h : Grown a b) (k : Grown b c) : Grown a c := by
 obtain ⟨q, os, rfl⟩ := h
 obtain ⟨q2, os2, rfl⟩ := k
 refine ⟨q + q2, os ++ os2, ?_⟩
 unfold Go.Sort.grow World.drewN
 simp [Array.append_assoc, Nat.add_assoc]
/-! ### Strings -/
instance : Inhabited ByteArray := ⟨⟨#[]⟩⟩
end Go.Proofs.YtfnfbcaoihhbpaaGreatDoor
namespace Go.Proofs.YtfnfbcaoihhbpaaGreatDoor
open Go.RowKit Go.Maps Go.Sort Go.Shelf

theorem marksOf_MI {w : World} {v : Value} {l : List ItemD} (h : Arr ItemR 2 w v l) (nm : ByteArray) : ∀ m ∈ marksOf l nm, MI m := by
 intro m hm
 unfold marksOf findX at hm
 rcases hf : l.find? (fun x => decide (x.name = nm)) with _ | x
 ·rw [hf] at hm; simp at hm
 ·rw [hf] at hm
  have hx := List.mem_of_find?_eq_some hf
  obtain ⟨i, hi, rfl⟩ := List.mem_iff_getElem.1 hx
  obtain ⟨o, c, -, hel⟩ := h.itemAt
  obtain ⟨b, off, mv, -, -, -, -, -, hma⟩ := hel i hi
  exact hma.marksMI m hm
end Go.Proofs.YtfnfbcaoihhbpaaGreatDoor
