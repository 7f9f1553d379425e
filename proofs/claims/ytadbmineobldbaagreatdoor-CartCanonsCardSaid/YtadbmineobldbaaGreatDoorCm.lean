/- slices.Compact at marks and at strings. -/
import Derived.Test.YtadbmineobldbaaGreatDoorC5
import Derived.Test.YtadbmineobldbaaGreatDoorCanonP
set_option linter.unusedSimpArgs false
set_option linter.unusedVariables false
set_option maxRecDepth 100000
set_option maxHeartbeats 8000000
namespace Go.Proofs.YtadbmineobldbaaGreatDoor
open Go.RowKit Go.Maps Go.Sort Go.Shelf

section
variable {α : Type} [DecidableEq α]
def BB (base g : Nat) (w w' : World) : Prop := Below base w w' ∧ w.heap.size ≤ w'.heap.size ∧ ∀ b, b < w.heap.size → b ≠ g → w'.heap[b]? = w.heap[b]?
theorem BB.refl (base g : Nat) (w : World) : BB base g w w := ⟨Below.refl _ _, Nat.le_refl _, fun _ _ _ => rfl⟩
theorem BB.drewN {base g : Nat} {w w' : World} (n : Nat) (h : BB base g w w') : BB base g w (w'.drewN n) := ⟨below_drewN _ h.1, h.2.1, h.2.2⟩
theorem BB.setCell {base g i : Nat} {w w' : World} (h : BB base g w w') (hb : base ≤ g) (v : Value) : BB base g w (w'.setCell ⟨g, i, none⟩ v) := ⟨h.1.setCell hb v, by rw [setCell_size]; exact h.2.1, fun b hl hne => by rw [setCell_other hne]; exact h.2.2 b hl hne⟩
omit [DecidableEq α] in
end

end Go.Proofs.YtadbmineobldbaaGreatDoor

