/- A value that a walk finds by itself. -/
import Derived.Test.YtjlhdgmcaiiagaaGreatDoorGen
namespace Go.Proofs.YtjlhdgmcaiiagaaGreatDoor
theorem ok_of {α : Type} {a v : α} (h : ∀ z, v = z → a = z) : a = v := h v rfl
end Go.Proofs.YtjlhdgmcaiiagaaGreatDoor
