/- What JoinHolds and JoinGroups ask, plain. -/
import Derived.Test.YtemfaojmelljpaaGreatDoorC22
namespace Go.Proofs.YtemfaojmelljpaaGreatDoor
open Go.RowKit Go.Maps

theorem withinB_true {a b : CartD} (ha : validC a = true) (hb : validC b = true) : withinB a b = decide (refJoin a b = b) := by
 unfold withinB;rw [ha, hb]; simp
end Go.Proofs.YtemfaojmelljpaaGreatDoor
