/- join.Within; joins and within of the law. -/
import Derived.Test.YtjoljfnlkddfbaaGreatDoorC17
import Derived.Test.YtjoljfnlkddfbaaGreatDoorDot2
import Derived.Test.YtjoljfnlkddfbaaGreatDoorR1b
import Derived.Test.YtjoljfnlkddfbaaGreatDoorIt6
import Derived.Test.YtjoljfnlkddfbaaGreatDoorIt10
import Derived.Test.YtjoljfnlkddfbaaGreatDoorItemsP
import Derived.Test.YtjoljfnlkddfbaaGreatDoorIt3
set_option linter.unusedSimpArgs false
set_option linter.unusedVariables false
set_option maxRecDepth 100000
set_option maxHeartbeats 4000000
namespace Go.Proofs.YtjoljfnlkddfbaaGreatDoor
open Go.RowKit Go.Maps Go.Sort Go.Shelf

theorem CL.sz {n : Nat} {c : CartD} (h : CL n c) (hn : n ≤ 1000) : SzC c := ⟨⟨by have := h.2.1; omega, fun x hx => by have := h.2.2 x hx; omega⟩, by have := h.1; omega⟩
end Go.Proofs.YtjoljfnlkddfbaaGreatDoor
namespace Go.Proofs.YtjoljfnlkddfbaaGreatDoor
open Go.RowKit Go.Maps Go.Sort Go.Shelf

end Go.Proofs.YtjoljfnlkddfbaaGreatDoor

