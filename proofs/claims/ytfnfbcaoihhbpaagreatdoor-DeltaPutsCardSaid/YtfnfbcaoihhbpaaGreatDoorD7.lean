/- Law 10's helpers: has, time, canon. -/
import Derived.Test.YtfnfbcaoihhbpaaGreatDoorD3
import Derived.Test.YtfnfbcaoihhbpaaGreatDoorD4
import Derived.Test.YtfnfbcaoihhbpaaGreatDoorIt10
import Derived.Test.YtfnfbcaoihhbpaaGreatDoorC19
set_option linter.unusedSimpArgs false
set_option linter.unusedVariables false
set_option maxRecDepth 100000
set_option maxHeartbeats 4000000
namespace Go.Proofs.YtfnfbcaoihhbpaaGreatDoor
open Go.RowKit Go.Maps Go.Sort Go.Shelf

def PairsIs (w : World) (v : Value) (ps : List DotD) : Prop :=
 ∃ o c, v = .slice o (2 * ps.length) c ∧ ∀ k (h : k < ps.length), ∃ b, o = some ⟨b, 0, none⟩ ∧ b < w.heap.size ∧ w.cell? ⟨b, 2 * k, none⟩ = some (.int .i64 ps[k].rep) ∧ w.cell? ⟨b, 2 * k + 1, none⟩ = some (.int .i64 ps[k].ctr)
theorem PairsIs.below {w w' : World} {v : Value} {ps : List DotD} (h : PairsIs w v ps) (hb : Below w.heap.size w w') : PairsIs w' v ps := by
 obtain ⟨o, c, e, h⟩ := h
 refine ⟨o, c, e, fun k hk => ?_⟩
 obtain ⟨b, e1, e2, e3, e4⟩ := h k hk
 exact ⟨b, e1, Nat.lt_of_lt_of_le e2 hb.size, by rw [hb.cell (p := ⟨_, _, _⟩) e2]; exact e3, by rw [hb.cell (p := ⟨_, _, _⟩) e2]; exact e4⟩

end Go.Proofs.YtfnfbcaoihhbpaaGreatDoor
set_option linter.unusedSimpArgs false
set_option linter.unusedVariables false
set_option maxRecDepth 100000
set_option maxHeartbeats 4000000
namespace Go.Proofs.YtfnfbcaoihhbpaaGreatDoor
open Go.RowKit Go.Maps Go.Sort Go.Shelf

end Go.Proofs.YtfnfbcaoihhbpaaGreatDoor
