/- The reference's answers about a cart: Qty, Units, Dots, Marks, Time; Next; Same of names. -/
import Derived.Test.YtjoljfnlkddfbaaGreatDoorC5
import Derived.Test.YtjoljfnlkddfbaaGreatDoorD4
import Derived.Test.YtjoljfnlkddfbaaGreatDoorDot2
import Derived.Test.YtjoljfnlkddfbaaGreatDoorR1b
import Derived.Test.YtjoljfnlkddfbaaGreatDoorIt6
import Derived.Test.YtjoljfnlkddfbaaGreatDoorIt10
import Derived.Test.YtjoljfnlkddfbaaGreatDoorReg
import Derived.Test.YtjoljfnlkddfbaaGreatDoorGrow
import Derived.Test.YtjoljfnlkddfbaaGreatDoorItemsP
import Derived.Test.YtjoljfnlkddfbaaGreatDoorIt3
import Derived.Test.YtjoljfnlkddfbaaGreatDoorR11k
set_option linter.unusedSimpArgs false
set_option linter.unusedVariables false
namespace Go.Proofs.YtjoljfnlkddfbaaGreatDoor
open Go.RowKit
def StrS (w : World) (v : Value) (l : List ByteArray) : Prop := ∃ o c, v = .slice o l.length c ∧ l.length ≤ maxLen ∧ ∀ k (h : k < l.length), ∃ b off, o = some ⟨b, off, none⟩ ∧ b < w.heap.size ∧ w.cell? ⟨b, off + k, none⟩ = some (.string l[k])
theorem StrS.below {w w' : World} {v : Value} {l : List ByteArray} (h : StrS w v l) (hb : Below w.heap.size w w') : StrS w' v l := by
 obtain ⟨o, c, e, hn, h⟩ := h
 refine ⟨o, c, e, hn, fun k hk => ?_⟩
 obtain ⟨b, off, e1, e2, e3⟩ := h k hk
 exact ⟨b, off, e1, Nat.lt_of_lt_of_le e2 hb.size, by rw [hb.cell (p := ⟨_, _, _⟩) e2]; exact e3⟩
theorem StrS.of_row {base : Nat} {w : World} {v : Value} {l : List ByteArray} (h : EStr.Row base w v l) : StrS w v l := by
 have hle := h.le
 obtain ⟨a, c, rfl⟩ := h.slice
 refine ⟨a, c, rfl, hle, fun k hk => ?_⟩
 obtain ⟨_, ⟨h1, h2⟩ | ⟨g, cap, cur, h1, -⟩⟩ := id h
 ·omega
 ·injection h1 with e1 e2 e3
  subst e1
  obtain ⟨hi, -, -⟩ := h.at
  refine ⟨g, 0, rfl, hi.gl, ?_⟩
  have := hi.cell k hk 0 (by decide)
  rw [show 0 + k = k * EStr.k + 0 by show 0 + k = k * 1 + 0; omega, this]
  rfl
end Go.Proofs.YtjoljfnlkddfbaaGreatDoor
set_option linter.unusedSimpArgs false
set_option linter.unusedVariables false
set_option maxRecDepth 100000
set_option maxHeartbeats 8000000
namespace Go.Proofs.YtjoljfnlkddfbaaGreatDoor
open Go.RowKit Go.Maps

end Go.Proofs.YtjoljfnlkddfbaaGreatDoor
set_option linter.unusedSimpArgs false
set_option linter.unusedVariables false
set_option maxRecDepth 100000
set_option maxHeartbeats 8000000
namespace Go.Proofs.YtjoljfnlkddfbaaGreatDoor
open Go.RowKit Go.Maps Go.Sort Go.Shelf

/-! ### The time of the next mark -/
/-- The data of a cart as the walks below want them. -/
theorem cartAt {w : World} {c : CartD} {v1 v2 v3 : Value} (h : CartA w v1 v2 v3 c) : ∃ o1 n1 k1 o2 n2 k2 o3 n3 k3, v1 = .slice o1 n1 k1 ∧ v2 = .slice o2 n2 k2 ∧ v3 = .slice o3 n3 k3 ∧ n3 = c.items.length ∧ n3 ≤ 9223372036854775807 ∧ CartA w (.slice o1 n1 k1) (.slice o2 n2 k2) (.slice o3 n3 k3) c ∧ ∀ i (hi : i < c.items.length), ∃ b off mo mc, o3 = some ⟨b, off, none⟩ ∧ b < w.heap.size ∧ w.cell? ⟨b, off + i * 2, none⟩ = some (.string c.items[i].name) ∧ w.cell? ⟨b, off + i * 2 + 1, none⟩ = some (.slice mo c.items[i].marks.length mc) ∧ c.items[i].name.size ≤ maxLen ∧ Arr MarkR 4 w (.slice mo c.items[i].marks.length mc) c.items[i].marks := by
 have hl := h.2.2.len
 obtain ⟨o3', k3', e3', hel⟩ := h.2.2.itemAt
 obtain ⟨o1, n1, k1, o2, n2, k2, o3, n3, k3, rfl, rfl, rfl, hn1, hn2, hn3⟩ := opn4 h
 refine ⟨_, _, _, _, _, _, _, _, _, rfl, rfl, rfl, hn3, by omega, h, fun i hi => ?_⟩
 obtain ⟨b, off, mv, e, hb, e0, e1, hs, hm⟩ := hel i hi
 obtain ⟨mo, mc, rfl⟩ := hm.slice
 exact ⟨b, off, mo, mc, by injection e3' with e3; rw [e3, e], hb, e0, e1, hs, hm⟩
end Go.Proofs.YtjoljfnlkddfbaaGreatDoor
