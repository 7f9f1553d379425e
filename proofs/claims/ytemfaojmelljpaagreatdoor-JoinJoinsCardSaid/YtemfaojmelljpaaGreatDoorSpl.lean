/- Carts of one's own that are spoilt. -/
import Derived.Test.YtemfaojmelljpaaGreatDoorC17
import Derived.Test.YtemfaojmelljpaaGreatDoorCart
import Derived.Test.YtemfaojmelljpaaGreatDoorGrow
set_option linter.unusedSimpArgs false
set_option linter.unusedVariables false
set_option maxRecDepth 100000
set_option maxHeartbeats 4000000
namespace Go.Proofs.YtemfaojmelljpaaGreatDoor
open Go.RowKit Go.Maps Go.Sort Go.Shelf

theorem ne_box {w : World} {b t p n1 n2 n3 c1 c2 c3 : Nat} {o1 o2 o3 : Option Addr} {q : Int} {T : TypeId} (h : w.heap[p]? = some (.cells #[.slice o1 n1 c1, .slice o2 n2 c2, .slice o3 n3 c3] T)) (h0 : w.cell? ⟨b, t, none⟩ = some (.int .i64 q)) : b ≠ p := by
 intro e;subst e;have h1 := cell0 h t;rw [h0] at h1
 rcases t with _ | _ | _ | t <;> simp at h1
structure SpoilR (base : Nat) (w : World) (o1 o2 o3 : Option Addr) (n1 n2 n3 c1 c2 c3 g k0 : Nat) (wx : World) : Prop where
 d1 : ShpD base wx o1 n1
 d2 : ShpD base wx o2 n2
 it : Shp base wx g n3 k0
 be : Below base w wx
 bx : wx.heap[w.heap.size]? = some (.cells #[.slice o1 n1 c1, .slice o2 n2 c2, .slice o3 n3 c3] 28)
theorem SpoilR.int {base : Nat} {w : World} {o1 o2 o3 : Option Addr} {n1 n2 n3 c1 c2 c3 g k0 b t : Nat} {wx : World} {q0 : Int} (h : SpoilR base w o1 o2 o3 n1 n2 n3 c1 c2 c3 g k0 wx) (hb : base ≤ b) (hg : n3 = 0 ∨ b ≠ g) (h0 : wx.cell? ⟨b, t, none⟩ = some (.int .i64 q0)) (q : Int) : SpoilR base w o1 o2 o3 n1 n2 n3 c1 c2 c3 g k0 (wx.setCell ⟨b, t, none⟩ (.int .i64 q)) := by
 have hne := ne_box h.bx h0;refine ⟨h.d1.int h0, h.d2.int h0, ?_, h.be.setCell hb _, ?_⟩
 ·rcases hg with rfl | hg
  ·intro i hi; omega
  ·exact h.it.qty hg h0
 ·rw [setCell_other (by first | exact hne | exact hne.symm)]; exact h.bx
end Go.Proofs.YtemfaojmelljpaaGreatDoor
