/- Carts in memory. -/
import Derived.Test.YtjoljfnlkddfbaaGreatDoorGrow
import Derived.Test.YtjoljfnlkddfbaaGreatDoorCanonP
namespace Go.Proofs.YtjoljfnlkddfbaaGreatDoor
open Go.RowKit Go.Maps Go.Sort Go.Shelf

/-- A cart whose three slices can be read. -/
def CartA (w : World) (v1 v2 v3 : Value) (c : CartD) : Prop := Arr DotR 2 w v1 c.vec ∧ Arr DotR 2 w v2 c.cloud ∧ Arr ItemR 2 w v3 c.items
theorem CartA.below {w w' : World} {v1 v2 v3 : Value} {c : CartD} (h : CartA w v1 v2 v3 c) (hb : Below w.heap.size w w') : CartA w' v1 v2 v3 c := ⟨h.1.dots hb, h.2.1.dots hb, h.2.2.items hb⟩
theorem CartR.cart {w : World} {c : CartD} {cs : List Value} (h : CartR w c cs) : ∃ v1 v2 v3, cs = [v1, v2, v3] ∧ CartA w v1 v2 v3 c := by
 obtain ⟨v1, v2, v3, e, h1, h2, h3⟩ := h
 exact ⟨v1, v2, v3, e, h1, h2, h3⟩
theorem Arr.slice {α : Type} {R : World → α → List Value → Prop} {sz : Nat} {w : World} {v : Value} {l : List α} (h : Arr R sz w v l) : ∃ o c, v = .slice o l.length c := by
 obtain ⟨o, c, e, -⟩ := h
 exact ⟨o, c, e⟩
theorem opn {w : World} {v1 v2 v3 : Value} {c : CartD} (h : CartA w v1 v2 v3 c) : ∃ o1 n1 k1 o2 n2 k2 o3 n3 k3, v1 = .slice o1 n1 k1 ∧ v2 = .slice o2 n2 k2 ∧ v3 = .slice o3 n3 k3 ∧ n1 = c.vec.length ∧ n2 = c.cloud.length ∧ n3 = c.items.length := by
 obtain ⟨o1, k1, e1⟩ := h.1.slice
 obtain ⟨o2, k2, e2⟩ := h.2.1.slice
 obtain ⟨o3, k3, e3⟩ := h.2.2.slice
 exact ⟨o1, _, k1, o2, _, k2, o3, _, k3, e1, e2, e3, rfl, rfl, rfl⟩
/-- Dots that may be spoilt. -/
def ShpD (base : Nat) (w : World) (o : Option Addr) (n : Nat) : Prop :=
 ∀ i, i < n → ∃ b q, o = some ⟨b, 0, none⟩ ∧ base ≤ b ∧ w.cell? ⟨b, i * 2 + 1, none⟩ = some (.int .i64 q) ∧ w.frozen? ⟨b, i * 2 + 1, none⟩ = false
theorem ShpD.below {base n : Nat} {o : Option Addr} {w w' : World} (h : ShpD base w o n) (hb : Below w.heap.size w w') : ShpD base w' o n := by
 intro i hi
 obtain ⟨b, q, e1, e2, e3, e4⟩ := h i hi
 obtain ⟨b', off, e, hlt⟩ := addr_plain e3
 cases e
 exact ⟨b, q, e1, e2, by rw [hb.cell (p := ⟨_, _, _⟩) hlt]; exact e3, by rw [hb.frozen (p := ⟨_, _, _⟩) hlt]; exact e4⟩
theorem ShpD.int {base n b t : Nat} {o : Option Addr} {w : World} {q0 q : Int} (h : ShpD base w o n) (h0 : w.cell? ⟨b, t, none⟩ = some (.int .i64 q0)) : ShpD base (w.setCell ⟨b, t, none⟩ (.int .i64 q)) o n := by
 intro i hi
 obtain ⟨b', q', e1, e2, e3, e4⟩ := h i hi
 by_cases e : (b', i * 2 + 1) = (b, t)
 ·injection e with ea eb
  subst ea
  refine ⟨b', q, e1, e2, ?_, by rw [World.frozen?_setCell]; exact e4⟩
  rw [← eb] at h0 ⊢
  exact World.cell?_setCell_same w _ _ h0
 ·exact ⟨b', q', e1, e2, by rw [World.cell?_setCell_other w _ _ _ (fun e2 => e (by cases e2; rfl))]; exact e3, by rw [World.frozen?_setCell]; exact e4⟩
end Go.Proofs.YtjoljfnlkddfbaaGreatDoor
