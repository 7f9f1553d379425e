/- The reference's Join and Within. -/
import Derived.Test.YtjoljfnlkddfbaaGreatDoorC5
import Derived.Test.YtjoljfnlkddfbaaGreatDoorCanonP
import Derived.Test.YtjoljfnlkddfbaaGreatDoorReg
import Derived.Test.YtjoljfnlkddfbaaGreatDoorR3f
import Derived.Test.YtjoljfnlkddfbaaGreatDoorC17
set_option linter.unusedSimpArgs false
set_option linter.unusedVariables false
set_option maxRecDepth 100000
set_option maxHeartbeats 16000000
namespace Go.Proofs.YtjoljfnlkddfbaaGreatDoor
open Go.RowKit Go.Maps

end Go.Proofs.YtjoljfnlkddfbaaGreatDoor
namespace Go.Proofs.YtjoljfnlkddfbaaGreatDoor
open Go.RowKit Go.Maps

/-- What lies in a slice does not lie in a box whose cells are all slices, if its elements begin with something else. -/
theorem arr_setB {α : Type} {R : World → α → List Value → Prop} {sz : Nat} {w : World} {v : Value} {l : List α} {b i : Nat} {C : Array Value} {T : TypeId} (x : Value) (hsz : 0 < sz) (hR : ∀ a cs, R w a cs → ∀ o n c, cs[0]? ≠ some (.slice o n c)) (hRw : ∀ a cs, R w a cs → R (w.setCell ⟨b, i, none⟩ x) a cs) (h : Arr R sz w v l) (hb : w.heap[b]? = some (.cells C T)) (hC : ∀ (j : Nat) (y : Value), C[j]? = some y → ∃ o n c, y = .slice o n c) : Arr R sz (w.setCell ⟨b, i, none⟩ x) v l := by
 obtain ⟨o, c, rfl, h1, h2, h4⟩ := h
 refine ⟨o, c, rfl, h1, h2, fun j hj => ?_⟩
 obtain ⟨b', off, cs, rfl, hlt, hc, hRj, hcell⟩ := h4 j hj
 have hne : b' ≠ b := fun e => by
  subst e
  have h0 := hcell 0 hsz
  rw [cell0 hb] at h0
  rcases hq : C[off + j * sz + 0]? with _ | y
  ·rw [hq] at h0
   have := List.getElem?_eq_none_iff.1 h0.symm
   omega
  ·obtain ⟨o, n, c, rfl⟩ := hC _ _ hq
   rw [hq] at h0
   exact hR _ _ hRj o n c h0.symm
 refine ⟨b', off, cs, rfl, by rw [setCell_size]; exact hlt, hc, hRw _ _ hRj, fun q hq => ?_⟩
 rw [← hcell q hq]
 unfold World.cell?
 rw [setCell_other hne]
def SlB (C : Array Value) : Prop := ∀ (j : Nat) (y : Value), C[j]? = some y → ∃ o n c, y = .slice o n c
theorem slB3 (o1 o2 o3 : Option Addr) (n1 k1 n2 k2 n3 k3 : Nat) : SlB #[.slice o1 n1 k1, .slice o2 n2 k2, .slice o3 n3 k3] := fun j y h => by
 match j, h with
 | 0, h => simp at h; exact ⟨_, _, _, h.symm⟩
 | 1, h => simp at h; exact ⟨_, _, _, h.symm⟩
 | 2, h => simp at h; exact ⟨_, _, _, h.symm⟩
 | n + 3, h => simp at h
theorem dots_setB {w : World} {v : Value} {l : List DotD} {b i : Nat} {C : Array Value} {T : TypeId} (x : Value) (h : Arr DotR 2 w v l) (hb : w.heap[b]? = some (.cells C T)) (hC : SlB C) : Arr DotR 2 (w.setCell ⟨b, i, none⟩ x) v l :=
 arr_setB x (by decide) (fun a cs h o n c e => by rw [h.1] at e; simp at e) (fun _ _ h => h) h hb hC
theorem marks_setB {w : World} {v : Value} {l : List MarkD} {b i : Nat} {C : Array Value} {T : TypeId} (x : Value) (h : Arr MarkR 4 w v l) (hb : w.heap[b]? = some (.cells C T)) (hC : SlB C) : Arr MarkR 4 (w.setCell ⟨b, i, none⟩ x) v l :=
 arr_setB x (by decide) (fun a cs h o n c e => by rw [h.1] at e; simp at e) (fun _ _ h => h) h hb hC
theorem items_setB {w : World} {v : Value} {l : List ItemD} {b i : Nat} {C : Array Value} {T : TypeId} (x : Value) (h : Arr ItemR 2 w v l) (hb : w.heap[b]? = some (.cells C T)) (hC : SlB C) : Arr ItemR 2 (w.setCell ⟨b, i, none⟩ x) v l :=
 arr_setB x (by decide) (fun a cs ⟨mv, h, _⟩ o n c e => by rw [h] at e; simp at e) (fun a cs ⟨mv, h1, h2, h3⟩ => ⟨mv, h1, h2, marks_setB x h3 hb hC⟩) h hb hC
end Go.Proofs.YtjoljfnlkddfbaaGreatDoor
namespace Go.Proofs.YtjoljfnlkddfbaaGreatDoor
open Go.RowKit Go.Maps

/-- A cart under way: in a block, its parts wherever they lie. -/
def JIn (bo : Nat) (w : World) (U : List DotD × List DotD) (L : List ItemD) : Prop :=
 ∃ o1 k1 o2 k2 o3 k3, w.heap[bo]? = some (.cells #[.slice o1 U.1.length k1, .slice o2 U.2.length k2, .slice o3 L.length k3] 28) ∧ Arr DotR 2 w (.slice o1 U.1.length k1) U.1 ∧ Arr DotR 2 w (.slice o2 U.2.length k2) U.2 ∧ Arr ItemR 2 w (.slice o3 L.length k3) L
theorem JIn.below {bo : Nat} {w w' : World} {U : List DotD × List DotD} {L : List ItemD} (h : JIn bo w U L) (hb : Below w.heap.size w w') : JIn bo w' U L := by
 obtain ⟨o1, k1, o2, k2, o3, k3, h0, h1, h2, h3⟩ := h
 exact ⟨o1, k1, o2, k2, o3, k3, (hb.block _ (lt_of_heap h0)).trans h0, h1.dots hb, h2.dots hb, h3.items hb⟩
theorem JIn.set {bo : Nat} {w w' : World} {U : List DotD × List DotD} {L L' : List ItemD} {o : Option Addr} {c : Nat} (h : JIn bo w U L) (hb : Below w.heap.size w w') (hi : Arr ItemR 2 w' (.slice o L'.length c) L') : JIn bo (w'.setCell ⟨bo, 2, none⟩ (.slice o L'.length c)) U L' := by
 obtain ⟨o1, k1, o2, k2, o3, k3, h0, h1, h2, -⟩ := h
 have h0' := (hb.block _ (lt_of_heap h0)).trans h0
 exact ⟨o1, k1, o2, k2, o, c, setCell_same h0' 2 _, dots_setB _ (h1.dots hb) h0' (slB3 _ _ _ _ _ _ _ _ _), dots_setB _ (h2.dots hb) h0' (slB3 _ _ _ _ _ _ _ _ _), items_setB _ hi h0' (slB3 _ _ _ _ _ _ _ _ _)⟩
def set3c (w : World) (b : Nat) (x y z : Value) : World := ((w.setCell ⟨b, 0, none⟩ x).setCell ⟨b, 1, none⟩ y).setCell ⟨b, 2, none⟩ z
theorem set3c_same {w : World} {b : Nat} {y0 y1 y2 : Value} {T : TypeId} (x y z : Value) (h : w.heap[b]? = some (.cells #[y0, y1, y2] T)) : (set3c w b x y z).heap[b]? = some (.cells #[x, y, z] T) := by
 unfold set3c
 rw [setCell_same (setCell_same (setCell_same h 0 x) 1 y) 2 z]
 rfl
theorem set3c_below {w0 w : World} {n b : Nat} (x y z : Value) (h : Below n w0 w) (hb : n ≤ b) : Below n w0 (set3c w b x y z) :=
 ((h.setCell (p := ⟨b, 0, none⟩) hb _).setCell (p := ⟨b, 1, none⟩) hb _).setCell (p := ⟨b, 2, none⟩) hb _
end Go.Proofs.YtjoljfnlkddfbaaGreatDoor

