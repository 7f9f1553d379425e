/- Law 10's known. -/
import Derived.Test.YtfnfbcaoihhbpaaGreatDoorD3
import Derived.Test.YtfnfbcaoihhbpaaGreatDoorD4
import Derived.Test.YtfnfbcaoihhbpaaGreatDoorIt10
import Derived.Test.YtfnfbcaoihhbpaaGreatDoorC19
import Derived.Test.YtfnfbcaoihhbpaaGreatDoorDeltaK
import Derived.Test.YtfnfbcaoihhbpaaGreatDoorReg
import Derived.Test.YtfnfbcaoihhbpaaGreatDoorC17
import Derived.Test.YtfnfbcaoihhbpaaGreatDoorR11k
import Derived.Test.YtfnfbcaoihhbpaaGreatDoorD10
set_option linter.unusedSimpArgs false
set_option linter.unusedVariables false
set_option maxRecDepth 100000
set_option maxHeartbeats 4000000
namespace Go.Proofs.YtfnfbcaoihhbpaaGreatDoor
open Go.RowKit Go.Maps Go.Sort Go.Shelf

def PairsIs (w : World) (v : Value) (ps : List DotD) : Prop :=
 ∃ o c, v = .slice o (2 * ps.length) c ∧ ∀ k (h : k < ps.length), ∃ b, o = some ⟨b, 0, none⟩ ∧ b < w.heap.size ∧ w.cell? ⟨b, 2 * k, none⟩ = some (.int .i64 ps[k].rep) ∧ w.cell? ⟨b, 2 * k + 1, none⟩ = some (.int .i64 ps[k].ctr)
theorem PairsIs.below {w w' : World} {v : Value} {ps : List DotD} (h : PairsIs w v ps) (hb : Below w.heap.size w w') : PairsIs w' v ps := by
 obtain ⟨o, c, e, h⟩ := h
 refine ⟨o, c, e, fun k hk => ?_⟩
 obtain ⟨b, e1, e2, e3, e4⟩ := h k hk
 exact ⟨b, e1, Nat.lt_of_lt_of_le e2 hb.size, by rw [hb.cell (p := ⟨_, _, _⟩) e2]; exact e3, by rw [hb.cell (p := ⟨_, _, _⟩) e2]; exact e4⟩

end Go.Proofs.YtfnfbcaoihhbpaaGreatDoor
set_option linter.unusedSimpArgs false
set_option linter.unusedVariables false
set_option maxRecDepth 100000
set_option maxHeartbeats 4000000
namespace Go.Proofs.YtfnfbcaoihhbpaaGreatDoor
open Go.RowKit Go.Maps Go.Sort Go.Shelf

end Go.Proofs.YtfnfbcaoihhbpaaGreatDoor
set_option linter.unusedSimpArgs false
set_option linter.unusedVariables false
set_option maxRecDepth 100000
set_option maxHeartbeats 16000000
namespace Go.Proofs.YtfnfbcaoihhbpaaGreatDoor
open Go.RowKit Go.Maps Go.Sort Go.Shelf

/-- What an operation of known's regions yields. -/
inductive Ke where
 | pairs (l : List DotD)
 | val (v : Value)
 | row (l : List MarkD)
 | item (x : ItemD)
 | items (l : List ItemD)
 | dots (l : List DotD)
 | ctx (a b : List DotD)
 | cart (c : CartD)
 | box
 | free
def Ke.holds (B : Nat) : Ke → Value → World → Prop
 | .pairs l, v, w => PairsIs w v l
 | .val x, v, _ => v = x
 | .row l, v, w => Arr MarkR 4 w v l
 | .item x, v, w => ∃ o n k, v = .agg #[.string x.name, .slice o n k] ∧ x.name.size ≤ maxLen ∧ Arr MarkR 4 w (.slice o n k) x.marks
 | .items l, v, w => Arr ItemR 2 w v l
 | .dots l, v, w => Arr DotR 2 w v l
 | .ctx a b, v, w => ∃ o1 n1 k1 o2 n2 k2, v = .agg #[.slice o1 n1 k1, .slice o2 n2 k2] ∧ Arr DotR 2 w (.slice o1 n1 k1) a ∧ Arr DotR 2 w (.slice o2 n2 k2) b
 | .cart c, v, w => ∃ o1 n1 k1 o2 n2 k2 o3 n3 k3, v = .agg #[.slice o1 n1 k1, .slice o2 n2 k2, .slice o3 n3 k3] ∧ CartA w (.slice o1 n1 k1) (.slice o2 n2 k2) (.slice o3 n3 k3) c
 | .free, _, _ => True
 | .box, v, w => ∃ b, v = .pointer (some ⟨b, 0, none⟩) ∧ B ≤ b ∧ w.heap[b]? = some (.cells #[.slice none 0 0, .slice none 0 0, .slice none 0 0] 28)
theorem Ke.below {B : Nat} {w w' : World} (hb : Below w.heap.size w w') : ∀ (k : Ke) (v : Value), k.holds B v w → k.holds B v w'
 | .pairs _, _, h => PairsIs.below h hb
 | .val _, _, h => h
 | .row _, _, h => Arr.marks h hb
 | .item _, _, ⟨o, n, k, e, h1, h2⟩ => ⟨o, n, k, e, h1, h2.marks hb⟩
 | .items _, _, h => Arr.items h hb
 | .dots _, _, h => Arr.dots h hb
 | .ctx _ _, _, ⟨_, _, _, _, _, _, e, h1, h2⟩ => ⟨_, _, _, _, _, _, e, h1.dots hb, h2.dots hb⟩
 | .cart _, _, ⟨_, _, _, _, _, _, _, _, _, e, h⟩ => ⟨_, _, _, _, _, _, _, _, _, e, h.below hb⟩
 | .free, _, _ => trivial
 | .box, _, ⟨b, e, h1, h2⟩ => ⟨b, e, h1, (hb.block _ (lt_of_heap h2)).trans h2⟩
/-- A box that holds an item, and one that holds a cart. -/
def ItemB (w : World) (b : Nat) (x : ItemD) : Prop := ∃ o n k, w.heap[b]? = some (.cells #[.string x.name, .slice o n k] 50) ∧ x.name.size ≤ maxLen ∧ Arr MarkR 4 w (.slice o n k) x.marks
def CartC (w : World) (b : Nat) (c : CartD) : Prop := ∃ o1 n1 k1 o2 n2 k2 o3 n3 k3, w.heap[b]? = some (.cells #[.slice o1 n1 k1, .slice o2 n2 k2, .slice o3 n3 k3] 28) ∧ CartA w (.slice o1 n1 k1) (.slice o2 n2 k2) (.slice o3 n3 k3) c
theorem ItemB.below {w w' : World} {b : Nat} {x : ItemD} (h : ItemB w b x) (hb : Below w.heap.size w w') : ItemB w' b x := by
 obtain ⟨o, n, k, e, h1, h2⟩ := h
 exact ⟨o, n, k, (hb.block _ (lt_of_heap e)).trans e, h1, h2.marks hb⟩
theorem CartC.below {w w' : World} {b : Nat} {c : CartD} (h : CartC w b c) (hb : Below w.heap.size w w') : CartC w' b c := by
 obtain ⟨_, _, _, _, _, _, _, _, _, e, h⟩ := h
 exact ⟨_, _, _, _, _, _, _, _, _, (hb.block _ (lt_of_heap e)).trans e, h.below hb⟩
theorem mi_all {l : List MarkD} (h : l.all (fun m => decide ((-9223372036854775808 ≤ m.dot.rep ∧ m.dot.rep ≤ 9223372036854775807) ∧ (-9223372036854775808 ≤ m.dot.ctr ∧ m.dot.ctr ≤ 9223372036854775807) ∧ (-9223372036854775808 ≤ m.qty ∧ m.qty ≤ 9223372036854775807) ∧ (0 ≤ m.time ∧ m.time ≤ 18446744073709551615))) = true) : ∀ m ∈ l, MI m := fun m hm => by
  have h2 := List.all_eq_true.1 h m hm
  simp only [decide_eq_true_eq] at h2
  exact h2
theorem di_all {l : List DotD} (h : l.all (fun d => decide ((-9223372036854775808 ≤ d.rep ∧ d.rep ≤ 9223372036854775807) ∧ (-9223372036854775808 ≤ d.ctr ∧ d.ctr ≤ 9223372036854775807))) = true) : ∀ d ∈ l, DI d := fun d hd => by
  have h2 := List.all_eq_true.1 h d hd
  simp only [decide_eq_true_eq] at h2
  exact h2
theorem RegI.start {n m : Nat} {fr : (Nat → Value) → Act} {S : World → Prop} {V : Nat → Value → World → Prop} {al : Nat → Bool} {a : Act} {w : World} (u : Nat → Value) (ha : a = fr u) (hS : S w) : RegI n fr S V al (Array.replicate m false) a w := by
 have e : ∀ j, (Array.replicate m false).getD j false = false := fun j => by
  rw [Array.getD_eq_getD_getElem?]
  cases h : (Array.replicate m false)[j]? with
  | none => rfl
  | some b =>
   have := Array.mem_of_getElem? h
   simp at this
   simp [this]
 exact ⟨u, ha, hS, fun j _ h => (by rw [e] at h; cases h), fun i j _ _ _ _ _ h _ => (by rw [e] at h; cases h)⟩
end Go.Proofs.YtfnfbcaoihhbpaaGreatDoor
set_option linter.unusedSimpArgs false
set_option linter.unusedVariables false
set_option maxRecDepth 100000
set_option maxHeartbeats 16000000
namespace Go.Proofs.YtfnfbcaoihhbpaaGreatDoor
open Go.RowKit Go.Maps Go.Sort Go.Shelf

end Go.Proofs.YtfnfbcaoihhbpaaGreatDoor
