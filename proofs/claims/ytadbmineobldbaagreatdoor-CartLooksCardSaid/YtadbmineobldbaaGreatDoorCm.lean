/- slices.Compact at marks and at strings. -/
import Derived.Test.YtadbmineobldbaaGreatDoorC5
import Derived.Test.YtadbmineobldbaaGreatDoorCanonP
set_option linter.unusedSimpArgs false
set_option linter.unusedVariables false
set_option maxRecDepth 100000
set_option maxHeartbeats 8000000
namespace Go.Proofs.YtadbmineobldbaaGreatDoor
open Go.RowKit Go.Maps Go.Sort Go.Shelf

def compactL {α : Type} [DecidableEq α] : List α → List α
 | [] => []
 | [a] => [a]
 | a :: b :: l => if a = b then compactL (b :: l) else a :: compactL (b :: l)
section
variable {α : Type} [DecidableEq α]
theorem compactL_snoc : ∀ (l : List α) (a x : α), compactL (l ++ [a] ++ [x]) = if a = x then compactL (l ++ [a]) else compactL (l ++ [a]) ++ [x]
 | [], a, x => by
  simp only [List.nil_append, List.cons_append, compactL]
  split
  ·rename_i h; rw [h]
  ·rfl
 | [b], a, x => by
  simp only [List.nil_append, List.cons_append, compactL]
  by_cases h1 : b = a <;> by_cases h2 : a = x <;> simp [h1, h2]
 | b :: c :: l, a, x => by
  have ih := compactL_snoc (c :: l) a x;simp only [List.cons_append] at ih ⊢;simp only [compactL];rw [ih]
  by_cases h1 : b = c <;> by_cases h2 : a = x <;> simp [h1, h2]
theorem compactL_take (l : List α) (k : Nat) (h : k + 1 < l.length) : compactL (l.take (k + 2)) = if l[k] = l[k + 1] then compactL (l.take (k + 1)) else compactL (l.take (k + 1)) ++ [l[k + 1]] := by
 have e1 : l.take (k + 1) = l.take k ++ [l[k]] := List.take_succ_eq_append_getElem (by omega)
 have e2 : l.take (k + 2) = l.take (k + 1) ++ [l[k + 1]] := List.take_succ_eq_append_getElem h;rw [e2, e1];exact compactL_snoc _ _ _
theorem compactL_mem : ∀ (l : List α) (x : α), x ∈ compactL l ↔ x ∈ l
 | [], _ => Iff.rfl
 | [_], _ => Iff.rfl
 | a :: b :: l, x => by
  have ih := compactL_mem (b :: l) x;simp only [compactL]
  split
  ·rename_i h
   rw [ih, h]
   simp
  ·rw [List.mem_cons, ih, List.mem_cons (a := x) (b := a)]
theorem compactL_len : ∀ (l : List α), (compactL l).length ≤ l.length
 | [] => Nat.le_refl _
 | [_] => Nat.le_refl _
 | a :: b :: l => by
  have ih := compactL_len (b :: l);simp only [compactL]
  split
  ·simp only [List.length_cons] at *; omega
  ·simp only [List.length_cons] at *; omega
theorem compactL_rising {r : α → α → Prop} (hr : ∀ a b c, r a b → r b c → r a c) : ∀ (l : List α), l.Pairwise (fun a b => a = b ∨ r a b) → (compactL l).Pairwise r
 | [], _ => List.Pairwise.nil
 | [_], _ => List.pairwise_singleton _ _
 | a :: b :: l, h => by
  obtain ⟨h1, h2⟩ := List.pairwise_cons.1 h;have ih := compactL_rising hr (b :: l) h2;simp only [compactL]
  split
  ·exact ih
  ·rename_i hab
   refine List.pairwise_cons.2 ⟨fun x hx => ?_, ih⟩
   have hx' := (compactL_mem _ _).1 hx;have hb : r a b := by
    rcases h1 b (by simp) with e | e
    ·exact absurd e hab
    ·exact e
   rcases List.mem_cons.1 hx' with e | hx2
   ·rw [e]; exact hb
   ·rcases (List.pairwise_cons.1 h2).1 x hx2 with e | e
    ·rw [← e]; exact hb
    ·exact hr _ _ _ hb e
def BB (base g : Nat) (w w' : World) : Prop := Below base w w' ∧ w.heap.size ≤ w'.heap.size ∧ ∀ b, b < w.heap.size → b ≠ g → w'.heap[b]? = w.heap[b]?
theorem BB.refl (base g : Nat) (w : World) : BB base g w w := ⟨Below.refl _ _, Nat.le_refl _, fun _ _ _ => rfl⟩
theorem BB.drewN {base g : Nat} {w w' : World} (n : Nat) (h : BB base g w w') : BB base g w (w'.drewN n) := ⟨below_drewN _ h.1, h.2.1, h.2.2⟩
theorem BB.setCell {base g i : Nat} {w w' : World} (h : BB base g w w') (hb : base ≤ g) (v : Value) : BB base g w (w'.setCell ⟨g, i, none⟩ v) := ⟨h.1.setCell hb v, by rw [setCell_size]; exact h.2.1, fun b hl hne => by rw [setCell_other hne]; exact h.2.2 b hl hne⟩
omit [DecidableEq α] in
theorem set_takeL (d : List α) (m : Nat) (y : α) (hm : m < d.length) : (d.set m y).take (m + 1) = d.take m ++ [y] := by
 rw [List.take_succ_eq_append_getElem (by simpa using hm), List.getElem_set_self, List.take_set, List.set_eq_of_length_le (by simp; omega)]
end

end Go.Proofs.YtadbmineobldbaaGreatDoor

