/- Sets of dots, without a program in sight: strictly rising lists. -/
import Derived.Test.YtjlhdgmcaiiagaaGreatDoorData
namespace Go.Proofs.YtjlhdgmcaiiagaaGreatDoor

def dlt (a b : DotD) : Bool := decide (a.ctr < b.ctr) || (decide (a.ctr = b.ctr) && decide (a.rep < b.rep))
theorem dlt_iff (a b : DotD) : dlt a b = true ↔ a.ctr < b.ctr ∨ (a.ctr = b.ctr ∧ a.rep < b.rep) := by simp [dlt]
theorem dlt_irrefl (a : DotD) : dlt a a = false := by
  rw [← Bool.not_eq_true, dlt_iff]; omega
theorem dlt_trans {a b c : DotD} (h : dlt a b = true) (k : dlt b c = true) : dlt a c = true := by
  rw [dlt_iff] at *; omega
theorem dlt_asymm {a b : DotD} (h : dlt a b = true) : dlt b a = false := by
  rw [← Bool.not_eq_true]; rw [dlt_iff] at *; omega
theorem dlt_total {a b : DotD} (h : dlt a b = false) (k : dlt b a = false) : a = b := by
  rw [← Bool.not_eq_true, dlt_iff] at *
  obtain ⟨x, y⟩ := a
  obtain ⟨z, t⟩ := b
  simp at h k ⊢
  omega
theorem dlt_ne {a b : DotD} (h : dlt a b = true) : a ≠ b := by
  rintro rfl
  rw [dlt_irrefl] at h
  cases h

/-- A set: strictly rising. -/
def SS (l : List DotD) : Prop := l.Pairwise (fun a b => dlt a b = true)
theorem ss_ext : ∀ {l m : List DotD}, SS l → SS m → (∀ x, x ∈ l ↔ x ∈ m) → l = m
  | [], [], _, _, _ => rfl
  | [], b :: m, _, _, h => by have := (h b).2 (.head _); cases this
  | a :: l, [], _, _, h => by have := (h a).1 (.head _); cases this
  | a :: l, b :: m, hl, hm, h => by
    obtain ⟨ha, hl'⟩ := List.pairwise_cons.1 hl
    obtain ⟨hb, hm'⟩ := List.pairwise_cons.1 hm
    have hab : a = b := by
      rcases List.mem_cons.1 ((h a).1 (.head _)) with e | e
      · exact e
      · rcases List.mem_cons.1 ((h b).2 (.head _)) with e2 | e2
        · exact e2.symm
        · have h1 := hb a e
          have h2 := ha b e2
          rw [dlt_asymm h1] at h2
          cases h2
    subst hab
    congr 1
    refine ss_ext hl' hm' (fun x => ⟨fun hx => ?_, fun hx => ?_⟩)
    · rcases List.mem_cons.1 ((h x).1 (.tail _ hx)) with e | e
      · exact absurd e.symm (dlt_ne (ha x hx))
      · exact e
    · rcases List.mem_cons.1 ((h x).2 (.tail _ hx)) with e | e
      · exact absurd e.symm (dlt_ne (hb x hx))
      · exact e
theorem SS.nodup {l : List DotD} (h : SS l) : l.Nodup := h.imp (fun h => dlt_ne h)

/-- Equals that stand beside each other become one. -/
def compactD : List DotD → List DotD
  | [] => []
  | [a] => [a]
  | a :: b :: l => if a = b then compactD (b :: l) else a :: compactD (b :: l)
theorem compactD_mem : ∀ (l : List DotD) (x : DotD), x ∈ compactD l ↔ x ∈ l
  | [], x => by simp [compactD]
  | [a], x => by simp [compactD]
  | a :: b :: l, x => by
    have ih := compactD_mem (b :: l) x
    unfold compactD
    split
    · rename_i h
      subst h
      rw [ih]; simp
    · rw [List.mem_cons, ih]; simp
theorem compactD_ss : ∀ (l : List DotD), l.Pairwise (fun a b => dlt b a = false) → SS (compactD l)
  | [], _ => List.Pairwise.nil
  | [a], _ => by simp [compactD, SS]
  | a :: b :: l, h => by
    obtain ⟨ha, h'⟩ := List.pairwise_cons.1 h
    have ih := compactD_ss (b :: l) h'
    unfold compactD
    split
    · exact ih
    · rename_i hne
      refine List.pairwise_cons.2 ⟨fun x hx => ?_, ih⟩
      rw [compactD_mem] at hx
      have h1 := ha x hx
      cases hax : dlt a x with
      | true => rfl
      | false =>
        exfalso
        have e := dlt_total hax h1
        subst e
        have h2 := ha b (.head _)
        obtain ⟨hb, _⟩ := List.pairwise_cons.1 h'
        rcases List.mem_cons.1 hx with e | e
        · exact hne e
        · have h3 := hb a e
          exact hne (dlt_total h3 h2)

/-- The list in order. -/
def sortD (l : List DotD) : List DotD := l.mergeSort (fun x y => !dlt y x)
theorem sortD_sorted (l : List DotD) : (sortD l).Pairwise (fun a b => dlt b a = false) := by
  have h := List.pairwise_mergeSort (le := fun x y => !dlt y x)
    (fun a b c h k => by
      simp only [Bool.not_eq_true'] at *
      rw [← Bool.not_eq_true] at *
      rw [dlt_iff] at *; omega)
    (fun a b => by
      rw [Bool.or_eq_true, Bool.not_eq_true', Bool.not_eq_true']
      rw [← Bool.not_eq_true, ← Bool.not_eq_true, dlt_iff, dlt_iff]; omega) l
  exact h.imp (fun h => by simpa using h)
/-- The set of a list. -/
def setD (l : List DotD) : List DotD := compactD (sortD l)
theorem setD_ss (l : List DotD) : SS (setD l) := compactD_ss _ (sortD_sorted l)
theorem setD_mem (l : List DotD) (x : DotD) : x ∈ setD l ↔ x ∈ l := by
  unfold setD sortD
  rw [compactD_mem, (List.mergeSort_perm l _).mem_iff]
theorem setD_of_ss {l : List DotD} (h : SS l) : setD l = l := ss_ext (setD_ss l) h (setD_mem l)

/-- A set with one more. -/
def withD (s : List DotD) (d : DotD) : List DotD := if d ∈ s then s else s.takeWhile (fun x => dlt x d) ++ d :: s.dropWhile (fun x => dlt x d)
theorem withD_mem (s : List DotD) (d x : DotD) : x ∈ withD s d ↔ x ∈ s ∨ x = d := by
  unfold withD
  split
  · rename_i h
    constructor
    · exact Or.inl
    · rintro (h' | rfl)
      · exact h'
      · exact h
  · rw [List.mem_append, List.mem_cons]
    have := List.takeWhile_append_dropWhile (p := fun x => dlt x d) (l := s)
    have h2 : x ∈ s ↔ x ∈ s.takeWhile (fun x => dlt x d) ∨ x ∈ s.dropWhile (fun x => dlt x d) := by
      rw [← List.mem_append, this]
    rw [h2]
    constructor
    · rintro (h | h | h)
      · exact Or.inl (Or.inl h)
      · exact Or.inr h
      · exact Or.inl (Or.inr h)
    · rintro ((h | h) | h)
      · exact Or.inl h
      · exact Or.inr (Or.inr h)
      · exact Or.inr (Or.inl h)
theorem mem_takeWhile_dlt {s : List DotD} {d x : DotD} (h : x ∈ s.takeWhile (fun x => dlt x d)) : dlt x d = true := by
  induction s with
  | nil => simp at h
  | cons a s ih =>
    rw [List.takeWhile_cons] at h
    split at h
    · rcases List.mem_cons.1 h with e | e
      · subst e; assumption
      · exact ih e
    · simp at h
theorem mem_dropWhile_dlt : ∀ {s : List DotD} {d x : DotD}, SS s → d ∉ s → x ∈ s.dropWhile (fun x => dlt x d) → dlt d x = true
  | [], _, _, _, _, h => by simp at h
  | a :: s, d, x, hs, hd, h => by
    obtain ⟨ha, hs'⟩ := List.pairwise_cons.1 hs
    rw [List.dropWhile_cons] at h
    split at h
    · exact mem_dropWhile_dlt hs' (fun h' => hd (.tail _ h')) h
    · rename_i hn
      have hda : dlt d a = true := by
        cases e : dlt d a with
        | true => rfl
        | false =>
          exfalso
          have := dlt_total (by simpa using hn) e
          exact hd (this ▸ .head _)
      rcases List.mem_cons.1 h with e | e
      · subst e; exact hda
      · exact dlt_trans hda (ha x e)
theorem withD_ss {s : List DotD} (h : SS s) (d : DotD) : SS (withD s d) := by
  unfold withD
  split
  · exact h
  · rename_i hd
    have hsub1 : (s.takeWhile (fun x => dlt x d)).Pairwise (fun a b => dlt a b = true) := h.sublist (List.takeWhile_sublist _)
    have hsub2 : (s.dropWhile (fun x => dlt x d)).Pairwise (fun a b => dlt a b = true) := h.sublist (List.dropWhile_sublist _)
    refine List.pairwise_append.2 ⟨hsub1, List.pairwise_cons.2 ⟨fun x hx => mem_dropWhile_dlt h hd hx, hsub2⟩, fun x hx y hy => ?_⟩
    have h1 := mem_takeWhile_dlt hx
    rcases List.mem_cons.1 hy with e | e
    · subst e; exact h1
    · exact dlt_trans h1 (mem_dropWhile_dlt h hd e)
/-- The union as the reference makes it. -/
def unionD (a b : List DotD) : List DotD := b.foldl withD (a.foldl withD [])
theorem foldl_withD : ∀ (l s : List DotD), SS s → SS (l.foldl withD s) ∧ ∀ x, x ∈ l.foldl withD s ↔ x ∈ s ∨ x ∈ l
  | [], s, h => ⟨h, fun x => by simp⟩
  | a :: l, s, h => by
    obtain ⟨h1, h2⟩ := foldl_withD l (withD s a) (withD_ss h a)
    refine ⟨h1, fun x => ?_⟩
    rw [List.foldl_cons, h2, withD_mem, List.mem_cons]
    constructor
    · rintro ((h | h) | h)
      · exact Or.inl h
      · exact Or.inr (Or.inl h)
      · exact Or.inr (Or.inr h)
    · rintro (h | h | h)
      · exact Or.inl (Or.inl h)
      · exact Or.inl (Or.inr h)
      · exact Or.inr h
theorem unionD_eq (a b : List DotD) : unionD a b = setD (a ++ b) := by
  unfold unionD
  obtain ⟨h1, h2⟩ := foldl_withD a [] List.Pairwise.nil
  obtain ⟨h3, h4⟩ := foldl_withD b _ h1
  refine ss_ext h3 (setD_ss _) (fun x => ?_)
  rw [h4, h2, setD_mem, List.mem_append]
  simp
end Go.Proofs.YtjlhdgmcaiiagaaGreatDoor
