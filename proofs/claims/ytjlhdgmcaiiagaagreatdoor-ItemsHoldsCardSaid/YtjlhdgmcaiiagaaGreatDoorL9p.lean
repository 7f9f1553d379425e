/- The plain law of ItemsHolds, without a program in sight; light. -/
import Derived.Test.YtjlhdgmcaiiagaaGreatDoorL9a
namespace Go.Proofs.YtjlhdgmcaiiagaaGreatDoor
open Go.RowKit Go.Maps

theorem validI_parts {l : List ItemD} (h : validI l = true) : (∀ x ∈ l, oneI x = true) ∧ risB l = true ∧ l.Pairwise (fun a b => meetB a b = false) := by
  obtain ⟨h1, h2, h3⟩ := (validI_iff l).1 h
  exact ⟨fun x hx => List.all_eq_true.1 h1 x hx, h2, h3⟩
theorem validI_of {l : List ItemD} (h1 : ∀ x ∈ l, oneI x = true) (h2 : risB l = true) (h3 : l.Pairwise (fun a b => meetB a b = false)) : validI l = true :=
  (validI_iff l).2 ⟨List.all_eq_true.2 h1, h2, h3⟩
theorem validI_drop {l : List ItemD} (h : validI l = true) (nm : ByteArray) : validI (dropN l nm) = true := by
  obtain ⟨h1, h2, h3⟩ := validI_parts h
  exact validI_of (fun x hx => h1 x (List.mem_filter.1 hx).1) (risB_iff.2 (dropN_rising h2 nm)) (h3.sublist List.filter_sublist)
theorem mem_putI {l : List ItemD} {x y : ItemD} : y ∈ putI l x ↔ y ∈ dropN l x.name ∨ y = x := by
  unfold putI
  rw [← (insI_perm (dropN l x.name) x).mem_iff]
  simp
theorem mem_dropN {l : List ItemD} {nm : ByteArray} {y : ItemD} : y ∈ dropN l nm ↔ y ∈ l ∧ y.name ≠ nm := by
  unfold dropN
  rw [List.mem_filter]
  simp
/-- Rising lists with the same items are the same. -/
theorem rising_ext {l m : List ItemD} (hl : l.Pairwise (fun a b => ltK a.name b.name)) (hm : m.Pairwise (fun a b => ltK a.name b.name)) (h : ∀ x, x ∈ l ↔ x ∈ m) : l = m := by
  have nd : ∀ {l : List ItemD}, l.Pairwise (fun a b => ltK a.name b.name) → l.Nodup := fun h => h.imp (fun {a b} h e => by rw [e] at h; exact ltK_irrefl _ h)
  refine sorted_unique ?_ (hl.imp (fun {a b} h h2 => ltK_irrefl _ (ltK_trans h h2))) hm
  exact (List.perm_ext_iff_of_nodup (nd hl) (nd hm)).2 h
theorem rising_name {l : List ItemD} (h : l.Pairwise (fun a b => ltK a.name b.name)) {x y : ItemD} (hx : x ∈ l) (hy : y ∈ l) (hn : x.name = y.name) : x = y := by
  obtain ⟨i, hi, rfl⟩ := List.getElem_of_mem hx
  obtain ⟨j, hj, rfl⟩ := List.getElem_of_mem hy
  have hpw := List.pairwise_iff_getElem.1 h
  rcases Nat.lt_trichotomy i j with e | e | e
  · have := hpw i j hi hj e; rw [hn] at this; exact absurd this (ltK_irrefl _)
  · subst e; rfl
  · have := hpw j i hj hi e; rw [hn] at this; exact absurd this (ltK_irrefl _)
def fX (l : List ItemD) (nm : ByteArray) : Option ItemD := l.find? (fun x => decide (x.name = nm))
theorem find_rising {l : List ItemD} (h : l.Pairwise (fun a b => ltK a.name b.name)) {x : ItemD} (hx : x ∈ l) : fX l x.name = some x := by
  unfold fX
  cases e : l.find? (fun y => decide (y.name = x.name)) with
  | none =>
    rw [List.find?_eq_none] at e
    exact absurd (decide_eq_true rfl) (e x hx)
  | some y =>
    have h1 := List.find?_some e
    have h2 := List.mem_of_find?_eq_some e
    rw [rising_name h h2 hx (by simpa using h1)]
theorem dropN_putI {l : List ItemD} {x : ItemD} (h : risB l = true) : dropN (putI l x) x.name = dropN l x.name := by
  refine rising_ext ((putI_rising h x).sublist List.filter_sublist) (dropN_rising h _) (fun y => ?_)
  rw [mem_dropN, mem_putI, mem_dropN]
  constructor
  · rintro ⟨h1 | h1, h2⟩
    · exact h1
    · exact absurd (by rw [h1]) h2
  · exact fun h1 => ⟨Or.inl h1, h1.2⟩
theorem dropN_none {l : List ItemD} {nm : ByteArray} (h : l.any (fun x => decide (x.name = nm)) = false) : dropN l nm = l := filter_all _ l h
/-- What was there is put back. -/
theorem putI_back {l : List ItemD} {x : ItemD} (h : risB l = true) (hx : x ∈ l) : putI (dropN l x.name) x = l := by
  have h1 : risB (dropN l x.name) = true := risB_iff.2 (dropN_rising h _)
  refine rising_ext (putI_rising h1 x) (risB_iff.1 h) (fun y => ?_)
  rw [mem_putI, mem_dropN, mem_dropN]
  constructor
  · rintro (h2 | h2)
    · exact h2.1.1
    · rw [h2]; exact hx
  · intro hy
    by_cases e : y.name = x.name
    · exact Or.inr (rising_name (risB_iff.1 h) hy hx e)
    · exact Or.inl ⟨⟨hy, e⟩, e⟩
theorem meetB_symm {a b : ItemD} (h : meetB a b = false) : meetB b a = false := by
  rw [meetB_false] at *
  exact fun d h1 h2 => h d h2 h1
theorem pairwise_mem {l : List ItemD} (h : l.Pairwise (fun a b => meetB a b = false)) {x y : ItemD} (hx : x ∈ l) (hy : y ∈ l) (hn : x ≠ y) : meetB x y = false := by
  obtain ⟨i, hi, rfl⟩ := List.getElem_of_mem hx
  obtain ⟨j, hj, rfl⟩ := List.getElem_of_mem hy
  have hpw := List.pairwise_iff_getElem.1 h
  rcases Nat.lt_trichotomy i j with e | e | e
  · exact hpw i j hi hj e
  · subst e; exact absurd rfl hn
  · exact meetB_symm (hpw j i hj hi e)
/-- Where Put is busy, another item owns one of the dots. -/
theorem busy_met {l : List ItemD} {x : ItemD} (hl : validI l = true) (hx : oneI x = true) (hb : validI (putI l x) = false) : ∃ m ∈ x.marks, ∃ s, ownerI l m.dot = some s ∧ s ≠ x.name := by
  obtain ⟨h1, h2, h3⟩ := validI_parts hl
  have hex : ∃ a ∈ dropN l x.name, meetB a x = true := by
    refine Classical.byContradiction (fun hno => ?_)
    have hall : ∀ a ∈ dropN l x.name, meetB a x = false := fun a ha => by
      cases e : meetB a x with
      | false => rfl
      | true => exact absurd ⟨a, ha, e⟩ hno
    have hv : validI (putI l x) = true := by
      refine validI_of (fun y hy => ?_) (risB_iff.2 (putI_rising h2 x)) ?_
      · rcases mem_putI.1 hy with h | h
        · exact h1 y (mem_dropN.1 h).1
        · rw [h]; exact hx
      · have hp : (putI l x).Perm (dropN l x.name ++ [x]) := (insI_perm _ _).symm
        refine (hp.pairwise_iff (fun h => meetB_symm h)).2 (List.pairwise_append.2 ⟨h3.sublist List.filter_sublist, List.pairwise_singleton _ _, fun a ha b hb => ?_⟩)
        rw [List.mem_singleton] at hb
        rw [hb]; exact hall a ha
    rw [hb] at hv; cases hv
  obtain ⟨a, ha, hm⟩ := hex
  obtain ⟨hal, han⟩ := mem_dropN.1 ha
  obtain ⟨d, hd1, hd2⟩ := List.any_eq_true.1 hm
  have hd2' : d ∈ dotsM x.marks := of_decide_eq_true hd2
  obtain ⟨m, hmx, rfl⟩ := List.mem_map.1 hd2'
  refine ⟨m, hmx, a.name, ?_, han⟩
  unfold ownerI
  have hf : l.find? (ownsP m.dot) = some a := by
    cases e : l.find? (ownsP m.dot) with
    | none =>
      rw [List.find?_eq_none] at e
      exact absurd (decide_eq_true hd1) (e a hal)
    | some y =>
      have e0 : ownsP m.dot y = true := List.find?_some e
      have e1 : m.dot ∈ dotsM y.marks := of_decide_eq_true e0
      have e2 := List.mem_of_find?_eq_some e
      by_cases hya : y = a
      · rw [hya]
      · exact absurd hd1 (meetB_false.1 (pairwise_mem h3 e2 hal hya) _ e1)
  rw [hf]; rfl
def okL (x : ItemD) : Bool := decide (x.name.size ≤ 100) && decide (x.marks.length ≤ 10)
def lightI (l : List ItemD) : Bool := decide (l.length ≤ 20) && l.all okL
end Go.Proofs.YtjlhdgmcaiiagaaGreatDoor
