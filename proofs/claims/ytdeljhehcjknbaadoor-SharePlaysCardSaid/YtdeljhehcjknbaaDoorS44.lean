/- Plain laws for `alike`: a book's carts are keys, each once; rising lists of strings; somebody's carts are a rising list. -/
import Derived.Test.YtdeljhehcjknbaaDoorS43
namespace Go.Proofs.YtdeljhehcjknbaaDoor
open Go.RowKit Go.Maps Go.Sort Go.Lib

/-- A book's carts are keys, and no two are the same. -/
theorem Own.carts {G : Nat → Prop} {w : World} {b : Nat} {A : List APg} (h : Own G w b A) : (A.map (·.cart)).Nodup ∧ ∀ x ∈ A, keyB x.cart = true := by
  obtain ⟨F, ⟨mr, L, hB, rfl, _⟩, _⟩ := h
  constructor
  · have hm := hB.hm
    have e : (L.map PgR.abs).map (·.cart) = (ptrs L).map (·.1) := by simp [ptrs, PgR.abs, List.map_map, Function.comp_def]
    rw [e]
    cases mr with
    | none => have h9 : ptrs L = [] := hm; rw [h9]; simp
    | some r => have h9 : MapIs w r (ptrs L) := hm; exact h9.nodup
  · intro x hx
    obtain ⟨y, hy, rfl⟩ := List.mem_map.1 hx
    exact (hB.wf y hy).1
theorem aFind_get : ∀ {A : List APg}, (A.map (·.cart)).Nodup → ∀ i (hi : i < A.length), aFind A A[i].cart = some A[i]
  | x :: A, h, 0, _ => by simp [aFind]
  | x :: A, h, i + 1, hi => by
    simp only [List.map_cons, List.nodup_cons] at h
    have hi' : i < A.length := by simpa using hi
    simp only [List.getElem_cons_succ, aFind]
    rw [if_neg (fun e => h.1 (by rw [← e]; exact List.mem_map.2 ⟨A[i], List.getElem_mem hi', rfl⟩))]
    exact aFind_get h.2 i hi'
/-- A list of strings that rises. -/
def RisK (l : List ByteArray) : Prop := l.Pairwise ltK
theorem risK_ext : ∀ {l1 l2 : List ByteArray}, RisK l1 → RisK l2 → (∀ k, k ∈ l1 ↔ k ∈ l2) → l1 = l2
  | [], [], _, _, _ => rfl
  | [], k :: t, _, _, h => by have := (h k).2 (.head _); cases this
  | k :: t, [], _, _, h => by have := (h k).1 (.head _); cases this
  | a :: s, b :: t, h1, h2, h => by
    have c1 := List.pairwise_cons.1 h1
    have c2 := List.pairwise_cons.1 h2
    have hab : a = b := by
      rcases List.mem_cons.1 ((h a).1 (.head _)) with e | ha
      · exact e
      · rcases List.mem_cons.1 ((h b).2 (.head _)) with e | hb
        · exact e.symm
        · exact absurd (ltK_trans (c1.1 b hb) (c2.1 a ha)) (ltK_irrefl _)
    subst hab
    congr 1
    refine risK_ext c1.2 c2.2 fun k => ?_
    constructor
    · intro hk
      rcases List.mem_cons.1 ((h k).1 (.tail _ hk)) with e | hk2
      · subst e; exact absurd (c1.1 k hk) (ltK_irrefl _)
      · exact hk2
    · intro hk
      rcases List.mem_cons.1 ((h k).2 (.tail _ hk)) with e | hk2
      · subst e; exact absurd (c2.1 k hk) (ltK_irrefl _)
      · exact hk2
/-- A string laid into its place. -/
theorem risK_ins {l : List ByteArray} {c : ByteArray} {n : Nat} (h : RisK l) (hn : n ≤ l.length) (h1 : ∀ j (hj : j < n), ltK (l[j]'(by omega)) c) (h2 : ∀ hn' : n < l.length, ¬ ltK l[n] c) (hc : c ∉ l) : RisK (l.take n ++ (c :: l.drop n)) := by
  have hgt : ∀ y ∈ l.drop n, ltK c y := by
    intro y hy
    obtain ⟨j, hj, rfl⟩ := List.mem_iff_getElem.1 hy
    rw [List.getElem_drop]
    rw [List.length_drop] at hj
    have hnl : n < l.length := by omega
    have h0 : ltK c l[n] := by
      rcases ltK_tri c l[n] with e | e | e
      · exact e
      · exact absurd (by rw [e]; exact List.getElem_mem hnl) hc
      · exact absurd e (h2 hnl)
    cases j with
    | zero => exact h0
    | succ j => exact ltK_trans h0 ((List.pairwise_iff_getElem.1 h) n (n + (j + 1)) hnl (by omega) (by omega))
  refine List.pairwise_append.2 ⟨h.sublist (List.take_sublist _ _), List.pairwise_cons.2 ⟨hgt, h.sublist (List.drop_sublist _ _)⟩, ?_⟩
  intro x hx y hy
  obtain ⟨j, hj, rfl⟩ := List.mem_iff_getElem.1 hx
  rw [List.getElem_take]
  rw [List.length_take] at hj
  have hlt := h1 j (by omega)
  rcases List.mem_cons.1 hy with rfl | hy
  · exact hlt
  · exact ltK_trans hlt (hgt y hy)
theorem ins_mem {l : List ByteArray} {c k : ByteArray} {n : Nat} : k ∈ l.take n ++ (c :: l.drop n) ↔ k = c ∨ k ∈ l := by
  have := List.take_append_drop n l
  constructor
  · intro h
    rcases List.mem_append.1 h with h | h
    · exact Or.inr (List.mem_of_mem_take h)
    · rcases List.mem_cons.1 h with h | h
      · exact Or.inl h
      · exact Or.inr (List.mem_of_mem_drop h)
  · rintro (rfl | h)
    · exact List.mem_append.2 (Or.inr (.head _))
    · rw [← this] at h
      rcases List.mem_append.1 h with h | h
      · exact List.mem_append.2 (Or.inl h)
      · exact List.mem_append.2 (Or.inr (.tail _ h))
theorem cartsA_mem {A : List APg} {who k : ByteArray} : k ∈ cartsA A who ↔ k ∈ A.map (·.cart) ∧ rightsA A who k ≠ 0 := by
  unfold cartsA cartsL sortC
  simp only [List.mem_map, List.mem_filter, (List.mergeSort_perm _ _).mem_iff]
  constructor
  · rintro ⟨s, ⟨⟨x, hx, rfl⟩, h2⟩, rfl⟩
    exact ⟨⟨x, hx, rfl⟩, by simpa using h2⟩
  · rintro ⟨⟨x, hx, rfl⟩, h2⟩
    exact ⟨x.cart.data.toList, ⟨⟨x, hx, rfl⟩, by simpa using h2⟩, rfl⟩
theorem cartsA_ris {A : List APg} (who : ByteArray) (h : (A.map (·.cart)).Nodup) : RisK (cartsA A who) := by
  unfold RisK cartsA cartsL
  rw [List.pairwise_map]
  refine List.Pairwise.filter _ ?_
  have hs : (sortC A).Pairwise (fun x y => decide (x ≤ y) = true) := by
    unfold sortC
    exact List.pairwise_mergeSort (fun a b c h1 h2 => by simp at *; exact List.le_trans h1 h2) (fun a b => by simp; exact List.le_total a b) _
  have hn : (sortC A).Nodup := by
    unfold sortC
    rw [(List.mergeSort_perm _ _).nodup_iff]
    have e : (A.map fun x => x.cart.data.toList) = (A.map (·.cart)).map (fun k => k.data.toList) := by simp [List.map_map, Function.comp_def]
    rw [e]
    unfold List.Nodup at h ⊢
    rw [List.pairwise_map]
    exact h.imp (fun hne e => hne (ByteArray.ext (Array.toList_inj.1 e)))
  refine (hs.and hn).imp ?_
  rintro a b ⟨h1, h2⟩
  unfold ltK
  simp only
  simp at h1
  rcases Decidable.em (a < b) with h | h
  · exact h
  · exact absurd (List.le_antisymm h1 (List.not_lt.1 h)) h2
end Go.Proofs.YtdeljhehcjknbaaDoor
