/- A row of pages as a list of cells; Model.own walked. -/
import Derived.Test.YtdeljhehcjknbaaDoorS32
import Derived.Deep.RegionHeld3
namespace Go.Proofs.YtdeljhehcjknbaaDoor
open Go.RowKit Go.Maps Go.Sort Go.Lib

/-- The cells of pages, one after the other. -/
def RowP (G : Nat → Prop) (w : World) : List Value → List APg → Prop
  | [], [] => True
  | c :: o :: mv :: xs, x :: A => c = .string x.cart ∧ o = .string x.owner ∧ MemAt G w mv x.mem ∧ RowP G w xs A
  | _, _ => False
theorem RowP.len {G : Nat → Prop} {w : World} : ∀ {xs : List Value} {A : List APg}, RowP G w xs A → xs.length = A.length * 3
  | [], [], _ => rfl
  | c :: o :: mv :: xs, x :: A, h => by have := RowP.len h.2.2.2; simp only [List.length_cons]; omega
  | [], _ :: _, h => h.elim
  | [_], _, h => by simp [RowP] at h
  | [_, _], _, h => by simp [RowP] at h
  | _ :: _ :: _ :: _, [], h => by simp [RowP] at h
theorem MemAt.one {G : Nat → Prop} {w : World} {v : Value} {m : List (ByteArray × Int)} (h : MemAt G w v m) : v.oneCell' = true := by
  obtain ⟨a, cap, rfl, _⟩ := h; rfl
theorem RowP.one {G : Nat → Prop} {w : World} : ∀ {xs : List Value} {A : List APg}, RowP G w xs A → ∀ u ∈ xs, u.oneCell' = true
  | [], [], _ => fun _ h => by cases h
  | c :: o :: mv :: xs, x :: A, h => by
    obtain ⟨rfl, rfl, h3, h4⟩ := h
    intro u hu
    rcases List.mem_cons.1 hu with rfl | hu
    · rfl
    · rcases List.mem_cons.1 hu with rfl | hu
      · rfl
      · rcases List.mem_cons.1 hu with rfl | hu
        · exact h3.one
        · exact RowP.one h4 u hu
  | [], _ :: _, h => h.elim
  | [_], _, h => by simp [RowP] at h
  | [_, _], _, h => by simp [RowP] at h
  | _ :: _ :: _ :: _, [], h => by simp [RowP] at h
theorem RowP.append {G : Nat → Prop} {w : World} : ∀ {xs ys : List Value} {A B : List APg}, RowP G w xs A → RowP G w ys B → RowP G w (xs ++ ys) (A ++ B)
  | [], ys, [], B, _, h => h
  | c :: o :: mv :: xs, ys, x :: A, B, h, h2 => ⟨h.1, h.2.1, h.2.2.1, RowP.append h.2.2.2 h2⟩
  | [], _, _ :: _, _, h, _ => h.elim
  | [_], _, _, _, h, _ => by simp [RowP] at h
  | [_, _], _, _, _, h, _ => by simp [RowP] at h
  | _ :: _ :: _ :: _, _, [], _, h, _ => by simp [RowP] at h
theorem RowP.of {G G' : Nat → Prop} {w w' : World} (hG : ∀ k, G k → G' k) (hk : ∀ k, G k → k < w.heap.size → w'.heap[k]? = w.heap[k]?) (hs : w.heap.size ≤ w'.heap.size) : ∀ {xs : List Value} {A : List APg}, RowP G w xs A → RowP G' w' xs A
  | [], [], _ => trivial
  | c :: o :: mv :: xs, x :: A, h => ⟨h.1, h.2.1, h.2.2.1.of hG hk hs, RowP.of hG hk hs h.2.2.2⟩
  | [], _ :: _, h => h.elim
  | [_], _, h => by simp [RowP] at h
  | [_, _], _, h => by simp [RowP] at h
  | _ :: _ :: _ :: _, [], h => by simp [RowP] at h
theorem RowP.take {G : Nat → Prop} {w : World} : ∀ {xs : List Value} {A : List APg} (i : Nat), RowP G w xs A → RowP G w (xs.take (i * 3)) (A.take i)
  | xs, A, 0, _ => by simp [RowP]
  | [], [], i + 1, _ => by simp [RowP]
  | c :: o :: mv :: xs, x :: A, i + 1, h => by
    rw [show (i + 1) * 3 = i * 3 + 1 + 1 + 1 by omega]
    exact ⟨h.1, h.2.1, h.2.2.1, RowP.take i h.2.2.2⟩
  | [], _ :: _, _ + 1, h => h.elim
  | [_], _, _ + 1, h => by simp [RowP] at h
  | [_, _], _, _ + 1, h => by simp [RowP] at h
  | _ :: _ :: _ :: _, [], _ + 1, h => by simp [RowP] at h
theorem RowP.drop {G : Nat → Prop} {w : World} : ∀ {xs : List Value} {A : List APg} (i : Nat), RowP G w xs A → RowP G w (xs.drop (i * 3)) (A.drop i)
  | xs, A, 0, h => h
  | [], [], i + 1, _ => by simp [RowP]
  | c :: o :: mv :: xs, x :: A, i + 1, h => by
    rw [show (i + 1) * 3 = i * 3 + 1 + 1 + 1 by omega]
    exact RowP.drop i h.2.2.2
  | [], _ :: _, _ + 1, h => h.elim
  | [_], _, _ + 1, h => by simp [RowP] at h
  | [_, _], _, _ + 1, h => by simp [RowP] at h
  | _ :: _ :: _ :: _, [], _ + 1, h => by simp [RowP] at h
theorem RowP.get {G : Nat → Prop} {w : World} : ∀ {xs : List Value} {A : List APg}, RowP G w xs A → ∀ i (hi : i < A.length), xs[i * 3]? = some (.string A[i].cart) ∧ xs[i * 3 + 1]? = some (.string A[i].owner) ∧ ∃ mv, xs[i * 3 + 2]? = some mv ∧ MemAt G w mv A[i].mem
  | c :: o :: mv :: xs, x :: A, h, 0, _ => by
    obtain ⟨rfl, rfl, h3, _⟩ := h
    exact ⟨rfl, rfl, mv, rfl, h3⟩
  | c :: o :: mv :: xs, x :: A, h, i + 1, hi => by
    rw [show (i + 1) * 3 = i * 3 + 1 + 1 + 1 by omega]
    exact RowP.get h.2.2.2 i (by simpa using hi)
  | [], [], _, i, hi => by simp at hi
  | [], _ :: _, h, _, _ => h.elim
  | [_], _, h, _, _ => by simp [RowP] at h
  | [_, _], _, h, _, _ => by simp [RowP] at h
  | _ :: _ :: _ :: _, [], h, _, _ => by simp [RowP] at h
theorem RowP.set_mem {G : Nat → Prop} {w : World} {v : Value} {m : List (ByteArray × Int)} (hv : MemAt G w v m) : ∀ {xs : List Value} {A : List APg}, RowP G w xs A → ∀ i (hi : i < A.length), RowP G w (xs.set (i * 3 + 2) v) (A.set i ⟨A[i].cart, A[i].owner, m⟩)
  | c :: o :: mv :: xs, x :: A, h, 0, _ => ⟨h.1, h.2.1, hv, h.2.2.2⟩
  | c :: o :: mv :: xs, x :: A, h, i + 1, hi => by
    rw [show (i + 1) * 3 + 2 = (i * 3 + 2) + 1 + 1 + 1 by omega]
    exact ⟨h.1, h.2.1, h.2.2.1, RowP.set_mem hv h.2.2.2 i (by simpa using hi)⟩
  | [], [], _, i, hi => by simp at hi
  | [], _ :: _, h, _, _ => h.elim
  | [_], _, h, _, _ => by simp [RowP] at h
  | [_, _], _, h, _, _ => by simp [RowP] at h
  | _ :: _ :: _ :: _, [], h, _, _ => by simp [RowP] at h
theorem RowP.set_owner {G : Nat → Prop} {w : World} {s : ByteArray} : ∀ {xs : List Value} {A : List APg}, RowP G w xs A → ∀ i (hi : i < A.length), RowP G w (xs.set (i * 3 + 1) (.string s)) (A.set i ⟨A[i].cart, s, A[i].mem⟩)
  | c :: o :: mv :: xs, x :: A, h, 0, _ => ⟨h.1, rfl, h.2.2.1, h.2.2.2⟩
  | c :: o :: mv :: xs, x :: A, h, i + 1, hi => by
    rw [show (i + 1) * 3 + 1 = (i * 3 + 1) + 1 + 1 + 1 by omega]
    exact ⟨h.1, h.2.1, h.2.2.1, RowP.set_owner h.2.2.2 i (by simpa using hi)⟩
  | [], [], _, i, hi => by simp at hi
  | [], _ :: _, h, _, _ => h.elim
  | [_], _, h, _, _ => by simp [RowP] at h
  | [_, _], _, h, _, _ => by simp [RowP] at h
  | _ :: _ :: _ :: _, [], h, _, _ => by simp [RowP] at h
/-- Pages in memory are a row. -/
theorem row_of {G : Nat → Prop} {w : World} {g : Nat} : ∀ {A : List APg} (o : Nat), (∀ i (hi : i < A.length), PageAt G w g (o + i * 3) A[i]) → ∃ xs, RowP G w xs A ∧ ∀ j u, xs[j]? = some u → w.cell? ⟨g, o + j, none⟩ = some u
  | [], _, _ => ⟨[], trivial, fun j u h => by cases h⟩
  | x :: A, o, h => by
    obtain ⟨h1, h2, mv, h3, h4⟩ := h 0 (by simp)
    obtain ⟨xs, h5, h6⟩ := row_of (A := A) (o + 3) (fun i hi => by have := h (i + 1) (by simpa using hi); rw [show o + 3 + i * 3 = o + (i + 1) * 3 by omega]; exact this)
    refine ⟨.string x.cart :: .string x.owner :: mv :: xs, ⟨rfl, rfl, h4, h5⟩, fun j u hj => ?_⟩
    match j, hj with
    | 0, hj => simp at hj; subst hj; simpa using h1
    | 1, hj => simp at hj; subst hj; simpa using h2
    | 2, hj => simp at hj; subst hj; simpa using h3
    | j + 3, hj => rw [show o + (j + 3) = o + 3 + j by omega]; exact h6 j u (by simpa using hj)
theorem pages_row {G : Nat → Prop} {w : World} {v : Value} {A : List APg} (h : PagesAt G w v A) : ∃ xs, RowP G w xs A ∧ SrcIs w v A.length xs := by
  obtain ⟨a, cap, rfl, h1, h2⟩ := h
  by_cases hA : A = []
  · subst hA
    refine ⟨[], trivial, ?_⟩
    cases a with
    | none => obtain ⟨-, rfl⟩ := h1.1 rfl; exact Or.inl ⟨rfl, rfl, rfl⟩
    | some ad => exact Or.inr ⟨ad, cap, rfl, fun j u h => by cases h⟩
  · obtain ⟨g, rfl, hg, hgl, hp⟩ := h2 hA
    obtain ⟨xs, h3, h4⟩ := row_of (g := g) 0 (fun i hi => by simpa using hp i hi)
    exact ⟨xs, h3, Or.inr ⟨_, cap, rfl, fun j u hj => by
      have := h4 j u hj
      rw [show (⟨g, 0, none⟩ : Addr).add j = ⟨g, j, none⟩ by unfold Addr.add; split <;> simp_all]
      simpa using this⟩⟩
theorem row_pages {G : Nat → Prop} {w : World} {base : Nat} {v : Value} {A : List APg} {xs : List Value} (h : w.ownsRow base 66 3 v A.length xs) (hr : RowP G w xs A) (hG : ∀ k, base ≤ k → G k) : PagesAt G w v A := by
  obtain ⟨hl, ⟨rfl, h0⟩ | ⟨g, cap, cur, rfl, hg, hb, h1, h2, h3, h4⟩⟩ := h
  · have hA : A = [] := List.eq_nil_of_length_eq_zero h0
    subst hA
    exact ⟨none, 0, rfl, ⟨fun _ => ⟨rfl, rfl⟩, Nat.le_refl _⟩, fun h => absurd rfl h⟩
  · refine ⟨_, cap, rfl, ⟨(fun h => by cases h), h1⟩, fun _ => ⟨g, rfl, hG g hg, lt_of_heap hb, fun i hi => ?_⟩⟩
    have hc : ∀ j u, xs[j]? = some u → w.cell? ⟨g, j, none⟩ = some u := fun j u hj => by
      rw [cell0 hb]
      rw [← h4, List.getElem?_take] at hj
      split at hj
      · simpa using hj
      · cases hj
    obtain ⟨e1, e2, mv, e3, e4⟩ := hr.get i hi
    exact ⟨hc _ _ e1, hc _ _ e2, mv, hc _ _ e3, e4⟩
theorem mem_src {G : Nat → Prop} {w : World} {v : Value} {m : List (ByteArray × Int)} (h : MemAt G w v m) : SrcIs w v m.length (flatM (memS m)) := by
  obtain ⟨a, cap, rfl, h1, h2⟩ := h
  by_cases hm : m = []
  · subst hm
    have e : flatM (memS []) = [] := by have : (flatM (memS [])).length = 0 := by rw [flatM_len, memS_len]; rfl
                                        exact List.eq_nil_of_length_eq_zero this
    rw [e]
    cases a with
    | none => obtain ⟨-, rfl⟩ := h1 rfl; exact Or.inl ⟨rfl, rfl, rfl⟩
    | some ad => exact Or.inr ⟨ad, cap, rfl, fun j u h => by cases h⟩
  · obtain ⟨g, rfl, hg, hgl, hp⟩ := h2 hm
    exact Or.inr ⟨_, cap, rfl, fun j u hj => by
      rw [show (⟨g, 0, none⟩ : Addr).add j = ⟨g, j, none⟩ by unfold Addr.add; split <;> simp_all]
      exact hp j u hj⟩
theorem Tryd_info66 : (Tryd.prog.info? 66).map (fun i => (i.zero, i.size, i.bytes)) = some (some (.agg #[.string ⟨#[]⟩, .string ⟨#[]⟩, .slice none 0 0]), 3, 56) := by kernel_rfl
end Go.Proofs.YtdeljhehcjknbaaDoor
