/- The model beside a book whose pages may stand in another order. -/
import Derived.Test.YtdeljhehcjknbaaDoorS44
import Derived.Test.YtdeljhehcjknbaaDoorS43
namespace Go.Proofs.YtdeljhehcjknbaaDoor
open Go.RowKit Go.Maps Go.Sort Go.Lib

theorem aFind_iff : ∀ {A : List APg} {c : ByteArray} {x : APg}, (A.map (·.cart)).Nodup → (aFind A c = some x ↔ x ∈ A ∧ x.cart = c) := by
  intro A c x h
  constructor
  · exact aFind_in
  · rintro ⟨hx, rfl⟩
    obtain ⟨i, hi, rfl⟩ := List.mem_iff_getElem.1 hx
    exact aFind_get h i hi
theorem aFind_perm {A B : List APg} (h : A.Perm B) (hA : (A.map (·.cart)).Nodup) (c : ByteArray) : aFind A c = aFind B c := by
  have hB : (B.map (·.cart)).Nodup := (h.map _).nodup_iff.1 hA
  cases e : aFind A c with
  | none =>
    cases e2 : aFind B c with
    | none => rfl
    | some y =>
      have := (aFind_iff hB).1 e2
      rw [(aFind_iff hA).2 ⟨h.mem_iff.2 this.1, this.2⟩] at e
      cases e
  | some x =>
    have := (aFind_iff hA).1 e
    exact ((aFind_iff hB).2 ⟨h.mem_iff.1 this.1, this.2⟩).symm
theorem aSet_map : ∀ {A : List APg} {c : ByteArray} (y : APg), (A.map (·.cart)).Nodup → aSet A c y = A.map fun x => if c = x.cart then y else x
  | [], _, _, _ => rfl
  | x :: A, c, y, h => by
    simp only [List.map_cons, List.nodup_cons] at h
    simp only [aSet, List.map_cons]
    by_cases e : c = x.cart
    · subst e
      rw [if_pos rfl, if_pos rfl]
      congr 1
      have : ∀ z ∈ A, (if x.cart = z.cart then y else z) = z := fun z hz => if_neg (fun e => h.1 (by rw [e]; exact List.mem_map.2 ⟨z, hz, rfl⟩))
      rw [List.map_congr_left this, List.map_id']
    · rw [if_neg e, if_neg e, aSet_map y h.2]
theorem aDel_filter : ∀ {A : List APg} {c : ByteArray}, (A.map (·.cart)).Nodup → aDel A c = A.filter fun x => decide (c ≠ x.cart)
  | [], _, _ => rfl
  | x :: A, c, h => by
    simp only [List.map_cons, List.nodup_cons] at h
    simp only [aDel, List.filter_cons]
    by_cases e : c = x.cart
    · subst e
      rw [if_pos rfl]
      simp only [ne_eq, not_true, decide_false, Bool.false_eq_true, if_false]
      rw [List.filter_eq_self.2]
      intro z hz
      exact decide_eq_true (fun e => h.1 (by rw [e]; exact List.mem_map.2 ⟨z, hz, rfl⟩))
    · rw [if_neg e, aDel_filter h.2]
      simp [e]
theorem callE_perm {A B : List APg} (h : A.Perm B) (hA : (A.map (·.cart)).Nodup) (a : ActR) : callE A a = callE B a := by
  have hf := fun c => aFind_perm h hA c
  have hl := h.length_eq
  unfold callE openE closeE grantE passE allowsE allowsL
  have h1 : isNo A = isNo B := by funext n; unfold isNo; rw [hf]
  have h2 : lacks A a.by_ = lacks B a.by_ := by funext n; unfold lacks; rw [hf]
  rw [hf, hl, h1, h2]
theorem callA_perm {A B : List APg} (h : A.Perm B) (hA : (A.map (·.cart)).Nodup) (a : ActR) : (callA A a).Perm (callA B a) := by
  have hB : (B.map (·.cart)).Nodup := (h.map _).nodup_iff.1 hA
  have hf := fun c => aFind_perm h hA c
  have hs : ∀ c y, (aSet A c y).Perm (aSet B c y) := fun c y => by rw [aSet_map y hA, aSet_map y hB]; exact h.map _
  have e0 : openE A a.by_ a.cart = openE B a.by_ a.cart := by unfold openE; rw [hf, h.length_eq]
  have e1 : closeE A a.by_ a.cart = closeE B a.by_ a.cart := by unfold closeE; rw [hf]
  have e2 : grantE A a.by_ a.cart a.who a.right = grantE B a.by_ a.cart a.who a.right := by unfold grantE; rw [hf]
  have e3 : passE A a.by_ a.cart a.who = passE B a.by_ a.cart a.who := by unfold passE; rw [hf]
  unfold callA openA closeA grantA passA
  rw [e0, e1, e2, e3, hf]
  split
  · split
    · exact h.append_right _
    · exact h
  · split
    · split
      · rw [aDel_filter hA, aDel_filter hB]; exact h.filter _
      · exact h
    · split
      · split
        · split
          · exact h
          · exact hs _ _
        · exact h
      · split
        · split
          · split
            · exact h
            · exact hs _ _
          · exact h
        · exact h
theorem rightsA_perm {A B : List APg} (h : A.Perm B) (hA : (A.map (·.cart)).Nodup) (who c : ByteArray) : rightsA A who c = rightsA B who c := by
  unfold rightsA; rw [aFind_perm h hA]
theorem membersA_perm {A B : List APg} (h : A.Perm B) (hA : (A.map (·.cart)).Nodup) (c : ByteArray) : membersA A c = membersA B c := by
  unfold membersA; rw [aFind_perm h hA]
theorem ownA_perm {A B : List APg} (h : A.Perm B) (hA : (A.map (·.cart)).Nodup) (c : ByteArray) : ownA A c = ownA B c := by
  unfold ownA; rw [aFind_perm h hA]
theorem cartsA_perm {A B : List APg} (h : A.Perm B) (hA : (A.map (·.cart)).Nodup) (who : ByteArray) : cartsA A who = cartsA B who := by
  have hB : (B.map (·.cart)).Nodup := (h.map _).nodup_iff.1 hA
  refine risK_ext (cartsA_ris who hA) (cartsA_ris who hB) fun k => ?_
  rw [cartsA_mem, cartsA_mem, (h.map _).mem_iff, rightsA_perm h hA]
theorem Okay.perm {A B : List APg} (h : A.Perm B) (hA : Okay A) : Okay B :=
  ⟨fun x hx => hA.1 x (h.mem_iff.2 hx), by rw [← h.length_eq]; exact hA.2.1, fun x hx => hA.2.2 x (h.mem_iff.2 hx)⟩
end Go.Proofs.YtdeljhehcjknbaaDoor
namespace Go.Proofs.YtdeljhehcjknbaaDoor
open Go.RowKit Go.Maps Go.Sort Go.Lib

/-- A call of the model that is known to answer, beside a book that may hold its pages in another order. -/
theorem do_mid2 {base : Nat} {S : Nat → Prop} {w : World} {bB bM : Nat} {A A' B : List APg} {v : Value} {n : Int} (h : Mid base S w bB bM B A)
    (hd : ∀ G, ModelIs G w bM A → Okay B → Calls Tryd.prog 11 #[.pointer (some ⟨bM, 0, none⟩), v] w (DoPost G w bM A' n)) :
    Calls Tryd.prog 11 #[.pointer (some ⟨bM, 0, none⟩), v] w fun e w' => e = .returned (.int .i64 n) ∧ Mid base S w' bB bM B A' ∧ Stay base S w w' := by
  obtain ⟨GB, GM, e1, e2, e3, e4, e5, e6⟩ := h
  refine (hd GM e2 e1.okay).mono ?_
  rintro e w' ⟨rfl, hM, hK⟩
  have hs := hK.size
  have hbM := e2.1
  have hsh : ModelIs (fun k => (GM k ∨ w.heap.size ≤ k) ∧ k < w'.heap.size) w' bM A' := by
    obtain ⟨m0, ⟨v, m1, a, cap, m2, m3, m4⟩, m5⟩ := hM
    refine ⟨⟨m0, lt_of_heap m1⟩, ⟨v, m1, a, cap, m2, m3, fun hn => ?_⟩, m5⟩
    obtain ⟨g, p1, p2, p3, p4⟩ := m4 hn
    exact ⟨g, p1, ⟨⟨p2.1, p3⟩, p2.2⟩, p3, fun i hi => by
      obtain ⟨q1, q2, mv, q3, a2, c2, q4, q5, q6⟩ := p4 i hi
      exact ⟨q1, q2, mv, q3, a2, c2, q4, q5, fun hm => by
        obtain ⟨g2, r1, r2, r3, r4⟩ := q6 hm
        exact ⟨g2, r1, ⟨⟨r2.1, r3⟩, r2.2⟩, r3, r4⟩⟩⟩
  refine ⟨rfl, ⟨GB, fun k => (GM k ∨ w.heap.size ≤ k) ∧ k < w'.heap.size, e1.keep (fun k hk hk2 => hK.block k hk2 (fun h => ?_)) hs, hsh, fun k hk => ?_, fun k hk => ?_, fun k hk => ?_, by omega⟩, hK.below base e6 (fun k hk h => ?_), fun k hk => hK.block k (e5 k hk) (fun h => ?_)⟩
  · rcases h with rfl | h
    · exact (e3 _ hk).2.2.2 hbM
    · omega
  · obtain ⟨a1, a2, a3, a4⟩ := e3 k hk
    exact ⟨a1, by omega, a3, fun h => by rcases h.1 with h | h; exact a4 h; omega⟩
  · obtain ⟨h | h, h2⟩ := hk
    · obtain ⟨a1, a2, a3⟩ := e4 k h
      exact ⟨a1, h2, a3⟩
    · exact ⟨by omega, h2, fun h3 => by have := e5 k h3; omega⟩
  · have := e5 k hk; omega
  · rcases h with rfl | h
    · have := (e4 _ hbM).1; omega
    · omega
  · rcases h with rfl | h
    · exact (e4 _ hbM).2.2 hk
    · have := e5 k hk; omega
theorem Mid.nodup {base : Nat} {S : Nat → Prop} {w : World} {bB bM : Nat} {A A2 : List APg} (h : Mid base S w bB bM A A2) : (A.map (·.cart)).Nodup := by
  obtain ⟨GB, GM, e1, _⟩ := h
  exact e1.carts.1
/-- A call of the book, and then of the model. -/
theorem do_perm {base : Nat} {S : Nat → Prop} {w : World} {bB bM : Nat} {A B : List APg} {a : ActR} (ha : a.fits) (h0 : 0 ≤ a.what) (h4 : a.what ≤ 4) (hR : RowsLie w) (hp : B.Perm A) (hn : (B.map (·.cart)).Nodup) (h : Mid base S w bB bM (callA B a) A) :
    Calls Tryd.prog 11 #[.pointer (some ⟨bM, 0, none⟩), a.val] w fun e w' => e = .returned (.int .i64 (callE B a)) ∧ Mid base S w' bB bM (callA B a) (callA A a) ∧ Stay base S w w' := by
  rw [callE_perm hp hn]
  exact do_mid2 h fun _ hM hO => do_any ha h0 h4 hR hM (hO.perm (callA_perm hp hn a))
end Go.Proofs.YtdeljhehcjknbaaDoor
