/- A book and a model side by side: each leaves the other as it is; the model's Open and Grant answer as the book's. -/
import Derived.Test.YtdeljhehcjknbaaDoorS36
import Derived.Test.YtdeljhehcjknbaaDoorS37
namespace Go.Proofs.YtdeljhehcjknbaaDoor
open Go.RowKit Go.Maps Go.Sort Go.Lib

theorem Own.okay {G : Nat → Prop} {w : World} {b : Nat} {A : List APg} (h : Own G w b A) : Okay A := by
  refine ⟨h.inv, ?_, ?_⟩
  · obtain ⟨F, ⟨mr, L, hB, rfl, _⟩, _⟩ := h
    have := hB.len
    simp; omega
  · obtain ⟨F, ⟨mr, L, hB, rfl, _⟩, _⟩ := h
    intro x hx
    obtain ⟨y, hy, rfl⟩ := List.mem_map.1 hx
    exact (hB.wf y hy).2.2.1
theorem Own.keep {G : Nat → Prop} {w w' : World} {b : Nat} {A : List APg} (h : Own G w b A) (hk : ∀ k, G k → k < w.heap.size → w'.heap[k]? = w.heap[k]?) (hs : w.heap.size ≤ w'.heap.size) : Own G w' b A := by
  obtain ⟨F, ⟨mr, L, hB, hA, hF, hFs⟩, hG⟩ := h
  exact ⟨F, ⟨mr, L, hB.of_blocks (fun k hk2 => hk k (hG k (hF k hk2)) (hFs k (hF k hk2))), hA, hF, fun k hk2 => Nat.lt_of_lt_of_le (hFs k hk2) hs⟩, hG⟩

/-- The book at bB holds A, the model at bM holds A2; both lie in new memory, apart from each other and from S. -/
def Mid (base : Nat) (S : Nat → Prop) (w : World) (bB bM : Nat) (A A2 : List APg) : Prop :=
  ∃ GB GM : Nat → Prop, Own GB w bB A ∧ ModelIs GM w bM A2 ∧ (∀ k, GB k → base ≤ k ∧ k < w.heap.size ∧ ¬ S k ∧ ¬ GM k) ∧ (∀ k, GM k → base ≤ k ∧ k < w.heap.size ∧ ¬ S k) ∧ (∀ k, S k → k < w.heap.size) ∧ base ≤ w.heap.size
theorem Mid.below {base : Nat} {S S' : Nat → Prop} {w w' : World} {bB bM : Nat} {A A2 : List APg} (h : Mid base S w bB bM A A2) (hb : Below w.heap.size w w') (h1 : ∀ k, S' k → S k ∨ w.heap.size ≤ k) (h2 : ∀ k, S' k → k < w'.heap.size) : Mid base S' w' bB bM A A2 := by
  obtain ⟨GB, GM, e1, e2, e3, e4, e5, e6⟩ := h
  have hs := hb.size
  refine ⟨GB, GM, e1.below hb, e2.below hb, fun k hk => ?_, fun k hk => ?_, h2, by omega⟩
  · obtain ⟨a1, a2, a3, a4⟩ := e3 k hk
    exact ⟨a1, by omega, fun h => by rcases h1 k h with h | h; exact a3 h; omega, a4⟩
  · obtain ⟨a1, a2, a3⟩ := e4 k hk
    exact ⟨a1, by omega, fun h => by rcases h1 k h with h | h; exact a3 h; omega⟩
/-- What a call on one of both leaves. -/
def Stay (base : Nat) (S : Nat → Prop) (w w' : World) : Prop := Below base w w' ∧ ∀ k, S k → w'.heap[k]? = w.heap[k]?
theorem calls_mid {base : Nat} {S : Nat → Prop} {w : World} {bB bM : Nat} {A A2 : List APg} {a : ActR} (h : Mid base S w bB bM A A2) (ha : a.fits) (hR : RowsLie w) :
    Calls Tryd.prog 10 #[.pointer (some ⟨bB, 0, none⟩), a.val] w fun e w' => e = .returned (.int .i64 (callE A a)) ∧ Mid base S w' bB bM (callA A a) A2 ∧ Stay base S w w' := by
  obtain ⟨GB, GM, e1, e2, e3, e4, e5, e6⟩ := h
  refine (calls_o (G := fun k => GB k ∨ w.heap.size ≤ k) (e1.mono (fun k h => Or.inl h)) (fun k h => Or.inr h) ha hR).mono ?_
  rintro e w' ⟨rfl, hO, hK⟩
  have hs := hK.size
  refine ⟨rfl, ⟨fun k => (GB k ∨ w.heap.size ≤ k) ∧ k < w'.heap.size, GM, hO.sharp, e2.of (fun _ h => h) (fun k hk hk2 => hK.block k hk2 (fun h => ?_)) hs, fun k hk => ?_, fun k hk => ?_, fun k hk => ?_, by omega⟩, hK.below base e6 (fun k hk h => ?_), fun k hk => hK.block k (e5 k hk) (fun h => ?_)⟩
  · rcases h with h | h
    · exact (e3 k h).2.2.2 hk
    · omega
  · obtain ⟨h | h, h2⟩ := hk
    · obtain ⟨a1, a2, a3, a4⟩ := e3 k h
      exact ⟨a1, h2, a3, a4⟩
    · exact ⟨by omega, h2, fun h3 => by have := e5 k h3; omega, fun h3 => by have := (e4 k h3).2.1; omega⟩
  · obtain ⟨a1, a2, a3⟩ := e4 k hk
    exact ⟨a1, by omega, a3⟩
  · have := e5 k hk; omega
  · rcases h with h | h
    · have := (e3 k h).1; omega
    · omega
  · rcases h with h | h
    · exact (e3 k h).2.2.1 hk
    · have := e5 k hk; omega
/-- A call of the model that is known to answer, beside the book. -/
theorem do_mid {base : Nat} {S : Nat → Prop} {w : World} {bB bM : Nat} {A A' : List APg} {v : Value} {n : Int} (h : Mid base S w bB bM A' A)
    (hd : ∀ G, ModelIs G w bM A → Okay A' → Calls Tryd.prog 11 #[.pointer (some ⟨bM, 0, none⟩), v] w (DoPost G w bM A' n)) :
    Calls Tryd.prog 11 #[.pointer (some ⟨bM, 0, none⟩), v] w fun e w' => e = .returned (.int .i64 n) ∧ Mid base S w' bB bM A' A' ∧ Stay base S w w' := by
  obtain ⟨GB, GM, e1, e2, e3, e4, e5, e6⟩ := h
  refine (hd GM e2 e1.okay).mono ?_
  rintro e w' ⟨rfl, hM, hK⟩
  have hs := hK.size
  have hbM := e2.1
  have hsh : ModelIs (fun k => (GM k ∨ w.heap.size ≤ k) ∧ k < w'.heap.size) w' bM A' := by
    obtain ⟨m0, ⟨v, m1, a, cap, m2, m3, m4⟩, m5⟩ := hM
    refine ⟨⟨m0, lt_of_heap m1⟩, ⟨v, m1, a, cap, m2, m3, fun hn => ?_⟩, m5⟩
    obtain ⟨g, p1, p2, p3, p4⟩ := m4 hn
    exact ⟨g, p1, ⟨⟨p2.1, p3⟩, p2.2⟩, p3, fun i hi => by
      obtain ⟨q1, q2, mv, q3, a2, c2, q4, q5, q6⟩ := p4 i hi
      exact ⟨q1, q2, mv, q3, a2, c2, q4, q5, fun hm => by
        obtain ⟨g2, r1, r2, r3, r4⟩ := q6 hm
        exact ⟨g2, r1, ⟨⟨r2.1, r3⟩, r2.2⟩, r3, r4⟩⟩⟩
  refine ⟨rfl, ⟨GB, fun k => (GM k ∨ w.heap.size ≤ k) ∧ k < w'.heap.size, e1.keep (fun k hk hk2 => hK.block k hk2 (fun h => ?_)) hs, hsh, fun k hk => ?_, fun k hk => ?_, fun k hk => ?_, by omega⟩, hK.below base e6 (fun k hk h => ?_), fun k hk => hK.block k (e5 k hk) (fun h => ?_)⟩
  · rcases h with rfl | h
    · exact (e3 _ hk).2.2.2 hbM
    · omega
  · obtain ⟨a1, a2, a3, a4⟩ := e3 k hk
    exact ⟨a1, by omega, a3, fun h => by rcases h.1 with h | h; exact a4 h; omega⟩
  · obtain ⟨h | h, h2⟩ := hk
    · obtain ⟨a1, a2, a3⟩ := e4 k h
      exact ⟨a1, h2, a3⟩
    · exact ⟨by omega, h2, fun h3 => by have := e5 k h3; omega⟩
  · have := e5 k hk; omega
  · rcases h with rfl | h
    · have := (e4 _ hbM).1; omega
    · omega
  · rcases h with rfl | h
    · exact (e4 _ hbM).2.2 hk
    · have := e5 k hk; omega
/-- Open and Grant of the model. -/
theorem do_02 {G : Nat → Prop} {w : World} {b : Nat} {A : List APg} {a : ActR} (ha : a.fits) (hw : a.what = 0 ∨ a.what = 2) (hM : ModelIs G w b A) (hO : Okay (callA A a)) :
    Calls Tryd.prog 11 #[.pointer (some ⟨b, 0, none⟩), a.val] w (DoPost G w b (callA A a) (callE A a)) := by
  obtain ⟨what, by_, crt, who, right, op, key, other, item, qty, da, dl, dc⟩ := a
  simp only at hw
  rcases hw with rfl | rfl
  · exact do_open by_ crt who right op key other item qty da dl dc hM hO ha.by_ ha.cart
  · exact do_grant by_ crt who right op key other item qty da dl dc hM hO ha.by_ ha.cart ha.who
theorem Mid.new {w : World} {S : Nat → Prop} {base : Nat} (hS : ∀ k, S k → k < w.heap.size) (hb : base ≤ w.heap.size) :
    Mid base S ((w.alloc (.cells #[.map none] 34)).alloc (.cells #[.slice none 0 0] 38)) w.heap.size (w.heap.size + 1) [] [] := by
  refine ⟨fun k => k = w.heap.size, fun k => k = w.heap.size + 1, ?_, ⟨rfl, ⟨.slice none 0 0, ?_, none, 0, rfl, ⟨fun _ => ⟨rfl, rfl⟩, Nat.le_refl _⟩, fun h => absurd rfl h⟩, ?_, by simp, by simp⟩, fun k hk => ?_, fun k hk => ?_, fun k hk => ?_, by simp; omega⟩
  · have h := ((Own.new w (fun k => w.heap.size ≤ k) (fun k h => h)).sharp).below ((Below.refl _ _).alloc (Nat.le_refl _) (.cells #[.slice none 0 0] 38))
    exact h.mono (fun k hk => by simp at hk; omega)
  · have := alloc_new (w.alloc (.cells #[.map none] 34)) (.cells #[.slice none 0 0] 38)
    rw [alloc_size] at this
    exact this
  · intro x hx; cases hx
  · subst hk; exact ⟨hb, by simp; omega, fun h => by have := hS _ h; omega, by omega⟩
  · subst hk; exact ⟨by omega, by simp, fun h => by have := hS _ h; omega⟩
  · have := hS k hk; simp; omega
end Go.Proofs.YtdeljhehcjknbaaDoor
