/- The plain law of ShareHolds: what one call does to a book, for every call and every book that keeps the book's rules; no program in sight. -/
import Derived.Test.YtdeljhehcjknbaaDoorS15
namespace Go.Proofs.YtdeljhehcjknbaaDoor
open Go.RowKit Go.Maps Go.Sort

/-- What a book takes up lies in the heap. -/
theorem Own.sharp {G : Nat → Prop} {w : World} {b : Nat} {A : List APg} (h : Own G w b A) : Own (fun k => G k ∧ k < w.heap.size) w b A := by
  obtain ⟨F, h1, h2⟩ := h
  obtain ⟨mr, L, e1, e2, e3, e4⟩ := h1
  exact ⟨F, ⟨mr, L, e1, e2, e3, e4⟩, fun k hk => ⟨h2 k hk, e4 k hk⟩⟩
theorem Own.mono {G G' : Nat → Prop} {w : World} {b : Nat} {A : List APg} (h : Own G w b A) (hG : ∀ k, G k → G' k) : Own G' w b A := by
  obtain ⟨F, h1, h2⟩ := h
  exact ⟨F, h1, fun k hk => hG k (h2 k hk)⟩
/-- The book at w, seen at a later world: a G that leaves all that was laid in between. -/
theorem Own.gap {base p : Nat} {w wc : World} {b : Nat} {A : List APg} (h : Own (fun k => base ≤ k) w b A) (hp : p = w.heap.size) (hb : Below p w wc) : Own (fun k => (base ≤ k ∧ k < p) ∨ wc.heap.size ≤ k) wc b A := by
  subst hp
  exact (h.sharp.mono (fun k hk => Or.inl hk)).below hb
theorem keep_gap {base p : Nat} {w w' : World} (h : Keep (fun k => (base ≤ k ∧ k < p) ∨ w.heap.size ≤ k) w w') (k : Nat) (h1 : p ≤ k) (h2 : k < w.heap.size) : w'.heap[k]? = w.heap[k]? :=
  h.block k h2 (by omega)

/-- The same, in a block that was laid at lo or later. -/
def RdL (lo : Nat) (w : World) (v : Value) (sz n : Nat) (xs : List Value) : Prop :=
  ∃ a cap, v = .slice a n cap ∧ xs.length = n * sz ∧ n ≤ maxLen ∧ (n ≠ 0 → ∃ g, a = some ⟨g, 0, none⟩ ∧ lo ≤ g ∧ g < w.heap.size ∧ ∀ j u, xs[j]? = some u → w.cell? ⟨g, j, none⟩ = some u)
theorem RdL.of_own {w : World} {base : Nat} {T : TypeId} {v : Value} {sz n : Nat} {xs : List Value} (h : w.ownsRow base T sz v n xs) (hn : n ≤ maxLen) : RdL base w v sz n xs := by
  obtain ⟨hl, ⟨rfl, rfl⟩ | ⟨g, cap, cur, rfl, hg, hb, h1, h2, h3, h4⟩⟩ := h
  · exact ⟨none, 0, rfl, hl, hn, fun h => absurd rfl h⟩
  · refine ⟨_, cap, rfl, hl, hn, fun _ => ⟨g, rfl, hg, lt_of_heap hb, fun j u hj => ?_⟩⟩
    rw [cell0 hb]
    rw [← h4, List.getElem?_take] at hj
    split at hj
    · simpa using hj
    · cases hj
theorem RdL.across {lo : Nat} {w w' : World} {v : Value} {sz n : Nat} {xs : List Value} (h : RdL lo w v sz n xs) (hk : ∀ k, lo ≤ k → k < w.heap.size → w'.heap[k]? = w.heap[k]?) (hs : w.heap.size ≤ w'.heap.size) : Rd w' v sz n xs := by
  obtain ⟨a, cap, h1, h2, h3, h4⟩ := h
  refine ⟨a, cap, h1, h2, h3, fun hn => ?_⟩
  obtain ⟨g, e1, e2, e3, e4⟩ := h4 hn
  exact ⟨g, e1, Nat.lt_of_lt_of_le e3 hs, fun j u h => by
    have := e4 j u h
    unfold World.cell? at this ⊢
    rw [hk g e2 e3]; exact this⟩

/-- What holds of every book: owners and members are keys, rights are 1..15, no member twice. -/
def Inv (A : List APg) : Prop := ∀ x ∈ A, keyB x.owner = true ∧ (∀ m ∈ x.mem, 1 ≤ m.2 ∧ m.2 ≤ 15) ∧ (x.mem.map (·.1)).Nodup
theorem Own.inv {G : Nat → Prop} {w : World} {b : Nat} {A : List APg} (h : Own G w b A) : Inv A := by
  obtain ⟨F, ⟨mr, L, hB, rfl, _⟩, _⟩ := h
  intro x hx
  obtain ⟨y, hy, rfl⟩ := List.mem_map.1 hx
  have h1 := hB.wf y hy
  have h2 := (hB.hp y hy).2.nodup
  refine ⟨h1.2.1, fun m hm => (h1.2.2.2 m hm).2, ?_⟩
  have : (memV y.mem).map (·.1) = y.mem.map (·.1) := by simp [memV, List.map_map, Function.comp_def]
  rw [this] at h2
  exact h2

theorem aFind_in {A : List APg} {c : ByteArray} {x : APg} (h : aFind A c = some x) : x ∈ A ∧ x.cart = c := by
  induction A with
  | nil => cases h
  | cons y A ih =>
    simp only [aFind] at h
    split at h
    · cases h; rename_i e; exact ⟨.head _, e.symm⟩
    · exact ⟨.tail _ (ih h).1, (ih h).2⟩
theorem aFind_aSet {c d : ByteArray} {y : APg} (hy : y.cart = c) : ∀ {A : List APg}, aFind (aSet A c y) d = if d = c then (aFind A c).map (fun _ => y) else aFind A d
  | [] => by simp [aSet, aFind]
  | x :: A => by
    simp only [aSet, aFind]
    by_cases h : c = x.cart
    · subst h
      simp only [if_pos, aFind, hy]
      by_cases hd : d = x.cart <;> simp [hd]
    · have ih := aFind_aSet (d := d) hy (A := A)
      simp only [if_neg h, aFind, ih]
      by_cases hd : d = c
      · subst hd; simp [h]
      · simp [hd]
theorem aFind_aDel {c d : ByteArray} (hd : d ≠ c) : ∀ {A : List APg}, aFind (aDel A c) d = aFind A d
  | [] => rfl
  | x :: A => by
    simp only [aDel, aFind]
    by_cases h : c = x.cart
    · rw [if_pos h, if_neg (by rw [← h]; exact hd)]
    · rw [if_neg h]
      simp only [aFind, aFind_aDel hd (A := A)]
theorem aFind_apart {d : ByteArray} {y : APg} (hd : d ≠ y.cart) : ∀ {A : List APg}, aFind (A ++ [y]) d = aFind A d
  | [] => by simp [aFind, hd]
  | x :: A => by simp only [List.cons_append, aFind, aFind_apart hd (A := A)]
theorem lk_putA {m : List (ByteArray × Int)} {k : ByteArray} {v : Int} : lkA (putA m k v) k = some v := by
  induction m with
  | nil => simp [putA, lkA]
  | cons p m ih =>
    obtain ⟨a, u⟩ := p
    simp only [putA]
    by_cases h : k = a
    · simp [h, lkA]
    · simp [h, lkA, ih]
theorem lk_delA {m : List (ByteArray × Int)} {k : ByteArray} (h : (m.map (·.1)).Nodup) : lkA (delA m k) k = none := by
  induction m with
  | nil => rfl
  | cons p m ih =>
    obtain ⟨a, u⟩ := p
    simp only [List.map_cons, List.nodup_cons] at h
    simp only [delA]
    by_cases e : k = a
    · subst e
      simp only [if_pos]
      have : ∀ (m : List (ByteArray × Int)), k ∉ m.map (·.1) → lkA m k = none := by
        intro m
        induction m with
        | nil => intro _; rfl
        | cons q m ih2 =>
          obtain ⟨b, v⟩ := q
          intro hn
          simp only [List.map_cons, List.mem_cons, not_or] at hn
          simp [lkA, hn.1, ih2 hn.2]
      exact this m h.1
    · simp only [if_neg e, lkA]
      exact ih h.2
theorem lk_rng {m : List (ByteArray × Int)} (h : ∀ p ∈ m, 1 ≤ p.2 ∧ p.2 ≤ 15) (k : ByteArray) : 0 ≤ (lkA m k).getD 0 ∧ (lkA m k).getD 0 ≤ 15 := by
  cases e : lkA m k with
  | none => simp
  | some v =>
    have hm : ∀ {m : List (ByteArray × Int)}, lkA m k = some v → (k, v) ∈ m := by
      intro m
      induction m with
      | nil => intro h; cases h
      | cons q m ih2 =>
        obtain ⟨b, u⟩ := q
        intro hh
        simp only [lkA] at hh
        split at hh
        · cases hh; rename_i e; subst e; exact .head _
        · exact .tail _ (ih2 hh)
    have := h _ (hm e)
    simp at this ⊢; omega

def ownA (A : List APg) (c : ByteArray) : ByteArray := (aFind A c).elim ⟨#[]⟩ APg.owner

/-- (1) another cart's page stays, and so does every page where the call is denied. -/
theorem holds_same (A : List APg) (a : ActR) (cart : ByteArray) (h : callE A a ≠ 0 ∨ a.cart ≠ cart ∨ a.what = 4) : aFind (callA A a) cart = aFind A cart := by
  unfold callA
  unfold callE at h
  by_cases w0 : a.what = 0
  · simp only [w0, if_pos] at h ⊢
    unfold openA
    split
    · rename_i e
      rcases h with h | h | h
      · exact absurd e h
      · exact aFind_apart (fun e => h e.symm)
      · omega
    · rfl
  · by_cases w1 : a.what = 1
    · simp only [w1] at h ⊢
      simp only [show ¬ ((1 : Int) = 0) by decide, if_false, if_true] at h ⊢
      unfold closeA
      split
      · rename_i e
        rcases h with h | h | h
        · exact absurd e h
        · exact aFind_aDel (fun e => h e.symm)
        · omega
      · rfl
    · by_cases w2 : a.what = 2
      · simp only [w2] at h ⊢
        simp only [show ¬ ((2 : Int) = 0) by decide, show ¬ ((2 : Int) = 1) by decide, if_false, if_true] at h ⊢
        unfold grantA
        split
        · rename_i e
          rcases h with h | h | h
          · exact absurd e h
          · split
            · rfl
            · rename_i x hx
              rw [aFind_aSet (by exact (aFind_in hx).2), if_neg (fun e => h e.symm)]
          · omega
        · rfl
      · by_cases w3 : a.what = 3
        · simp only [w3] at h ⊢
          simp only [show ¬ ((3 : Int) = 0) by decide, show ¬ ((3 : Int) = 1) by decide, show ¬ ((3 : Int) = 2) by decide, if_false, if_true] at h ⊢
          unfold passA
          split
          · rename_i e
            rcases h with h | h | h
            · exact absurd e.1 h
            · split
              · rfl
              · rename_i x hx
                rw [aFind_aSet (by exact (aFind_in hx).2), if_neg (fun e => h e.symm)]
            · omega
          · rfl
        · rw [if_neg w0, if_neg w1, if_neg w2, if_neg w3]

/-- (3) who owns nothing has no members: a page's owner has letters. -/
theorem key_ne {s : ByteArray} (h : keyB s = true) : s ≠ ⟨#[]⟩ := by
  rintro rfl
  revert h; decide +kernel
theorem holds_none {A : List APg} (hA : Inv A) {cart : ByteArray} (h : ownA A cart = ⟨#[]⟩) : aFind A cart = none := by
  cases e : aFind A cart with
  | none => rfl
  | some x =>
    unfold ownA at h
    rw [e] at h
    exact absurd h (key_ne (hA x (aFind_in e).1).1)

/-- (2) only the owner's own Close takes a page away. -/
theorem holds_gone {A : List APg} (a : ActR) {cart : ByteArray} (hA' : Inv (callA A a)) (h : ownA A cart ≠ ⟨#[]⟩) (hn : ownA (callA A a) cart = ⟨#[]⟩) : a.what = 1 ∧ a.by_ = ownA A cart := by
  have hn' := holds_none hA' hn
  have hne : aFind (callA A a) cart ≠ aFind A cart := by
    intro e
    apply h
    unfold ownA
    rw [← e, hn']; rfl
  have hc : a.cart = cart ∧ callE A a = 0 := by
    constructor
    · apply Classical.byContradiction; intro hh; exact hne (holds_same A a cart (Or.inr (Or.inl hh)))
    · apply Classical.byContradiction; intro hh; exact hne (holds_same A a cart (Or.inl hh))
  obtain ⟨rfl, hE⟩ := hc
  cases hx : aFind A a.cart with
  | none => exact absurd (by unfold ownA; rw [hx]; rfl) h
  | some x =>
    unfold callA at hn'
    unfold callE at hE
    by_cases w0 : a.what = 0
    · simp only [w0, if_pos, openE, hx] at hE
      split at hE <;> simp at hE
    · by_cases w1 : a.what = 1
      · refine ⟨w1, ?_⟩
        simp only [w1] at hE
        simp only [show ¬ ((1 : Int) = 0) by decide, if_false, if_true, closeE, hx] at hE
        split at hE
        · split at hE
          · rename_i e; unfold ownA; rw [hx]; exact e.symm
          · simp at hE
        · simp at hE
      · exfalso
        by_cases w2 : a.what = 2
        · simp only [w2] at hn'
          simp only [show ¬ ((2 : Int) = 0) by decide, show ¬ ((2 : Int) = 1) by decide, if_false, if_true, grantA, hx] at hn'
          split at hn'
          · rw [aFind_aSet (by exact (aFind_in hx).2), if_pos rfl, hx] at hn'; simp at hn'
          · rw [hx] at hn'; simp at hn'
        · by_cases w3 : a.what = 3
          · simp only [w3] at hn'
            simp only [show ¬ ((3 : Int) = 0) by decide, show ¬ ((3 : Int) = 1) by decide, show ¬ ((3 : Int) = 2) by decide, if_false, if_true, passA, hx] at hn'
            split at hn'
            · rw [aFind_aSet (by exact (aFind_in hx).2), if_pos rfl, hx] at hn'; simp at hn'
            · rw [hx] at hn'; simp at hn'
          · rw [if_neg w0, if_neg w1, if_neg w2, if_neg w3, hx] at hn'; simp at hn'

theorem bits3 : ∀ r o b : Fin 16, (bits .and .i64 b 8 == 0) = false → (bits .andNot .i64 (bits .xor .i64 r o) b != 0) = false → bits .and .i64 (bits .xor .i64 r o) b = bits .xor .i64 r o ∧ 8 ≤ (b : Int) := by decide +kernel
theorem bits3' {r o b : Int} (hr : 0 ≤ r ∧ r ≤ 15) (ho : 0 ≤ o ∧ o ≤ 15) (hb : 0 ≤ b ∧ b ≤ 15) (h1 : (bits .and .i64 b 8 == 0) = false) (h2 : (bits .andNot .i64 (bits .xor .i64 r o) b != 0) = false) : bits .and .i64 (bits .xor .i64 r o) b = bits .xor .i64 r o ∧ 8 ≤ b := by
  obtain ⟨r, rfl⟩ := Int.eq_ofNat_of_zero_le hr.1
  obtain ⟨o, rfl⟩ := Int.eq_ofNat_of_zero_le ho.1
  obtain ⟨b, rfl⟩ := Int.eq_ofNat_of_zero_le hb.1
  exact bits3 ⟨r, by omega⟩ ⟨o, by omega⟩ ⟨b, by omega⟩ h1 h2

theorem rights_rng {A : List APg} (hA : Inv A) {x : APg} (hx : x ∈ A) (who : ByteArray) : 0 ≤ x.rights who ∧ x.rights who ≤ 15 := by
  unfold APg.rights
  split
  · omega
  · exact lk_rng (hA x hx).2.1 who

/-- (4) a right that is granted is one that the granter has. -/
theorem holds_grant {A : List APg} (hA : Inv A) (a : ActR) (hw : a.what = 2) (hE : callE A a = 0) :
    rightsA (callA A a) a.who a.cart = a.right ∧ bits .and .i64 (bits .xor .i64 a.right (rightsA A a.who a.cart)) (rightsA A a.by_ a.cart) = bits .xor .i64 a.right (rightsA A a.who a.cart) ∧ 8 ≤ rightsA A a.by_ a.cart := by
  have hE0 := hE
  unfold callE at hE
  unfold callA
  simp only [hw, show ¬ ((2 : Int) = 0) by decide, show ¬ ((2 : Int) = 1) by decide, if_false, if_true] at hE ⊢
  have hE1 := hE
  unfold grantE at hE
  unfold grantA
  rw [if_pos hE1]
  split at hE
  · simp at hE
  · rename_i hr
    split at hE
    · cases hx : aFind A a.cart with
      | none => rw [hx] at hE; simp at hE
      | some x =>
        rw [hx] at hE
        simp only at hE ⊢
        split at hE
        · simp at hE
        · rename_i hd
          have hxA := (aFind_in hx).1
          unfold denied at hd
          simp only [Bool.or_eq_true, not_or, decide_eq_true_eq, Bool.not_eq_true] at hd
          obtain ⟨⟨⟨d1, d2⟩, d3⟩, d4⟩ := hd
          have hold : rightsA A a.who a.cart = (lkA x.mem a.who).getD 0 := by
            unfold rightsA; rw [hx]; simp only [APg.rights]; rw [if_neg d2]
          have hby : rightsA A a.by_ a.cart = x.rights a.by_ := by unfold rightsA; rw [hx]
          refine ⟨?_, ?_⟩
          · unfold rightsA
            rw [aFind_aSet (by exact (aFind_in hx).2), if_pos rfl, hx]
            simp only [Option.map_some, APg.rights]
            rw [if_neg d2]
            by_cases h0 : a.right = 0
            · rw [if_pos h0, lk_delA (hA x hxA).2.2, h0]; rfl
            · rw [if_neg h0, lk_putA]; rfl
          · rw [hold, hby]
            exact bits3' (by omega) (lk_rng (hA x hxA).2.1 _) (rights_rng hA hxA _) d1 d4
    · simp at hE

/-- (5) only the owner hands a cart on, and keeps all rights. -/
theorem holds_pass {A : List APg} (a : ActR) (hw : a.what = 3) (hE : callE A a = 0) :
    rightsA A a.by_ a.cart = 15 ∧ ownA (callA A a) a.cart = a.who ∧ rightsA (callA A a) a.by_ a.cart = 15 := by
  unfold callE at hE
  unfold callA
  simp only [hw, show ¬ ((3 : Int) = 0) by decide, show ¬ ((3 : Int) = 1) by decide, show ¬ ((3 : Int) = 2) by decide, if_false, if_true] at hE ⊢
  have hE1 := hE
  unfold passE at hE
  unfold passA
  split at hE
  · cases hx : aFind A a.cart with
    | none => rw [hx] at hE; simp at hE
    | some x =>
      rw [hx] at hE
      simp only at hE
      split at hE
      · rename_i ho
        have hby : rightsA A a.by_ a.cart = 15 := by unfold rightsA; rw [hx]; simp only [APg.rights]; rw [if_pos ho.symm]
        refine ⟨hby, ?_⟩
        by_cases e : a.by_ = a.who
        · rw [if_neg (by rintro ⟨_, h⟩; exact h e)]
          refine ⟨?_, hby⟩
          unfold ownA; rw [hx]; exact ho.trans e
        · rw [if_pos ⟨hE1, e⟩]
          simp only
          refine ⟨?_, ?_⟩
          · unfold ownA; rw [aFind_aSet (by exact (aFind_in hx).2), if_pos rfl, hx]; rfl
          · unfold rightsA; rw [aFind_aSet (by exact (aFind_in hx).2), if_pos rfl, hx]
            simp only [Option.map_some, APg.rights]
            rw [if_neg e, lk_putA]; rfl
      · simp at hE
  · simp at hE
end Go.Proofs.YtdeljhehcjknbaaDoor
