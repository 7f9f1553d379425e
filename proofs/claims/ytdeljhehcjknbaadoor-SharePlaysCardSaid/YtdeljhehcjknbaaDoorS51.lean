/- Plain laws for the loop of `alike` over somebody's carts. -/
import Derived.Test.YtdeljhehcjknbaaDoorS48
namespace Go.Proofs.YtdeljhehcjknbaaDoor
open Go.RowKit Go.Maps Go.Sort Go.Lib

theorem MemAt.rd {G : Nat → Prop} {w : World} {v : Value} {m : List (ByteArray × Int)} (h : MemAt G w v m) (hm : m.length ≤ 50) : Rd w v 2 (memS m).length (flatM (memS m)) := by
  obtain ⟨a, cap, rfl, h2, h3⟩ := h
  refine ⟨a, cap, by rw [memS_len], flatM_len _, by rw [memS_len]; unfold maxLen; omega, fun hn => ?_⟩
  obtain ⟨g, rfl, _, hg, hc⟩ := h3 (fun e => hn (by rw [memS_len, e]; rfl))
  exact ⟨g, rfl, hg, hc⟩

/-- The book at bB and the model at bM look like A, in w and wherever memory has grown since. -/
structure Looks (w : World) (bB bM : Nat) (A : List APg) : Prop where
  owner : ∀ wx, Below w.heap.size w wx → ∀ c, Calls Tryd.prog 19 #[.pointer (some ⟨bB, 0, none⟩), .string c] wx fun e w' => e = .returned (.string (ownA A c)) ∧ w' = wx
  rights : ∀ wx, Below w.heap.size w wx → ∀ u c, Calls Tryd.prog 20 #[.pointer (some ⟨bB, 0, none⟩), .string u, .string c] wx fun e w' => e = .returned (.int .i64 (rightsA A u c)) ∧ w' = wx
  members : ∀ wx, Below w.heap.size w wx → ∀ c, Calls Tryd.prog 18 #[.pointer (some ⟨bB, 0, none⟩), .string c] wx (MembersPost (membersA A c) wx)
  carts : ∀ wx, Below w.heap.size w wx → ∀ u, Calls Tryd.prog 15 #[.pointer (some ⟨bB, 0, none⟩), .string u] wx (StrsPost (cartsA A u) wx)
  rightsM : ∀ wx, Below w.heap.size w wx → ∀ u c, Calls Tryd.prog 28 #[.pointer (some ⟨bM, 0, none⟩), .string u, .string c] wx fun e w' => e = .returned (.int .i64 (rightsA A u c)) ∧ Below wx.heap.size wx w'
  ml : ∀ c, (membersA A c).length ≤ 50
  cl : ∀ u, (cartsA A u).length ≤ 500
  ris : ∀ u, RisK (cartsA A u)
  nodup : (A.map (·.cart)).Nodup
  keys : ∀ x ∈ A, keyB x.cart = true
  len : A.length ≤ 500
  pages : ∃ a cap, w.cell? ⟨bM, 0, none⟩ = some (.slice a A.length cap) ∧ bM < w.heap.size ∧ (A ≠ [] → ∃ g, a = some ⟨g, 0, none⟩ ∧ g < w.heap.size ∧ ∀ i (hi : i < A.length), ∃ mv, w.cell? ⟨g, i * 3, none⟩ = some (.string A[i].cart) ∧ w.cell? ⟨g, i * 3 + 1, none⟩ = some (.string A[i].owner) ∧ w.cell? ⟨g, i * 3 + 2, none⟩ = some mv ∧ Rd w mv 2 (membersA A A[i].cart).length (flatM (membersA A A[i].cart)) ∧ ownA A A[i].cart = A[i].owner)

theorem cartsA_le (A : List APg) (u : ByteArray) : (cartsA A u).length ≤ A.length := by
  unfold cartsA cartsL
  rw [List.length_map]
  refine Nat.le_trans (List.length_filter_le _ _) ?_
  unfold sortC
  rw [(List.mergeSort_perm _ _).length_eq, List.length_map]
  exact Nat.le_refl _

theorem Mid.looks {base : Nat} {S : Nat → Prop} {w : World} {bB bM : Nat} {A B : List APg} (h : Mid base S w bB bM B A) (hp : B.Perm A) : Looks w bB bM A := by
  have hn := h.nodup
  have hnA : (A.map (·.cart)).Nodup := (hp.map _).nodup_iff.1 hn
  obtain ⟨GB, GM, e1, e2, -, -, -, -⟩ := h
  refine ⟨fun wx hx c => ?_, fun wx hx u c => ?_, fun wx hx c => ?_, fun wx hx u => ?_, fun wx hx u c => rights_m u c (e2.below hx), fun c => ?_, fun u => ?_, fun u => cartsA_ris u hnA, hnA, fun x hx => (e1.carts).2 x (hp.mem_iff.2 hx), e2.2.2.2.1, ?_⟩
  · refine (owner_o (e1.below hx) c).mono fun e w' h => ⟨?_, h.2.symm⟩
    rw [h.1, ← ownA_perm hp hn]; rfl
  · refine (rights_o (e1.below hx) u c).mono fun e w' h => ⟨?_, h.2.symm⟩
    rw [h.1, rightsA_perm hp hn]
  · rw [← membersA_perm hp hn]; exact members_o (e1.below hx) c
  · rw [← cartsA_perm hp hn]; exact carts_o (e1.below hx) u
  · rw [← membersA_perm hp hn]; exact membersA_len e1 c
  · exact Nat.le_trans (cartsA_le A u) e2.2.2.2.1
  · obtain ⟨h0, ⟨v, hb, a, cap, rfl, -, hpg⟩, -, -, h50⟩ := e2
    refine ⟨a, cap, by rw [cell0 hb 0]; rfl, lt_of_heap hb, fun hne => ?_⟩
    obtain ⟨g, rfl, _, hg, hpgs⟩ := hpg hne
    refine ⟨g, rfl, hg, fun i hi => ?_⟩
    obtain ⟨p0, p1, mv, p2, hm⟩ := hpgs i hi
    have hf := aFind_get hnA i hi
    have hmA : membersA A A[i].cart = memS A[i].mem := by unfold membersA; rw [hf]
    exact ⟨mv, p0, p1, p2, by rw [hmA]; exact hm.rd (h50 _ (List.getElem_mem hi)), by unfold ownA; rw [hf]; rfl⟩
theorem Looks.below {w w' : World} {bB bM : Nat} {A : List APg} (h : Looks w bB bM A) (hb : Below w.heap.size w w') : Looks w' bB bM A := by
  have ht : ∀ wx, Below w'.heap.size w' wx → Below w.heap.size w wx := fun wx hx => hb.trans (hx.mono hb.size)
  refine ⟨fun wx hx => h.owner wx (ht wx hx), fun wx hx => h.rights wx (ht wx hx), fun wx hx => h.members wx (ht wx hx), fun wx hx => h.carts wx (ht wx hx), fun wx hx => h.rightsM wx (ht wx hx), h.ml, h.cl, h.ris, h.nodup, h.keys, h.len, ?_⟩
  obtain ⟨a, cap, p1, p2, p3⟩ := h.pages
  refine ⟨a, cap, by rw [hb.cell (p := ⟨_, _, _⟩) p2]; exact p1, Nat.lt_of_lt_of_le p2 hb.size, fun hne => ?_⟩
  obtain ⟨g, rfl, hg, hp⟩ := p3 hne
  refine ⟨g, rfl, Nat.lt_of_lt_of_le hg hb.size, fun i hi => ?_⟩
  obtain ⟨mv, q0, q1, q2, q3, q4⟩ := hp i hi
  exact ⟨mv, by rw [hb.cell (p := ⟨_, _, _⟩) hg]; exact q0, by rw [hb.cell (p := ⟨_, _, _⟩) hg]; exact q1, by rw [hb.cell (p := ⟨_, _, _⟩) hg]; exact q2, q3.below hb, q4⟩
end Go.Proofs.YtdeljhehcjknbaaDoor
namespace Go.Proofs.YtdeljhehcjknbaaDoor
open Go.RowKit Go.Maps Go.Sort Go.Lib

/-- Somebody's carts among the first kk pages, in order. -/
def CL (A : List APg) (who : ByteArray) (kk : Nat) (cl : List ByteArray) : Prop :=
  RisK cl ∧ cl.length ≤ kk ∧ ∀ c, c ∈ cl ↔ c ∈ (A.take kk).map (·.cart) ∧ rightsA A who c ≠ 0
theorem CL.start (A : List APg) (who : ByteArray) : CL A who 0 [] := ⟨List.Pairwise.nil, Nat.le_refl _, by simp⟩
section
variable {A : List APg} {who : ByteArray} {kk : Nat} {cl : List ByteArray}
theorem CL.skip (h : CL A who kk cl) (hk : kk < A.length) (hr : rightsA A who A[kk].cart = 0) : CL A who (kk + 1) cl := by
  refine ⟨h.1, Nat.le_succ_of_le h.2.1, fun c => ?_⟩
  rw [h.2.2 c, List.take_succ_eq_append_getElem hk, List.map_append, List.mem_append]
  constructor
  · rintro ⟨h1, h2⟩; exact ⟨Or.inl h1, h2⟩
  · rintro ⟨h1 | h1, h2⟩
    · exact ⟨h1, h2⟩
    · simp at h1; subst h1; exact absurd hr h2
theorem CL.fresh (h : CL A who kk cl) (hn : (A.map (·.cart)).Nodup) (hk : kk < A.length) : A[kk].cart ∉ cl := by
  intro hm
  have := ((h.2.2 _).1 hm).1
  obtain ⟨i, hi, e⟩ := List.mem_iff_getElem.1 this
  rw [List.getElem_map, List.getElem_take] at e
  rw [List.length_map, List.length_take] at hi
  have := (List.pairwise_iff_getElem.1 hn) i kk (by rw [List.length_map]; omega) (by rw [List.length_map]; exact hk) (by omega)
  rw [List.getElem_map, List.getElem_map] at this
  exact this e
theorem CL.ins {n : Nat} (h : CL A who kk cl) (hnd : (A.map (·.cart)).Nodup) (hk : kk < A.length) (hr : rightsA A who A[kk].cart ≠ 0) (hn : n ≤ cl.length) (h1 : ∀ j (hj : j < n), ltK (cl[j]'(by omega)) A[kk].cart) (h2 : ∀ hn' : n < cl.length, ¬ ltK cl[n] A[kk].cart) :
    CL A who (kk + 1) (cl.take n ++ (A[kk].cart :: cl.drop n)) := by
  refine ⟨risK_ins h.1 hn h1 h2 (h.fresh hnd hk), ?_, fun c => ?_⟩
  · have := h.2.1
    simp; omega
  · rw [ins_mem, h.2.2 c, List.take_succ_eq_append_getElem hk, List.map_append, List.mem_append]
    constructor
    · rintro (rfl | ⟨h1, h2⟩)
      · exact ⟨Or.inr (by simp), hr⟩
      · exact ⟨Or.inl h1, h2⟩
    · rintro ⟨h1 | h1, h2⟩
      · exact Or.inr ⟨h1, h2⟩
      · simp at h1; exact Or.inl h1
theorem CL.all (h : CL A who A.length cl) (hn : (A.map (·.cart)).Nodup) : cl = cartsA A who := by
  refine risK_ext h.1 (cartsA_ris who hn) fun c => ?_
  rw [h.2.2 c, cartsA_mem, List.take_of_length_le (Nat.le_refl _)]
theorem flatS_len (l : List ByteArray) : (flatS l).length = l.length := by simp [flatS]
theorem flatS_get (l : List ByteArray) (k : Nat) (h : k < l.length) : (flatS l)[k]? = some (.string l[k]) := by simp [flatS, h]
theorem flatS_one (l : List ByteArray) : ∀ u ∈ flatS l, u.oneCell' = true := by
  intro u hu
  obtain ⟨s, _, rfl⟩ := List.mem_map.1 hu
  rfl
end
theorem row_below {w w' : World} {base : Nat} {e : TypeId} {size : Nat} {v : Value} {n : Nat} {xs : List Value} (h : w.ownsRow base e size v n xs) (hb : Below w.heap.size w w') : w'.ownsRow base e size v n xs :=
  h.kept (row := none) ⟨hb.os, hb.tape, hb.output, hb.size, fun k hk _ => hb.block k hk⟩ (Classical.em _)
theorem row_mono {w : World} {base base' : Nat} {e : TypeId} {size : Nat} {v : Value} {n : Nat} {xs : List Value} (h : w.ownsRow base e size v n xs) (hb : base' ≤ base) : w.ownsRow base' e size v n xs := by
  obtain ⟨h1, h2 | ⟨g, cap, cur, a1, a2, a3⟩⟩ := h
  · exact ⟨h1, Or.inl h2⟩
  · exact ⟨h1, Or.inr ⟨g, cap, cur, a1, Nat.le_trans hb a2, a3⟩⟩
theorem row_src {w : World} {base : Nat} {e : TypeId} {size : Nat} {v : Value} {n : Nat} {xs : List Value} (h : w.ownsRow base e size v n xs) : SrcIs w v n xs := by
  have h0 := h
  obtain ⟨h1, ⟨rfl, rfl⟩ | ⟨g, cap, cur, rfl, _⟩⟩ := h
  · exact Or.inl ⟨rfl, rfl, List.eq_nil_of_length_eq_zero (by simpa using h1)⟩
  · refine Or.inr ⟨_, _, rfl, fun j u hj => ?_⟩
    rw [show (⟨g, 0, none⟩ : Addr).add j = ⟨g, j, none⟩ by unfold Addr.add; split <;> simp_all]
    have hjl : j < n * size := by
      rcases Nat.lt_or_ge j (n * size) with h | h
      · exact h
      · rw [List.getElem?_eq_none (by omega)] at hj; cases hj
    rw [h0.cellAt j hjl]; exact hj
/-- What follows where a part of a text runs to its end: no panic, no return. -/
def NQ (R : Act → World → Prop) : Exit → Act → World → Prop
  | .normal, a, w => R a w
  | _, _, _ => False
theorem NQ.to {P : Program} {c : Code} {Q : Exit → Act → World → Prop} {a : Act} {w : World} (h : c.wp P (NQ fun a w => Q .normal a w) a w) : c.wp P Q a w :=
  wp_mono h fun e a w h => by cases e <;> first | exact h | exact h.elim
/-- What a slice of texts holds from its head on, and from its n-th on. -/
theorem src_take {w : World} {base : Nat} {cl : List ByteArray} {g cap n : Nat} (h : w.ownsRow base 9 1 (.slice (some ⟨g, 0, none⟩) cl.length cap) cl.length (flatS cl)) (hn : n ≤ cl.length) (cx : Nat) :
    SrcIs w (.slice (some ⟨g, 0, none⟩) n cx) n (flatS (cl.take n)) := Or.inr ⟨_, _, rfl, fun j u hj => by
  rw [show (⟨g, 0, none⟩ : Addr).add j = ⟨g, j, none⟩ by unfold Addr.add; split <;> simp_all]
  have hjl : j < n := by
    rcases Nat.lt_or_ge j n with h | h
    · exact h
    · rw [List.getElem?_eq_none (by rw [flatS_len, List.length_take]; omega)] at hj; cases hj
  rw [h.cellAt j (by omega)]
  unfold flatS at hj ⊢
  rw [List.map_take, List.getElem?_take, if_pos hjl] at hj
  exact hj⟩
theorem src_drop {w : World} {base : Nat} {cl : List ByteArray} {g cap n : Nat} (h : w.ownsRow base 9 1 (.slice (some ⟨g, 0, none⟩) cl.length cap) cl.length (flatS cl)) (ad : Addr) (cx : Nat) (had : ad = (⟨g, n, none⟩ : Addr) ∨ cl.length - n = 0) :
    SrcIs w (.slice (some ad) (cl.length - n) cx) (cl.length - n) (flatS (cl.drop n)) := Or.inr ⟨_, _, rfl, fun j u hj => by
  have hjl : j < cl.length - n := by
    rcases Nat.lt_or_ge j (cl.length - n) with h | h
    · exact h
    · rw [List.getElem?_eq_none (by rw [flatS_len, List.length_drop]; omega)] at hj; cases hj
  rcases had with rfl | h0
  · rw [show (⟨g, n, none⟩ : Addr).add j = ⟨g, n + j, none⟩ by unfold Addr.add; split <;> simp_all]
    rw [h.cellAt (n + j) (by omega)]
    unfold flatS at hj ⊢
    rw [List.map_drop, List.getElem?_drop] at hj
    exact hj
  · omega⟩
end Go.Proofs.YtdeljhehcjknbaaDoor
