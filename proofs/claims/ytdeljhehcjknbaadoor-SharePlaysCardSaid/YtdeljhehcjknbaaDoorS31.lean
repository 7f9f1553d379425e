/- append from a source that may be nil; a member's right set in an ordered row: plain laws. -/
import Derived.Test.YtdeljhehcjknbaaDoorS28
namespace Go.Proofs.YtdeljhehcjknbaaDoor
open Go.RowKit Go.Maps Go.Sort Go.Lib

/-- m elements with the cells news, read in w: nil, or in memory. -/
def SrcIs (w : World) (x : Value) (m : Nat) (news : List Value) : Prop :=
  (x = .slice none 0 0 ∧ m = 0 ∧ news = []) ∨ ∃ ad c, x = .slice (some ad) m c ∧ ∀ j u, news[j]? = some u → w.cell? (ad.add j) = some u

theorem run_append_src {P : Program} {w : World} (base : Nat) (t ty e : TypeId) (i : TypeInfo) (z : Value) (size bytes : Nat) (ht : P.underlying t = some (.slice e)) (hi : P.info? e = some i) (hz : i.zero = some z)
    (hsize : i.size = size) (hby : i.bytes = bytes) (hzs : z.cells.size = size) (hsz : 0 < size)
    (v : Value) (n : Nat) (xs : List Value) (hown : w.ownsRow base e size v n xs)
    (x : Value) (m : Nat) (news : List Value) (hx : SrcIs w x m news) (hl : news.length = m * size) (h1 : ∀ u ∈ news, u.oneCell' = true)
    (h63 : n + m ≤ maxLen) (hbytes : (n + m) * bytes ≤ 140737488355328) (hbase : base ≤ w.heap.size) :
    ∃ v' w', (Builtin.append_ #[t, t] ty #[v, x]).run P w = .ok v' w' ∧ w'.ownsRow base e size v' (n + m) (xs ++ news) ∧ w.grownBy w' v.ownBlock ∧
      (v' = .slice none 0 0 ↔ v = .slice none 0 0 ∧ m = 0) := by
  rcases hx with ⟨rfl, rfl, rfl⟩ | ⟨ad, c, rfl, hnews⟩
  · refine ⟨v, w, ?_, by simpa using hown, ⟨rfl, rfl, rfl, Nat.le_refl _, fun _ _ _ => rfl⟩, by simp⟩
    rcases hown.2 with ⟨rfl, rfl⟩ | ⟨g, cap, cur, rfl, hbg, hg, hnc, hcm, hcs, htake⟩
    · simp [Builtin.append_, run_underlying ht, sizeOf, typeInfo, hi, Builtin.lenOf, Builtin.firstCells]
    · simp [Builtin.append_, run_underlying ht, sizeOf, typeInfo, hi, Builtin.lenOf, Builtin.firstCells, hnc, storeCells]
  · exact run_append_own w base t ty e i z size bytes ht hi hz hsize hby hzs hsz v n xs hown ad m c news hl hnews h1 h63 hbytes hbase

theorem wp_append_src {P : Program} {w : World} {o : Oper} {a : Act} {K : Act → World → Prop} {Q : Exit → Act → World → Prop} (s x : Operand) (t : TypeId)
    (ho : o.op = .call { callee := .builtin .append, args := #[s, x], argTypes := #[t, t] })
    (base : Nat) (e : TypeId) (i : TypeInfo) (z : Value) (size bytes : Nat) (ht : P.underlying t = some (.slice e)) (hi : P.info? e = some i) (hz : i.zero = some z)
    (hsize : i.size = size) (hby : i.bytes = bytes) (hzs : z.cells.size = size) (hsz : 0 < size)
    (v : Value) (n : Nat) (xs : List Value) (hs : a.eval s = v) (hown : w.ownsRow base e size v n xs)
    (src : Value) (m : Nat) (news : List Value) (hx : a.eval x = src) (hsrc : SrcIs w src m news) (hl : news.length = m * size) (h1 : ∀ u ∈ news, u.oneCell' = true)
    (h63 : n + m ≤ maxLen) (hbytes : (n + m) * bytes ≤ 140737488355328) (hbase : base ≤ w.heap.size)
    (h : ∀ v' w', w'.ownsRow base e size v' (n + m) (xs ++ news) → w.grownBy w' v.ownBlock → (v' = .slice none 0 0 ↔ v = .slice none 0 0 ∧ m = 0) → K (a.put o.dst v') w') : o.wp P a w K Q := by
  obtain ⟨v', w', hr, h2, h3, h4⟩ := run_append_src (P := P) (w := w) base t o.type e i z size bytes ht hi hz hsize hby hzs hsz v n xs hown src m news hsrc hl h1 h63 hbytes hbase
  unfold Oper.wp execOp
  simp only [ho, resolve, invoke, builtin, Sem.run_bind, Sem.run_pure, Result.andThen_ok, List.map_toArray, List.map_cons, List.map_nil, hs, hx, hr]
  exact h v' w' h2 h3 h4
theorem wpList_append_src {P : Program} {w : World} {ops : Array Oper} {rest : List Oper} {o : Oper} {a : Act} {Q : Exit → Act → World → Prop} (hgd : o.guard = none) (s x : Operand) (t : TypeId)
    (ho : o.op = .call { callee := .builtin .append, args := #[s, x], argTypes := #[t, t] })
    (base : Nat) (e : TypeId) (i : TypeInfo) (z : Value) (size bytes : Nat) (ht : P.underlying t = some (.slice e)) (hi : P.info? e = some i) (hz : i.zero = some z)
    (hsize : i.size = size) (hby : i.bytes = bytes) (hzs : z.cells.size = size) (hsz : 0 < size)
    (v : Value) (n : Nat) (xs : List Value) (hs : a.eval s = v) (hown : w.ownsRow base e size v n xs)
    (src : Value) (m : Nat) (news : List Value) (hx : a.eval x = src) (hsrc : SrcIs w src m news) (hl : news.length = m * size) (h1 : ∀ u ∈ news, u.oneCell' = true)
    (h63 : n + m ≤ maxLen) (hbytes : (n + m) * bytes ≤ 140737488355328) (hbase : base ≤ w.heap.size)
    (h : ∀ v' w', w'.ownsRow base e size v' (n + m) (xs ++ news) → w.grownBy w' v.ownBlock → (v' = .slice none 0 0 ↔ v = .slice none 0 0 ∧ m = 0) → wpList P ops Q rest (a.put o.dst v') w') : wpList P ops Q (o :: rest) a w :=
  wpList_plain hgd fun _ hK => wp_append_src s x t ho base e i z size bytes ht hi hz hsize hby hzs hsz v n xs hs hown src m news hx hsrc hl h1 h63 hbytes hbase fun v' w' h2 h3 h4 => hK _ _ (h v' w' h2 h3 h4)

/-- Go's order of strings. -/
def ltK (a b : ByteArray) : Prop := a.data.toList < b.data.toList
def Rising (l : List (ByteArray × Int)) : Prop := l.Pairwise fun a b => ltK a.1 b.1
theorem ltK_irrefl (a : ByteArray) : ¬ ltK a a := List.lt_irrefl _
theorem ltK_trans {a b c : ByteArray} (h : ltK a b) (h2 : ltK b c) : ltK a c := List.lt_trans h h2
theorem ltK_tri (a b : ByteArray) : ltK a b ∨ a = b ∨ ltK b a := by
  unfold ltK
  rcases Decidable.em (a.data.toList < b.data.toList) with h | h
  · exact Or.inl h
  · rcases Decidable.em (b.data.toList < a.data.toList) with h2 | h2
    · exact Or.inr (Or.inr h2)
    · right; left
      exact ByteArray.ext (Array.toList_inj.1 (List.le_antisymm (List.not_lt.1 h2) (List.not_lt.1 h)))
theorem Rising.none {p : ByteArray × Int} {l : List (ByteArray × Int)} (h : Rising (p :: l)) {k : ByteArray} (hk : ltK k p.1 ∨ k = p.1) : lkA l k = none := by
  refine lkA_no fun j hj e => ?_
  have h1 := (List.pairwise_cons.1 h).1 l[j] (List.getElem_mem hj)
  rw [e] at h1
  rcases hk with hk | hk
  · exact ltK_irrefl _ (ltK_trans hk h1)
  · subst hk; exact ltK_irrefl _ h1
/-- Two rising rows with the same look-ups are the same. -/
theorem rising_ext : ∀ {l1 l2 : List (ByteArray × Int)}, Rising l1 → Rising l2 → (∀ k, lkA l1 k = lkA l2 k) → l1 = l2
  | [], [], _, _, _ => rfl
  | [], (k, v) :: t, _, _, h => by have := h k; simp [lkA] at this
  | (k, v) :: t, [], _, _, h => by have := h k; simp [lkA] at this
  | (k1, v1) :: t1, (k2, v2) :: t2, h1, h2, h => by
    have hk : k1 = k2 := by
      rcases ltK_tri k1 k2 with hlt | rfl | hlt
      · have := h k1
        have hn := h2.none (k := k1) (Or.inl hlt)
        simp only [lkA, if_pos] at this
        rw [if_neg (fun e => by subst e; exact ltK_irrefl _ hlt), hn] at this
        cases this
      · rfl
      · have := h k2
        have hn := h1.none (k := k2) (Or.inl hlt)
        simp only [lkA, if_pos] at this
        rw [if_neg (fun e => by subst e; exact ltK_irrefl _ hlt), hn] at this
        cases this
    subst hk
    have hv := h k1
    simp only [lkA, if_pos] at hv
    obtain rfl : v1 = v2 := by injection hv
    congr 1
    refine rising_ext (List.pairwise_cons.1 h1).2 (List.pairwise_cons.1 h2).2 fun k => ?_
    by_cases e : k = k1
    · subst e; rw [h1.none (Or.inr rfl), h2.none (Or.inr rfl)]
    · have := h k
      simp only [lkA, if_neg e] at this
      exact this
theorem lk_memS_full (m : List (ByteArray × Int)) (who : ByteArray) : lkA (memS m) who = lkA m who := by
  unfold memS
  rw [lk_keys (fun k => (lkA m k).getD 0) who]
  cases e : lkA m who with
  | none => rw [if_neg (fun h => by have := lkA_isSome.2 ((sortK_mem m who).1 h); rw [e] at this; cases this)]
  | some v =>
    rw [if_pos ((sortK_mem m who).2 (lkA_isSome.1 (by rw [e]; rfl)))]
    rfl
theorem memS_rising {m : List (ByteArray × Int)} (h : (m.map (·.1)).Nodup) : Rising (memS m) := by
  unfold Rising memS
  rw [List.pairwise_map]
  have hs : (sortK (memV m)).Pairwise (fun x y => decide (x ≤ y) = true) := by
    unfold sortK
    exact List.pairwise_mergeSort (fun a b c h1 h2 => by simp at *; exact List.le_trans h1 h2) (fun a b => by simp; exact List.le_total a b) _
  have hn : (sortK (memV m)).Nodup := by
    unfold sortK
    rw [(List.mergeSort_perm _ _).nodup_iff]
    simp only [memV, List.map_map, Function.comp_def]
    have : (m.map fun x => x.1.data.toList) = (m.map (·.1)).map (fun k => k.data.toList) := by simp [List.map_map, Function.comp_def]
    rw [this]
    unfold List.Nodup at h ⊢
    rw [List.pairwise_map]
    exact h.imp (fun hne e => hne (ByteArray.ext (Array.toList_inj.1 e)))
  have hh := hs.and hn
  refine hh.imp ?_
  rintro a b ⟨h1, h2⟩
  unfold ltK
  simp only
  simp at h1
  rcases Decidable.em (a < b) with h | h
  · exact h
  · exact absurd (List.le_antisymm h1 (List.not_lt.1 h)) h2
theorem memS_eq {l m : List (ByteArray × Int)} (h : (m.map (·.1)).Nodup) (hl : Rising l) (hk : ∀ k, lkA l k = lkA m k) : l = memS m :=
  rising_ext hl (memS_rising h) fun k => by rw [hk, lk_memS_full]
end Go.Proofs.YtdeljhehcjknbaaDoor
