/- Maps whose keys are of whatever type, as they lie, their operations, and ranging over them. -/
import Derived.Test.YtjoljfnlkddfbaaGreatDoorReg
import Derived.Maps.RangeWalk
namespace Go.Proofs.YtjoljfnlkddfbaaGreatDoor
open Go.RowKit Go.Maps Go.Lib Go.MapKept
open Go.ChangeMaps (setBlock)

/-- The value at a key of a list of pairs, in order. -/
def lkK {κ : Type} [DecidableEq κ] {α : Type} : List (κ × α) → κ → Option α
 | [], _ => none
 | p :: r, k => if k = p.1 then some p.2 else lkK r k
/-- The place of a key. -/
def ixK {κ : Type} [DecidableEq κ] {α : Type} : List (κ × α) → κ → Nat → Option (Nat × α)
 | [], _, _ => none
 | p :: r, k, i => if k = p.1 then some (i, p.2) else ixK r k (i + 1)
/-- A value laid at a key: in its place, or behind the rest. -/
def putK {κ : Type} [DecidableEq κ] {α : Type} : List (κ × α) → κ → α → List (κ × α)
 | [], k, v => [(k, v)]
 | p :: r, k, v => if k = p.1 then (p.1, v) :: r else p :: putK r k v
/-- A key taken out. -/
def delK {κ : Type} [DecidableEq κ] {α : Type} : List (κ × α) → κ → List (κ × α)
 | [], _ => []
 | p :: r, k => if k = p.1 then r else p :: delK r k

/-- How keys are laid, and that the machine tells them apart as Lean does. -/
structure KEnc (κ : Type) [DecidableEq κ] (P : Program) where
 enc : κ → Value
 kt : TypeId
 inj : ∀ {a b : κ}, enc a = enc b → a = b
 find : ∀ (k : κ) (es : List MapEntry) (m : List (κ × Value)), es.map (fun e => (e.key, e.val)) = m.map (fun p => (enc p.1, p.2)) → ∀ w, (Instr.findKey kt (enc k) es).run P w = .ok (ixK m k 0) w
 check : ∀ em k w, (Instr.checkKey em 10000 kt (enc k)).run P w = .ok () w
 bits : ∀ k, Instr.sameBits 10000 (enc k) (enc k) = true

section
variable {κ : Type} [DecidableEq κ] {P : Program} (E : KEnc κ P)
/-- A block that is a map keyed by strings: its entries in order. -/
def MapK (w : World) (r : Nat) (m : List (κ × Value)) : Prop :=
 ∃ es clk, w.heap[r]? = some (.map es clk) ∧ Stamped es clk ∧ es.toList.map (fun e => (e.key, e.val)) = m.map (fun p => (E.enc p.1, p.2))


end
section
variable {κ : Type} [DecidableEq κ]
theorem lkK_ixK {α : Type} (m : List (κ × α)) (k : κ) (i : Nat) : (ixK m k i).map (·.2) = lkK m k := by
 induction m generalizing i with
 | nil => rfl
 | cons p r ih => simp only [ixK, lkK]; split <;> simp [ih]
end
section
variable {κ : Type} [DecidableEq κ] {P : Program} {E : KEnc κ P} {w : World} {r : Nat} {m : List (κ × Value)} {t et : TypeId}
theorem MapK.lookup (h : MapK E w r m) (ht : P.underlying t = some (.map E.kt et)) {z : Value} (hz : (zeroValue et).run P w = .ok z w) (k : κ) :
  (Instr.lookup t (.map (some r)) (E.enc k) false).run P w = .ok ((lkK m k).getD z) w := by
 obtain ⟨es, clk, hb, _, he⟩ := h
 rw [← lkK_ixK m k 0]
 cases hx : ixK m k 0 <;> simp [Instr.lookup, run_underlying ht, MapKept.run_getObj_map hb, E.check, E.find _ _ _ he, hx, hz, Result.andThen]

theorem MapK.len (h : MapK E w r m) (ht : P.underlying t = some (.map E.kt et)) (ty : TypeId) : (Builtin.len_ #[t] ty #[.map (some r)]).run P w = .ok (.int .i64 m.length) w := by
 obtain ⟨es, clk, hb, _, he⟩ := h
 have : es.size = m.length := by have := congrArg List.length he; simpa using this
 simp [Builtin.len_, run_underlying ht, MapKept.run_getObj_map hb, Result.andThen, this, goInt]

theorem ixK_none {α : Type} : ∀ (m : List (κ × α)) (k : κ) (i : Nat), ixK m k i = none → (∀ p ∈ m, k ≠ p.1) ∧ (∀ v, putK m k v = m ++ [(k, v)]) ∧ delK m k = m
 | [], _, _, _ => by simp [putK, delK]
 | p :: m, k, i, h => by
  simp only [ixK] at h
  by_cases e : k = p.1
  ·simp [e] at h
  ·rw [if_neg e] at h
   obtain ⟨h1, h2, h3⟩ := ixK_none m k (i + 1) h
   refine ⟨?_, ?_, ?_⟩
   ·intro q hq
    rcases List.mem_cons.1 hq with rfl | hq
    ·exact e
    ·exact h1 q hq
   ·intro v; simp [putK, e, h2]
   ·simp [delK, e, h3]

theorem ixK_some {α : Type} : ∀ (m : List (κ × α)) (k : κ) (i j : Nat) (v : α), ixK m k i = some (j, v) → i ≤ j ∧ m[j - i]? = some (k, v) ∧ (∀ u, putK m k u = m.set (j - i) (k, u)) ∧ delK m k = m.eraseIdx (j - i)
 | [], _, _, _, _, h => by simp [ixK] at h
 | p :: m, k, i, j, v, h => by
  simp only [ixK] at h
  by_cases e : k = p.1
  ·rw [if_pos e] at h
   simp only [Option.some.injEq, Prod.mk.injEq] at h
   obtain ⟨rfl, rfl⟩ := h
   subst e
   simp [putK, delK]
  ·rw [if_neg e] at h
   obtain ⟨h1, h2, h3, h4⟩ := ixK_some m k (i + 1) j v h
   have hj : j - i = (j - (i + 1)) + 1 := by omega
   refine ⟨by omega, ?_, ?_, ?_⟩
   ·rw [hj]; simpa using h2
   ·intro u; rw [hj]; simp [putK, e, h3]
   ·rw [hj]; simp [delK, e, h4]

theorem MapK.update (h : MapK E w r m) (ht : P.underlying t = some (.map E.kt et)) (k : κ) (v : Value) :
  ∃ w', (Instr.mapUpdate t (.map (some r)) (E.enc k) v).run P w = .ok () w' ∧ MapK E w' r (putK m k v) ∧ w.grownBy w' (some r) := by
 obtain ⟨es, clk, hb, ⟨hs1, hs2, hs3⟩, he⟩ := h
 have hr : r < w.heap.size := by
  rcases Nat.lt_or_ge r w.heap.size with h | h
  ·exact h
  ·rw [Array.getElem?_eq_none h] at hb; cases hb
 cases hx : ixK m k 0 with
 | none =>
  obtain ⟨h1, h2, _⟩ := ixK_none m k 0 hx
  refine ⟨{ w with heap := w.heap.setIfInBounds r (.map (es.push { key := E.enc k, val := v, born := clk }) (clk + 1)) }, ?_, ?_, grownBy_set _ _ _⟩
  ·simp [Instr.mapUpdate, run_underlying ht, MapKept.run_getObj_map hb, E.check, E.find _ _ _ he, hx, Result.andThen, setObj, Sem.run, hb]
  ·refine ⟨_, _, by simp [hr]; exact ⟨rfl, rfl⟩, ⟨?_, ?_, ?_⟩, ?_⟩
   ·intro x hx'
    simp only [Array.toList_push, List.mem_append, List.mem_singleton] at hx'
    rcases hx' with hx' | rfl
    ·have := hs1 x hx'; omega
    ·simp
   ·simp only [Array.toList_push, List.map_append, List.map_cons, List.map_nil]
    refine List.nodup_append.2 ⟨hs2, by simp, ?_⟩
    intro a ha b hb' e
    simp only [List.mem_singleton] at hb'
    obtain ⟨x, hx', rfl⟩ := List.mem_map.1 ha
    have := hs1 x hx'; omega
   ·simp only [Array.toList_push, List.map_append, List.map_cons, List.map_nil]
    refine List.nodup_append.2 ⟨hs3, by simp, ?_⟩
    intro a ha b hb' e
    simp only [List.mem_singleton] at hb'
    obtain ⟨x, hx', rfl⟩ := List.mem_map.1 ha
    have hmem : (x.key, x.val) ∈ m.map (fun p => (E.enc p.1, p.2)) := by rw [← he]; exact List.mem_map.2 ⟨x, hx', rfl⟩
    obtain ⟨p, hp, hpe⟩ := List.mem_map.1 hmem
    simp only [Prod.mk.injEq] at hpe
    subst hb'
    rw [← hpe.1] at e
    exact h1 p hp (by first | exact E.inj e.symm | exact E.inj e)
   ·simp [he, h2]
 | some jv =>
  obtain ⟨j, u⟩ := jv
  obtain ⟨_, h2, h3, _⟩ := ixK_some m k 0 j u hx
  simp only [Nat.sub_zero] at h2 h3
  have hlen : es.size = m.length := by have := congrArg List.length he; simpa using this
  have hj : j < m.length := by
   rcases Nat.lt_or_ge j m.length with h | h
   ·exact h
   ·rw [List.getElem?_eq_none h] at h2; cases h2
  have hjs : j < es.size := by omega
  have hkey : es[j].key = E.enc k ∧ es[j].val = u := by
   have := congrArg (fun l => l[j]?) he
   simp only [List.getElem?_map, h2, Array.getElem?_toList, Array.getElem?_eq_getElem hjs, Option.map_some, Option.some.injEq, Prod.mk.injEq] at this
   exact this
  have hkt : ((es[j]?).map (·.key)).getD (E.enc k) = E.enc k := by
   rw [Array.getElem?_eq_getElem hjs]; simp [hkey.1]
  refine ⟨{ w with heap := w.heap.setIfInBounds r (.map (es.modify j fun e => { e with key := E.enc k, val := v }) clk) }, ?_, ?_, grownBy_set _ _ _⟩
  ·have hst : (Instr.keyThatStays (E.enc k) (E.enc k)).run P w = .ok (E.enc k) w := by simp [Instr.keyThatStays, E.bits]
   simp [Instr.mapUpdate, run_underlying ht, MapKept.run_getObj_map hb, E.check, E.find _ _ _ he, hx, Result.andThen, hkt, hst]
   simp [setObj, Sem.run, hb]
  ·have hml : (es.modify j fun e => { e with key := E.enc k, val := v }).toList = es.toList.set j { es[j] with key := E.enc k, val := v } := by
    apply List.ext_getElem?
    intro i
    rw [Array.getElem?_toList, Array.getElem?_modify, List.getElem?_set]
    by_cases hij : j = i
    ·subst hij; simp [hjs]
    ·simp [hij]
   refine ⟨_, _, by simp [hr]; exact ⟨rfl, rfl⟩, ⟨?_, ?_, ?_⟩, ?_⟩
   ·intro x hx'
    rw [hml] at hx'
    rcases List.mem_or_eq_of_mem_set hx' with hx' | rfl
    ·exact hs1 x hx'
    ·exact hs1 es[j] (by simp)
   ·rw [hml, List.map_set]
    have : (es.toList.map (·.born)).set j es[j].born = es.toList.map (·.born) := by
     apply List.ext_getElem?; intro i; rw [List.getElem?_set]; by_cases hij : j = i
     ·subst hij; simp [hjs]
     ·simp [hij]
    simpa [this] using hs2
   ·rw [hml, List.map_set]
    have : (es.toList.map (·.key)).set j (E.enc k) = es.toList.map (·.key) := by
     apply List.ext_getElem?; intro i; rw [List.getElem?_set]; by_cases hij : j = i
     ·subst hij; simp [hjs, hkey.1]
     ·simp [hij]
    simpa [this] using hs3
   ·rw [hml, List.map_set, he, h3, List.map_set]

theorem mapK_new (w : World) : MapK E (w.alloc (.map #[] 0)) w.heap.size [] :=
 ⟨#[], 0, by show (w.heap.push _)[w.heap.size]? = _; simp, ⟨by simp, by simp, by simp⟩, by simp⟩

theorem MapK.of_block {w' : World} (h : MapK E w r m) (hb : w'.heap[r]? = w.heap[r]?) : MapK E w' r m := by
 obtain ⟨es, clk, h1, h2⟩ := h
 exact ⟨es, clk, by rw [hb, h1], h2⟩

theorem MapK.nodup (h : MapK E w r m) : (m.map (·.1)).Nodup := by
 obtain ⟨es, clk, _, ⟨_, _, h3⟩, he⟩ := h
 have : es.toList.map (·.key) = (m.map (·.1)).map E.enc := by
  have := congrArg (List.map Prod.fst) he
  simpa [List.map_map, Function.comp_def] using this
 rw [this] at h3
 exact (List.pairwise_map.1 h3).imp fun hab e => hab (by rw [e])

end
section
variable {κ : Type} [DecidableEq κ] {P : Program} {E : KEnc κ P} {w : World} {ops : Array Oper} {rest : List Oper} {o : Oper} {a : Act} {Q : Exit → Act → World → Prop} {r : Nat} {m : List (κ × Value)} {t et : TypeId}

theorem wpList_lookK (hg : Region.wanted o (yielded ops a.tmps) = true) (x k : Operand) (hop : o.op = Op.lookup t x k false) (ht : P.underlying t = some (.map E.kt et))
  {z : Value} (hz : (zeroValue et).run P w = .ok z w) (hx : a.eval x = .map (some r)) (hm : MapK E w r m) (key : κ) (hkey : a.eval k = E.enc key)
  (hK : wpList P ops Q rest (a.put o.dst ((lkK m key).getD z)) w) : wpList P ops Q (o :: rest) a w := by
 refine wpList_wanted hg fun K' hK' => ?_
 have hrun := hm.lookup ht hz key
 unfold Oper.wp
 simp [execOp, hop, hx, hkey, hrun, Result.andThen]
 exact hK' _ _ hK

theorem wpList_updK (hg : Region.wanted o (yielded ops a.tmps) = true) (x k v : Operand) (hop : o.op = Op.mapUpdate t x k v) (ht : P.underlying t = some (.map E.kt et))
  (hx : a.eval x = .map (some r)) (hm : MapK E w r m) (key : κ) (hkey : a.eval k = E.enc key) (val : Value) (hval : a.eval v = val)
  (hK : ∀ w', MapK E w' r (putK m key val) → w.grownBy w' (some r) → wpList P ops Q rest (a.put o.dst undef) w') : wpList P ops Q (o :: rest) a w := by
 refine wpList_wanted hg fun K' hK' => ?_
 obtain ⟨w', hrun, h1, h2⟩ := hm.update ht key val
 unfold Oper.wp
 simp [execOp, hop, hx, hkey, hval, hrun, Result.andThen]
 exact hK' _ _ (hK w' h1 h2)

end
/-- An iterator at block r over the map at bm, whose entries are those of L; those of `done` have come out. -/
def RangeK {κ : Type} [DecidableEq κ] {P : Program} (E : KEnc κ P) {α : Type} (f : α → κ × Value) (w : World) (r bm : Nat) (L done : List α) : Prop :=
 ∃ (es : Array MapEntry) (clk since : Nat) (seen : Array Nat) (c0 : Nat) (D : List MapEntry),
  w.heap[bm]? = some (.map es clk) ∧ Stamped es clk ∧ es.toList.map (fun e => (e.key, e.val)) = L.map (fun x => (E.enc (f x).1, (f x).2)) ∧
  w.heap[r]? = some (.mapIter (some bm) since seen c0) ∧ (∀ x ∈ es.toList, x.born < since) ∧ since ≤ c0 ∧ since ≤ clk ∧
  (∀ d ∈ D, d ∈ es.toList) ∧ D.map (·.born) = seen.toList ∧ D.map (fun e => (e.key, e.val)) = done.map (fun x => (E.enc (f x).1, (f x).2)) ∧
  (∀ x ∈ done, x ∈ L) ∧ (done.map fun x => (f x).1).Nodup

/-- How many entries the iterator at r has handed out. -/
def World.cameK (w : World) (r : Nat) : Nat := match w.heap[r]? with
 | some (.mapIter _ _ seen _) => seen.size
 | _ => 0

section
variable {κ : Type} [DecidableEq κ] {P : Program} {E : KEnc κ P} {α : Type} {f : α → κ × Value} {w : World} {r bm : Nat} {L done : List α}

theorem RangeK.came (h : RangeK E f w r bm L done) : World.cameK w r = done.length := by
 obtain ⟨es, clk, since, seen, c0, D, h1, h2, h3, h4, h5, h6, h7, h8, h9, h10, h11, h12⟩ := h
 unfold World.cameK
 rw [h4]
 have e1 := congrArg List.length h9
 have e2 := congrArg List.length h10
 simp at e1 e2
 simp; omega
theorem RangeK.keys (h : RangeK E f w r bm L done) : (L.map fun x => (f x).1).Nodup := by
 obtain ⟨es, clk, since, seen, c0, D, h1, ⟨_, _, h2⟩, h3, _⟩ := h
 have : es.toList.map (·.key) = (L.map fun x => (f x).1).map E.enc := by
  have := congrArg (List.map Prod.fst) h3
  simpa [List.map_map, Function.comp_def] using this
 rw [this] at h2
 exact (List.pairwise_map.1 h2).imp fun hab e => hab (by rw [e])
omit [DecidableEq κ] in
theorem keyK_inj {x y : α} : ∀ {L : List α}, (L.map fun x => (f x).1).Nodup → x ∈ L → y ∈ L → (f x).1 = (f y).1 → x = y
 | z :: L, h, hx, hy, e => by
  simp only [List.map_cons, List.nodup_cons] at h
  rcases List.mem_cons.1 hx with e1 | hx1
  ·rcases List.mem_cons.1 hy with e2 | hy1
   ·rw [e1, e2]
   ·exact absurd (List.mem_map.2 ⟨y, hy1, by rw [← e, e1]⟩) h.1
  ·rcases List.mem_cons.1 hy with e2 | hy1
   ·exact absurd (List.mem_map.2 ⟨x, hx1, by rw [e, e2]⟩) h.1
   ·exact keyK_inj h.2 hx1 hy1 e
theorem RangeK.le (h : RangeK E f w r bm L done) : done.length ≤ L.length := by
 have hk := h.keys
 obtain ⟨es, clk, since, seen, c0, D, h1, h2, h3, h4, h5, h6, h7, h8, h9, h10, h11, h12⟩ := h
 have hn : done.Nodup := (List.pairwise_map.1 h12).imp fun hab e => hab (by rw [e])
 exact hn.length_le_of_subset h11
/-- The loop's start. -/
theorem rangeK_at {t et : TypeId} {P : Program} (ht : P.underlying t = some (.map E.kt et)) (h : MapK E w bm (L.map f)) :
  ∃ o, (Instr.range t (.map (some bm))).run P w = .ok (.pointer (some ⟨w.heap.size, 0, none⟩)) (w.alloc o) ∧ RangeK E f (w.alloc o) w.heap.size bm L [] := by
 obtain ⟨es, clk, hb, hs, he⟩ := h
 refine ⟨_, run_range_map w t E.kt et bm es clk ht hb, es, clk, clk, #[], clk, [], ?_, hs, by rw [he, List.map_map]; rfl, alloc_new _ _, fun x hx => hs.1 x hx, Nat.le_refl _, Nat.le_refl _, by simp, rfl, rfl, by simp, by simp⟩
 rw [heap_alloc_old _ _ (lt_of_heap hb)]; exact hb
/-- The loop's step. -/
theorem RangeK.next (ty : TypeId) (h : RangeK E f w r bm L done) :
  (done.Perm L ∧ (Instr.next (.pointer (some ⟨r, 0, none⟩)) false ty).run P w = .ok (.tuple #[.bool false]) w) ∨
  ∃ x, x ∈ L ∧ (f x).1 ∉ done.map (fun x => (f x).1) ∧ ∃ w1, RangeK E f w1 r bm L (done ++ [x]) ∧ w.grownBy w1 (some r) ∧ w1.heap.size = w.heap.size ∧
   (Instr.next (.pointer (some ⟨r, 0, none⟩)) false ty).run P w = .ok (.tuple #[.bool true, E.enc (f x).1, (f x).2]) w1 ∧
   (Instr.entry (.pointer (some ⟨r, 0, none⟩))).run P w1 = .ok (.tuple #[E.enc (f x).1, (f x).2]) w1 := by
 have hk := h.keys
 obtain ⟨es, clk, since, seen, c0, D, h1, h2, h3, h4, h5, h6, h7, h8, h9, h10, h11, h12⟩ := h
 have hin : ∀ e ∈ es.toList, ∃ x ∈ L, e.key = E.enc (f x).1 ∧ e.val = (f x).2 := by
  intro e he
  have : (e.key, e.val) ∈ L.map (fun x => (E.enc (f x).1, (f x).2)) := by rw [← h3]; exact List.mem_map.2 ⟨e, he, rfl⟩
  obtain ⟨x, hx, hxe⟩ := List.mem_map.1 this
  simp only [Prod.mk.injEq] at hxe
  exact ⟨x, hx, hxe.1.symm, hxe.2.symm⟩
 have hout : ∀ x ∈ L, ∃ e ∈ es.toList, e.key = E.enc (f x).1 ∧ e.val = (f x).2 := by
  intro x hx
  have : (E.enc (f x).1, (f x).2) ∈ es.toList.map (fun e => (e.key, e.val)) := by rw [h3]; exact List.mem_map.2 ⟨x, hx, rfl⟩
  obtain ⟨e, he, hxe⟩ := List.mem_map.1 this
  simp only [Prod.mk.injEq] at hxe
  exact ⟨e, he, hxe.1, hxe.2⟩
 have hn : done.Nodup := (List.pairwise_map.1 h12).imp fun hab e => hab (by rw [e])
 have hLn : L.Nodup := (List.pairwise_map.1 hk).imp fun hab e => hab (by rw [e])
 rcases run_next_at (P := P) w ty r bm since c0 seen es clk h4 h1 h5 h6 with ⟨h0, hr⟩ | ⟨e, he, w1, hw1, hr⟩
 ·refine Or.inl ⟨(List.perm_ext_iff_of_nodup hn hLn).2 fun x => ⟨h11 x, fun hx => ?_⟩, hr⟩
  obtain ⟨e, he, e1, e2⟩ := hout x hx
  have hse := all_seen es seen h0 e he
  have hmem : e.born ∈ D.map (·.born) := by rw [h9]; exact Array.mem_toList_iff.2 (Array.contains_iff_mem.1 hse)
  obtain ⟨d, hd, hdb⟩ := List.mem_map.1 hmem
  have hde : d = e := born_inj h2.2.1 (h8 d hd) he hdb
  subst hde
  have : (d.key, d.val) ∈ done.map (fun x => (E.enc (f x).1, (f x).2)) := by rw [← h10]; exact List.mem_map.2 ⟨d, hd, rfl⟩
  obtain ⟨y, hy, hye⟩ := List.mem_map.1 this
  simp only [Prod.mk.injEq] at hye
  have : (f y).1 = (f x).1 := by
   exact E.inj (hye.1.trans e1)
  rw [← keyK_inj hk (h11 y hy) hx this]
  exact hy
 ·obtain ⟨he1, he2⟩ := mem_left he
  obtain ⟨x, hx, e1, e2⟩ := hin e he1
  have hb1 : ∀ k, k ≠ r → (setBlock w1 r (.mapIter (some bm) since (seen.push e.born) clk)).heap[k]? = w.heap[k]? := by
   intro k hkr
   show (w1.heap.setIfInBounds r _)[k]? = _
   rw [Array.getElem?_setIfInBounds, if_neg (fun e => hkr e.symm)]
   rcases hw1 with rfl | rfl <;> rfl
  have hsz1 : w1.heap.size = w.heap.size := by rcases hw1 with rfl | rfl <;> rfl
  have hr1 : (setBlock w1 r (.mapIter (some bm) since (seen.push e.born) clk)).heap[r]? = some (.mapIter (some bm) since (seen.push e.born) clk) := by
   show (w1.heap.setIfInBounds r _)[r]? = _
   rw [Array.getElem?_setIfInBounds, if_pos rfl, if_pos (by rw [hsz1]; exact lt_of_heap h4)]
  have hne : bm ≠ r := by
   intro e; subst e; rw [h1] at h4; cases h4
  have hnd : (f x).1 ∉ done.map (fun x => (f x).1) := by
   intro hmem
   obtain ⟨y, hy, hye⟩ := List.mem_map.1 hmem
   have hyx := keyK_inj hk (h11 y hy) hx hye
   subst hyx
   have : (E.enc (f y).1, (f y).2) ∈ D.map (fun e => (e.key, e.val)) := by rw [h10]; exact List.mem_map.2 ⟨y, hy, rfl⟩
   obtain ⟨d, hd, hde⟩ := List.mem_map.1 this
   simp only [Prod.mk.injEq] at hde
   have hdk : d = e := by
    have h23 := h2.2.2
    have hinj : ∀ {l : List MapEntry}, (l.map (·.key)).Nodup → ∀ {a b : MapEntry}, a ∈ l → b ∈ l → a.key = b.key → a = b := by
     intro l
     induction l with
     | nil => intro _ a b ha; cases ha
     | cons z l ih =>
      intro h a b ha hb e
      simp only [List.map_cons, List.nodup_cons] at h
      rcases List.mem_cons.1 ha with e1 | ha1
      ·rcases List.mem_cons.1 hb with e2 | hb2
       ·rw [e1, e2]
       ·exact absurd (List.mem_map.2 ⟨b, hb2, by rw [← e, e1]⟩) h.1
      ·rcases List.mem_cons.1 hb with e2 | hb2
       ·exact absurd (List.mem_map.2 ⟨a, ha1, by rw [e, e2]⟩) h.1
       ·exact ih h.2 ha1 hb2 e
    exact hinj h23 (h8 d hd) he1 (by rw [hde.1, e1])
   subst hdk
   have : d.born ∈ D.map (·.born) := List.mem_map.2 ⟨d, hd, rfl⟩
   rw [h9] at this
   have := Array.contains_iff_mem.2 (Array.mem_toList_iff.1 this)
   rw [he2] at this; cases this
  refine Or.inr ⟨x, hx, hnd, setBlock w1 r (.mapIter (some bm) since (seen.push e.born) clk), ⟨es, clk, since, seen.push e.born, clk, D ++ [e], by rw [hb1 bm hne]; exact h1, h2, h3, hr1, h5, h7, h7, ?_, ?_, ?_, ?_, ?_⟩, ?_, ?_, ?_, ?_⟩
  ·intro d hd
   rcases List.mem_append.1 hd with hd | hd
   ·exact h8 d hd
   ·rw [List.mem_singleton.1 hd]; exact he1
  ·simp [h9]
  ·simp [h10, e1, e2]
  ·intro y hy
   rcases List.mem_append.1 hy with hy | hy
   ·exact h11 y hy
   ·rw [List.mem_singleton.1 hy]; exact hx
  ·rw [List.map_append]
   refine List.nodup_append.2 ⟨h12, by simp, ?_⟩
   intro a ha b hb e
   simp only [List.map_cons, List.map_nil, List.mem_singleton] at hb
   subst hb; subst e
   exact hnd ha
  ·refine ⟨?_, ?_, ?_, ?_, fun k _ hkn => hb1 k (fun e => hkn (by rw [e]))⟩
   ·rcases hw1 with rfl | rfl <;> rfl
   ·rcases hw1 with rfl | rfl <;> rfl
   ·rcases hw1 with rfl | rfl <;> rfl
   ·show w.heap.size ≤ (w1.heap.setIfInBounds r _).size
    simp [hsz1]
  ·show (w1.heap.setIfInBounds r _).size = _
   simp [hsz1]
  ·rw [hr, e1, e2]
  ·have := run_entry_at (P := P) (setBlock w1 r (.mapIter (some bm) since (seen.push e.born) clk)) r bm since seen es clk e hr1 (by rw [hb1 bm hne]; exact h1) he1 h2.2.1
   rw [this, e1, e2]
/-- What the loop's round leaves alone. -/
theorem RangeK.of {w' : World} (h : RangeK E f w r bm L done) (h1 : w'.heap[r]? = w.heap[r]?) (h2 : w'.heap[bm]? = w.heap[bm]?) : RangeK E f w' r bm L done := by
 obtain ⟨es, clk, since, seen, c0, D, e1, e2, e3, e4, h5⟩ := h
 exact ⟨es, clk, since, seen, c0, D, by rw [h2]; exact e1, e2, e3, by rw [h1]; exact e4, h5⟩
theorem RangeK.lt (h : RangeK E f w r bm L done) : r < w.heap.size ∧ bm < w.heap.size ∧ bm ≠ r := by
 obtain ⟨es, clk, since, seen, c0, D, e1, e2, e3, e4, h5⟩ := h
 exact ⟨lt_of_heap e4, lt_of_heap e1, fun e => by subst e; rw [e1] at e4; cases e4⟩
end
section
variable {κ : Type} [DecidableEq κ] {P : Program} {E : KEnc κ P} {α : Type} {f : α → κ × Value} {w : World} {ops : Array Oper} {rest : List Oper} {o : Oper} {a : Act} {Q : Exit → Act → World → Prop} {bm r : Nat} {L done : List α} {t et : TypeId}
theorem wpList_rangeK (hg : o.guard = none) (x : Operand) (hop : o.op = Op.range t x) (ht : P.underlying t = some (.map E.kt et)) (hx : a.eval x = .map (some bm)) (h : MapK E w bm (L.map f))
  (hK : ∀ o', RangeK E f (w.alloc o') w.heap.size bm L [] → wpList P ops Q rest (a.put o.dst (.pointer (some ⟨w.heap.size, 0, none⟩))) (w.alloc o')) : wpList P ops Q (o :: rest) a w := by
 refine wpList_plain hg fun K' hK' => ?_
 obtain ⟨o', hrun, h1⟩ := rangeK_at ht h
 unfold Oper.wp
 simp [execOp, hop, hx, hrun, Result.andThen]
 exact hK' _ _ (hK o' h1)
theorem wpList_nextK (hg : o.guard = none) (it : Operand) (hop : o.op = Op.next it false) (hit : a.eval it = .pointer (some ⟨r, 0, none⟩)) (h : RangeK E f w r bm L done)
  (hDone : done.Perm L → wpList P ops Q rest (a.put o.dst (.tuple #[.bool false])) w)
  (hMore : ∀ x w1, x ∈ L → (f x).1 ∉ done.map (fun x => (f x).1) → RangeK E f w1 r bm L (done ++ [x]) → w.grownBy w1 (some r) → w1.heap.size = w.heap.size → (Instr.entry (.pointer (some ⟨r, 0, none⟩))).run P w1 = .ok (.tuple #[E.enc (f x).1, (f x).2]) w1 →
   wpList P ops Q rest (a.put o.dst (.tuple #[.bool true, E.enc (f x).1, (f x).2])) w1) : wpList P ops Q (o :: rest) a w := by
 refine wpList_plain hg fun K' hK' => ?_
 unfold Oper.wp
 rcases h.next o.type with ⟨hp, hrun⟩ | ⟨x, hx, hn, w1, h1, h2, h3, hrun, hen⟩
 ·simp [execOp, hop, hit, hrun, Result.andThen]
  exact hK' _ _ (hDone hp)
 ·simp [execOp, hop, hit, hrun, Result.andThen]
  exact hK' _ _ (hMore x w1 hx hn h1 h2 h3 hen)
end
/-- Keys that are numbers. -/
theorem findNow_int : ∀ (k : Int) (es : List MapEntry) (m : List (Int × Value)) (i : Nat), es.map (fun e => (e.key, e.val)) = m.map (fun p => (Value.int .i64 p.1, p.2)) → Instr.findNow (.int .i64) (.int .i64 k) es i = some (ixK m k i)
 | _, [], [], _, _ => rfl
 | _, [], _ :: _, _, h => by simp at h
 | _, _ :: _, [], _, h => by simp at h
 | k, e :: es, p :: m, i, h => by
  simp only [List.map_cons, List.cons.injEq, Prod.mk.injEq] at h
  obtain ⟨⟨h1, h2⟩, h3⟩ := h
  simp only [Instr.findNow, h1, Instr.sameNow, ixK]
  by_cases hk : k = p.1
  ·subst hk; simp [h2]
  ·have hb : (k == p.1) = false := beq_false_of_ne hk
   simp [hb, hk, findNow_int k es m (i + 1) h3]
def intK (P : Program) (t : TypeId) (ht : P.underlying t = some (.int .i64)) : KEnc Int P where
 enc := fun n => .int .i64 n
 kt := t
 inj := fun h => by injection h
 find := fun k es m h w => by simp [Instr.findKey, run_underlying ht, Result.andThen, findNow_int k es m 0 h]
 check := fun em k w => by
  show Sem.run P (Instr.checkKey em (9999 + 1) t (.int .i64 k)) w = _
  unfold Instr.checkKey
  simp [run_underlying ht, Result.andThen]
 bits := fun k => by
  show Instr.sameBits (9999 + 1) (.int .i64 k) (.int .i64 k) = true
  unfold Instr.sameBits
  simp
end Go.Proofs.YtjoljfnlkddfbaaGreatDoor
