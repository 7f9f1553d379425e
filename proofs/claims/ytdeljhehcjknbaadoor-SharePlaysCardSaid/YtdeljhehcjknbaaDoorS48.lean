/- Ranging over a map keyed by strings, whose entries are laid by a list: the iterator in whatever block, the order whatever the tape says. -/
import Derived.Test.YtdeljhehcjknbaaDoorS47
import Derived.Maps.RangeWalk
import Derived.Deep.RegionLaw
namespace Go.Proofs.YtdeljhehcjknbaaDoor
open Go.RowKit Go.Maps Go.Sort Go.Lib Go.MapKept
open Go.ChangeMaps (setBlock)

/-- An iterator at block r over the map at bm, whose entries are those of L; those of `done` have come out. -/
def RangeAt {α : Type} (f : α → ByteArray × Value) (w : World) (r bm : Nat) (L done : List α) : Prop :=
  ∃ (es : Array MapEntry) (clk since : Nat) (seen : Array Nat) (c0 : Nat) (D : List MapEntry),
    w.heap[bm]? = some (.map es clk) ∧ Stamped es clk ∧ es.toList.map (fun e => (e.key, e.val)) = L.map (fun x => (Value.string (f x).1, (f x).2)) ∧
    w.heap[r]? = some (.mapIter (some bm) since seen c0) ∧ (∀ x ∈ es.toList, x.born < since) ∧ since ≤ c0 ∧ since ≤ clk ∧
    (∀ d ∈ D, d ∈ es.toList) ∧ D.map (·.born) = seen.toList ∧ D.map (fun e => (e.key, e.val)) = done.map (fun x => (Value.string (f x).1, (f x).2)) ∧
    (∀ x ∈ done, x ∈ L) ∧ (done.map fun x => (f x).1).Nodup

/-- How many entries the iterator at r has handed out. -/
def World.came (w : World) (r : Nat) : Nat := match w.heap[r]? with
  | some (.mapIter _ _ seen _) => seen.size
  | _ => 0

section
variable {α : Type} {f : α → ByteArray × Value} {w : World} {r bm : Nat} {L done : List α}

theorem RangeAt.came (h : RangeAt f w r bm L done) : World.came w r = done.length := by
  obtain ⟨es, clk, since, seen, c0, D, h1, h2, h3, h4, h5, h6, h7, h8, h9, h10, h11, h12⟩ := h
  unfold World.came
  rw [h4]
  have e1 := congrArg List.length h9
  have e2 := congrArg List.length h10
  simp at e1 e2
  simp; omega
theorem RangeAt.keys (h : RangeAt f w r bm L done) : (L.map fun x => (f x).1).Nodup := by
  obtain ⟨es, clk, since, seen, c0, D, h1, ⟨_, _, h2⟩, h3, _⟩ := h
  have : es.toList.map (·.key) = (L.map fun x => (f x).1).map Value.string := by
    have := congrArg (List.map Prod.fst) h3
    simpa [List.map_map, Function.comp_def] using this
  rw [this] at h2
  exact (List.pairwise_map.1 h2).imp fun hab e => hab (by rw [e])
theorem key_inj {x y : α} : ∀ {L : List α}, (L.map fun x => (f x).1).Nodup → x ∈ L → y ∈ L → (f x).1 = (f y).1 → x = y
  | z :: L, h, hx, hy, e => by
    simp only [List.map_cons, List.nodup_cons] at h
    rcases List.mem_cons.1 hx with e1 | hx1
    · rcases List.mem_cons.1 hy with e2 | hy1
      · rw [e1, e2]
      · exact absurd (List.mem_map.2 ⟨y, hy1, by rw [← e, e1]⟩) h.1
    · rcases List.mem_cons.1 hy with e2 | hy1
      · exact absurd (List.mem_map.2 ⟨x, hx1, by rw [e, e2]⟩) h.1
      · exact key_inj h.2 hx1 hy1 e
theorem RangeAt.le (h : RangeAt f w r bm L done) : done.length ≤ L.length := by
  have hk := h.keys
  obtain ⟨es, clk, since, seen, c0, D, h1, h2, h3, h4, h5, h6, h7, h8, h9, h10, h11, h12⟩ := h
  have hn : done.Nodup := (List.pairwise_map.1 h12).imp fun hab e => hab (by rw [e])
  exact hn.length_le_of_subset h11
/-- The loop's start. -/
theorem range_at {t kt et : TypeId} {P : Program} (ht : P.underlying t = some (.map kt et)) (h : MapIs w bm (L.map f)) :
    ∃ o, (Instr.range t (.map (some bm))).run P w = .ok (.pointer (some ⟨w.heap.size, 0, none⟩)) (w.alloc o) ∧ RangeAt f (w.alloc o) w.heap.size bm L [] := by
  obtain ⟨es, clk, hb, hs, he⟩ := h
  refine ⟨_, run_range_map w t kt et bm es clk ht hb, es, clk, clk, #[], clk, [], ?_, hs, by rw [he, List.map_map]; rfl, alloc_new _ _, fun x hx => hs.1 x hx, Nat.le_refl _, Nat.le_refl _, by simp, rfl, rfl, by simp, by simp⟩
  rw [heap_alloc_old _ _ (lt_of_heap hb)]; exact hb
/-- The loop's step. -/
theorem RangeAt.next {P : Program} (ty : TypeId) (h : RangeAt f w r bm L done) :
    (done.Perm L ∧ (Instr.next (.pointer (some ⟨r, 0, none⟩)) false ty).run P w = .ok (.tuple #[.bool false]) w) ∨
    ∃ x, x ∈ L ∧ (f x).1 ∉ done.map (fun x => (f x).1) ∧ ∃ w1, RangeAt f w1 r bm L (done ++ [x]) ∧ w.grownBy w1 (some r) ∧ w1.heap.size = w.heap.size ∧
      (Instr.next (.pointer (some ⟨r, 0, none⟩)) false ty).run P w = .ok (.tuple #[.bool true, .string (f x).1, (f x).2]) w1 ∧
      (Instr.entry (.pointer (some ⟨r, 0, none⟩))).run P w1 = .ok (.tuple #[.string (f x).1, (f x).2]) w1 := by
  have hk := h.keys
  obtain ⟨es, clk, since, seen, c0, D, h1, h2, h3, h4, h5, h6, h7, h8, h9, h10, h11, h12⟩ := h
  have hin : ∀ e ∈ es.toList, ∃ x ∈ L, e.key = .string (f x).1 ∧ e.val = (f x).2 := by
    intro e he
    have : (e.key, e.val) ∈ L.map (fun x => (Value.string (f x).1, (f x).2)) := by rw [← h3]; exact List.mem_map.2 ⟨e, he, rfl⟩
    obtain ⟨x, hx, hxe⟩ := List.mem_map.1 this
    simp only [Prod.mk.injEq] at hxe
    exact ⟨x, hx, hxe.1.symm, hxe.2.symm⟩
  have hout : ∀ x ∈ L, ∃ e ∈ es.toList, e.key = .string (f x).1 ∧ e.val = (f x).2 := by
    intro x hx
    have : (Value.string (f x).1, (f x).2) ∈ es.toList.map (fun e => (e.key, e.val)) := by rw [h3]; exact List.mem_map.2 ⟨x, hx, rfl⟩
    obtain ⟨e, he, hxe⟩ := List.mem_map.1 this
    simp only [Prod.mk.injEq] at hxe
    exact ⟨e, he, hxe.1, hxe.2⟩
  have hn : done.Nodup := (List.pairwise_map.1 h12).imp fun hab e => hab (by rw [e])
  have hLn : L.Nodup := (List.pairwise_map.1 hk).imp fun hab e => hab (by rw [e])
  rcases run_next_at (P := P) w ty r bm since c0 seen es clk h4 h1 h5 h6 with ⟨h0, hr⟩ | ⟨e, he, w1, hw1, hr⟩
  · refine Or.inl ⟨(List.perm_ext_iff_of_nodup hn hLn).2 fun x => ⟨h11 x, fun hx => ?_⟩, hr⟩
    obtain ⟨e, he, e1, e2⟩ := hout x hx
    have hse := all_seen es seen h0 e he
    have hmem : e.born ∈ D.map (·.born) := by rw [h9]; exact Array.mem_toList_iff.2 (Array.contains_iff_mem.1 hse)
    obtain ⟨d, hd, hdb⟩ := List.mem_map.1 hmem
    have hde : d = e := born_inj h2.2.1 (h8 d hd) he hdb
    subst hde
    have : (d.key, d.val) ∈ done.map (fun x => (Value.string (f x).1, (f x).2)) := by rw [← h10]; exact List.mem_map.2 ⟨d, hd, rfl⟩
    obtain ⟨y, hy, hye⟩ := List.mem_map.1 this
    simp only [Prod.mk.injEq] at hye
    have : (f y).1 = (f x).1 := by
      have := hye.1.trans e1
      simpa using this
    rw [← key_inj hk (h11 y hy) hx this]
    exact hy
  · obtain ⟨he1, he2⟩ := mem_left he
    obtain ⟨x, hx, e1, e2⟩ := hin e he1
    have hb1 : ∀ k, k ≠ r → (setBlock w1 r (.mapIter (some bm) since (seen.push e.born) clk)).heap[k]? = w.heap[k]? := by
      intro k hkr
      show (w1.heap.setIfInBounds r _)[k]? = _
      rw [Array.getElem?_setIfInBounds, if_neg (fun e => hkr e.symm)]
      rcases hw1 with rfl | rfl <;> rfl
    have hsz1 : w1.heap.size = w.heap.size := by rcases hw1 with rfl | rfl <;> rfl
    have hr1 : (setBlock w1 r (.mapIter (some bm) since (seen.push e.born) clk)).heap[r]? = some (.mapIter (some bm) since (seen.push e.born) clk) := by
      show (w1.heap.setIfInBounds r _)[r]? = _
      rw [Array.getElem?_setIfInBounds, if_pos rfl, if_pos (by rw [hsz1]; exact lt_of_heap h4)]
    have hne : bm ≠ r := by
      intro e; subst e; rw [h1] at h4; cases h4
    have hnd : (f x).1 ∉ done.map (fun x => (f x).1) := by
      intro hmem
      obtain ⟨y, hy, hye⟩ := List.mem_map.1 hmem
      have hyx := key_inj hk (h11 y hy) hx hye
      subst hyx
      have : (Value.string (f y).1, (f y).2) ∈ D.map (fun e => (e.key, e.val)) := by rw [h10]; exact List.mem_map.2 ⟨y, hy, rfl⟩
      obtain ⟨d, hd, hde⟩ := List.mem_map.1 this
      simp only [Prod.mk.injEq] at hde
      have hdk : d = e := by
        have h23 := h2.2.2
        have hinj : ∀ {l : List MapEntry}, (l.map (·.key)).Nodup → ∀ {a b : MapEntry}, a ∈ l → b ∈ l → a.key = b.key → a = b := by
          intro l
          induction l with
          | nil => intro _ a b ha; cases ha
          | cons z l ih =>
            intro h a b ha hb e
            simp only [List.map_cons, List.nodup_cons] at h
            rcases List.mem_cons.1 ha with e1 | ha1
            · rcases List.mem_cons.1 hb with e2 | hb2
              · rw [e1, e2]
              · exact absurd (List.mem_map.2 ⟨b, hb2, by rw [← e, e1]⟩) h.1
            · rcases List.mem_cons.1 hb with e2 | hb2
              · exact absurd (List.mem_map.2 ⟨a, ha1, by rw [e, e2]⟩) h.1
              · exact ih h.2 ha1 hb2 e
        exact hinj h23 (h8 d hd) he1 (by rw [hde.1, e1])
      subst hdk
      have : d.born ∈ D.map (·.born) := List.mem_map.2 ⟨d, hd, rfl⟩
      rw [h9] at this
      have := Array.contains_iff_mem.2 (Array.mem_toList_iff.1 this)
      rw [he2] at this; cases this
    refine Or.inr ⟨x, hx, hnd, setBlock w1 r (.mapIter (some bm) since (seen.push e.born) clk), ⟨es, clk, since, seen.push e.born, clk, D ++ [e], by rw [hb1 bm hne]; exact h1, h2, h3, hr1, h5, h7, h7, ?_, ?_, ?_, ?_, ?_⟩, ?_, ?_, ?_, ?_⟩
    · intro d hd
      rcases List.mem_append.1 hd with hd | hd
      · exact h8 d hd
      · rw [List.mem_singleton.1 hd]; exact he1
    · simp [h9]
    · simp [h10, e1, e2]
    · intro y hy
      rcases List.mem_append.1 hy with hy | hy
      · exact h11 y hy
      · rw [List.mem_singleton.1 hy]; exact hx
    · rw [List.map_append]
      refine List.nodup_append.2 ⟨h12, by simp, ?_⟩
      intro a ha b hb e
      simp only [List.map_cons, List.map_nil, List.mem_singleton] at hb
      subst hb; subst e
      exact hnd ha
    · refine ⟨?_, ?_, ?_, ?_, fun k _ hkn => hb1 k (fun e => hkn (by rw [e]))⟩
      · rcases hw1 with rfl | rfl <;> rfl
      · rcases hw1 with rfl | rfl <;> rfl
      · rcases hw1 with rfl | rfl <;> rfl
      · show w.heap.size ≤ (w1.heap.setIfInBounds r _).size
        simp [hsz1]
    · show (w1.heap.setIfInBounds r _).size = _
      simp [hsz1]
    · rw [hr, e1, e2]
    · have := run_entry_at (P := P) (setBlock w1 r (.mapIter (some bm) since (seen.push e.born) clk)) r bm since seen es clk e hr1 (by rw [hb1 bm hne]; exact h1) he1 h2.2.1
      rw [this, e1, e2]
/-- What the loop's round leaves alone. -/
theorem RangeAt.of {w' : World} (h : RangeAt f w r bm L done) (h1 : w'.heap[r]? = w.heap[r]?) (h2 : w'.heap[bm]? = w.heap[bm]?) : RangeAt f w' r bm L done := by
  obtain ⟨es, clk, since, seen, c0, D, e1, e2, e3, e4, h5⟩ := h
  exact ⟨es, clk, since, seen, c0, D, by rw [h2]; exact e1, e2, e3, by rw [h1]; exact e4, h5⟩
theorem RangeAt.lt (h : RangeAt f w r bm L done) : r < w.heap.size ∧ bm < w.heap.size ∧ bm ≠ r := by
  obtain ⟨es, clk, since, seen, c0, D, e1, e2, e3, e4, h5⟩ := h
  exact ⟨lt_of_heap e4, lt_of_heap e1, fun e => by subst e; rw [e1] at e4; cases e4⟩
end
section
variable {α : Type} {f : α → ByteArray × Value} {P : Program} {w : World} {ops : Array Oper} {rest : List Oper} {o : Oper} {a : Act} {Q : Exit → Act → World → Prop} {bm r : Nat} {L done : List α} {t kt et : TypeId}
theorem wpList_rangeS (hg : o.guard = none) (x : Operand) (hop : o.op = Op.range t x) (ht : P.underlying t = some (.map kt et)) (hx : a.eval x = .map (some bm)) (h : MapIs w bm (L.map f))
    (hK : ∀ o', RangeAt f (w.alloc o') w.heap.size bm L [] → wpList P ops Q rest (a.put o.dst (.pointer (some ⟨w.heap.size, 0, none⟩))) (w.alloc o')) : wpList P ops Q (o :: rest) a w := by
  refine wpList_plain hg fun K' hK' => ?_
  obtain ⟨o', hrun, h1⟩ := range_at (P := P) ht h
  unfold Oper.wp
  simp [execOp, hop, hx, hrun, Result.andThen]
  exact hK' _ _ (hK o' h1)
theorem wpList_nextS (hg : o.guard = none) (it : Operand) (hop : o.op = Op.next it false) (hit : a.eval it = .pointer (some ⟨r, 0, none⟩)) (h : RangeAt f w r bm L done)
    (hDone : done.Perm L → wpList P ops Q rest (a.put o.dst (.tuple #[.bool false])) w)
    (hMore : ∀ x w1, x ∈ L → (f x).1 ∉ done.map (fun x => (f x).1) → RangeAt f w1 r bm L (done ++ [x]) → w.grownBy w1 (some r) → w1.heap.size = w.heap.size → (Instr.entry (.pointer (some ⟨r, 0, none⟩))).run P w1 = .ok (.tuple #[.string (f x).1, (f x).2]) w1 →
      wpList P ops Q rest (a.put o.dst (.tuple #[.bool true, .string (f x).1, (f x).2])) w1) : wpList P ops Q (o :: rest) a w := by
  refine wpList_plain hg fun K' hK' => ?_
  unfold Oper.wp
  rcases h.next (P := P) o.type with ⟨hp, hrun⟩ | ⟨x, hx, hn, w1, h1, h2, h3, hrun, hen⟩
  · simp [execOp, hop, hit, hrun, Result.andThen]
    exact hK' _ _ (hDone hp)
  · simp [execOp, hop, hit, hrun, Result.andThen]
    exact hK' _ _ (hMore x w1 hx hn h1 h2 h3 hen)
end
theorem step_updS {P : Program} {w : World} {ops : Array Oper} {o : Oper} {a : Act} {K : Act → World → Prop} {Q : Exit → Act → World → Prop} {E : Prop} {r : Nat} {m : List (ByteArray × Value)} {t kt et : TypeId} (hgd : o.guard = none) (x k v : Operand) (hop : o.op = Op.mapUpdate t x k v) (ht : P.underlying t = some (.map kt et)) (hk : P.underlying kt = some .string)
    (hx : a.eval x = .map (some r)) (hm : MapIs w r m) (key : ByteArray) (hkey : a.eval k = .string key) (val : Value) (hval : a.eval v = val)
    (h : ∀ w', MapIs w' r (putA m key val) → w.grownBy w' (some r) → K (a.put o.dst undef) w') :
    if Region.wanted o (yielded ops a.tmps) = true then Oper.wp P o a w K Q else E := by
  have hw : Region.wanted o (yielded ops a.tmps) = true := by simp [Region.wanted, hgd]
  rw [if_pos hw]
  obtain ⟨w', hrun, h1, h2⟩ := hm.update ht hk key val
  unfold Oper.wp
  simp [execOp, hop, hx, hkey, hval, hrun, Result.andThen]
  exact h w' h1 h2
end Go.Proofs.YtdeljhehcjknbaaDoor
