/- Rows of memory whose elements are alike: without a program in sight. -/
import Derived.Test.YtjlhdgmcaiiagaaGreatDoorSet3
namespace Go.Proofs.YtjlhdgmcaiiagaaGreatDoor
open Go.RowKit Go.Maps Go.Sort Go.Shelf

/-- How the elements of a row are laid: k cells each. -/
structure Enc (α : Type) where
  enc : α → List Value
  k : Nat
  T : TypeId
  pos : 0 < k
  len : ∀ x, (enc x).length = k
  one : ∀ x, ∀ u ∈ enc x, u.oneCell' = true
section
variable {α : Type} (E : Enc α)
def Enc.flat (l : List α) : List Value := l.flatMap E.enc
theorem Enc.flat_append (l m : List α) : E.flat (l ++ m) = E.flat l ++ E.flat m := List.flatMap_append
theorem Enc.flat_one_elt (x : α) : E.flat [x] = E.enc x := by simp [Enc.flat]
theorem Enc.flat_len (l : List α) : (E.flat l).length = l.length * E.k := by
  unfold Enc.flat
  induction l with
  | nil => simp
  | cons x l ih => rw [List.flatMap_cons, List.length_append, ih, E.len, List.length_cons, Nat.add_mul, Nat.one_mul, Nat.add_comm]
theorem Enc.flat_get (l : List α) (i : Nat) (h : i < l.length) (j : Nat) (hj : j < E.k) : (E.flat l)[i * E.k + j]? = (E.enc l[i])[j]? := by
  have e : l = l.take i ++ l[i] :: l.drop (i + 1) := by rw [List.getElem_cons_drop, List.take_append_drop]
  have e2 : E.flat l = E.flat (l.take i) ++ (E.enc l[i] ++ E.flat (l.drop (i + 1))) := by
    conv => lhs; rw [e]
    rw [E.flat_append]; rfl
  have e3 : (E.flat (l.take i)).length = i * E.k := by rw [E.flat_len, List.length_take]; congr 1; omega
  rw [e2, List.getElem?_append_right (by omega), e3, Nat.add_sub_cancel_left, List.getElem?_append_left (by rw [E.len]; exact hj)]
theorem Enc.flat_one (l : List α) : ∀ u ∈ E.flat l, u.oneCell' = true := by
  intro u hu
  obtain ⟨x, _, hx⟩ := List.mem_flatMap.1 hu
  exact E.one x u hx
theorem Enc.lt {l : List α} {i j : Nat} (h : i < l.length) (hj : j < E.k) : i * E.k + j < l.length * E.k := by
  have : (i + 1) * E.k ≤ l.length * E.k := Nat.mul_le_mul_right _ h
  rw [Nat.add_mul, Nat.one_mul] at this
  omega
theorem Enc.flat_set (l : List α) (i : Nat) (h : i < l.length) (x : α) (t : Nat) : (E.flat (l.set i x))[t]? = if i * E.k ≤ t ∧ t < i * E.k + E.k then (E.enc x)[t - i * E.k]? else (E.flat l)[t]? := by
  have e : l = l.take i ++ l[i] :: l.drop (i + 1) := by rw [List.getElem_cons_drop, List.take_append_drop]
  have e2 : E.flat l = E.flat (l.take i) ++ (E.enc l[i] ++ E.flat (l.drop (i + 1))) := by
    conv => lhs; rw [e]
    rw [E.flat_append]; rfl
  have e4 : E.flat (l.set i x) = E.flat (l.take i) ++ (E.enc x ++ E.flat (l.drop (i + 1))) := by
    rw [List.set_eq_take_append_cons_drop, if_pos h, E.flat_append]; rfl
  have e3 : (E.flat (l.take i)).length = i * E.k := by rw [E.flat_len, List.length_take]; congr 1; omega
  rw [e2, e4]
  have n1 := E.len x
  have n2 := E.len l[i]
  split
  · rename_i ht
    rw [List.getElem?_append_right (by omega), e3, List.getElem?_append_left (by omega)]
  · rename_i ht
    rcases Nat.lt_or_ge t (i * E.k) with h1 | h1
    · rw [List.getElem?_append_left (by omega), List.getElem?_append_left (by omega)]
    · rw [List.getElem?_append_right (by omega), List.getElem?_append_right (by omega), List.getElem?_append_right (by omega), List.getElem?_append_right (by omega), n1, n2]
theorem Enc.flat_take (l : List α) (m t : Nat) (ht : t < m * E.k) : (E.flat (l.take m))[t]? = (E.flat l)[t]? := by
  rcases Nat.lt_or_ge m l.length with h | h
  · have e2 : E.flat l = E.flat (l.take m) ++ E.flat (l.drop m) := by rw [← E.flat_append, List.take_append_drop]
    rw [e2, List.getElem?_append_left (by rw [E.flat_len, List.length_take, Nat.min_eq_left (by omega)]; exact ht)]
  · rw [List.take_of_length_le h]

/-- The slice v holds the elements l, in a block that was laid at base or later. -/
def Enc.Row (base : Nat) (w : World) (v : Value) (l : List α) : Prop := w.ownsRow base E.T E.k v l.length (E.flat l)
variable {E}
theorem Enc.Row.nil (base : Nat) (w : World) : E.Row base w (.slice none 0 0) [] := World.ownsRow_nil _ _ _ _
theorem Enc.Row.below {base : Nat} {w w' : World} {v : Value} {l : List α} (h : E.Row base w v l) (hb : Below w.heap.size w w') : E.Row base w' v l := row_below h hb
theorem Enc.Row.mono {base base' : Nat} {w : World} {v : Value} {l : List α} (h : E.Row base w v l) (hb : base' ≤ base) : E.Row base' w v l := row_mono h hb
theorem Enc.Row.stay {base : Nat} {w w' : World} {v : Value} {l : List α} (h : E.Row base w v l) (hb : ∀ k, v.ownBlock = some k → w'.heap[k]? = w.heap[k]?) : E.Row base w' v l := row_stay h hb
theorem Enc.Row.src {base : Nat} {w : World} {v : Value} {l : List α} (h : E.Row base w v l) : SrcIs w v l.length (E.flat l) := row_src h
theorem Enc.Row.slice {base : Nat} {w : World} {v : Value} {l : List α} (h : E.Row base w v l) : ∃ a c, v = .slice a l.length c := by
  obtain ⟨_, ⟨h1, h2⟩ | ⟨g, cap, cur, h1, _⟩⟩ := h
  · exact ⟨none, 0, by rw [h1, h2]⟩
  · exact ⟨_, _, h1⟩
theorem Enc.Row.le {base : Nat} {w : World} {v : Value} {l : List α} (h : E.Row base w v l) : l.length ≤ maxLen := by
  obtain ⟨_, ⟨h1, h2⟩ | ⟨g, cap, cur, h1, _, _, h3, h4, _⟩⟩ := h
  · omega
  · omega
theorem Enc.Row.lt {base : Nat} {w : World} {v : Value} {l : List α} (h : E.Row base w v l) : ∀ k, v.ownBlock = some k → base ≤ k ∧ k < w.heap.size := fun k hk => World.ownsRow.lt h k hk

/-- The elements d stand in the block g from its head on. -/
def Enc.In (E : Enc α) (w : World) (g cap : Nat) (d : List α) : Prop := ∃ C, w.heap[g]? = some (.cells C E.T) ∧ C.size = cap * E.k ∧ d.length ≤ cap ∧ cap ≤ maxLen ∧ ∀ t, t < d.length * E.k → C[t]? = (E.flat d)[t]?
theorem Enc.In.cell {w : World} {g cap : Nat} {d : List α} (h : E.In w g cap d) (i : Nat) (hi : i < d.length) (j : Nat) (hj : j < E.k) : w.cell? ⟨g, i * E.k + j, none⟩ = (E.enc d[i])[j]? := by
  obtain ⟨C, h1, _, _, _, h5⟩ := h
  rw [cell0 h1, h5 _ (E.lt hi hj), E.flat_get d i hi j hj]
theorem Enc.In.gl {w : World} {g cap : Nat} {d : List α} (h : E.In w g cap d) : g < w.heap.size := by
  obtain ⟨C, h1, _⟩ := h
  exact lt_of_heap h1
theorem Enc.In.own {w : World} {g cap base : Nat} {d : List α} (h : E.In w g cap d) (hb : base ≤ g) : E.Row base w (.slice (some ⟨g, 0, none⟩) d.length cap) d := by
  obtain ⟨C, h1, h2, h3, h4, h5⟩ := h
  refine ⟨E.flat_len d, Or.inr ⟨g, cap, C, rfl, hb, h1, h3, h4, h2, ?_⟩⟩
  apply List.ext_getElem?
  intro t
  rw [List.getElem?_take]
  split
  · rename_i ht
    rw [Array.getElem?_toList, h5 t ht]
  · rename_i ht
    rw [List.getElem?_eq_none (by rw [E.flat_len]; omega)]
theorem Enc.Row.at {w : World} {g cap base n : Nat} {d : List α} (h : E.Row base w (.slice (some ⟨g, 0, none⟩) n cap) d) : E.In w g cap d ∧ base ≤ g ∧ d.length = n := by
  obtain ⟨_, ⟨hv, _⟩ | ⟨g', cap', cur, hv, hg, hb, h1, h2, h3, h4⟩⟩ := h
  · cases hv
  · cases hv
    refine ⟨⟨cur, hb, h3, h1, h2, fun t ht => ?_⟩, hg, rfl⟩
    rw [← h4, List.getElem?_take, if_pos ht, Array.getElem?_toList]
theorem Enc.Row.some {w : World} {base : Nat} {v : Value} {d : List α} (h : E.Row base w v d) (hn : d ≠ []) : ∃ g cap, v = .slice (some ⟨g, 0, none⟩) d.length cap ∧ E.In w g cap d ∧ base ≤ g := by
  obtain ⟨_, ⟨hv, h0⟩ | ⟨g, cap, cur, hv, _⟩⟩ := id h
  · exact absurd (List.eq_nil_of_length_eq_zero h0) hn
  · subst hv
    obtain ⟨h1, h2, _⟩ := h.at
    exact ⟨g, cap, rfl, h1, h2⟩
theorem Enc.In.froz {w : World} {g cap : Nat} {d : List α} (h : E.In w g cap d) (i : Nat) : w.frozen? ⟨g, i, none⟩ = false := by
  obtain ⟨C, h1, _⟩ := h
  exact froz0 h1 i
theorem Enc.In.of_heap {w w' : World} {g cap : Nat} {d : List α} (h : E.In w g cap d) (hb : w'.heap[g]? = w.heap[g]?) : E.In w' g cap d := by
  obtain ⟨C, h1, h2⟩ := h
  exact ⟨C, by rw [hb]; exact h1, h2⟩
theorem Enc.In.take {w : World} {g cap : Nat} {d : List α} (h : E.In w g cap d) (m : Nat) : E.In w g cap (d.take m) := by
  obtain ⟨C, h1, h2, h3, h4, h5⟩ := h
  refine ⟨C, h1, h2, by rw [List.length_take]; omega, h4, fun t ht => ?_⟩
  have h6 : (d.take m).length ≤ m := by rw [List.length_take]; omega
  have h7 : (d.take m).length ≤ d.length := by rw [List.length_take]; omega
  rw [h5 t (Nat.lt_of_lt_of_le ht (Nat.mul_le_mul_right _ h7)), E.flat_take d m t (Nat.lt_of_lt_of_le ht (Nat.mul_le_mul_right _ h6))]
theorem setCells_get {T : TypeId} {fz : Nat × Nat} : ∀ (vs : List Value) (w : World) (g o : Nat) (C : Array Value), w.heap[g]? = some (.cells C T fz) → o + vs.length ≤ C.size → ∃ C', (w.setCells g o vs).heap[g]? = some (.cells C' T fz) ∧ C'.size = C.size ∧ ∀ t, C'[t]? = if o ≤ t ∧ t < o + vs.length then vs[t - o]? else C[t]?
  | [], _, _, o, C, h, _ => ⟨C, h, rfl, fun t => by rw [if_neg (by simp)]⟩
  | v :: r, w, g, o, C, h, hl => by
    simp only [List.length_cons] at hl
    obtain ⟨C', h1, h2, h3⟩ := setCells_get r (w.setCell ⟨g, o, none⟩ v) g (o + 1) _ (setCell_same h o v) (by simp; omega)
    refine ⟨C', h1, by rw [h2]; simp, fun t => ?_⟩
    rw [h3 t]
    by_cases e : t = o
    · subst e
      rw [if_neg (by omega), if_pos (by simp), Array.getElem?_setIfInBounds_self_of_lt (by omega)]
      simp
    · by_cases e2 : o + 1 ≤ t ∧ t < o + 1 + r.length
      · rw [if_pos e2, if_pos (by simp only [List.length_cons]; omega), show t - o = (t - (o + 1)) + 1 by omega]
        rfl
      · rw [if_neg e2, if_neg (by simp only [List.length_cons]; omega), Array.getElem?_setIfInBounds_ne (by omega)]
/-- A store of one element. -/
theorem Enc.In.set {w : World} {g cap : Nat} {d : List α} (h : E.In w g cap d) (i : Nat) (hi : i < d.length) (x : α) : E.In (w.setCells g (i * E.k) (E.enc x)) g cap (d.set i x) := by
  obtain ⟨C, h1, h2, h3, h4, h5⟩ := h
  have hil : (i + 1) * E.k ≤ cap * E.k := Nat.mul_le_mul_right _ (by omega)
  rw [Nat.add_mul, Nat.one_mul] at hil
  obtain ⟨C', a1, a2, a3⟩ := setCells_get (E.enc x) w g (i * E.k) C h1 (by rw [E.len]; omega)
  refine ⟨C', a1, by rw [a2, h2], by simpa using h3, h4, fun t ht => ?_⟩
  rw [a3 t, E.flat_set d i hi x t, E.len, h5 t (by simpa using ht)]
theorem zeroCells_one {z : Value} (hz : ∀ u ∈ z.cells.toList, u.oneCell' = true) (hp : 0 < z.cells.size) (m : Nat) : (Builtin.zeroCells z.cells m).toList.length = m * z.cells.size ∧ ∀ v ∈ (Builtin.zeroCells z.cells m).toList, v.oneCell' = true := by
  refine ⟨by simp [Builtin.zeroCells], fun v hv => ?_⟩
  simp only [Builtin.zeroCells, Array.toList_map, List.mem_map] at hv
  obtain ⟨i, _, rfl⟩ := hv
  have hlt : i % z.cells.size < z.cells.size := Nat.mod_lt _ hp
  rw [getElem!_pos z.cells _ hlt]
  exact hz _ (by simp)
/-- clear from place m on. -/
theorem Enc.In.clear {P : Program} {w : World} {g cap : Nat} {d : List α} (h : E.In w g cap d) (m n : Nat) (hmd : m ≤ d.length) (hm : m ≤ n) (hn : n ≤ cap) (t : TypeId) (z : Value) (ht : P.underlying t = some (.slice E.T)) (hz : ∀ w, (zeroValue E.T).run P w = .ok z w) (hk : z.cells.size = E.k) (h1z : ∀ u ∈ z.cells.toList, u.oneCell' = true) :
    ∃ w', (∀ ty c, (Builtin.clear_ #[t] ty #[.slice (some ⟨g, m * E.k, none⟩) (n - m) c]).run P w = .ok (.tuple #[]) w') ∧ E.In w' g cap (d.take m) ∧ (∀ B w0, B ≤ g → Below B w0 w → Below B w0 w') ∧ w'.heap.size = w.heap.size ∧ ∀ b, b ≠ g → w'.heap[b]? = w.heap[b]? := by
  have h0 := h
  obtain ⟨C, h1, h2, h3, h4, h5⟩ := h
  obtain ⟨z1, z2⟩ := zeroCells_one h1z (by rw [hk]; exact E.pos) (n - m)
  rw [hk] at z1
  have hle : m * E.k + (n - m) * E.k ≤ cap * E.k := by rw [← Nat.add_mul]; exact Nat.mul_le_mul_right _ (by omega)
  obtain ⟨C', a1, a2, a3⟩ := setCells_get (Builtin.zeroCells z.cells (n - m)).toList w g (m * E.k) C h1 (by rw [z1]; omega)
  have hot : ∀ (vs : List Value) (w : World) (o : Nat), (w.setCells g o vs).heap.size = w.heap.size ∧ ∀ b, b ≠ g → (w.setCells g o vs).heap[b]? = w.heap[b]? := by
    intro vs
    induction vs with
    | nil => intro w o; exact ⟨rfl, fun _ _ => rfl⟩
    | cons v r ih =>
      intro w o
      obtain ⟨i1, i2⟩ := ih (w.setCell ⟨g, o, none⟩ v) (o + 1)
      refine ⟨by rw [← setCell_size w ⟨g, o, none⟩ v]; exact i1, fun b hb => ?_⟩
      have e : (w.setCells g o (v :: r)).heap[b]? = (w.setCell ⟨g, o, none⟩ v).heap[b]? := i2 b hb
      rw [e]
      simp only [World.setCell]
      rw [Array.getElem?_modify, if_neg (fun e => hb e.symm)]
  obtain ⟨o1, o2⟩ := hot (Builtin.zeroCells z.cells (n - m)).toList w (m * E.k)
  refine ⟨_, fun ty c => run_clear_n w ty t E.T z g (m * E.k) c (n - m) ht hz (fun j hj => ?_) (fun j _ => h0.froz _) z2, ⟨C', a1, by rw [a2, h2], by rw [List.length_take]; omega, h4, fun t ht => ?_⟩, fun B w0 hB hb => setCells_below _ w0 w B g _ hB hb, o1, o2⟩
  · rw [cell0 h1, Array.getElem?_eq_getElem (by rw [h2]; omega)]; rfl
  · have h6 : (d.take m).length = m := by rw [List.length_take]; omega
    rw [h6] at ht
    have h7 : m * E.k ≤ d.length * E.k := Nat.mul_le_mul_right _ (by omega)
    rw [a3 t, if_neg (by omega), h5 t (by omega), E.flat_take d m t ht]
theorem Enc.In.holds [Inhabited α] {w : World} {g cap : Nat} {d : List α} (h : E.In w g cap d) : HoldsK E.enc E.k w g 0 d.toArray := by
  have h0 := h
  obtain ⟨C, h1, h2, h3, h4, h5⟩ := h
  intro t ht
  have ht2 := ht
  rw [size_flatK] at ht
  simp at ht
  have hp := E.pos
  have hd : t / E.k < d.length := (Nat.div_lt_iff_lt_mul hp).2 ht
  have hm : t % E.k < E.k := Nat.mod_lt _ hp
  have e : d.toArray[t / E.k]! = d[t / E.k] := by rw [getElem!_pos d.toArray (t / E.k) (by simpa using hd)]; simp
  have et : t / E.k * E.k + t % E.k = t := by rw [Nat.mul_comm]; exact Nat.div_add_mod t E.k
  refine ⟨?_, h0.froz _⟩
  have h6 := E.flat_get d (t / E.k) hd (t % E.k) hm
  rw [et] at h6
  rw [cell0 h1, Nat.zero_add, get_flatK _ _ _ _ (by rw [size_flatK] at ht2; exact ht2), e, h5 t ht, h6]
  rw [List.getElem?_eq_getElem (by rw [E.len]; exact hm)]
  simp [List.getElem?_eq_getElem (show t % E.k < (E.enc d[t / E.k]).length by rw [E.len]; exact hm)]
theorem Enc.In.sorted [Inhabited α] {w : World} {g cap : Nat} {d : List α} (h : E.In w g cap d) (d2 : List α) (hl : d2.length = d.length) (n : Nat) (os : Array Obj) :
    E.In (sortWorldK E.enc E.k w g 0 n d2.toArray os) g cap d2 := by
  obtain ⟨C, h1, h2, h3, h4, h5⟩ := h
  have hcap : d2.length * E.k ≤ cap * E.k := Nat.mul_le_mul_right _ (by omega)
  refine ⟨_, (heap_sorted h1 E.enc E.k n 0 d2.toArray os).1, by simp [putCells, h2], by omega, h4, fun t ht => ?_⟩
  have hp := E.pos
  have hd : t / E.k < d2.length := (Nat.div_lt_iff_lt_mul hp).2 ht
  have hm : t % E.k < E.k := Nat.mod_lt _ hp
  have et : t / E.k * E.k + t % E.k = t := by rw [Nat.mul_comm]; exact Nat.div_add_mod t E.k
  have h6 := E.flat_get d2 (t / E.k) hd (t % E.k) hm
  rw [et] at h6
  unfold putCells
  rw [Array.getElem?_mapIdx, Array.getElem?_eq_getElem (by omega)]
  simp only [Option.map_some]
  rw [if_pos ⟨Nat.zero_le _, by simp; omega⟩]
  have e : d2.toArray[t / E.k]! = d2[t / E.k] := by rw [getElem!_pos d2.toArray (t / E.k) (by simpa using hd)]; simp
  rw [Nat.sub_zero, id, get_flatK _ _ _ _ (by simp; omega), e, h6]
  rw [List.getElem?_eq_getElem (by rw [E.len]; exact hm)]
  simp [List.getElem?_eq_getElem (show t % E.k < (E.enc d2[t / E.k]).length by rw [E.len]; exact hm)]

/-- append to a row. -/
theorem wpList_row {P : Program} {w : World} {ops : Array Oper} {rest : List Oper} {o : Oper} {a : Act} {Q : Exit → Act → World → Prop} (hgd : o.guard = none) (s x : Operand) (t : TypeId)
    (ho : o.op = .call { callee := .builtin .append, args := #[s, x], argTypes := #[t, t] })
    (E : Enc α) (base : Nat) (z : Value) (bytes : Nat) (ht : P.underlying t = some (.slice E.T)) (hI : (P.info? E.T).map (fun i => (i.zero, i.size, i.bytes)) = some (some z, E.k, bytes)) (hzs : z.cells.size = E.k) (hby : bytes ≤ 1000)
    (v : Value) (l : List α) (hs : a.eval s = v) (hown : E.Row base w v l)
    (src : Value) (news : List α) (hx : a.eval x = src) (hsrc : SrcIs w src news.length (E.flat news))
    (h63 : l.length + news.length ≤ 10000000000) (hbase : base ≤ w.heap.size)
    (h : ∀ v' w', E.Row base w' v' (l ++ news) → w.grownBy w' v.ownBlock → wpList P ops Q rest (a.put o.dst v') w') : wpList P ops Q (o :: rest) a w := by
  obtain ⟨i, i1, i2, i3, i4⟩ := info_parts hI
  refine wpList_append_src hgd s x t ho base E.T i z E.k bytes ht i1 i2 i3 i4 hzs E.pos v l.length (E.flat l) hs hown src news.length (E.flat news) hx hsrc (E.flat_len _) (E.flat_one _) (by unfold maxLen; omega) ?_ hbase ?_
  · have : (l.length + news.length) * bytes ≤ 10000000000 * 1000 := Nat.mul_le_mul h63 hby
    omega
  · intro v' w' h1 h2 _
    refine h v' w' ?_ h2
    unfold Enc.Row
    rw [List.length_append, E.flat_append]
    exact h1
end
end Go.Proofs.YtjlhdgmcaiiagaaGreatDoor
