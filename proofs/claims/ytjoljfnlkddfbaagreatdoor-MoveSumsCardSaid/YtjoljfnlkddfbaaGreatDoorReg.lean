/- A rule for drawn regions: the first n operations keep an invariant. -/
import Derived.Test.YtjoljfnlkddfbaaGreatDoorBase
import Derived.Lib.Hide
import Derived.Handy
import Derived.Deep.QuietTactic
import Derived.BigQuiet
import Derived.WalkSmall
import Derived.Laws.AppendOwn
import Derived.Laws.OwnMore
import Derived.Deep.RegionLaw
import Derived.Deep.RegionHeld3
import Derived.Deep.AppendLies
import Derived.Maps.AppendAt
import Derived.Deep.CutRange
import Derived.Deep.Cut
namespace Go.Proofs.YtjoljfnlkddfbaaGreatDoor
open Go.RowKit Go.Maps Go.Lib

theorem lt_of_heap {w : World} {b : Nat} {o : Obj} (h : w.heap[b]? = some o) : b < w.heap.size := by
  rcases Nat.lt_or_ge b w.heap.size with h' | h'
  · exact h'
  · rw [Array.getElem?_eq_none h'] at h; cases h

theorem cell0 {w : World} {b : Nat} {c : Array Value} {T : TypeId} (h : w.heap[b]? = some (.cells c T)) (i : Nat) : w.cell? ⟨b, i, none⟩ = c[i]? := by
  unfold World.cell?; rw [h]; rfl

theorem froz0 {w : World} {b : Nat} {c : Array Value} {T : TypeId} (h : w.heap[b]? = some (.cells c T)) (i : Nat) : w.frozen? ⟨b, i, none⟩ = false := by
  unfold World.frozen?; rw [h]; simp

theorem setCell_size (w : World) (a : Addr) (v : Value) : (w.setCell a v).heap.size = w.heap.size := by simp [World.setCell]

theorem setCell_same {w : World} {b : Nat} {C : Array Value} {T : TypeId} {fz : Nat × Nat} (h : w.heap[b]? = some (.cells C T fz)) (i : Nat) (v : Value) : (w.setCell ⟨b, i, none⟩ v).heap[b]? = some (.cells (C.setIfInBounds i v) T fz) := by
  simp only [World.setCell, Array.getElem?_modify, if_true, h, Option.map_some]
  rfl

theorem alloc_new (w : World) (o : Obj) : (w.alloc o).heap[w.heap.size]? = some o := by show (w.heap.push o)[w.heap.size]? = _; simp

theorem alloc_size (w : World) (o : Obj) : (w.alloc o).heap.size = w.heap.size + 1 := by simp

theorem alloc_old (w : World) (o : Obj) {k : Nat} (h : k < w.heap.size) : (w.alloc o).heap[k]? = w.heap[k]? := Below.heap_alloc _ _ _ h

theorem alloc_cells2 (w : World) (C : Array Value) (T : TypeId) (i : Nat) (u : Value) (h : C[i]? = some u) : (w.alloc (.cells C T)).cell? ((⟨w.heap.size, 0, none⟩ : Addr).add i) = some u := by
  have e : (⟨w.heap.size, 0, none⟩ : Addr).add i = ⟨w.heap.size, i, none⟩ := by
    unfold Addr.add
    split
    · rename_i h0; rw [h0]
    · simp
  rw [e, cell0 (alloc_new w (.cells C T))]
  exact h

/-- A slice from the head of a block on, that holds some cells, sz of them an element. -/
def Rd (w : World) (v : Value) (sz n : Nat) (xs : List Value) : Prop :=
  ∃ a cap, v = .slice a n cap ∧ xs.length = n * sz ∧ n ≤ maxLen ∧ (n ≠ 0 → ∃ g, a = some ⟨g, 0, none⟩ ∧ g < w.heap.size ∧ ∀ j u, xs[j]? = some u → w.cell? ⟨g, j, none⟩ = some u)

theorem Rd.below {w w' : World} {v : Value} {sz n : Nat} {xs : List Value} (h : Rd w v sz n xs) (hb : Below w.heap.size w w') : Rd w' v sz n xs := by
  obtain ⟨a, cap, h1, h2, h3, h4⟩ := h
  refine ⟨a, cap, h1, h2, h3, fun hn => ?_⟩
  obtain ⟨g, e1, e2, e3⟩ := h4 hn
  exact ⟨g, e1, Nat.lt_of_lt_of_le e2 hb.size, fun j u h => by rw [hb.cell (p := ⟨_, _, _⟩) e2]; exact e3 j u h⟩

theorem Rd.of_own {w : World} {base : Nat} {T : TypeId} {v : Value} {sz n : Nat} {xs : List Value} (h : w.ownsRow base T sz v n xs) (hn : n ≤ maxLen) : Rd w v sz n xs := by
  have h0 := h
  obtain ⟨hl, ⟨rfl, rfl⟩ | ⟨g, cap, cur, rfl, hg, hb, h1, h2, h3, h4⟩⟩ := h
  · exact ⟨none, 0, rfl, hl, hn, fun h => absurd rfl h⟩
  · refine ⟨_, cap, rfl, hl, hn, fun _ => ⟨g, rfl, lt_of_heap hb, fun j u hj => ?_⟩⟩
    rw [cell0 hb]
    rw [← h4, List.getElem?_take] at hj
    split at hj
    · simpa using hj
    · cases hj

/-- The same, in a block that was laid at lo or later. -/
def RdL (lo : Nat) (w : World) (v : Value) (sz n : Nat) (xs : List Value) : Prop :=
  ∃ a cap, v = .slice a n cap ∧ xs.length = n * sz ∧ n ≤ maxLen ∧ (n ≠ 0 → ∃ g, a = some ⟨g, 0, none⟩ ∧ lo ≤ g ∧ g < w.heap.size ∧ ∀ j u, xs[j]? = some u → w.cell? ⟨g, j, none⟩ = some u)

theorem RdL.of_own {w : World} {base : Nat} {T : TypeId} {v : Value} {sz n : Nat} {xs : List Value} (h : w.ownsRow base T sz v n xs) (hn : n ≤ maxLen) : RdL base w v sz n xs := by
  obtain ⟨hl, ⟨rfl, rfl⟩ | ⟨g, cap, cur, rfl, hg, hb, h1, h2, h3, h4⟩⟩ := h
  · exact ⟨none, 0, rfl, hl, hn, fun h => absurd rfl h⟩
  · refine ⟨_, cap, rfl, hl, hn, fun _ => ⟨g, rfl, hg, lt_of_heap hb, fun j u hj => ?_⟩⟩
    rw [cell0 hb]
    rw [← h4, List.getElem?_take] at hj
    split at hj
    · simpa using hj
    · cases hj

/-- A part of a function's text: by its road from the text's head. -/
def codeL : Code → Code
  | .seq a _ => a
  | .cond _ a _ => a
  | .block _ a => a
  | .loop a => a
  | .scope a => a
  | c => c

def codeR : Code → Code
  | .seq _ b => b
  | .cond _ _ b => b
  | c => c

def codeAt : List Nat → Code → Code
  | [], c => c
  | 0 :: l, c => codeAt l (codeL c)
  | _ :: l, c => codeAt l (codeR c)

/-- m elements with the cells news, read in w: nil, or in memory. -/
def SrcIs (w : World) (x : Value) (m : Nat) (news : List Value) : Prop :=
  (x = .slice none 0 0 ∧ m = 0 ∧ news = []) ∨ ∃ ad c, x = .slice (some ad) m c ∧ ∀ j u, news[j]? = some u → w.cell? (ad.add j) = some u

theorem run_append_src {P : Program} {w : World} (base : Nat) (t ty e : TypeId) (i : TypeInfo) (z : Value) (size bytes : Nat) (ht : P.underlying t = some (.slice e)) (hi : P.info? e = some i) (hz : i.zero = some z)
    (hsize : i.size = size) (hby : i.bytes = bytes) (hzs : z.cells.size = size) (hsz : 0 < size)
    (v : Value) (n : Nat) (xs : List Value) (hown : w.ownsRow base e size v n xs)
    (x : Value) (m : Nat) (news : List Value) (hx : SrcIs w x m news) (hl : news.length = m * size) (h1 : ∀ u ∈ news, u.oneCell' = true)
    (h63 : n + m ≤ maxLen) (hbytes : (n + m) * bytes ≤ 140737488355328) (hbase : base ≤ w.heap.size) :
    ∃ v' w', (Builtin.append_ #[t, t] ty #[v, x]).run P w = .ok v' w' ∧ w'.ownsRow base e size v' (n + m) (xs ++ news) ∧ w.grownBy w' v.ownBlock ∧
      (v' = .slice none 0 0 ↔ v = .slice none 0 0 ∧ m = 0) := by
  rcases hx with ⟨rfl, rfl, rfl⟩ | ⟨ad, c, rfl, hnews⟩
  · refine ⟨v, w, ?_, by simpa using hown, ⟨rfl, rfl, rfl, Nat.le_refl _, fun _ _ _ => rfl⟩, by simp⟩
    rcases hown.2 with ⟨rfl, rfl⟩ | ⟨g, cap, cur, rfl, hbg, hg, hnc, hcm, hcs, htake⟩
    · simp [Builtin.append_, run_underlying ht, sizeOf, typeInfo, hi, Builtin.lenOf, Builtin.firstCells]
    · simp [Builtin.append_, run_underlying ht, sizeOf, typeInfo, hi, Builtin.lenOf, Builtin.firstCells, hnc, storeCells]
  · exact run_append_own w base t ty e i z size bytes ht hi hz hsize hby hzs hsz v n xs hown ad m c news hl hnews h1 h63 hbytes hbase

theorem wp_append_src {P : Program} {w : World} {o : Oper} {a : Act} {K : Act → World → Prop} {Q : Exit → Act → World → Prop} (s x : Operand) (t : TypeId)
    (ho : o.op = .call { callee := .builtin .append, args := #[s, x], argTypes := #[t, t] })
    (base : Nat) (e : TypeId) (i : TypeInfo) (z : Value) (size bytes : Nat) (ht : P.underlying t = some (.slice e)) (hi : P.info? e = some i) (hz : i.zero = some z)
    (hsize : i.size = size) (hby : i.bytes = bytes) (hzs : z.cells.size = size) (hsz : 0 < size)
    (v : Value) (n : Nat) (xs : List Value) (hs : a.eval s = v) (hown : w.ownsRow base e size v n xs)
    (src : Value) (m : Nat) (news : List Value) (hx : a.eval x = src) (hsrc : SrcIs w src m news) (hl : news.length = m * size) (h1 : ∀ u ∈ news, u.oneCell' = true)
    (h63 : n + m ≤ maxLen) (hbytes : (n + m) * bytes ≤ 140737488355328) (hbase : base ≤ w.heap.size)
    (h : ∀ v' w', w'.ownsRow base e size v' (n + m) (xs ++ news) → w.grownBy w' v.ownBlock → (v' = .slice none 0 0 ↔ v = .slice none 0 0 ∧ m = 0) → K (a.put o.dst v') w') : o.wp P a w K Q := by
  obtain ⟨v', w', hr, h2, h3, h4⟩ := run_append_src (P := P) (w := w) base t o.type e i z size bytes ht hi hz hsize hby hzs hsz v n xs hown src m news hsrc hl h1 h63 hbytes hbase
  unfold Oper.wp execOp
  simp only [ho, resolve, invoke, builtin, Sem.run_bind, Sem.run_pure, Result.andThen_ok, List.map_toArray, List.map_cons, List.map_nil, hs, hx, hr]
  exact h v' w' h2 h3 h4

theorem wpList_append_src {P : Program} {w : World} {ops : Array Oper} {rest : List Oper} {o : Oper} {a : Act} {Q : Exit → Act → World → Prop} (hgd : o.guard = none) (s x : Operand) (t : TypeId)
    (ho : o.op = .call { callee := .builtin .append, args := #[s, x], argTypes := #[t, t] })
    (base : Nat) (e : TypeId) (i : TypeInfo) (z : Value) (size bytes : Nat) (ht : P.underlying t = some (.slice e)) (hi : P.info? e = some i) (hz : i.zero = some z)
    (hsize : i.size = size) (hby : i.bytes = bytes) (hzs : z.cells.size = size) (hsz : 0 < size)
    (v : Value) (n : Nat) (xs : List Value) (hs : a.eval s = v) (hown : w.ownsRow base e size v n xs)
    (src : Value) (m : Nat) (news : List Value) (hx : a.eval x = src) (hsrc : SrcIs w src m news) (hl : news.length = m * size) (h1 : ∀ u ∈ news, u.oneCell' = true)
    (h63 : n + m ≤ maxLen) (hbytes : (n + m) * bytes ≤ 140737488355328) (hbase : base ≤ w.heap.size)
    (h : ∀ v' w', w'.ownsRow base e size v' (n + m) (xs ++ news) → w.grownBy w' v.ownBlock → (v' = .slice none 0 0 ↔ v = .slice none 0 0 ∧ m = 0) → wpList P ops Q rest (a.put o.dst v') w') : wpList P ops Q (o :: rest) a w :=
  wpList_plain hgd fun _ hK => wp_append_src s x t ho base e i z size bytes ht hi hz hsize hby hzs hsz v n xs hs hown src m news hx hsrc hl h1 h63 hbytes hbase fun v' w' h2 h3 h4 => hK _ _ (h v' w' h2 h3 h4)

theorem owns_slice {w : World} {base : Nat} {T : TypeId} {sz : Nat} {v : Value} {n : Nat} {xs : List Value} (h : w.ownsRow base T sz v n xs) : ∃ a c, v = .slice a n c := by
  obtain ⟨_, ⟨rfl, rfl⟩ | ⟨g, cap, cur, rfl, _⟩⟩ := h
  · exact ⟨_, _, rfl⟩
  · exact ⟨_, _, rfl⟩

theorem row_below {w w' : World} {base : Nat} {e : TypeId} {size : Nat} {v : Value} {n : Nat} {xs : List Value} (h : w.ownsRow base e size v n xs) (hb : Below w.heap.size w w') : w'.ownsRow base e size v n xs :=
  h.kept (row := none) ⟨hb.os, hb.tape, hb.output, hb.size, fun k hk _ => hb.block k hk⟩ (Classical.em _)

theorem row_mono {w : World} {base base' : Nat} {e : TypeId} {size : Nat} {v : Value} {n : Nat} {xs : List Value} (h : w.ownsRow base e size v n xs) (hb : base' ≤ base) : w.ownsRow base' e size v n xs := by
  obtain ⟨h1, h2 | ⟨g, cap, cur, a1, a2, a3⟩⟩ := h
  · exact ⟨h1, Or.inl h2⟩
  · exact ⟨h1, Or.inr ⟨g, cap, cur, a1, Nat.le_trans hb a2, a3⟩⟩

theorem row_src {w : World} {base : Nat} {e : TypeId} {size : Nat} {v : Value} {n : Nat} {xs : List Value} (h : w.ownsRow base e size v n xs) : SrcIs w v n xs := by
  have h0 := h
  obtain ⟨h1, ⟨rfl, rfl⟩ | ⟨g, cap, cur, rfl, _⟩⟩ := h
  · exact Or.inl ⟨rfl, rfl, List.eq_nil_of_length_eq_zero (by simpa using h1)⟩
  · refine Or.inr ⟨_, _, rfl, fun j u hj => ?_⟩
    rw [show (⟨g, 0, none⟩ : Addr).add j = ⟨g, j, none⟩ by unfold Addr.add; split <;> simp_all]
    have hjl : j < n * size := by
      rcases Nat.lt_or_ge j (n * size) with h | h
      · exact h
      · rw [List.getElem?_eq_none (by omega)] at hj; cases hj
    rw [h0.cellAt j hjl]; exact hj

/-- What follows where a part of a text runs to its end: no panic, no return. -/
def NQ (R : Act → World → Prop) : Exit → Act → World → Prop
  | .normal, a, w => R a w
  | _, _, _ => False

theorem NQ.to {P : Program} {c : Code} {Q : Exit → Act → World → Prop} {a : Act} {w : World} (h : c.wp P (NQ fun a w => Q .normal a w) a w) : c.wp P Q a w :=
  wp_mono h fun e a w h => by cases e <;> first | exact h | exact h.elim

theorem row_stay {w w' : World} {base : Nat} {e : TypeId} {size : Nat} {v : Value} {n : Nat} {xs : List Value} (h : w.ownsRow base e size v n xs) (hb : ∀ k, v.ownBlock = some k → w'.heap[k]? = w.heap[k]?) : w'.ownsRow base e size v n xs := by
  obtain ⟨h1, h2 | ⟨g, cap, cur, rfl, a2, a3, a4⟩⟩ := h
  · exact ⟨h1, Or.inl h2⟩
  · exact ⟨h1, Or.inr ⟨g, cap, cur, rfl, a2, by rw [hb g rfl]; exact a3, a4⟩⟩
end Go.Proofs.YtjoljfnlkddfbaaGreatDoor
namespace Go.Proofs.YtjoljfnlkddfbaaGreatDoor
theorem ok_of {α : Type} {a v : α} (h : ∀ z, v = z → a = z) : a = v := h v rfl
theorem tkN {P : Program} {md : Region.Mode} {ops : Array Oper} {S : World → Prop} {R : Act → World → Prop} {i : Nat} {oi : Oper} {v : Value} {fuel : Nat} {listed : Array Bool} {a : Act} {w : World} (hi : ops[i]? = some oi)
    (hf : (Region.noSelect ops && (Region.free md ops listed i && (Region.ready md ops listed).contains i)) = true) (hy : YieldsIf P ops S oi v a) (hS : S w)
    (h : wpAnyH P md ops (NQ R) S fuel (listed.setIfInBounds i true) (a.put oi.dst v) w) : wpAnyH P md ops (NQ R) S (fuel + 1) listed a w := by
  simp only [Bool.and_eq_true] at hf
  exact wpAnyH_take hi hf.1 hf.2.1 hf.2.2 (fun _ _ _ h => h) hy hS h
theorem s1 {α : Type} (l : List α) (i : Nat) (x : α) : l.toArray.setIfInBounds i x = (l.set i x).toArray := List.setIfInBounds_toArray ..
theorem s2 {α : Type} (a : α) (l : List α) (i : Nat) (x : α) : (a :: l).set (i + 1) x = a :: l.set i x := List.set_cons_succ ..
theorem s3 {α : Type} (a : α) (l : List α) (x : α) : (a :: l).set 0 x = x :: l := List.set_cons_zero ..
theorem s4 {α : Type} {xs : List α} {i : Nat} (h : i < xs.toArray.size) : xs.toArray[i] = xs[i]'(by simpa using h) := rfl
theorem s5 {α : Type} {a : α} {l : List α} {i : Nat} (h : i + 1 < (a :: l).length) : (a :: l)[i + 1] = l[i]'(Nat.lt_of_succ_lt_succ h) := rfl
theorem s6 {α : Type} {a : α} {l : List α} (h : 0 < (a :: l).length) : (a :: l)[0] = a := rfl
theorem rd1 {P : Program} {md : Region.Mode} {ops : Array Oper} {Q : Exit → Act → World → Prop} {S : World → Prop} {fuel : Nat} {listed : Array Bool} {a : Act} {w : World} (i : Nat) {o : Oper} (hr : Region.ready md ops listed = [i]) (ho : ops[i]? = some o)
    (h : ∀ K' : Act → World → Prop, Shut (∀ a w, S w → (S w → wpAnyH P md ops Q S fuel (listed.setIfInBounds i true) a w) → K' a w) → if Region.wanted o (yielded ops a.tmps) = true then Oper.wp P o a w K' Q else K' (a.put o.dst undef) w) : wpAnyH P md ops Q S (fuel + 1) listed a w :=
  wpAnyH_ready hr (by simp) (AllReadyH.cons ho h AllReadyH.nil)
theorem btr {a b c : World} (h : RowKit.Below a.heap.size a b) (g : RowKit.Below b.heap.size b c) : RowKit.Below a.heap.size a c := h.trans (g.mono h.size)
theorem Hd {p : Prop} (h : p) : RowKit.Hid p := h
theorem brf {n : Nat} {w : World} : RowKit.Below n w w := RowKit.Below.refl _ _
theorem bal {w : World} {o : Obj} : RowKit.Below w.heap.size w (w.alloc o) := (RowKit.Below.refl _ _).alloc (Nat.le_refl _) _
theorem bdr {n : Nat} {w : World} : RowKit.Below n w w.drew := ⟨rfl, rfl, rfl, Nat.le_refl _, fun _ _ => rfl⟩
theorem cl0 {w : World} {b : Nat} {C : Array Value} {T : TypeId} (h : w.heap[b]? = some (.cells C T)) (i : Nat) {v : Value} (e : C[i]? = some v) : w.cell? ⟨b, i, none⟩ = some v := (cell0 h i).trans e
theorem wr1 (k : Nat) (h : k < 9223372036854775807) : IntKind.i64.wrap ((k : Int) + 1) = (k : Int) + 1 := by rw [IntKind.wrap_i64]; omega
theorem cel1 {w : World} {b : Nat} {x : Value} {T : TypeId} (h : w.heap[b]? = some (.cells #[x] T)) : w.cell? ⟨b, 0, none⟩ = some x := by rw [cell0 h 0]; rfl
theorem cel2 {w : World} {b : Nat} {x y : Value} {T : TypeId} (h : w.heap[b]? = some (.cells #[x, y] T)) : w.cell? ⟨b, 0, none⟩ = some x ∧ w.cell? ⟨b, 1, none⟩ = some y := ⟨by rw [cell0 h 0]; rfl, by rw [cell0 h 1]; rfl⟩
theorem cel3 {w : World} {b : Nat} {x y z : Value} {T : TypeId} (h : w.heap[b]? = some (.cells #[x, y, z] T)) : w.cell? ⟨b, 0, none⟩ = some x ∧ w.cell? ⟨b, 1, none⟩ = some y ∧ w.cell? ⟨b, 2, none⟩ = some z := ⟨by rw [cell0 h 0]; rfl, by rw [cell0 h 1]; rfl, by rw [cell0 h 2]; rfl⟩
theorem cel4 {w : World} {b : Nat} {x y z u : Value} {T : TypeId} (h : w.heap[b]? = some (.cells #[x, y, z, u] T)) : w.cell? ⟨b, 0, none⟩ = some x ∧ w.cell? ⟨b, 1, none⟩ = some y ∧ w.cell? ⟨b, 2, none⟩ = some z ∧ w.cell? ⟨b, 3, none⟩ = some u := ⟨by rw [cell0 h 0]; rfl, by rw [cell0 h 1]; rfl, by rw [cell0 h 2]; rfl, by rw [cell0 h 3]; rfl⟩
theorem box1 (w : World) (C0 : Array Value) (T0 : TypeId) : ∃ W : World, RowKit.Hid (W = w.alloc (.cells C0 T0)) ∧ RowKit.Hid (RowKit.Below w.heap.size w W) ∧ RowKit.Hid (W.heap.size = w.heap.size + 1) ∧ RowKit.Hid (∀ wz, RowKit.Below W.heap.size W wz → wz.heap[w.heap.size]? = some (.cells C0 T0)) := by
  obtain ⟨W0, hW0⟩ : ∃ x, x = w.alloc (.cells C0 T0) := ⟨_, rfl⟩
  have hs0 : W0.heap.size = w.heap.size + 1 := by rw [hW0, alloc_size]
  have ht0 : RowKit.Below w.heap.size w W0 := by rw [hW0]; exact (RowKit.Below.refl _ _).alloc (Nat.le_refl _) _
  have hb0 : RowKit.Below w.heap.size w W0 := ht0
  have hx0_0 : W0.heap[w.heap.size]? = some (.cells C0 T0) := by rw [hW0]; exact alloc_new _ _
  exact ⟨W0, Lib.hid (by rw [hW0]), Lib.hid hb0, Lib.hid hs0, Lib.hid (fun wz hz => (hz.block _ (lt_of_heap hx0_0)).trans hx0_0)⟩
theorem box2 (w : World) (C0 : Array Value) (T0 : TypeId) (C1 : Array Value) (T1 : TypeId) : ∃ W : World, RowKit.Hid (W = (w.alloc (.cells C0 T0)).alloc (.cells C1 T1)) ∧ RowKit.Hid (RowKit.Below w.heap.size w W) ∧ RowKit.Hid (W.heap.size = w.heap.size + 1 + 1) ∧ RowKit.Hid (∀ wz, RowKit.Below W.heap.size W wz → wz.heap[w.heap.size]? = some (.cells C0 T0)) ∧ RowKit.Hid (∀ wz, RowKit.Below W.heap.size W wz → wz.heap[w.heap.size + 1]? = some (.cells C1 T1)) := by
  obtain ⟨W0, hW0⟩ : ∃ x, x = w.alloc (.cells C0 T0) := ⟨_, rfl⟩
  have hs0 : W0.heap.size = w.heap.size + 1 := by rw [hW0, alloc_size]
  have ht0 : RowKit.Below w.heap.size w W0 := by rw [hW0]; exact (RowKit.Below.refl _ _).alloc (Nat.le_refl _) _
  have hb0 : RowKit.Below w.heap.size w W0 := ht0
  have hx0_0 : W0.heap[w.heap.size]? = some (.cells C0 T0) := by rw [hW0]; exact alloc_new _ _
  obtain ⟨W1, hW1⟩ : ∃ x, x = W0.alloc (.cells C1 T1) := ⟨_, rfl⟩
  have hs1 : W1.heap.size = w.heap.size + 1 + 1 := by rw [hW1, alloc_size, hs0]
  have ht1 : RowKit.Below W0.heap.size W0 W1 := by rw [hW1]; exact (RowKit.Below.refl _ _).alloc (Nat.le_refl _) _
  have hb1 : RowKit.Below w.heap.size w W1 := hb0.trans (ht1.mono hb0.size)
  have hx1_1 : W1.heap[w.heap.size + 1]? = some (.cells C1 T1) := by rw [hW1, ← hs0]; exact alloc_new _ _
  have hx0_1 : W1.heap[w.heap.size]? = _ := (ht1.block _ (lt_of_heap hx0_0)).trans hx0_0
  exact ⟨W1, Lib.hid (by rw [hW1, hW0]), Lib.hid hb1, Lib.hid hs1, Lib.hid (fun wz hz => (hz.block _ (lt_of_heap hx0_1)).trans hx0_1), Lib.hid (fun wz hz => (hz.block _ (lt_of_heap hx1_1)).trans hx1_1)⟩
theorem box3 (w : World) (C0 : Array Value) (T0 : TypeId) (C1 : Array Value) (T1 : TypeId) (C2 : Array Value) (T2 : TypeId) : ∃ W : World, RowKit.Hid (W = ((w.alloc (.cells C0 T0)).alloc (.cells C1 T1)).alloc (.cells C2 T2)) ∧ RowKit.Hid (RowKit.Below w.heap.size w W) ∧ RowKit.Hid (W.heap.size = w.heap.size + 1 + 1 + 1) ∧ RowKit.Hid (∀ wz, RowKit.Below W.heap.size W wz → wz.heap[w.heap.size]? = some (.cells C0 T0)) ∧ RowKit.Hid (∀ wz, RowKit.Below W.heap.size W wz → wz.heap[w.heap.size + 1]? = some (.cells C1 T1)) ∧ RowKit.Hid (∀ wz, RowKit.Below W.heap.size W wz → wz.heap[w.heap.size + 1 + 1]? = some (.cells C2 T2)) := by
  obtain ⟨W0, hW0⟩ : ∃ x, x = w.alloc (.cells C0 T0) := ⟨_, rfl⟩
  have hs0 : W0.heap.size = w.heap.size + 1 := by rw [hW0, alloc_size]
  have ht0 : RowKit.Below w.heap.size w W0 := by rw [hW0]; exact (RowKit.Below.refl _ _).alloc (Nat.le_refl _) _
  have hb0 : RowKit.Below w.heap.size w W0 := ht0
  have hx0_0 : W0.heap[w.heap.size]? = some (.cells C0 T0) := by rw [hW0]; exact alloc_new _ _
  obtain ⟨W1, hW1⟩ : ∃ x, x = W0.alloc (.cells C1 T1) := ⟨_, rfl⟩
  have hs1 : W1.heap.size = w.heap.size + 1 + 1 := by rw [hW1, alloc_size, hs0]
  have ht1 : RowKit.Below W0.heap.size W0 W1 := by rw [hW1]; exact (RowKit.Below.refl _ _).alloc (Nat.le_refl _) _
  have hb1 : RowKit.Below w.heap.size w W1 := hb0.trans (ht1.mono hb0.size)
  have hx1_1 : W1.heap[w.heap.size + 1]? = some (.cells C1 T1) := by rw [hW1, ← hs0]; exact alloc_new _ _
  have hx0_1 : W1.heap[w.heap.size]? = _ := (ht1.block _ (lt_of_heap hx0_0)).trans hx0_0
  obtain ⟨W2, hW2⟩ : ∃ x, x = W1.alloc (.cells C2 T2) := ⟨_, rfl⟩
  have hs2 : W2.heap.size = w.heap.size + 1 + 1 + 1 := by rw [hW2, alloc_size, hs1]
  have ht2 : RowKit.Below W1.heap.size W1 W2 := by rw [hW2]; exact (RowKit.Below.refl _ _).alloc (Nat.le_refl _) _
  have hb2 : RowKit.Below w.heap.size w W2 := hb1.trans (ht2.mono hb1.size)
  have hx2_2 : W2.heap[w.heap.size + 1 + 1]? = some (.cells C2 T2) := by rw [hW2, ← hs1]; exact alloc_new _ _
  have hx0_2 : W2.heap[w.heap.size]? = _ := (ht2.block _ (lt_of_heap hx0_1)).trans hx0_1
  have hx1_2 : W2.heap[w.heap.size + 1]? = _ := (ht2.block _ (lt_of_heap hx1_1)).trans hx1_1
  exact ⟨W2, Lib.hid (by rw [hW2, hW1, hW0]), Lib.hid hb2, Lib.hid hs2, Lib.hid (fun wz hz => (hz.block _ (lt_of_heap hx0_2)).trans hx0_2), Lib.hid (fun wz hz => (hz.block _ (lt_of_heap hx1_2)).trans hx1_2), Lib.hid (fun wz hz => (hz.block _ (lt_of_heap hx2_2)).trans hx2_2)⟩
theorem box4 (w : World) (C0 : Array Value) (T0 : TypeId) (C1 : Array Value) (T1 : TypeId) (C2 : Array Value) (T2 : TypeId) (C3 : Array Value) (T3 : TypeId) : ∃ W : World, RowKit.Hid (W = (((w.alloc (.cells C0 T0)).alloc (.cells C1 T1)).alloc (.cells C2 T2)).alloc (.cells C3 T3)) ∧ RowKit.Hid (RowKit.Below w.heap.size w W) ∧ RowKit.Hid (W.heap.size = w.heap.size + 1 + 1 + 1 + 1) ∧ RowKit.Hid (∀ wz, RowKit.Below W.heap.size W wz → wz.heap[w.heap.size]? = some (.cells C0 T0)) ∧ RowKit.Hid (∀ wz, RowKit.Below W.heap.size W wz → wz.heap[w.heap.size + 1]? = some (.cells C1 T1)) ∧ RowKit.Hid (∀ wz, RowKit.Below W.heap.size W wz → wz.heap[w.heap.size + 1 + 1]? = some (.cells C2 T2)) ∧ RowKit.Hid (∀ wz, RowKit.Below W.heap.size W wz → wz.heap[w.heap.size + 1 + 1 + 1]? = some (.cells C3 T3)) := by
  obtain ⟨W0, hW0⟩ : ∃ x, x = w.alloc (.cells C0 T0) := ⟨_, rfl⟩
  have hs0 : W0.heap.size = w.heap.size + 1 := by rw [hW0, alloc_size]
  have ht0 : RowKit.Below w.heap.size w W0 := by rw [hW0]; exact (RowKit.Below.refl _ _).alloc (Nat.le_refl _) _
  have hb0 : RowKit.Below w.heap.size w W0 := ht0
  have hx0_0 : W0.heap[w.heap.size]? = some (.cells C0 T0) := by rw [hW0]; exact alloc_new _ _
  obtain ⟨W1, hW1⟩ : ∃ x, x = W0.alloc (.cells C1 T1) := ⟨_, rfl⟩
  have hs1 : W1.heap.size = w.heap.size + 1 + 1 := by rw [hW1, alloc_size, hs0]
  have ht1 : RowKit.Below W0.heap.size W0 W1 := by rw [hW1]; exact (RowKit.Below.refl _ _).alloc (Nat.le_refl _) _
  have hb1 : RowKit.Below w.heap.size w W1 := hb0.trans (ht1.mono hb0.size)
  have hx1_1 : W1.heap[w.heap.size + 1]? = some (.cells C1 T1) := by rw [hW1, ← hs0]; exact alloc_new _ _
  have hx0_1 : W1.heap[w.heap.size]? = _ := (ht1.block _ (lt_of_heap hx0_0)).trans hx0_0
  obtain ⟨W2, hW2⟩ : ∃ x, x = W1.alloc (.cells C2 T2) := ⟨_, rfl⟩
  have hs2 : W2.heap.size = w.heap.size + 1 + 1 + 1 := by rw [hW2, alloc_size, hs1]
  have ht2 : RowKit.Below W1.heap.size W1 W2 := by rw [hW2]; exact (RowKit.Below.refl _ _).alloc (Nat.le_refl _) _
  have hb2 : RowKit.Below w.heap.size w W2 := hb1.trans (ht2.mono hb1.size)
  have hx2_2 : W2.heap[w.heap.size + 1 + 1]? = some (.cells C2 T2) := by rw [hW2, ← hs1]; exact alloc_new _ _
  have hx0_2 : W2.heap[w.heap.size]? = _ := (ht2.block _ (lt_of_heap hx0_1)).trans hx0_1
  have hx1_2 : W2.heap[w.heap.size + 1]? = _ := (ht2.block _ (lt_of_heap hx1_1)).trans hx1_1
  obtain ⟨W3, hW3⟩ : ∃ x, x = W2.alloc (.cells C3 T3) := ⟨_, rfl⟩
  have hs3 : W3.heap.size = w.heap.size + 1 + 1 + 1 + 1 := by rw [hW3, alloc_size, hs2]
  have ht3 : RowKit.Below W2.heap.size W2 W3 := by rw [hW3]; exact (RowKit.Below.refl _ _).alloc (Nat.le_refl _) _
  have hb3 : RowKit.Below w.heap.size w W3 := hb2.trans (ht3.mono hb2.size)
  have hx3_3 : W3.heap[w.heap.size + 1 + 1 + 1]? = some (.cells C3 T3) := by rw [hW3, ← hs2]; exact alloc_new _ _
  have hx0_3 : W3.heap[w.heap.size]? = _ := (ht3.block _ (lt_of_heap hx0_2)).trans hx0_2
  have hx1_3 : W3.heap[w.heap.size + 1]? = _ := (ht3.block _ (lt_of_heap hx1_2)).trans hx1_2
  have hx2_3 : W3.heap[w.heap.size + 1 + 1]? = _ := (ht3.block _ (lt_of_heap hx2_2)).trans hx2_2
  exact ⟨W3, Lib.hid (by rw [hW3, hW2, hW1, hW0]), Lib.hid hb3, Lib.hid hs3, Lib.hid (fun wz hz => (hz.block _ (lt_of_heap hx0_3)).trans hx0_3), Lib.hid (fun wz hz => (hz.block _ (lt_of_heap hx1_3)).trans hx1_3), Lib.hid (fun wz hz => (hz.block _ (lt_of_heap hx2_3)).trans hx2_3), Lib.hid (fun wz hz => (hz.block _ (lt_of_heap hx3_3)).trans hx3_3)⟩
/-- What a run of operations yields, one behind the other. -/
def RunOK (P : Program) (ops : Array Oper) (S : World → Prop) : List Nat → Act → (Act → Prop) → Prop
  | [], a, K => K a
  | i :: is, a, K => ∃ o v, ops[i]? = some o ∧ YieldsIf P ops S o v a ∧ RunOK P ops S is (a.put o.dst v) K
theorem RunOK.done {P : Program} {ops : Array Oper} {S : World → Prop} {a : Act} {K : Act → Prop} (h : K a) : RunOK P ops S [] a K := h
def runSet : List Nat → Array Bool → Array Bool
  | [], l => l
  | i :: is, l => runSet is (l.setIfInBounds i true)
def runChk (md : Region.Mode) (ops : Array Oper) : List Nat → Array Bool → Bool
  | [], _ => true
  | i :: is, l => (Region.noSelect ops && (Region.free md ops l i && (Region.ready md ops l).contains i)) && runChk md ops is (l.setIfInBounds i true)
theorem tkR {P : Program} {md : Region.Mode} {ops : Array Oper} {S : World → Prop} {R : Act → World → Prop} {w : World} : ∀ {n fuel : Nat} {listed : Array Bool} {a : Act} (is : List Nat) (_ : is.length = n)
    (_ : runChk md ops is listed = true) (_ : S w) (_ : RunOK P ops S is a (fun a' => wpAnyH P md ops (NQ R) S fuel (runSet is listed) a' w)), wpAnyH P md ops (NQ R) S (fuel + n) listed a w
  | n, fuel, listed, a, [], hn, _, _, h => by
    subst hn
    exact h
  | n, fuel, listed, a, i :: is, hn, hc, hS, h => by
    subst hn
    obtain ⟨o, v, hi, hy, h⟩ := h
    unfold runChk at hc
    rw [Bool.and_eq_true] at hc
    exact tkN (fuel := fuel + is.length) hi hc.1 hy hS (tkR is rfl hc.2 hS h)
end Go.Proofs.YtjoljfnlkddfbaaGreatDoor
namespace Go.Proofs.YtjoljfnlkddfbaaGreatDoor
open Go
section
variable {P : Program} {ops : Array Oper} {Q : Exit → Act → World → Prop} {md : Region.Mode}
/-- One value of a list of values, set. -/
def upd (u : Nat → Value) (i : Nat) (v : Value) : Nat → Value := fun k => if k = i then v else u k
theorem upd_same (u : Nat → Value) (i : Nat) (v : Value) : upd u i v i = v := if_pos rfl
theorem upd_ne {u : Nat → Value} {i k : Nat} {v : Value} (h : k ≠ i) : upd u i v k = u k := if_neg h
theorem getD_set_ne {l : Array Bool} {i j : Nat} {d : Bool} (h : j ≠ i) : (l.setIfInBounds i true).getD j d = l.getD j d := by
  rw [Array.getD_eq_getD_getElem?, Array.getElem?_setIfInBounds_ne (fun e => h e.symm), ← Array.getD_eq_getD_getElem?]
/-- What a region keeps whose operations come up in whatever order: what is listed has its value u j, of which P j says what it is; those of al are pairwise different. -/
def RegI (n : Nat) (fr : (Nat → Value) → Act) (S : World → Prop) (P : Nat → Value → World → Prop) (al : Nat → Bool) (listed : Array Bool) (a : Act) (w : World) : Prop :=
  ∃ u : Nat → Value, a = fr u ∧ S w ∧ (∀ j, j < n → listed.getD j false = true → P j (u j) w) ∧
    ∀ i j, i ≠ j → i < n → j < n → al i = true → al j = true → listed.getD i false = true → listed.getD j false = true → u i ≠ u j
theorem RegI.keep {n : Nat} {fr : (Nat → Value) → Act} {S : World → Prop} {V : Nat → Value → World → Prop} {al : Nat → Bool} {listed : Array Bool} {w w' : World} {u : Nat → Value} {a' : Act} (i : Nat) (v : Value)
    (hP : ∀ j, j < n → listed.getD j false = true → V j (u j) w)
    (hD : ∀ i j, i ≠ j → i < n → j < n → al i = true → al j = true → listed.getD i false = true → listed.getD j false = true → u i ≠ u j)
    (hst : ∀ j v, V j v w → V j v w') (hS : S w') (hv : V i v w')
    (hnew : al i = true → ∀ j, al j = true → ∀ x, V j x w → x ≠ v) (ha : a' = fr (upd u i v)) :
    RegI n fr S V al (listed.setIfInBounds i true) a' w' := by
  refine ⟨upd u i v, ha, hS, fun j hj hl => ?_, fun j k hjk hj hk hlj hlk haj hak => ?_⟩
  · by_cases e : j = i
    · subst e
      rw [upd_same]
      exact hv
    · rw [upd_ne e]
      rw [getD_set_ne e] at hl
      exact hst _ _ (hP j hj hl)
  · by_cases e : j = i
    · subst e
      rw [upd_same, upd_ne (fun e => hjk e.symm)]
      rw [getD_set_ne (fun e => hjk e.symm)] at hak
      exact fun e => hnew hlj k hlk _ (hP k hk hak) e.symm
    · rw [upd_ne e]
      rw [getD_set_ne e] at haj
      by_cases e2 : k = i
      · subst e2
        rw [upd_same]
        exact hnew hlk j hlj _ (hP j hj haj)
      · rw [upd_ne e2]
        rw [getD_set_ne e2] at hak
        exact hD j k hjk hj hk hlj hlk haj hak
/-- Operation i waits for operation d. -/
theorem rk0 {n : Nat} {fr : (Nat → Value) → Act} {S : World → Prop} {V : Nat → Value → World → Prop} {listed : Array Bool} {w : World} {u : Nat → Value} {a' : Act} (i : Nat) {v : Value}
    (hP : ∀ j, j < n → listed.getD j false = true → V j (u j) w)
    (hD : ∀ i j, i ≠ j → i < n → j < n → (fun _ : Nat => false) i = true → (fun _ : Nat => false) j = true → listed.getD i false = true → listed.getD j false = true → u i ≠ u j)
    (hS : S w) (hv : V i v w) (ha : a' = fr (upd u i v)) : RegI n fr S V (fun _ => false) (listed.setIfInBounds i true) a' w :=
  RegI.keep i _ hP hD (fun _ _ h => h) hS hv (fun h => by simp at h) ha
end
end Go.Proofs.YtjoljfnlkddfbaaGreatDoor
