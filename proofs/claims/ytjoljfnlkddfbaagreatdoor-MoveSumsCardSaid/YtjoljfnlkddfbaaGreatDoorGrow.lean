/- slices.Grow at nothing: a row of one's own with room, and no element in it. -/
import Derived.Test.YtjoljfnlkddfbaaGreatDoorIt3
import Derived.Test.YtjoljfnlkddfbaaGreatDoorReg
set_option linter.unusedSimpArgs false
set_option linter.unusedVariables false
set_option maxRecDepth 100000
set_option maxHeartbeats 4000000
namespace Go.Proofs.YtjoljfnlkddfbaaGreatDoor
open Go.RowKit Go.Maps Go.Sort Go.Shelf

section
variable {α : Type} (E : Enc α)
/-- A source of an append: nothing, or cells that hold the elements. -/
def Enc.Src (w : World) (v : Value) (l : List α) : Prop :=
 ∃ o c, v = .slice o l.length c ∧ (o = none → l = []) ∧ ∀ ad, o = some ad → ∀ j u, (E.flat l)[j]? = some u → w.cell? (ad.add j) = some u
variable {E}
theorem Arr.toSrc {R : World → α → List Value → Prop} {w : World} {v : Value} {l : List α} (h : Arr R E.k w v l) (hR : ∀ a cs, R w a cs → cs = E.enc a) : E.Src w v l := by
 obtain ⟨o, c, rfl, -⟩ := id h
 cases o with
 | none =>
  refine ⟨none, c, rfl, fun _ => ?_, fun ad he => by cases he⟩
  rcases l with _ | ⟨x, l⟩
  ·rfl
  ·obtain ⟨o, c, he, _, _, hel⟩ := h
   obtain ⟨b, off, cs, h1, _⟩ := hel 0 (by simp)
   cases he
   cases h1
 | some ad =>
  refine ⟨some ad, c, rfl, fun h => (by cases h), fun ad' he => ?_⟩
  cases he
  by_cases hn : l = []
  ·subst hn
   exact fun j u hj => by simp [Enc.flat] at hj
  ·rcases h.srcE E hR hn with ⟨h1, _⟩ | ⟨ad2, c2, h1, h2⟩
   ·cases h1
   ·cases h1; exact h2
theorem Enc.Row.toSrc {base : Nat} {w : World} {v : Value} {l : List α} (h : E.Row base w v l) : E.Src w v l := by
 rcases h.src with ⟨h1, h2, h3⟩ | ⟨ad, c, h1, h2⟩
 ·subst h1
  have hl : l = [] := List.length_eq_zero_iff.1 h2
  subst hl
  exact ⟨none, 0, rfl, fun _ => rfl, fun ad he => by cases he⟩
 ·subst h1
  exact ⟨Option.some ad, c, rfl, fun h => (by cases h), fun ad' he => by cases he; exact h2⟩
theorem Enc.Src.one_lit (w : World) (T : TypeId) (x : α) : E.Src (w.alloc (.cells (E.enc x).toArray T)) (.slice (some ⟨w.heap.size, 0, none⟩) 1 1) [x] :=
 ⟨_, _, rfl, fun h => (by cases h), fun ad he j u hj => by
  cases he
  rw [E.flat_one_elt] at hj
  exact alloc_cells2 w _ T j u (by simpa using hj)⟩
/-- The run of such an append. -/
theorem run_append_row {P : Program} {w : World} (base : Nat) (t ty : TypeId) (z : Value) (bytes : Nat) (ht : P.underlying t = some (.slice E.T)) (hI : (P.info? E.T).map (fun i => (i.zero, i.size, i.bytes)) = some (some z, E.k, bytes)) (hzs : z.cells.size = E.k) (hby : bytes ≤ 1000)
  (v : Value) (l : List α) (hown : E.Row base w v l) (x : Value) (news : List α) (hx : E.Src w x news)
  (h63 : l.length + news.length ≤ 10000000000) (hbase : base ≤ w.heap.size) :
  ∃ v' w', (Builtin.append_ #[t, t] ty #[v, x]).run P w = .ok v' w' ∧ E.Row base w' v' (l ++ news) ∧ w.grownBy w' v.ownBlock := by
 obtain ⟨i, i1, i2, i3, i4⟩ := info_parts hI
 obtain ⟨o, c, rfl, hn, hc⟩ := hx
 have hr1 : l.length + news.length ≤ maxLen := by unfold maxLen; omega
 have hr2 : (l.length + news.length) * bytes ≤ 140737488355328 := by
  have : (l.length + news.length) * bytes ≤ 10000000000 * 1000 := Nat.mul_le_mul h63 hby
  omega
 cases o with
 | none =>
  have he := hn rfl
  subst he
  refine ⟨v, w, ?_, by rw [List.append_nil]; exact hown, ⟨rfl, rfl, rfl, Nat.le_refl _, fun _ _ _ => rfl⟩⟩
  rcases hown.2 with ⟨rfl, h0⟩ | ⟨g, cap, cur, rfl, hbg, hg, hnc, hcm, hcs, htake⟩
  ·simp [Builtin.append_, run_underlying ht, sizeOf, typeInfo, i1, Builtin.lenOf, Builtin.firstCells]
  ·simp [Builtin.append_, run_underlying ht, sizeOf, typeInfo, i1, Builtin.lenOf, Builtin.firstCells, hnc, storeCells]
 | some ad =>
  obtain ⟨v', w', hr, h2, h3, _⟩ := run_append_src (P := P) (w := w) base t ty E.T i z E.k bytes ht i1 i2 i3 i4 hzs E.pos v l.length (E.flat l) hown (.slice (some ad) news.length c) news.length (E.flat news) (Or.inr ⟨ad, c, rfl, hc ad rfl⟩) (E.flat_len _) (E.flat_one _) hr1 hr2 hbase
  refine ⟨v', w', hr, ?_, h3⟩
  unfold Enc.Row
  rw [List.length_append, E.flat_append]
  exact h2
theorem step_append_run {P : Program} {w : World} {ops : Array Oper} {o : Oper} {a : Act} {K : Act → World → Prop} {Q : Exit → Act → World → Prop} {E : Prop} (hgd : o.guard = none) (s x : Operand) (t : TypeId)
  (ho : o.op = .call { callee := .builtin .append, args := #[s, x], argTypes := #[t, t] }) (v u r : Value) (w' : World) (hs : a.eval s = v) (hx : a.eval x = u)
  (hr : (Builtin.append_ #[t, t] o.type #[v, u]).run P w = .ok r w') (h : K (a.put o.dst r) w') :
  if Region.wanted o (yielded ops a.tmps) = true then Oper.wp P o a w K Q else E := by
 have hw : Region.wanted o (yielded ops a.tmps) = true := by simp [Region.wanted, hgd]
 rw [if_pos hw]
 unfold Oper.wp execOp
 simp only [ho, resolve, invoke, builtin, Sem.run_bind, Sem.run_pure, Result.andThen_ok, List.map_toArray, List.map_cons, List.map_nil, hs, hx, hr]
 exact h
/-- Such an append in a region that is walked by hand. -/
theorem step_append_row {P : Program} {w : World} {ops : Array Oper} {o : Oper} {a : Act} {K : Act → World → Prop} {Q : Exit → Act → World → Prop} {F : Prop} (hgd : o.guard = none) (s x : Operand) (t : TypeId)
  (ho : o.op = .call { callee := .builtin .append, args := #[s, x], argTypes := #[t, t] })
  (E : Enc α) (base : Nat) (z : Value) (bytes : Nat) (ht : P.underlying t = some (.slice E.T)) (hI : (P.info? E.T).map (fun i => (i.zero, i.size, i.bytes)) = some (some z, E.k, bytes)) (hzs : z.cells.size = E.k) (hby : bytes ≤ 1000)
  (v : Value) (l : List α) (hs : a.eval s = v) (hown : E.Row base w v l)
  (src : Value) (news : List α) (hx : a.eval x = src) (hsrc : E.Src w src news)
  (h63 : l.length + news.length ≤ 10000000000) (hbase : base ≤ w.heap.size)
  (h : ∀ v' w', E.Row base w' v' (l ++ news) → w.grownBy w' v.ownBlock → K (a.put o.dst v') w') :
  if Region.wanted o (yielded ops a.tmps) = true then Oper.wp P o a w K Q else F := by
 obtain ⟨v', w', hr, h2, h3⟩ := run_append_row (P := P) base t o.type z bytes ht hI hzs hby v l hown src news hsrc h63 hbase
 exact step_append_run hgd s x t ho v src v' w' hs hx hr (h v' w' h2 h3)
/-- The same in a region that is walked in its order. -/
theorem wpList_append_row {P : Program} {w : World} {ops : Array Oper} {rest : List Oper} {o : Oper} {a : Act} {Q : Exit → Act → World → Prop} (hgd : o.guard = none) (s x : Operand) (t : TypeId)
  (ho : o.op = .call { callee := .builtin .append, args := #[s, x], argTypes := #[t, t] })
  (E : Enc α) (base : Nat) (z : Value) (bytes : Nat) (ht : P.underlying t = some (.slice E.T)) (hI : (P.info? E.T).map (fun i => (i.zero, i.size, i.bytes)) = some (some z, E.k, bytes)) (hzs : z.cells.size = E.k) (hby : bytes ≤ 1000)
  (v : Value) (l : List α) (hs : a.eval s = v) (hown : E.Row base w v l)
  (src : Value) (news : List α) (hx : a.eval x = src) (hsrc : E.Src w src news)
  (h63 : l.length + news.length ≤ 10000000000) (hbase : base ≤ w.heap.size)
  (h : ∀ v' w', E.Row base w' v' (l ++ news) → w.grownBy w' v.ownBlock → wpList P ops Q rest (a.put o.dst v') w') : wpList P ops Q (o :: rest) a w := by
 obtain ⟨v', w', hr, h2, h3⟩ := run_append_row (P := P) base t o.type z bytes ht hI hzs hby v l hown src news hsrc h63 hbase
 refine wpList_plain hgd fun _ hK => ?_
 unfold Oper.wp execOp
 simp only [ho, resolve, invoke, builtin, Sem.run_bind, Sem.run_pure, Result.andThen_ok, List.map_toArray, List.map_cons, List.map_nil, hs, hx, hr]
 exact hK _ _ (h v' w' h2 h3)
end
theorem Enc.Src.below {α : Type} {E : Enc α} {w w' : World} {v : Value} {l : List α} (h : E.Src w v l) (hb : Below w.heap.size w w') : E.Src w' v l := by
 obtain ⟨o, c, rfl, h1, h2⟩ := h
 refine ⟨o, c, rfl, h1, fun ad he j u hj => ?_⟩
 have := h2 ad he j u hj
 obtain ⟨b, off, e, hlt⟩ := addr_plain this
 rw [hb.cell (by rw [e]; exact hlt)]
 exact this
end Go.Proofs.YtjoljfnlkddfbaaGreatDoor
namespace Go.Proofs.YtjoljfnlkddfbaaGreatDoor
open Go.RowKit Go.Maps Go.Sort Go.Shelf

theorem arr_nil {α : Type} {R : World → α → List Value → Prop} {sz : Nat} {w : World} : Arr R sz w (.slice none 0 0) [] := ⟨none, 0, rfl, Nat.le_refl _, Nat.zero_le _, fun i hi => absurd hi (Nat.not_lt_zero i)⟩
/-- An item's row and a row of marks never lie in one block. -/
theorem apart_types {base base' : Nat} {w : World} {v u : Value} {ps : List ItW} {ms : List MarkD} (h : EItem.Row base w v ps) (h2 : EMark.Row base' w u ms) : Apart v u := by
 intro k hk hk2
 obtain ⟨_, ⟨h1, _⟩ | ⟨g, cap, cur, h1, _, hg, _⟩⟩ := h
 ·rw [h1] at hk; simp [Value.ownBlock] at hk
 ·obtain ⟨_, ⟨h3, _⟩ | ⟨g', cap', cur', h3, _, hg', _⟩⟩ := h2
  ·rw [h3] at hk2; simp [Value.ownBlock] at hk2
  ·rw [h1] at hk
   rw [h3] at hk2
   have e1 : g = k := by simpa [Value.ownBlock] using hk
   have e2 : g' = k := by simpa [Value.ownBlock] using hk2
   subst e1
   subst e2
   rw [hg] at hg'
   injection hg' with e
   injection e with _ e _
   exact absurd e (by decide)
/-- Two fresh lists, one laid after the other, become one. -/
theorem fresh_append {base base6 : Nat} {w6 w7 : World} {v5 v6 v7 : Value} {qs rs : List ItW} (h : FreshI base w6 v5 qs) (h6 : FreshI base6 w6 v6 rs) (hb : base ≤ base6) (hlt : ∀ p ∈ qs, ∀ k, p.v.ownBlock = some k → k < base6) (hv : ∀ k, v5.ownBlock = some k → k < base6) (hrow : EItem.Row base w7 v7 (qs ++ rs)) (hgr : w6.grownBy w7 v5.ownBlock) : FreshI base w7 v7 (qs ++ rs) := by
 obtain ⟨h1, h2, h3⟩ := h
 obtain ⟨k1, k2, k3⟩ := h6
 have hst : ∀ (p : ItW) (B : Nat), ItOk B w6 p → Apart v5 p.v → ItOk B w7 p := fun p B hp ha => hp.stay (fun k hk => hgr.block k (hp.2.1.lt k hk).2 (fun e => ha k e.symm hk))
 have hall : ∀ p ∈ qs ++ rs, ItOk base w7 p := fun p hp => by
  rcases List.mem_append.1 hp with hp | hp
  ·exact hst p base (h2 p hp).1 (h2 p hp).2
  ·refine hst p base ((k2 p hp).1.mono hb) (fun k hk hk2 => ?_)
   have := hv k hk
   have := ((k2 p hp).1.2.1.lt k hk2).1
   omega
 refine ⟨hrow, fun p hp => ⟨hall p hp, apart_types hrow (hall p hp).2.1⟩, List.pairwise_append.2 ⟨h3, k3, fun a ha b hb2 k hk hk2 => ?_⟩⟩
 have := hlt a ha k hk
 have := ((k2 b hb2).1.2.1.lt k hk2).1
 omega
/-- A literal row of elements in a new block. -/
theorem row_lit {α : Type} (E : Enc α) (l : List α) (w : World) (h : l.length ≤ maxLen) : E.Row w.heap.size (w.alloc (.cells (E.flat l).toArray E.T)) (.slice (some ⟨w.heap.size, 0, none⟩) l.length l.length) l :=
 Enc.In.own ⟨_, alloc_new _ _, by simp [E.flat_len], Nat.le_refl _, h, fun t _ => by simp⟩ (Nat.le_refl _)
theorem lit_items {W : World} (ps : List ItW) (hl : ps.length ≤ maxLen) (h : ∀ p ∈ ps, p.x.name.size ≤ maxLen ∧ Arr MarkR 4 W p.v p.x.marks) : Arr ItemR 2 (W.alloc (.cells (EItem.flat ps).toArray 55)) (.slice (some ⟨W.heap.size, 0, none⟩) ps.length ps.length) (ps.map (·.x)) :=
 (Arr.of_row (R := ItwR) (row_lit EItem ps W hl) (fun p hp => ⟨rfl, (h p hp).1, (h p hp).2.marks (bal)⟩)).of_itw
theorem lit_marks {W : World} (ms : List MarkD) (hl : ms.length ≤ maxLen) (h : ∀ m ∈ ms, MI m) : Arr MarkR 4 (W.alloc (.cells (EMark.flat ms).toArray 85)) (.slice (some ⟨W.heap.size, 0, none⟩) ms.length ms.length) ms :=
 Arr.of_marks (row_lit EMark ms W hl) h
theorem lit_dots {W : World} (ds : List DotD) (hl : ds.length ≤ maxLen) (h : ∀ d ∈ ds, DI d) : Arr DotR 2 (W.alloc (.cells (EDot.flat ds).toArray 39)) (.slice (some ⟨W.heap.size, 0, none⟩) ds.length ds.length) ds :=
 Arr.of_row (E := EDot) (R := DotR) (row_lit EDot ds W hl) (fun d hd => ⟨rfl, h d hd⟩)
/-- Items that may be spoilt: names and quantities that stand in blocks from base on, apart from each other. -/
def Shp (base : Nat) (w : World) (g n k : Nat) : Prop :=
 ∀ i, i < n → ∃ nm mo ml mc, w.cell? ⟨g, i * 2, none⟩ = some (.string nm) ∧ (k ≤ i → nm.size ≤ 100000) ∧ w.frozen? ⟨g, i * 2, none⟩ = false ∧ w.cell? ⟨g, i * 2 + 1, none⟩ = some (.slice mo ml mc) ∧ ml ≤ maxLen ∧
  ∀ t, t < ml → ∃ b q, mo = some ⟨b, 0, none⟩ ∧ base ≤ b ∧ b ≠ g ∧ w.cell? ⟨b, t * 4 + 2, none⟩ = some (.int .i64 q) ∧ w.frozen? ⟨b, t * 4 + 2, none⟩ = false
theorem Shp.name {base g n k i : Nat} {w : World} {s : ByteArray} (h : Shp base w g n k) (hi : i < n) (hk : i ≤ k) : Shp base (w.setCell ⟨g, i * 2, none⟩ (.string s)) g n (k + 1) := by
 intro j hj
 obtain ⟨nm, mo, ml, mc, h1, h2, h3, h4, h5, h6⟩ := h j hj
 have hother : ∀ b t, (b, t) ≠ (g, i * 2) → (w.setCell ⟨g, i * 2, none⟩ (.string s)).cell? ⟨b, t, none⟩ = w.cell? ⟨b, t, none⟩ := fun b t hne => World.cell?_setCell_other w _ _ _ (fun e => hne (by cases e; rfl))
 have hmarks : ∀ t, t < ml → ∃ b q, mo = some ⟨b, 0, none⟩ ∧ base ≤ b ∧ b ≠ g ∧ (w.setCell ⟨g, i * 2, none⟩ (.string s)).cell? ⟨b, t * 4 + 2, none⟩ = some (.int .i64 q) ∧ (w.setCell ⟨g, i * 2, none⟩ (.string s)).frozen? ⟨b, t * 4 + 2, none⟩ = false := fun t ht => by
  obtain ⟨b, q, e1, e2, e3, e4, e5⟩ := h6 t ht
  exact ⟨b, q, e1, e2, e3, by rw [hother _ _ (fun e => e3 (Prod.mk.inj e).1)]; exact e4, by rw [World.frozen?_setCell]; exact e5⟩
 have h4' : (w.setCell ⟨g, i * 2, none⟩ (.string s)).cell? ⟨g, j * 2 + 1, none⟩ = some (.slice mo ml mc) := by rw [hother _ _ (fun e => by have := (Prod.mk.inj e).2; omega)]; exact h4
 by_cases e : j = i
 ·subst e
  exact ⟨s, mo, ml, mc, World.cell?_setCell_same w _ _ h1, fun h => by omega, by rw [World.frozen?_setCell]; exact h3, h4', h5, hmarks⟩
 ·exact ⟨nm, mo, ml, mc, by rw [hother _ _ (fun e2 => by have := (Prod.mk.inj e2).2; omega)]; exact h1, fun h => h2 (by omega), by rw [World.frozen?_setCell]; exact h3, h4', h5, hmarks⟩
theorem Shp.qty {base g n k b t : Nat} {w : World} {q0 q : Int} (h : Shp base w g n k) (hb : b ≠ g) (h0 : w.cell? ⟨b, t, none⟩ = some (.int .i64 q0)) : Shp base (w.setCell ⟨b, t, none⟩ (.int .i64 q)) g n k := by
 intro j hj
 obtain ⟨nm, mo, ml, mc, h1, h2, h3, h4, h5, h6⟩ := h j hj
 have hother : ∀ b' t', (b', t') ≠ (b, t) → (w.setCell ⟨b, t, none⟩ (.int .i64 q)).cell? ⟨b', t', none⟩ = w.cell? ⟨b', t', none⟩ := fun b' t' hne => World.cell?_setCell_other w _ _ _ (fun e => hne (by cases e; rfl))
 refine ⟨nm, mo, ml, mc, by rw [hother _ _ (fun e => hb (Prod.mk.inj e).1.symm)]; exact h1, h2, by rw [World.frozen?_setCell]; exact h3, by rw [hother _ _ (fun e => hb (Prod.mk.inj e).1.symm)]; exact h4, h5, fun t' ht => ?_⟩
 obtain ⟨b', q', e1, e2, e3, e4, e5⟩ := h6 t' ht
 by_cases e : (b', t' * 4 + 2) = (b, t)
 ·injection e with ea eb
  subst ea
  refine ⟨b', q, e1, e2, e3, ?_, by rw [World.frozen?_setCell]; exact e5⟩
  rw [← eb] at h0 ⊢
  exact World.cell?_setCell_same w _ _ h0
 ·exact ⟨b', q', e1, e2, e3, by rw [hother _ _ e]; exact e4, by rw [World.frozen?_setCell]; exact e5⟩
theorem Shp.below {base g n k : Nat} {w w' : World} (h : Shp base w g n k) (hb : Below w.heap.size w w') : Shp base w' g n k := by
 intro i hi
 obtain ⟨nm, mo, ml, mc, h1, h2, h3, h4, h5, h6⟩ := h i hi
 have hl : ∀ {b t v}, w.cell? ⟨b, t, none⟩ = some v → b < w.heap.size := fun {b t v} hc => by
  obtain ⟨b', off, e, hlt⟩ := addr_plain hc
  cases e
  exact hlt
 refine ⟨nm, mo, ml, mc, by rw [hb.cell (p := ⟨_, _, _⟩) (hl h1)]; exact h1, h2, by rw [hb.frozen (p := ⟨_, _, _⟩) (hl h1)]; exact h3, by rw [hb.cell (p := ⟨_, _, _⟩) (hl h4)]; exact h4, h5, fun t ht => ?_⟩
 obtain ⟨b, q, e1, e2, e3, e4, e5⟩ := h6 t ht
 exact ⟨b, q, e1, e2, e3, by rw [hb.cell (p := ⟨_, _, _⟩) (hl e4)]; exact e4, by rw [hb.frozen (p := ⟨_, _, _⟩) (hl e4)]; exact e5⟩
theorem filter_snoc {α : Type} (p : α → Bool) (l : List α) (k : Nat) (h : k < l.length) : (l.take (k + 1)).filter p = (l.take k).filter p ++ (if p l[k] then [l[k]] else []) := by
 rw [List.take_succ_eq_append_getElem h, List.filter_append]
 by_cases hp : p l[k] = true
 ·rw [if_pos hp, List.filter_cons_of_pos hp]; rfl
 ·rw [if_neg hp, List.filter_cons_of_neg hp]; rfl
end Go.Proofs.YtjoljfnlkddfbaaGreatDoor
namespace Go.Proofs.YtjoljfnlkddfbaaGreatDoor
open Go.RowKit Go.Maps Go.Sort Go.Shelf

section
variable {α : Type} {E : Enc α}
theorem run_append_row_at {P : Program} {w : World} (base : Nat) (t ty : TypeId) (z : Value) (bytes : Nat) (ht : P.underlying t = some (.slice E.T)) (hI : (P.info? E.T).map (fun i => (i.zero, i.size, i.bytes)) = some (some z, E.k, bytes)) (hzs : z.cells.size = E.k) (hby : bytes ≤ 1000)
  (v : Value) (l : List α) (hown : E.Row base w v l) (x : Value) (news : List α) (hx : E.Src w x news)
  (h63 : l.length + news.length ≤ 10000000000) (hbase : base ≤ w.heap.size) :
  ∃ v' w', (Builtin.append_ #[t, t] ty #[v, x]).run P w = .ok v' w' ∧ E.Row base w' v' (l ++ news) ∧ w.grownBy w' v.ownBlock ∧ (v'.ownBlock = v.ownBlock ∨ v'.ownBlock = some w.heap.size) := by
 obtain ⟨i, i1, i2, i3, i4⟩ := info_parts hI
 obtain ⟨o, c, rfl, hn, hc⟩ := hx
 have hr1 : l.length + news.length ≤ maxLen := by unfold maxLen; omega
 have hr2 : (l.length + news.length) * bytes ≤ 140737488355328 := by
  have : (l.length + news.length) * bytes ≤ 10000000000 * 1000 := Nat.mul_le_mul h63 hby
  omega
 cases o with
 | none =>
  have he := hn rfl
  subst he
  refine ⟨v, w, ?_, by rw [List.append_nil]; exact hown, ⟨rfl, rfl, rfl, Nat.le_refl _, fun _ _ _ => rfl⟩, Or.inl rfl⟩
  rcases hown.2 with ⟨rfl, h0⟩ | ⟨g, cap, cur, rfl, hbg, hg, hnc, hcm, hcs, htake⟩
  ·simp [Builtin.append_, run_underlying ht, sizeOf, typeInfo, i1, Builtin.lenOf, Builtin.firstCells]
  ·simp [Builtin.append_, run_underlying ht, sizeOf, typeInfo, i1, Builtin.lenOf, Builtin.firstCells, hnc, storeCells]
 | some ad =>
  obtain ⟨v', w', hr, h2, h3, _, h5⟩ := run_append_own_at (P := P) w base t ty E.T i z E.k bytes ht i1 i2 i3 i4 hzs E.pos v l.length (E.flat l) hown ad news.length c (E.flat news) (E.flat_len _) (hc ad rfl) (E.flat_one _) hr1 hr2 hbase
  refine ⟨v', w', hr, ?_, h3, h5⟩
  unfold Enc.Row
  rw [List.length_append, E.flat_append]
  exact h2
theorem wpList_append_row_at {P : Program} {w : World} {ops : Array Oper} {rest : List Oper} {o : Oper} {a : Act} {Q : Exit → Act → World → Prop} (hgd : o.guard = none) (s x : Operand) (t : TypeId)
  (ho : o.op = .call { callee := .builtin .append, args := #[s, x], argTypes := #[t, t] })
  (E : Enc α) (base : Nat) (z : Value) (bytes : Nat) (ht : P.underlying t = some (.slice E.T)) (hI : (P.info? E.T).map (fun i => (i.zero, i.size, i.bytes)) = some (some z, E.k, bytes)) (hzs : z.cells.size = E.k) (hby : bytes ≤ 1000)
  (v : Value) (l : List α) (hs : a.eval s = v) (hown : E.Row base w v l)
  (src : Value) (news : List α) (hx : a.eval x = src) (hsrc : E.Src w src news)
  (h63 : l.length + news.length ≤ 10000000000) (hbase : base ≤ w.heap.size)
  (h : ∀ v' w', E.Row base w' v' (l ++ news) → w.grownBy w' v.ownBlock → (v'.ownBlock = v.ownBlock ∨ v'.ownBlock = some w.heap.size) → wpList P ops Q rest (a.put o.dst v') w') : wpList P ops Q (o :: rest) a w := by
 obtain ⟨v', w', hr, h2, h3, h4⟩ := run_append_row_at (P := P) base t o.type z bytes ht hI hzs hby v l hown src news hsrc h63 hbase
 refine wpList_plain hgd fun _ hK => ?_
 unfold Oper.wp execOp
 simp only [ho, resolve, invoke, builtin, Sem.run_bind, Sem.run_pure, Result.andThen_ok, List.map_toArray, List.map_cons, List.map_nil, hs, hx, hr]
 exact hK _ _ (h v' w' h2 h3 h4)
end
theorem Enc.Row.dots {base : Nat} {w : World} {v : Value} {l : List DotD} (h : EDot.Row base w v l) (hI : ∀ d ∈ l, DI d) : Arr DotR 2 w v l := Arr.of_row (E := EDot) (R := DotR) h (fun d hd => ⟨rfl, hI d hd⟩)
theorem DI_valid {d : DotD} (h : validDotD d = true) : DI d := by
 have : 1 ≤ d.rep ∧ d.rep ≤ 65535 ∧ 1 ≤ d.ctr ∧ d.ctr ≤ 4294967295 := by
  simp only [validDotD, Bool.and_eq_true, decide_eq_true_eq] at h
  exact ⟨h.1.1.1, h.1.1.2, h.1.2, h.2⟩
 unfold DI I64
 omega
end Go.Proofs.YtjoljfnlkddfbaaGreatDoor
namespace Go.Proofs.YtjoljfnlkddfbaaGreatDoor
open Go.RowKit Go.Maps Go.Sort Go.Shelf

theorem run_append_make {P : Program} (w : World) (t ti ty e : TypeId) (i : TypeInfo) (z : Value) (ht : P.underlying t = some (.slice e)) (hti : P.underlying ti = some (.int .i64)) (hi : P.info? e = some i) (hz : i.zero = some z)
  (n : Nat) (h0 : 0 < n) (h63 : (n : Int) ≤ 9223372036854775807) (h48 : n * i.bytes ≤ 281474976710656) (hsz : n * i.size ≠ 0) :
  (Builtin.append_ #[t, ti] ty #[.slice none 0 0, .int .i64 n]).run P w =
   .ok (.slice (some ⟨w.heap.size, 0, none⟩) n (grownCap w n 0 e)) (w.drew.alloc (.cells (Builtin.zeroCells z.cells n ++ Builtin.zeroCells z.cells (grownCap w n 0 e - n)) e)) := by
 have hn : n ≠ 0 := by omega
 have h63' : ¬ (9223372036854775807 < (n : Int)) := by omega
 have h48' : ¬ (281474976710656 < Builtin.nextslicecap n 0 * i.bytes) := by rw [nextslicecap_zero h0]; omega
 have hw : IntKind.i64.wrap (n : Int) = n := by rw [IntKind.wrap_i64]; omega
 have h48i : ¬ ((281474976710656 : Int) < (n : Int) * (i.bytes : Int)) := by
  have : ((n * i.bytes : Nat) : Int) ≤ 281474976710656 := by omega
  rw [Int.natCast_mul] at this
  omega
 have hneg : ¬ ((n : Int) < 0) := by omega
 simp [Builtin.append_, run_underlying ht, run_underlying hti, sizeOf, typeInfo, zeroValue, hi, hz, asInt, asIntOf, hw, hneg, h48i, hn, hsz, h63', h48', Question.forced, run_firstCells_none, newRow, grownCap]
theorem wpList_append_eq {P : Program} {w : World} {ops : Array Oper} {rest : List Oper} {o : Oper} {a : Act} {Q : Exit → Act → World → Prop} (hgd : o.guard = none) (s x : Operand) (t t2 : TypeId)
  (ho : o.op = .call { callee := .builtin .append, args := #[s, x], argTypes := #[t, t2] }) (v u r : Value) (w' : World) (hs : a.eval s = v) (hx : a.eval x = u)
  (hr : (Builtin.append_ #[t, t2] o.type #[v, u]).run P w = .ok r w') (h : wpList P ops Q rest (a.put o.dst r) w') : wpList P ops Q (o :: rest) a w := by
 refine wpList_plain hgd fun _ hK => ?_
 unfold Oper.wp execOp
 simp only [ho, resolve, invoke, builtin, Sem.run_bind, Sem.run_pure, Result.andThen_ok, List.map_toArray, List.map_cons, List.map_nil, hs, hx, hr]
 exact hK _ _ h
theorem growVec_any (n : Nat) (w : World) (hn : n ≤ 1000000) : Calls Tryz.prog 183 #[.slice none 0 0, .int .i64 n] w fun e w' => ∃ v', e = .returned v' ∧ EDot.Row w.heap.size w' v' [] ∧ Below w.heap.size w w' := by
 by_cases h0 : n = 0
 ·subst h0
  go_enter Tryz.func183, Tryz.ntmps183
  go_wp2_with fail
  go_ret
  exact ⟨_, rfl, Enc.Row.nil _ _, Below.refl _ _⟩
 ·have hw : IntKind.i64.wrap (n : Int) = n := by rw [IntKind.wrap_i64]; omega
  have a0 : (0 : Int) < n := by omega
  have a1 : ¬ ((n : Int) < 0) := by omega
  have a2 : (0 : Int) ≤ n := by omega
  obtain ⟨i, i1, i2, i3, i4⟩ := info_parts infoDot
  have hr : ∀ ty, (Builtin.append_ #[23, 3] ty #[.slice none 0 0, .int .i64 n]).run Tryz.prog w = .ok (.slice (some ⟨w.heap.size, 0, none⟩) n (grownCap w n 0 39)) (w.drew.alloc (.cells (Builtin.zeroCells (Value.agg #[.int .i64 0, .int .i64 0]).cells n ++ Builtin.zeroCells (Value.agg #[.int .i64 0, .int .i64 0]).cells (grownCap w n 0 39 - n)) 39)) := fun ty =>
   run_append_make (P := Tryz.prog) w 23 3 ty 39 i _ Tryz.underlying23 Tryz.underlying3 i1 i2 n (by omega) (by omega) (by rw [i4]; omega) (by rw [i3]; omega)
  have hge := grownCap_ge w n 0 39
  have hcm := grownCap_le_maxLen w n 0 39 (by unfold maxLen; omega)
  obtain ⟨C, hC⟩ : ∃ C, C = Builtin.zeroCells (Value.agg #[.int .i64 0, .int .i64 0]).cells n ++ Builtin.zeroCells (Value.agg #[.int .i64 0, .int .i64 0]).cells (grownCap w n 0 39 - n) := ⟨_, rfl⟩
  rw [← hC] at hr
  have hCs : C.size = grownCap w n 0 39 * 2 := by
   rw [hC, Array.size_append, size_zeroCells, size_zeroCells]
   have e2 : (Value.agg #[.int .i64 0, .int .i64 0]).cells.size = 2 := by decide
   rw [e2]
   omega
  have HCS := Hd hCs
  have HGE := Hd hge
  have HCM := Hd hcm
  generalize grownCap w n 0 39 = cp at *
  have HR := Hd hr
  clear hC hCs hge i1 i2 i3 i4 hr
  have a3 : (0 : Int) ≤ cp := by omega
  go_enter Tryz.func183, Tryz.ntmps183
  go_wp2_with (at_builtin; refine wpList_append_eq rfl _ _ 23 3 rfl (.slice none 0 0) (.int .i64 n) _ _ rfl rfl (HR.out _) ?_)
  go_ret
  exact ⟨_, rfl, ⟨by simp [Enc.flat], Or.inr ⟨w.heap.size, cp, C, rfl, Nat.le_refl _, alloc_new _ _, Nat.zero_le _, HCM.out, HCS.out, by simp [Enc.flat]⟩⟩, below_drew1 (bal)⟩
end Go.Proofs.YtjoljfnlkddfbaaGreatDoor
