/- Append from whatever source that holds elements, in a walk by hand; stores into rows. -/
import Derived.Test.YtjlhdgmcaiiagaaGreatDoorIt12
import Derived.Test.YtjlhdgmcaiiagaaGreatDoorOk
namespace Go.Proofs.YtjlhdgmcaiiagaaGreatDoor
open Go.RowKit Go.Maps Go.Sort Go.Shelf

section
variable {α : Type} (E : Enc α)
/-- A source of an append: nothing, or cells that hold the elements. -/
def Enc.Src (w : World) (v : Value) (l : List α) : Prop :=
  ∃ o c, v = .slice o l.length c ∧ (o = none → l = []) ∧ ∀ ad, o = some ad → ∀ j u, (E.flat l)[j]? = some u → w.cell? (ad.add j) = some u
variable {E}
theorem Arr.toSrc {R : World → α → List Value → Prop} {w : World} {v : Value} {l : List α} (h : Arr R E.k w v l) (hR : ∀ a cs, R w a cs → cs = E.enc a) : E.Src w v l := by
  obtain ⟨o, c, rfl, -⟩ := id h
  cases o with
  | none =>
    refine ⟨none, c, rfl, fun _ => ?_, fun ad he => by cases he⟩
    rcases l with _ | ⟨x, l⟩
    · rfl
    · obtain ⟨o, c, he, _, _, hel⟩ := h
      obtain ⟨b, off, cs, h1, _⟩ := hel 0 (by simp)
      cases he
      cases h1
  | some ad =>
    refine ⟨some ad, c, rfl, fun h => (by cases h), fun ad' he => ?_⟩
    cases he
    by_cases hn : l = []
    · subst hn
      exact fun j u hj => by simp [Enc.flat] at hj
    · rcases h.srcE E hR hn with ⟨h1, _⟩ | ⟨ad2, c2, h1, h2⟩
      · cases h1
      · cases h1; exact h2
theorem Enc.Row.toSrc {base : Nat} {w : World} {v : Value} {l : List α} (h : E.Row base w v l) : E.Src w v l := by
  rcases h.src with ⟨h1, h2, h3⟩ | ⟨ad, c, h1, h2⟩
  · subst h1
    have hl : l = [] := List.length_eq_zero_iff.1 h2
    subst hl
    exact ⟨none, 0, rfl, fun _ => rfl, fun ad he => by cases he⟩
  · subst h1
    exact ⟨Option.some ad, c, rfl, fun h => (by cases h), fun ad' he => by cases he; exact h2⟩
theorem Enc.Src.one_lit (w : World) (T : TypeId) (x : α) : E.Src (w.alloc (.cells (E.enc x).toArray T)) (.slice (some ⟨w.heap.size, 0, none⟩) 1 1) [x] :=
  ⟨_, _, rfl, fun h => (by cases h), fun ad he j u hj => by
    cases he
    rw [E.flat_one_elt] at hj
    exact alloc_cells2 w _ T j u (by simpa using hj)⟩
/-- The run of such an append. -/
theorem run_append_row {P : Program} {w : World} (base : Nat) (t ty : TypeId) (z : Value) (bytes : Nat) (ht : P.underlying t = some (.slice E.T)) (hI : (P.info? E.T).map (fun i => (i.zero, i.size, i.bytes)) = some (some z, E.k, bytes)) (hzs : z.cells.size = E.k) (hby : bytes ≤ 1000)
    (v : Value) (l : List α) (hown : E.Row base w v l) (x : Value) (news : List α) (hx : E.Src w x news)
    (h63 : l.length + news.length ≤ 10000000000) (hbase : base ≤ w.heap.size) :
    ∃ v' w', (Builtin.append_ #[t, t] ty #[v, x]).run P w = .ok v' w' ∧ E.Row base w' v' (l ++ news) ∧ w.grownBy w' v.ownBlock := by
  obtain ⟨i, i1, i2, i3, i4⟩ := info_parts hI
  obtain ⟨o, c, rfl, hn, hc⟩ := hx
  have hr1 : l.length + news.length ≤ maxLen := by unfold maxLen; omega
  have hr2 : (l.length + news.length) * bytes ≤ 140737488355328 := by
    have : (l.length + news.length) * bytes ≤ 10000000000 * 1000 := Nat.mul_le_mul h63 hby
    omega
  cases o with
  | none =>
    have he := hn rfl
    subst he
    refine ⟨v, w, ?_, by rw [List.append_nil]; exact hown, ⟨rfl, rfl, rfl, Nat.le_refl _, fun _ _ _ => rfl⟩⟩
    rcases hown.2 with ⟨rfl, h0⟩ | ⟨g, cap, cur, rfl, hbg, hg, hnc, hcm, hcs, htake⟩
    · simp [Builtin.append_, run_underlying ht, sizeOf, typeInfo, i1, Builtin.lenOf, Builtin.firstCells]
    · simp [Builtin.append_, run_underlying ht, sizeOf, typeInfo, i1, Builtin.lenOf, Builtin.firstCells, hnc, storeCells]
  | some ad =>
    obtain ⟨v', w', hr, h2, h3, _⟩ := run_append_src (P := P) (w := w) base t ty E.T i z E.k bytes ht i1 i2 i3 i4 hzs E.pos v l.length (E.flat l) hown (.slice (some ad) news.length c) news.length (E.flat news) (Or.inr ⟨ad, c, rfl, hc ad rfl⟩) (E.flat_len _) (E.flat_one _) hr1 hr2 hbase
    refine ⟨v', w', hr, ?_, h3⟩
    unfold Enc.Row
    rw [List.length_append, E.flat_append]
    exact h2
/-- Such an append in a region that is walked by hand. -/
theorem step_append_row {P : Program} {w : World} {ops : Array Oper} {o : Oper} {a : Act} {K : Act → World → Prop} {Q : Exit → Act → World → Prop} {F : Prop} (hgd : o.guard = none) (s x : Operand) (t : TypeId)
    (ho : o.op = .call { callee := .builtin .append, args := #[s, x], argTypes := #[t, t] })
    (E : Enc α) (base : Nat) (z : Value) (bytes : Nat) (ht : P.underlying t = some (.slice E.T)) (hI : (P.info? E.T).map (fun i => (i.zero, i.size, i.bytes)) = some (some z, E.k, bytes)) (hzs : z.cells.size = E.k) (hby : bytes ≤ 1000)
    (v : Value) (l : List α) (hs : a.eval s = v) (hown : E.Row base w v l)
    (src : Value) (news : List α) (hx : a.eval x = src) (hsrc : E.Src w src news)
    (h63 : l.length + news.length ≤ 10000000000) (hbase : base ≤ w.heap.size)
    (h : ∀ v' w', E.Row base w' v' (l ++ news) → w.grownBy w' v.ownBlock → K (a.put o.dst v') w') :
    if Region.wanted o (yielded ops a.tmps) = true then Oper.wp P o a w K Q else F := by
  obtain ⟨v', w', hr, h2, h3⟩ := run_append_row (P := P) base t o.type z bytes ht hI hzs hby v l hown src news hsrc h63 hbase
  exact step_append_run hgd s x t ho v src v' w' hs hx hr (h v' w' h2 h3)
/-- The same in a region that is walked in its order. -/
theorem wpList_append_row {P : Program} {w : World} {ops : Array Oper} {rest : List Oper} {o : Oper} {a : Act} {Q : Exit → Act → World → Prop} (hgd : o.guard = none) (s x : Operand) (t : TypeId)
    (ho : o.op = .call { callee := .builtin .append, args := #[s, x], argTypes := #[t, t] })
    (E : Enc α) (base : Nat) (z : Value) (bytes : Nat) (ht : P.underlying t = some (.slice E.T)) (hI : (P.info? E.T).map (fun i => (i.zero, i.size, i.bytes)) = some (some z, E.k, bytes)) (hzs : z.cells.size = E.k) (hby : bytes ≤ 1000)
    (v : Value) (l : List α) (hs : a.eval s = v) (hown : E.Row base w v l)
    (src : Value) (news : List α) (hx : a.eval x = src) (hsrc : E.Src w src news)
    (h63 : l.length + news.length ≤ 10000000000) (hbase : base ≤ w.heap.size)
    (h : ∀ v' w', E.Row base w' v' (l ++ news) → w.grownBy w' v.ownBlock → wpList P ops Q rest (a.put o.dst v') w') : wpList P ops Q (o :: rest) a w := by
  obtain ⟨v', w', hr, h2, h3⟩ := run_append_row (P := P) base t o.type z bytes ht hI hzs hby v l hown src news hsrc h63 hbase
  refine wpList_plain hgd fun _ hK => ?_
  unfold Oper.wp execOp
  simp only [ho, resolve, invoke, builtin, Sem.run_bind, Sem.run_pure, Result.andThen_ok, List.map_toArray, List.map_cons, List.map_nil, hs, hx, hr]
  exact hK _ _ (h v' w' h2 h3)
end
theorem Enc.Src.below {α : Type} {E : Enc α} {w w' : World} {v : Value} {l : List α} (h : E.Src w v l) (hb : Below w.heap.size w w') : E.Src w' v l := by
  obtain ⟨o, c, rfl, h1, h2⟩ := h
  refine ⟨o, c, rfl, h1, fun ad he j u hj => ?_⟩
  have := h2 ad he j u hj
  obtain ⟨b, off, e, hlt⟩ := addr_plain this
  rw [hb.cell (by rw [e]; exact hlt)]
  exact this
end Go.Proofs.YtjlhdgmcaiiagaaGreatDoor
