/- The set of a list of dots: Clone, SortFunc, Compact. -/
import Derived.Test.YtjlhdgmcaiiagaaGreatDoorDot2
import Derived.Test.YtjlhdgmcaiiagaaGreatDoorLays
import Derived.Lib.BufferMore
import Derived.Laws.StructEq
import Derived.Laws.IdiomCopy
namespace Go.Proofs.YtjlhdgmcaiiagaaGreatDoor
open Go.RowKit Go.Maps

theorem compactD_snoc : ∀ (m : List DotD) (a x : DotD), compactD (m ++ [a] ++ [x]) = if a = x then compactD (m ++ [a]) else compactD (m ++ [a]) ++ [x]
  | [], a, x => by
    simp only [List.nil_append, List.cons_append, compactD]
    split
    · rename_i h; rw [h]
    · rfl
  | [b], a, x => by
    have ih := compactD_snoc [] a x
    simp only [List.nil_append, List.cons_append] at ih ⊢
    rw [show compactD (b :: a :: [x]) = if b = a then compactD (a :: [x]) else b :: compactD (a :: [x]) from rfl, show compactD [b, a] = if b = a then compactD [a] else b :: compactD [a] from rfl, ih]
    split
    · rfl
    · split <;> simp
  | b :: c :: m, a, x => by
    have ih := compactD_snoc (c :: m) a x
    simp only [List.cons_append] at ih ⊢
    rw [show compactD (b :: c :: (m ++ [a] ++ [x])) = if b = c then compactD (c :: (m ++ [a] ++ [x])) else b :: compactD (c :: (m ++ [a] ++ [x])) from rfl, show compactD (b :: c :: (m ++ [a])) = if b = c then compactD (c :: (m ++ [a])) else b :: compactD (c :: (m ++ [a])) from rfl, ih]
    split
    · rfl
    · split <;> simp
/-- One element further. -/
theorem compactD_take (l : List DotD) (k : Nat) (h : k + 1 < l.length) : compactD (l.take (k + 2)) = if l[k] = l[k + 1] then compactD (l.take (k + 1)) else compactD (l.take (k + 1)) ++ [l[k + 1]] := by
  have e1 : l.take (k + 1) = l.take k ++ [l[k]] := List.take_succ_eq_append_getElem (by omega)
  have e2 : l.take (k + 2) = l.take (k + 1) ++ [l[k + 1]] := List.take_succ_eq_append_getElem h
  rw [e2, e1]
  exact compactD_snoc _ _ _

theorem setCells_at {T : TypeId} {fz : Nat × Nat} : ∀ (vs : List Value) (w : World) (g o : Nat) (C : Array Value), w.heap[g]? = some (.cells C T fz) → ∃ C', (w.setCells g o vs).heap[g]? = some (.cells C' T fz) ∧ C'.size = C.size ∧ ∀ t, t < o → C'[t]? = C[t]?
  | [], _, _, _, C, h => ⟨C, h, rfl, fun _ _ => rfl⟩
  | v :: r, w, g, o, C, h => by
    obtain ⟨C', h1, h2, h3⟩ := setCells_at r (w.setCell ⟨g, o, none⟩ v) g (o + 1) _ (setCell_same h o v)
    exact ⟨C', h1, by rw [h2]; simp, fun t ht => by rw [h3 t (by omega), Array.getElem?_setIfInBounds_ne (by omega)]⟩
theorem setCells_below : ∀ (vs : List Value) (w0 w : World) (B g o : Nat), B ≤ g → Below B w0 w → Below B w0 (w.setCells g o vs)
  | [], _, _, _, _, _, _, h => h
  | v :: r, w0, _, B, g, o, hB, h => setCells_below r w0 _ B g (o + 1) hB (h.setCell hB v)
/-- clear of m elements. -/
theorem run_clear_n {P : Program} (w : World) (ty t e : TypeId) (z : Value) (g o c m : Nat) (ht : P.underlying t = some (.slice e)) (hz : ∀ w, (zeroValue e).run P w = .ok z w)
    (hc : ∀ j, j < (Builtin.zeroCells z.cells m).toList.length → (w.cell? ⟨g, o + j, none⟩).isSome = true) (hf : ∀ j, j < (Builtin.zeroCells z.cells m).toList.length → w.frozen? ⟨g, o + j, none⟩ = false) (h1 : ∀ v ∈ (Builtin.zeroCells z.cells m).toList, v.oneCell' = true) :
    (Builtin.clear_ #[t] ty #[.slice (some ⟨g, o, none⟩) m c]).run P w = .ok (.tuple #[]) (w.setCells g o (Builtin.zeroCells z.cells m).toList) := by
  have hst := run_storeCells_cells (P := P) g o (Builtin.zeroCells z.cells m).toList 0 w (by simpa using hc) (by simpa using hf) h1
  simp only [Nat.add_zero] at hst
  cases m with
  | zero => simp [Builtin.clear_, run_underlying ht, Builtin.zeroCells]; rfl
  | succ m => simp [Builtin.clear_, run_underlying ht, hz, hst]
theorem zeroDots (m : Nat) : (Builtin.zeroCells (Value.agg #[.int .i64 0, .int .i64 0]).cells m).toList.length = m * 2 ∧ ∀ v ∈ (Builtin.zeroCells (Value.agg #[.int .i64 0, .int .i64 0]).cells m).toList, v.oneCell' = true := by
  have hz : (Value.agg #[.int .i64 0, .int .i64 0]).cells = #[.int .i64 0, .int .i64 0] := by rfl
  rw [hz]
  refine ⟨by simp [Builtin.zeroCells], fun v hv => ?_⟩
  simp only [Builtin.zeroCells, Array.toList_map, List.mem_map] at hv
  obtain ⟨i, _, rfl⟩ := hv
  have : i % 2 = 0 ∨ i % 2 = 1 := by omega
  rcases this with h | h <;> simp [h] <;> rfl

theorem eqDot (x y : DotD) (w : World) : (binOp .eql 24 (dotV x) (dotV y)).run Tryz.prog w = .ok (.bool (decide (x = y))) w := by
  have u3 := Tryz.underlying3
  have a3 := Tryz.isAgg3
  have z3 := Tryz.sizeOf3
  have hS : Tryz.prog.underlying 24 = some (.struct (Tryz.prog.fieldsOf 24)) := by kernel_rfl
  have hp : Tryz.prog.stoodInHeld 24 = false := by kernel_rfl
  unfold dotV
  rw [run_eql_struct, show (10000 : Nat) = 9999 + 1 from rfl, run_equalIn_agg w 9999 24 _ _ hS hp]
  simp only [Program.fieldsOf, Tryz.underlying24]
  go_simp
  obtain ⟨a, b⟩ := x
  obtain ⟨c, d⟩ := y
  by_cases h1 : a = c <;> by_cases h2 : b = d <;> simp [h1, h2]
theorem neqDot (x y : DotD) (w : World) : (binOp .neq 24 (dotV x) (dotV y)).run Tryz.prog w = .ok (.bool (!decide (x = y))) w := by
  have h := eqDot x y w
  unfold dotV at *
  rw [run_eql_struct] at h
  rw [run_neq_struct]
  generalize (Op.equalIn 10000 24 (.agg #[.int .i64 x.rep, .int .i64 x.ctr]) (.agg #[.int .i64 y.rep, .int .i64 y.ctr])).run Tryz.prog w = r at h ⊢
  cases r with
  | ok b w1 =>
    simp only [Result.andThen_ok] at h ⊢
    injection h with h1 h2
    subst h2
    injection h1 with h1
    rw [h1]
  | _ => all_goals (simp [Result.andThen] at h)
theorem guardDot (op : BinOp) (a b : Operand) (x y : DotD) (w : World) : (eqGuard op 24 a b (dotV x) (dotV y)).run Tryz.prog w = .ok () w :=
  run_eqGuard_agg w op 24 a b _ _ (by kernel_rfl)
end Go.Proofs.YtjlhdgmcaiiagaaGreatDoor
