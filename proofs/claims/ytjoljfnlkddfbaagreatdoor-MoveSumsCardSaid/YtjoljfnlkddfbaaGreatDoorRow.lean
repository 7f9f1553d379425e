/- Rows of memory whose elements are alike: without a program in sight. -/
import Derived.Test.YtjoljfnlkddfbaaGreatDoorDot2
import Derived.Test.YtjoljfnlkddfbaaGreatDoorLays
import Derived.Lib.BufferMore
import Derived.Laws.StructEq
import Derived.Laws.IdiomCopy
set_option linter.unusedSimpArgs false
set_option linter.unusedVariables false
set_option maxRecDepth 100000
set_option maxHeartbeats 8000000
namespace Go.Proofs.YtjoljfnlkddfbaaGreatDoor
open Go.RowKit Go.Maps

theorem compactD_snoc : ∀ (m : List DotD) (a x : DotD), compactD (m ++ [a] ++ [x]) = if a = x then compactD (m ++ [a]) else compactD (m ++ [a]) ++ [x]
 | [], a, x => by
  simp only [List.nil_append, List.cons_append, compactD]
  split
  ·rename_i h; rw [h]
  ·rfl
 | [b], a, x => by
  have ih := compactD_snoc [] a x
  simp only [List.nil_append, List.cons_append] at ih ⊢
  rw [show compactD (b :: a :: [x]) = if b = a then compactD (a :: [x]) else b :: compactD (a :: [x]) from rfl, show compactD [b, a] = if b = a then compactD [a] else b :: compactD [a] from rfl, ih]
  split
  ·rfl
  ·split <;> simp
 | b :: c :: m, a, x => by
  have ih := compactD_snoc (c :: m) a x
  simp only [List.cons_append] at ih ⊢
  rw [show compactD (b :: c :: (m ++ [a] ++ [x])) = if b = c then compactD (c :: (m ++ [a] ++ [x])) else b :: compactD (c :: (m ++ [a] ++ [x])) from rfl, show compactD (b :: c :: (m ++ [a])) = if b = c then compactD (c :: (m ++ [a])) else b :: compactD (c :: (m ++ [a])) from rfl, ih]
  split
  ·rfl
  ·split <;> simp
/-- One element further. -/
theorem compactD_take (l : List DotD) (k : Nat) (h : k + 1 < l.length) : compactD (l.take (k + 2)) = if l[k] = l[k + 1] then compactD (l.take (k + 1)) else compactD (l.take (k + 1)) ++ [l[k + 1]] := by
 have e1 : l.take (k + 1) = l.take k ++ [l[k]] := List.take_succ_eq_append_getElem (by omega)
 have e2 : l.take (k + 2) = l.take (k + 1) ++ [l[k + 1]] := List.take_succ_eq_append_getElem h
 rw [e2, e1]
 exact compactD_snoc _ _ _

theorem setCells_at {T : TypeId} {fz : Nat × Nat} : ∀ (vs : List Value) (w : World) (g o : Nat) (C : Array Value), w.heap[g]? = some (.cells C T fz) → ∃ C', (w.setCells g o vs).heap[g]? = some (.cells C' T fz) ∧ C'.size = C.size ∧ ∀ t, t < o → C'[t]? = C[t]?
 | [], _, _, _, C, h => ⟨C, h, rfl, fun _ _ => rfl⟩
 | v :: r, w, g, o, C, h => by
  obtain ⟨C', h1, h2, h3⟩ := setCells_at r (w.setCell ⟨g, o, none⟩ v) g (o + 1) _ (setCell_same h o v)
  exact ⟨C', h1, by rw [h2]; simp, fun t ht => by rw [h3 t (by omega), Array.getElem?_setIfInBounds_ne (by omega)]⟩
theorem setCells_below : ∀ (vs : List Value) (w0 w : World) (B g o : Nat), B ≤ g → Below B w0 w → Below B w0 (w.setCells g o vs)
 | [], _, _, _, _, _, _, h => h
 | v :: r, w0, _, B, g, o, hB, h => setCells_below r w0 _ B g (o + 1) hB (h.setCell hB v)
/-- clear of m elements. -/
theorem run_clear_n {P : Program} (w : World) (ty t e : TypeId) (z : Value) (g o c m : Nat) (ht : P.underlying t = some (.slice e)) (hz : ∀ w, (zeroValue e).run P w = .ok z w)
  (hc : ∀ j, j < (Builtin.zeroCells z.cells m).toList.length → (w.cell? ⟨g, o + j, none⟩).isSome = true) (hf : ∀ j, j < (Builtin.zeroCells z.cells m).toList.length → w.frozen? ⟨g, o + j, none⟩ = false) (h1 : ∀ v ∈ (Builtin.zeroCells z.cells m).toList, v.oneCell' = true) :
  (Builtin.clear_ #[t] ty #[.slice (some ⟨g, o, none⟩) m c]).run P w = .ok (.tuple #[]) (w.setCells g o (Builtin.zeroCells z.cells m).toList) := by
 have hst := run_storeCells_cells (P := P) g o (Builtin.zeroCells z.cells m).toList 0 w (by simpa using hc) (by simpa using hf) h1
 simp only [Nat.add_zero] at hst
 cases m with
 | zero => simp [Builtin.clear_, run_underlying ht, Builtin.zeroCells]; rfl
 | succ m => simp [Builtin.clear_, run_underlying ht, hz, hst]
theorem zeroDots (m : Nat) : (Builtin.zeroCells (Value.agg #[.int .i64 0, .int .i64 0]).cells m).toList.length = m * 2 ∧ ∀ v ∈ (Builtin.zeroCells (Value.agg #[.int .i64 0, .int .i64 0]).cells m).toList, v.oneCell' = true := by
 have hz : (Value.agg #[.int .i64 0, .int .i64 0]).cells = #[.int .i64 0, .int .i64 0] := by rfl
 rw [hz]
 refine ⟨by simp [Builtin.zeroCells], fun v hv => ?_⟩
 simp only [Builtin.zeroCells, Array.toList_map, List.mem_map] at hv
 obtain ⟨i, _, rfl⟩ := hv
 have : i % 2 = 0 ∨ i % 2 = 1 := by omega
 rcases this with h | h <;> simp [h] <;> rfl

theorem eqDot (x y : DotD) (w : World) : (binOp .eql 39 (dotV x) (dotV y)).run Tryz.prog w = .ok (.bool (decide (x = y))) w := by
 have u3 := Tryz.underlying3
 have a3 := Tryz.isAgg3
 have z3 := Tryz.sizeOf3
 have hS : Tryz.prog.underlying 39 = some (.struct (Tryz.prog.fieldsOf 39)) := by kernel_rfl
 have hp : Tryz.prog.stoodInHeld 39 = false := by kernel_rfl
 unfold dotV
 rw [run_eql_struct, show (10000 : Nat) = 9999 + 1 from rfl, run_equalIn_agg w 9999 39 _ _ hS hp]
 simp only [Program.fieldsOf, Tryz.underlying39]
 go_simp
 obtain ⟨a, b⟩ := x
 obtain ⟨c, d⟩ := y
 by_cases h1 : a = c <;> by_cases h2 : b = d <;> simp [h1, h2]
theorem neqDot (x y : DotD) (w : World) : (binOp .neq 39 (dotV x) (dotV y)).run Tryz.prog w = .ok (.bool (!decide (x = y))) w := by
 have h := eqDot x y w
 unfold dotV at *
 rw [run_eql_struct] at h
 rw [run_neq_struct]
 generalize (Op.equalIn 10000 39 (.agg #[.int .i64 x.rep, .int .i64 x.ctr]) (.agg #[.int .i64 y.rep, .int .i64 y.ctr])).run Tryz.prog w = r at h ⊢
 cases r with
 | ok b w1 =>
  simp only [Result.andThen_ok] at h ⊢
  injection h with h1 h2
  subst h2
  injection h1 with h1
  rw [h1]
 | _ => all_goals (simp [Result.andThen] at h)
theorem guardDot (op : BinOp) (a b : Operand) (x y : DotD) (w : World) : (eqGuard op 39 a b (dotV x) (dotV y)).run Tryz.prog w = .ok () w :=
 run_eqGuard_agg w op 39 a b _ _ (by kernel_rfl)
end Go.Proofs.YtjoljfnlkddfbaaGreatDoor
namespace Go.Proofs.YtjoljfnlkddfbaaGreatDoor
open Go.RowKit Go.Maps

theorem below_drewN {B : Nat} {a w : World} (n : Nat) (h : Below B a w) : Below B a (w.drewN n) := ⟨h.os, h.tape, h.output, h.size, h.block⟩
/-- The dots d stand in the block g from its head on. -/
def DotsIn (w : World) (g cap : Nat) (d : List DotD) : Prop := ∃ C, w.heap[g]? = some (.cells C 39) ∧ C.size = cap * 2 ∧ d.length ≤ cap ∧ cap ≤ maxLen ∧ ∀ i (h : i < d.length) j, j < 2 → C[i * 2 + j]? = (encD d[i])[j]?
theorem DotsIn.cells {w : World} {g cap : Nat} {d : List DotD} (h : DotsIn w g cap d) (i : Nat) (hi : i < d.length) : w.cell? ⟨g, i * 2, none⟩ = some (.int .i64 d[i].rep) ∧ w.cell? ⟨g, i * 2 + 1, none⟩ = some (.int .i64 d[i].ctr) ∧ g < w.heap.size := by
 obtain ⟨C, h1, _, _, _, h5⟩ := h
 exact ⟨by rw [cell0 h1]; exact h5 i hi 0 (by decide), by rw [cell0 h1]; exact h5 i hi 1 (by decide), lt_of_heap h1⟩
theorem DotsIn.own {w : World} {g cap base : Nat} {d : List DotD} (h : DotsIn w g cap d) (hb : base ≤ g) : w.ownsRow base 39 2 (.slice (some ⟨g, 0, none⟩) d.length cap) d.length (flatD d) := by
 obtain ⟨C, h1, h2, h3, h4, h5⟩ := h
 refine ⟨flatD_len d, Or.inr ⟨g, cap, C, rfl, hb, h1, h3, h4, h2, ?_⟩⟩
 apply List.ext_getElem?
 intro t
 rw [List.getElem?_take]
 split
 ·rename_i ht
  have hi : t / 2 < d.length := by omega
  have e : t = t / 2 * 2 + t % 2 := by omega
  rw [Array.getElem?_toList, e, h5 (t / 2) hi (t % 2) (by omega), flatD_get d (t / 2) hi (t % 2) (by omega)]
 ·rename_i ht
  rw [List.getElem?_eq_none (by rw [flatD_len]; omega)]
theorem DotsIn.of_own {w : World} {g cap base n : Nat} {d : List DotD} (h : w.ownsRow base 39 2 (.slice (some ⟨g, 0, none⟩) n cap) n (flatD d)) : DotsIn w g cap d ∧ base ≤ g ∧ d.length = n := by
 have hl : d.length = n := by have := h.1; rw [flatD_len] at this; omega
 obtain ⟨_, ⟨hv, _⟩ | ⟨g', cap', cur, hv, hg, hb, h1, h2, h3, h4⟩⟩ := h
 ·cases hv
 ·cases hv
  refine ⟨⟨cur, hb, h3, by omega, h2, fun i hi j hj => ?_⟩, hg, hl⟩
  rw [← flatD_get d i hi j hj, ← h4, List.getElem?_take, if_pos (by omega), Array.getElem?_toList]
/-- A store of one element. -/
theorem DotsIn.set {w : World} {g cap : Nat} {d : List DotD} (h : DotsIn w g cap d) (k : Nat) (hk : k < d.length) (x : DotD) : DotsIn ((w.setCell ⟨g, k * 2, none⟩ (.int .i64 x.rep)).setCell ⟨g, k * 2 + 1, none⟩ (.int .i64 x.ctr)) g cap (d.set k x) := by
 obtain ⟨C, h1, h2, h3, h4, h5⟩ := h
 refine ⟨_, setCell_same (setCell_same h1 _ _) _ _, by simp [h2], by simpa using h3, h4, fun i hi j hj => ?_⟩
 have hi' : i < d.length := by simpa using hi
 by_cases hik : i = k
 ·subst hik
  rw [List.getElem_set_self]
  have : j = 0 ∨ j = 1 := by omega
  rcases this with rfl | rfl
  ·rw [Array.getElem?_setIfInBounds_ne (by omega), Nat.add_zero, Array.getElem?_setIfInBounds_self_of_lt (by omega)]; rfl
  ·rw [Array.getElem?_setIfInBounds_self_of_lt (by simp; omega)]; rfl
 ·rw [List.getElem_set_ne (fun e => hik e.symm), Array.getElem?_setIfInBounds_ne (by omega), Array.getElem?_setIfInBounds_ne (by omega)]
  exact h5 i hi' j hj
theorem DotsIn.froz {w : World} {g cap : Nat} {d : List DotD} (h : DotsIn w g cap d) (i : Nat) : w.frozen? ⟨g, i, none⟩ = false := by
 obtain ⟨C, h1, _⟩ := h
 exact froz0 h1 i
/-- clear from place m on. -/
theorem DotsIn.clear {w : World} {g cap n : Nat} {d : List DotD} (h : DotsIn w g cap d) (m : Nat) (hn : d.length = n) (hm : m ≤ n) : ∃ w', (∀ ty c, (Builtin.clear_ #[22] ty #[.slice (some ⟨g, m * 2, none⟩) (n - m) c]).run Tryz.prog w = .ok (.tuple #[]) w') ∧ DotsIn w' g cap (d.take m) ∧ ∀ B w0, B ≤ g → Below B w0 w → Below B w0 w' := by
 have h0 := h
 obtain ⟨C, h1, h2, h3, h4, h5⟩ := h
 obtain ⟨z1, z2⟩ := zeroDots (n - m)
 obtain ⟨C', a1, a2, a3⟩ := setCells_at (Builtin.zeroCells (Value.agg #[.int .i64 0, .int .i64 0]).cells (n - m)).toList w g (m * 2) C h1
 refine ⟨_, fun ty c => run_clear_n w ty 22 39 (.agg #[.int .i64 0, .int .i64 0]) g (m * 2) c (n - m) Tryz.underlying22 Tryz.zeroValue39 (fun j hj => ?_) (fun j _ => h0.froz _) z2, ⟨C', a1, by rw [a2, h2], by simp; omega, h4, fun i hi j hj => ?_⟩, fun B w0 hB hb => setCells_below _ w0 w B g _ hB hb⟩
 ·rw [cell0 h1, Array.getElem?_eq_getElem (by omega)]; rfl
 ·have hi' : i < m := by simp at hi; omega
  rw [a3 _ (by omega), List.getElem_take]
  exact h5 i (by omega) j hj
theorem set_take (d : List DotD) (m : Nat) (y : DotD) (hm : m < d.length) : (d.set m y).take (m + 1) = d.take m ++ [y] := by
 rw [List.take_succ_eq_append_getElem (by simpa using hm), List.getElem_set_self, List.take_set, List.set_eq_of_length_le (by simp; omega)]
theorem DotsIn.of_heap {w w' : World} {g cap : Nat} {d : List DotD} (h : DotsIn w g cap d) (hb : w'.heap[g]? = w.heap[g]?) : DotsIn w' g cap d := by
 obtain ⟨C, h1, h2⟩ := h
 exact ⟨C, by rw [hb]; exact h1, h2⟩

theorem compact_any (l : List DotD) (v : Value) (w : World) (base : Nat) (h : w.ownsRow base 39 2 v l.length (flatD l)) : Calls Tryz.prog 115 #[v] w fun e w' => ∃ v', e = .returned v' ∧ w'.ownsRow base 39 2 v' (compactD l).length (flatD (compactD l)) ∧ Below base w w' := by
 obtain ⟨av, cv, rfl⟩ := owns_slice h
 by_cases h2 : l.length < 2
 ·have hc : compactD l = l := by
   match l, h2 with
   | [], _ => rfl
   | [a], _ => rfl
  have HROW := Hd h
  rw [← hc] at HROW
  have t1 : decide ((l.length : Int) < 2) = true := decide_eq_true (by omega)
  rw [hc] at HROW
  clear h
  go_enter Tryz.func115, Tryz.ntmps115
  go_wp2_with fail
  go_ret
  exact ⟨_, rfl, by rw [hc]; exact HROW.out, Below.refl _ _⟩
 ·obtain ⟨g, rfl⟩ : ∃ g, av = some ⟨g, 0, none⟩ := by
   obtain ⟨_, ⟨hv, hn⟩ | ⟨g, cap, cur, hv, _⟩⟩ := h
   ·omega
   ·cases hv; exact ⟨g, rfl⟩
  obtain ⟨hin, hgb, _⟩ := DotsIn.of_own h
  have HIN := Hd hin
  have t1 : decide ((l.length : Int) < 2) = false := decide_eq_false (by omega)
  have hnm : l.length ≤ 9223372036854775807 := by
   obtain ⟨C, _, _, h3, h4, _⟩ := hin
   unfold maxLen at h4
   omega
  have hcap : l.length ≤ cv := by
   obtain ⟨C, _, _, h3, _⟩ := hin
   exact h3
  have HNQ := Hd (fun x y wz => neqDot x y wz)
  have HEQ := Hd (fun x y wz => eqDot x y wz)
  clear h hin
  go_enter Tryz.func115, Tryz.ntmps115
  go_wp2_with fail
  go_loopw [3] (fun i wr => ∃ k : Nat, k + 1 ≤ l.length ∧ i = .int .i64 ((k : Int) + 1) ∧ wr.heap[g]? = w.heap[g]? ∧ Below base w wr ∧ compactD (l.take (k + 1)) = l.take (k + 1)) (fun i _ => l.length - (intOf i).toNat)
  case atStart => exact ⟨0, by omega, rfl, rfl, Below.refl _ _, by
   match l, h2 with
   | a :: b :: l, _ => rfl⟩
  case round =>
   obtain ⟨k, hk, rfl, hg, hB, hc⟩ := hrel
   have HB := Hd hB
   have HC := Hd hc
   have HG := Hd hg
   clear hB hc hg
   by_cases hlt : k + 1 < l.length
   ·have HR := Hd (HIN.out.of_heap HG.out)
    obtain ⟨c0, c1, hgl⟩ := HR.out.cells (k + 1) hlt
    obtain ⟨c2, c3, _⟩ := HR.out.cells k (by omega)
    have HT : Hid (compactD (l.take (k + 2)) = if l[k] = l[k + 1] then compactD (l.take (k + 1)) else compactD (l.take (k + 1)) ++ [l[k + 1]]) := Hd (compactD_take l k hlt)
    have HTK : Hid (l.take (k + 2) = l.take (k + 1) ++ [l[k + 1]]) := Hd (List.take_succ_eq_append_getElem hlt)
    generalize l[k + 1] = y at *
    generalize l[k] = x at *
    have heq : ∀ wz : World, Sem.run Tryz.prog (binOp .eql 39 (.agg #[.int .i64 y.rep, .int .i64 y.ctr]) (.agg #[.int .i64 x.rep, .int .i64 x.ctr])) wz = .ok (.bool (decide (y = x))) wz := fun wz => HEQ.out y x wz
    have hgd : ∀ (op : BinOp) (a b : Operand) (wz : World), Sem.run Tryz.prog (eqGuard op 39 a b (.agg #[.int .i64 y.rep, .int .i64 y.ctr]) (.agg #[.int .i64 x.rep, .int .i64 x.ctr])) wz = .ok () wz := fun op a b wz => guardDot op a b y x wz
    have x0 : IntKind.i64.wrap ((k : Int) + 1 - 1) = (k : Int) := by rw [IntKind.wrap_i64]; omega
    have x1 : IntKind.i64.wrap ((k : Int) + 1 + 1) = (k : Int) + 1 + 1 := by rw [IntKind.wrap_i64]; omega
    have x2 : IntKind.i64.wrap (k : Int) = (k : Int) := by rw [IntKind.wrap_i64]; omega
    have a0 : (0 : Int) ≤ k := by omega
    have a1 : (k : Int) < l.length := by omega
    have a2 : (0 : Int) ≤ (k : Int) + 1 := by omega
    have a3 : (k : Int) + 1 < l.length := by omega
    have x3 : ((k : Int) + 1).toNat = k + 1 := by omega
    by_cases hxy : y = x
    ·have hd : decide (y = x) = true := decide_eq_true hxy
     rw [hd] at heq
     have HC2 : Hid (compactD (l.take (k + 2)) = l.take (k + 1)) := Hd (by rw [HT.out, if_pos hxy.symm, HC.out])
     clear HT HC hxy hd
     have hcv : ¬ cv = k + 1 := by omega
     go_upto_region 6 with fail
     go_quiet (fail)
     go_wp2_with fail
     clear heq hgd c0 c1 c2 c3
     obtain ⟨wo, hwo⟩ : ∃ wo : World, wo = wr.drewN nq := ⟨_, rfl⟩
     have HIO := Hd (show DotsIn wo g cv l by rw [hwo]; exact HR.out.of_heap rfl)
     have HBO := Hd (show Below base w wo by rw [hwo]; exact below_drewN _ HB.out)
     rw [← hwo]
     clear hwo
     go_loopw [3, 5] (fun a b wx => ∃ (m j : Nat) (d : List DotD), a = .int .i64 m ∧ b = .int .i64 ((j : Int) + 1) ∧ j + 1 ≤ l.length - (k + 1) ∧ m ≤ k + 1 + j ∧ 1 ≤ m ∧ d.length = l.length ∧ DotsIn wx g cv d ∧ d.take m = compactD (l.take (k + 1 + j + 1)) ∧ (∀ i, k + 1 + j ≤ i → d[i]? = l[i]?) ∧ Below base w wx) (fun _ b _ => l.length - (intOf b).toNat)
     case atStart => exact ⟨k + 1, 0, l, by simp, rfl, by omega, by omega, by omega, rfl, HIO.out, HC2.out.symm, fun _ _ => rfl, HBO.out⟩
     case round =>
      obtain ⟨m, j, d, rfl, rfl, hj, hmk, hm1, hdl, hdin, htk, hsame, hbx⟩ := hrel
      have HTK2 := Hd htk
      have HSAME := Hd hsame
      have HBX := Hd hbx
      have HDIN := Hd hdin
      clear htk hsame hbx hdin
      by_cases hjl : j + 1 < l.length - (k + 1)
      ·have hi1 : k + 1 + j + 1 < d.length := by omega
       have hi0 : k + 1 + j < d.length := by omega
       obtain ⟨c0, c1, hgl⟩ := HDIN.out.cells (k + 1 + j + 1) hi1
       obtain ⟨c2, c3, _⟩ := HDIN.out.cells (k + 1 + j) hi0
       obtain ⟨c4, c5, _⟩ := HDIN.out.cells m (by omega)
       have f0 := HDIN.out.froz (m * 2)
       have f1 := HDIN.out.froz (m * 2 + 1)
       have e1 : d[k + 1 + j + 1] = l[k + 1 + j + 1]'(by omega) := by
        have := HSAME.out (k + 1 + j + 1) (by omega)
        rw [List.getElem?_eq_getElem hi1, List.getElem?_eq_getElem (by omega)] at this
        exact Option.some.inj this
       have e0 : d[k + 1 + j] = l[k + 1 + j]'(by omega) := by
        have := HSAME.out (k + 1 + j) (by omega)
        rw [List.getElem?_eq_getElem hi0, List.getElem?_eq_getElem (by omega)] at this
        exact Option.some.inj this
       have HT2 := Hd (compactD_take l (k + 1 + j) (by omega))
       have HSET := Hd (fun z => HDIN.out.set m (by omega) z)
       rw [← e1, ← e0] at HT2
       clear e0 e1
       rw [show (k + 1 + j + 1) * 2 = (k + 1) * 2 + (j + 1) * 2 by omega] at c0 c1
       rw [show (k + 1 + j) * 2 = (k + 1) * 2 + j * 2 by omega] at c2 c3
       generalize hy : d[k + 1 + j + 1] = y at *
       generalize hx : d[k + 1 + j] = x at *
       generalize d[m] = z at *
       have hnq : ∀ wz : World, Sem.run Tryz.prog (binOp .neq 39 (.agg #[.int .i64 y.rep, .int .i64 y.ctr]) (.agg #[.int .i64 x.rep, .int .i64 x.ctr])) wz = .ok (.bool (!decide (y = x))) wz := fun wz => HNQ.out y x wz
       have hgd : ∀ (op : BinOp) (a b : Operand) (wz : World), Sem.run Tryz.prog (eqGuard op 39 a b (.agg #[.int .i64 y.rep, .int .i64 y.ctr]) (.agg #[.int .i64 x.rep, .int .i64 x.ctr])) wz = .ok () wz := fun op a b wz => guardDot op a b y x wz
       have HY := Hd hy
       have w0 : IntKind.i64.wrap ((j : Int) + 1 - 1) = (j : Int) := by rw [IntKind.wrap_i64]; omega
       have w1 : IntKind.i64.wrap ((j : Int) + 1 + 1) = (j : Int) + 1 + 1 := by rw [IntKind.wrap_i64]; omega
       have w2 : IntKind.i64.wrap (j : Int) = (j : Int) := by rw [IntKind.wrap_i64]; omega
       have w3 : IntKind.i64.wrap ((m : Int) + 1) = (m : Int) + 1 := by rw [IntKind.wrap_i64]; omega
       have b0 : (0 : Int) ≤ j := by omega
       have b2 : (0 : Int) ≤ (j : Int) + 1 := by omega
       have b4 : (0 : Int) ≤ m := by omega
       have b5 : (m : Int) < l.length := by omega
       have w4 : ((j : Int) + 1).toNat = j + 1 := by omega
       have b6 : ((l.length - (k + 1) : Nat) : Int) = (l.length : Int) - (k + 1) := by omega
       have t5 : decide ((j : Int) + 1 < (l.length : Int) - ((k : Int) + 1)) = true := decide_eq_true (by omega)
       clear hy hx
       by_cases hxy : y = x
       ·have hd : decide (y = x) = true := decide_eq_true hxy
        rw [hd] at hnq
        have HC3 : Hid (d.take m = compactD (l.take (k + 1 + (j + 1) + 1))) := Hd (by rw [HTK2.out, show k + 1 + (j + 1) + 1 = k + 1 + j + 2 by omega, HT2.out, if_pos hxy.symm])
        clear HT2 hxy hd
        go_upto_region 11 with fail
        go_quiet (fail)
        go_wp2_with fail
        go_roundw
        case rel => exact ⟨m, j + 1, d, rfl, by go_num, by omega, by omega, hm1, hdl, HDIN.out.of_heap rfl, HC3.out, fun i hi => HSAME.out i (by omega), below_drewN _ HBX.out⟩
        case measure => simp [intOf]; omega
       ·have hd : decide (y = x) = false := decide_eq_false hxy
        rw [hd] at hnq
        have HC3 : Hid ((d.set m y).take (m + 1) = compactD (l.take (k + 1 + (j + 1) + 1))) := Hd (by rw [set_take d m y (by omega), HTK2.out, show k + 1 + (j + 1) + 1 = k + 1 + j + 2 by omega, HT2.out, if_neg (fun e => hxy e.symm)])
        have HS3 : Hid (∀ i, k + 1 + (j + 1) ≤ i → (d.set m y)[i]? = l[i]?) := Hd (fun i hi => by rw [List.getElem?_set_ne (by omega)]; exact HSAME.out i (by omega))
        clear HT2 hxy hd
        go_upto_region 11 with fail
        go_quiet (fail)
        go_wp2_with fail
        go_roundw
        case rel => exact ⟨m + 1, j + 1, d.set m y, by go_num, by go_num, by omega, by omega, by omega, by simpa using hdl, (HSET.out y).of_heap rfl, HC3.out, HS3.out, below_drewN _ ((HBX.out.setCell hgb _).setCell hgb _)⟩
        case measure => simp [intOf]; omega
      ·have hje : k + 1 + j + 1 = l.length := by omega
       have HF : Hid (d.take m = compactD l) := Hd (by have := HTK2.out; rw [hje, List.take_length] at this; exact this)
       obtain ⟨w4, hclr, hin4, hbl4⟩ := HDIN.out.clear m hdl (by omega)
       have HIN4 := Hd (hin4.own hgb)
       have HB4 := Hd (hbl4 base w hgb HBX.out)
       have hlen : (d.take m).length = m := by rw [List.length_take]; omega
       rw [hlen] at HIN4
       have hcm : ¬ cv = m := by omega
       have b4 : (0 : Int) ≤ m := by omega
       have b5 : (m : Int) ≤ l.length := by omega
       have b7 : (m : Int) ≤ cv := by omega
       have b6 : ((l.length - (k + 1) : Nat) : Int) = (l.length : Int) - (k + 1) := by omega
       have t5 : decide ((j : Int) + 1 < (l.length : Int) - ((k : Int) + 1)) = false := decide_eq_false (by omega)
       have HLN : Hid ((compactD l).length = m) := Hd (by rw [← HF.out]; exact hlen)
       clear HTK2 HSAME hin4 hbl4 hlen
       go_wp2_with fail
       go_ret
       exact ⟨_, rfl, by rw [HLN.out, ← HF.out]; exact HIN4.out, HB4.out⟩
    ·have hd : decide (y = x) = false := decide_eq_false hxy
     rw [hd] at heq
     have HC2 : Hid (compactD (l.take (k + 2)) = l.take (k + 2)) := Hd (by rw [HT.out, if_neg (fun e => hxy e.symm), HC.out, HTK.out])
     clear HT HC hxy hd
     go_upto_region 6 with fail
     go_quiet (fail)
     go_wp2_with fail
     go_roundw
     case rel => exact ⟨k + 1, by omega, by go_num, HG.out, below_drewN _ HB.out, HC2.out⟩
     case measure => simp [intOf]; omega
   ·have hke : k + 1 = l.length := by omega
    have HF : Hid (compactD l = l) := Hd (by have := HC.out; rw [hke, List.take_length] at this; exact this)
    have HR := Hd ((HIN.out.of_heap HG.out).own hgb)
    have t2 : decide ((k : Int) + 1 < l.length) = false := decide_eq_false (by omega)
    clear HC
    go_wp2_with fail
    go_ret
    exact ⟨_, rfl, by rw [HF.out]; exact HR.out, HB.out⟩
end Go.Proofs.YtjoljfnlkddfbaaGreatDoor
namespace Go.Proofs.YtjoljfnlkddfbaaGreatDoor
open Go.RowKit Go.Maps Go.Sort Go.Shelf

instance : Inhabited DotD := ⟨⟨0, 0⟩⟩
theorem ltOf_dcmp : ltOf dcmp = dlt := by funext x y; exact dcmp_lt x y
theorem swoD : SWO (ltOf dcmp) where
 irrefl x := by rw [ltOf_dcmp]; exact dlt_irrefl x
 trans x y z h k := by rw [ltOf_dcmp] at *; exact dlt_trans h k
 ntrans x y z h k := by
  rw [ltOf_dcmp] at *
  rw [← Bool.not_eq_true, dlt_iff] at *
  omega
theorem cmpLaysD (g off n : Nat) (w : World) : CmpLays Tryz.prog 100 #[] encD 2 dcmp g off n w :=
 fun _ _ _ _ x y => dotCompare_any x y _
theorem heap_sorted {w : World} {g : Nat} {C : Array Value} {T : TypeId} {fz : Nat × Nat} (h : w.heap[g]? = some (.cells C T fz)) {α : Type} [Inhabited α] (enc : α → List Value) (k n off : Nat) (d : Array α) (os : Array Obj) :
  (sortWorldK enc k w g off n d os).heap[g]? = some (.cells (putCells id off (flatK enc k d) C) T fz) ∧ ∀ B w0, B ≤ g → Below B w0 w → Below B w0 (sortWorldK enc k w g off n d os) := by
 have hg := lt_of_heap h
 have hh : (sortWorldK enc k w g off n d os).heap = (w.heap.modify g (onCells (putCells id off (flatK enc k d)))) ++ os := rfl
 refine ⟨?_, fun B w0 hB hb => ⟨hb.os, hb.tape, hb.output, ?_, fun j hj => ?_⟩⟩
 ·rw [hh, Array.getElem?_append_left (by simpa using hg), Array.getElem?_modify, if_pos rfl, h]
  rfl
 ·rw [hh]; have := hb.size; simp; omega
 ·have hjw : j < w.heap.size := by omega
  rw [hh, Array.getElem?_append_left (by simpa using hjw), Array.getElem?_modify, if_neg (by omega)]
  exact hb.block j hj
theorem DotsIn.sorted {w : World} {g cap : Nat} {d : List DotD} (h : DotsIn w g cap d) (d2 : List DotD) (hl : d2.length = d.length) (n : Nat) (os : Array Obj) :
  DotsIn (sortWorldK encD 2 w g 0 n d2.toArray os) g cap d2 := by
 obtain ⟨C, h1, h2, h3, h4, h5⟩ := h
 refine ⟨_, (heap_sorted h1 encD 2 n 0 d2.toArray os).1, by simp [putCells, h2], by omega, h4, fun i hi j hj => ?_⟩
 unfold putCells
 rw [Array.getElem?_mapIdx, Array.getElem?_eq_getElem (by omega)]
 simp only [Option.map_some]
 rw [if_pos ⟨Nat.zero_le _, by simp; omega⟩]
 rw [Nat.sub_zero, id, get_flatK _ _ _ _ (by simp; omega), show (i * 2 + j) / 2 = i by omega, show (i * 2 + j) % 2 = j by omega]
 have e : d2.toArray[i]! = d2[i] := by rw [getElem!_pos d2.toArray i (by simpa using hi)]; simp
 rw [e]
 have : j = 0 ∨ j = 1 := by omega
 rcases this with rfl | rfl <;> rfl
theorem DotsIn.holds {w : World} {g cap : Nat} {d : List DotD} (h : DotsIn w g cap d) : HoldsK encD 2 w g 0 d.toArray := by
 have h0 := h
 obtain ⟨C, h1, h2, h3, h4, h5⟩ := h
 intro t ht
 rw [size_flatK] at ht
 have hi : t / 2 < d.length := by simp at ht; omega
 have e : d.toArray[t / 2]! = d[t / 2] := by rw [getElem!_pos d.toArray (t / 2) (by simpa using hi)]; simp
 refine ⟨?_, h0.froz _⟩
 rw [cell0 h1, Nat.zero_add, get_flatK _ _ _ _ ht, e, show C[t]? = C[t / 2 * 2 + t % 2]? by rw [show t / 2 * 2 + t % 2 = t by omega], h5 (t / 2) hi (t % 2) (by omega)]
 have : t % 2 = 0 ∨ t % 2 = 1 := by omega
 rcases this with h | h <;> rw [h] <;> rfl

theorem sortDots_any (g cap : Nat) (l : List DotD) (w : World) (h : DotsIn w g cap l) (hl : l.length ≤ 10000000) :
  Calls Tryz.prog 114 #[.slice (some ⟨g, 0, none⟩) l.length cap, .func (.func 100) #[] #[]] w fun e w' => e = .returned (.tuple #[]) ∧ DotsIn w' g cap (sortD l) ∧ ∀ B w0, B ≤ g → Below B w0 w → Below B w0 w' := by
 have eg : ∀ args w, (callFunc 100 args).run Tryz.prog w = .ok (.enter 100 args) w := enters_of Tryz.func100 (by kernel_rfl) rfl
 obtain ⟨C, h1, _⟩ := id h
 have hcon := AnyQ.slices_SortFunc_total Tryz.sortDot 2 Tryz.isAgg39 Tryz.sizeOf39 encD (fun _ => rfl) (fun x => encD_one x) dcmp swoD 100 #[] g 0 cap l.toArray w eg (cmpLaysD g 0 l.toArray.size w) h.holds (lt_of_heap h1) (by simp; omega) (fun x y a b => by rw [ltOf_dcmp] at a b; exact dlt_total a b)
 change Calls Tryz.prog 114 _ _ _ at hcon
 have e : (l.toArray.toList.mergeSort fun x y => !ltOf dcmp y x).toArray = (sortD l).toArray := by rw [ltOf_dcmp]; rfl
 rw [e] at hcon
 refine hcon.mono fun _ _ ⟨he, n, os, hw⟩ => ⟨he, ?_, ?_⟩
 ·rw [hw]; exact h.sorted (sortD l) (List.mergeSort_perm l _).length_eq n os
 ·rw [hw]; exact (heap_sorted h1 encD 2 n 0 (sortD l).toArray os).2

theorem addr_add (b off j : Nat) : (⟨b, off, none⟩ : Addr).add j = ⟨b, off + j, none⟩ := by
 unfold Addr.add
 split
 ·rename_i h; rw [h]; rfl
 ·rfl
theorem Arr.srcD {w : World} {v : Value} {l : List DotD} (h : Arr DotR 2 w v l) (hn : l ≠ []) : SrcIs w v l.length (flatD l) := by
 obtain ⟨o, c, rfl, hel⟩ := h.dotAt
 obtain ⟨b, off, rfl, hb, _⟩ := hel 0 (List.length_pos_iff.2 hn)
 refine Or.inr ⟨_, _, rfl, fun j u hj => ?_⟩
 have hjl : j < l.length * 2 := by
  rcases Nat.lt_or_ge j (l.length * 2) with h | h
  ·exact h
  ·rw [List.getElem?_eq_none (by rw [flatD_len]; exact h)] at hj; cases hj
 have e : j = j / 2 * 2 + j % 2 := by omega
 rw [addr_add]
 rw [e, flatD_get l (j / 2) (by omega) (j % 2) (by omega)] at hj
 obtain ⟨b', off', he, _, e0, e1⟩ := hel (j / 2) (by omega)
 cases he
 have : j % 2 = 0 ∨ j % 2 = 1 := by omega
 rcases this with h | h
 ·rw [e, h, Nat.add_zero]; rw [h] at hj; rw [e0]; exact hj
 ·rw [e, h, ← Nat.add_assoc]; rw [h] at hj; rw [e1]; exact hj

theorem cloneDots_any (l : List DotD) (v : Value) (w : World) (h : Arr DotR 2 w v l) (hl : l.length ≤ 1000000) : Calls Tryz.prog 113 #[v] w fun e w' => ∃ v', e = .returned v' ∧ w'.ownsRow w.heap.size 39 2 v' l.length (flatD l) ∧ Below w.heap.size w w' := by
 obtain ⟨i0, hi0, hz0, hz1, hz2⟩ := info_parts infoDot
 have HI := Hd (And.intro hi0 (And.intro hz0 (And.intro hz1 hz2)))
 clear hi0 hz0 hz1 hz2
 obtain ⟨a, cap, rfl, -⟩ := id h
 cases a with
 | none =>
  have hle : l = [] := by
   rcases l with _ | ⟨x, l⟩
   ·rfl
   ·obtain ⟨o, c, he, hel⟩ := h.dotAt
    obtain ⟨b, off, h1, _⟩ := hel 0 (by simp)
    cases he
    cases h1
  subst hle
  clear h
  have hnil : ∀ W, (binOp .eql 22 (.slice none 0 cap) (.slice none 0 0)).run Tryz.prog W = .ok (.bool true) W := fun W => Lib.run_eql_slice_nil_nil W _ _ Tryz.underlying22
  go_enter Tryz.func113, Tryz.ntmps113
  go_wp2_with fail
  go_ret
  exact ⟨_, rfl, World.ownsRow_nil _ _ _ _, Below.refl _ _⟩
 | some a =>
  have HS := Hd (show SrcIs (w.alloc (.cells #[] 39)) (.slice (some a) l.length cap) l.length (flatD l) from by
   by_cases hn : l = []
   ·subst hn
    exact Or.inr ⟨a, cap, rfl, fun j u hj => by simp [flatD] at hj⟩
   ·exact (h.dots (bal)).srcD hn)
  have HE0 : Hid ((w.alloc (.cells #[] 39)).ownsRow w.heap.size 39 2 (.slice (some ⟨w.heap.size, 0, none⟩) 0 0) 0 []) := Hd ⟨rfl, Or.inr ⟨w.heap.size, 0, #[], rfl, Nat.le_refl _, alloc_new _ _, Nat.le_refl _, by unfold maxLen; omega, rfl, rfl⟩⟩
  clear h
  have hnil : ∀ W, (binOp .eql 22 (.slice (some a) l.length cap) (.slice none 0 0)).run Tryz.prog W = .ok (.bool false) W := fun W => Lib.run_eql_slice_some_nil W _ _ _ Tryz.underlying22
  go_enter Tryz.func113, Tryz.ntmps113
  go_wp2_with (at_builtin; refine wpList_append_src rfl _ _ 22 rfl w.heap.size 39 i0 (.agg #[.int .i64 0, .int .i64 0]) 2 16 Tryz.underlying22 HI.out.1 HI.out.2.1 HI.out.2.2.1 HI.out.2.2.2 rfl (by decide) (.slice (some ⟨w.heap.size, 0, none⟩) 0 0) 0 [] rfl HE0.out _ _ _ rfl HS.out (flatD_len l) (flatD_one l) (by unfold maxLen; omega) (by omega) (by simp) ?_; intro v8 w8 hown8 hgr8 _)
  rw [Nat.zero_add, List.nil_append] at hown8
  go_ret
  exact ⟨_, rfl, hown8, (bal).grown hgr8 (by simp) (by intro k hk; simp [Value.ownBlock] at hk; omega)⟩

theorem dotSet_any (l : List DotD) (v : Value) (w : World) (h : Arr DotR 2 w v l) (hl : l.length ≤ 1000000) : Calls Tryz.prog 68 #[v] w fun e w' => ∃ v', e = .returned v' ∧ w'.ownsRow w.heap.size 39 2 v' (setD l).length (flatD (setD l)) ∧ Below w.heap.size w w' := by
 have HC := Hd (cloneDots_any l v w h hl)
 have HSL : Hid ((sortD l).length = l.length) := Hd (List.mergeSort_perm l _).length_eq
 clear h
 go_enter Tryz.func68, Tryz.ntmps68
 go_wp2_with fail
 refine HC.out.mono ?_
 rintro e w1 ⟨v1, rfl, hrow, hb1⟩
 have HB1 := Hd hb1
 clear hb1
 obtain ⟨a, c, rfl⟩ := owns_slice hrow
 by_cases hn : l = []
 ·subst hn
  have HROW := Hd hrow
  have HNO := Hd (fun fv wz => AnyF.slices_SortFunc_none Tryz.sortDot a c fv wz)
  change Hid (∀ fv wz, Calls Tryz.prog 114 _ _ _) at HNO
  clear hrow
  go_wp2_with fail
  refine (HNO.out _ _).mono ?_
  rintro e w2 ⟨rfl, rfl⟩
  have HK := Hd (compact_any [] _ _ _ HROW.out)
  go_wp2_with fail
  refine HK.out.mono ?_
  rintro e w3 ⟨v3, rfl, hrow3, hb3⟩
  go_wp2_with fail
  go_ret
  have hs : setD ([] : List DotD) = compactD [] := by simp [setD, sortD]
  exact ⟨_, rfl, by rw [hs]; exact hrow3, HB1.out.trans hb3⟩
 ·obtain ⟨g, rfl⟩ : ∃ g, a = some ⟨g, 0, none⟩ := by
   obtain ⟨_, ⟨hv, h0⟩ | ⟨g, cap, cur, hv, _⟩⟩ := hrow
   ·exact absurd (List.eq_nil_of_length_eq_zero h0) hn
   ·cases hv; exact ⟨g, rfl⟩
  obtain ⟨hin, hgb, _⟩ := DotsIn.of_own hrow
  have HS := Hd (sortDots_any g c l w1 hin (by omega))
  clear hrow hin hn
  go_wp2_with fail
  refine HS.out.mono ?_
  rintro e w2 ⟨rfl, hin2, hb2⟩
  have HB2 := Hd (hb2 _ _ hgb HB1.out)
  have hrow2 := hin2.own hgb
  have HK := Hd (compact_any (sortD l) _ _ _ hrow2)
  rw [HSL.out] at HK
  clear hin2 hb2 hrow2
  go_wp2_with fail
  refine HK.out.mono ?_
  rintro e w3 ⟨v3, rfl, hrow3, hb3⟩
  go_wp2_with fail
  go_ret
  exact ⟨_, rfl, hrow3, HB2.out.trans hb3⟩
end Go.Proofs.YtjoljfnlkddfbaaGreatDoor
namespace Go.Proofs.YtjoljfnlkddfbaaGreatDoor
open Go.RowKit Go.Maps Go.Sort Go.Shelf

/-- How the elements of a row are laid: k cells each. -/
structure Enc (α : Type) where
 enc : α → List Value
 k : Nat
 T : TypeId
 pos : 0 < k
 len : ∀ x, (enc x).length = k
 one : ∀ x, ∀ u ∈ enc x, u.oneCell' = true
section
variable {α : Type} (E : Enc α)
def Enc.flat (l : List α) : List Value := l.flatMap E.enc
theorem Enc.flat_append (l m : List α) : E.flat (l ++ m) = E.flat l ++ E.flat m := List.flatMap_append
theorem Enc.flat_one_elt (x : α) : E.flat [x] = E.enc x := by simp [Enc.flat]
theorem Enc.flat_len (l : List α) : (E.flat l).length = l.length * E.k := by
 unfold Enc.flat
 induction l with
 | nil => simp
 | cons x l ih => rw [List.flatMap_cons, List.length_append, ih, E.len, List.length_cons, Nat.add_mul, Nat.one_mul, Nat.add_comm]
theorem Enc.flat_get (l : List α) (i : Nat) (h : i < l.length) (j : Nat) (hj : j < E.k) : (E.flat l)[i * E.k + j]? = (E.enc l[i])[j]? := by
 have e : l = l.take i ++ l[i] :: l.drop (i + 1) := by rw [List.getElem_cons_drop, List.take_append_drop]
 have e2 : E.flat l = E.flat (l.take i) ++ (E.enc l[i] ++ E.flat (l.drop (i + 1))) := by
  conv => lhs; rw [e]
  rw [E.flat_append]; rfl
 have e3 : (E.flat (l.take i)).length = i * E.k := by rw [E.flat_len, List.length_take]; congr 1; omega
 rw [e2, List.getElem?_append_right (by omega), e3, Nat.add_sub_cancel_left, List.getElem?_append_left (by rw [E.len]; exact hj)]
theorem Enc.flat_one (l : List α) : ∀ u ∈ E.flat l, u.oneCell' = true := by
 intro u hu
 obtain ⟨x, _, hx⟩ := List.mem_flatMap.1 hu
 exact E.one x u hx
theorem Enc.lt {l : List α} {i j : Nat} (h : i < l.length) (hj : j < E.k) : i * E.k + j < l.length * E.k := by
 have : (i + 1) * E.k ≤ l.length * E.k := Nat.mul_le_mul_right _ h
 rw [Nat.add_mul, Nat.one_mul] at this
 omega
theorem Enc.flat_set (l : List α) (i : Nat) (h : i < l.length) (x : α) (t : Nat) : (E.flat (l.set i x))[t]? = if i * E.k ≤ t ∧ t < i * E.k + E.k then (E.enc x)[t - i * E.k]? else (E.flat l)[t]? := by
 have e : l = l.take i ++ l[i] :: l.drop (i + 1) := by rw [List.getElem_cons_drop, List.take_append_drop]
 have e2 : E.flat l = E.flat (l.take i) ++ (E.enc l[i] ++ E.flat (l.drop (i + 1))) := by
  conv => lhs; rw [e]
  rw [E.flat_append]; rfl
 have e4 : E.flat (l.set i x) = E.flat (l.take i) ++ (E.enc x ++ E.flat (l.drop (i + 1))) := by
  rw [List.set_eq_take_append_cons_drop, if_pos h, E.flat_append]; rfl
 have e3 : (E.flat (l.take i)).length = i * E.k := by rw [E.flat_len, List.length_take]; congr 1; omega
 rw [e2, e4]
 have n1 := E.len x
 have n2 := E.len l[i]
 split
 ·rename_i ht
  rw [List.getElem?_append_right (by omega), e3, List.getElem?_append_left (by omega)]
 ·rename_i ht
  rcases Nat.lt_or_ge t (i * E.k) with h1 | h1
  ·rw [List.getElem?_append_left (by omega), List.getElem?_append_left (by omega)]
  ·rw [List.getElem?_append_right (by omega), List.getElem?_append_right (by omega), List.getElem?_append_right (by omega), List.getElem?_append_right (by omega), n1, n2]
theorem Enc.flat_take (l : List α) (m t : Nat) (ht : t < m * E.k) : (E.flat (l.take m))[t]? = (E.flat l)[t]? := by
 rcases Nat.lt_or_ge m l.length with h | h
 ·have e2 : E.flat l = E.flat (l.take m) ++ E.flat (l.drop m) := by rw [← E.flat_append, List.take_append_drop]
  rw [e2, List.getElem?_append_left (by rw [E.flat_len, List.length_take, Nat.min_eq_left (by omega)]; exact ht)]
 ·rw [List.take_of_length_le h]

/-- The slice v holds the elements l, in a block that was laid at base or later. -/
def Enc.Row (base : Nat) (w : World) (v : Value) (l : List α) : Prop := w.ownsRow base E.T E.k v l.length (E.flat l)
variable {E}
theorem Enc.Row.nil (base : Nat) (w : World) : E.Row base w (.slice none 0 0) [] := World.ownsRow_nil _ _ _ _
theorem Enc.Row.below {base : Nat} {w w' : World} {v : Value} {l : List α} (h : E.Row base w v l) (hb : Below w.heap.size w w') : E.Row base w' v l := row_below h hb
theorem Enc.Row.mono {base base' : Nat} {w : World} {v : Value} {l : List α} (h : E.Row base w v l) (hb : base' ≤ base) : E.Row base' w v l := row_mono h hb
theorem Enc.Row.stay {base : Nat} {w w' : World} {v : Value} {l : List α} (h : E.Row base w v l) (hb : ∀ k, v.ownBlock = some k → w'.heap[k]? = w.heap[k]?) : E.Row base w' v l := row_stay h hb
theorem Enc.Row.src {base : Nat} {w : World} {v : Value} {l : List α} (h : E.Row base w v l) : SrcIs w v l.length (E.flat l) := row_src h
theorem Enc.Row.slice {base : Nat} {w : World} {v : Value} {l : List α} (h : E.Row base w v l) : ∃ a c, v = .slice a l.length c := by
 obtain ⟨_, ⟨h1, h2⟩ | ⟨g, cap, cur, h1, _⟩⟩ := h
 ·exact ⟨none, 0, by rw [h1, h2]⟩
 ·exact ⟨_, _, h1⟩
theorem Enc.Row.le {base : Nat} {w : World} {v : Value} {l : List α} (h : E.Row base w v l) : l.length ≤ maxLen := by
 obtain ⟨_, ⟨h1, h2⟩ | ⟨g, cap, cur, h1, _, _, h3, h4, _⟩⟩ := h
 ·omega
 ·omega
theorem Enc.Row.lt {base : Nat} {w : World} {v : Value} {l : List α} (h : E.Row base w v l) : ∀ k, v.ownBlock = some k → base ≤ k ∧ k < w.heap.size := fun k hk => World.ownsRow.lt h k hk

/-- The elements d stand in the block g from its head on. -/
def Enc.In (E : Enc α) (w : World) (g cap : Nat) (d : List α) : Prop := ∃ C, w.heap[g]? = some (.cells C E.T) ∧ C.size = cap * E.k ∧ d.length ≤ cap ∧ cap ≤ maxLen ∧ ∀ t, t < d.length * E.k → C[t]? = (E.flat d)[t]?
theorem Enc.In.cell {w : World} {g cap : Nat} {d : List α} (h : E.In w g cap d) (i : Nat) (hi : i < d.length) (j : Nat) (hj : j < E.k) : w.cell? ⟨g, i * E.k + j, none⟩ = (E.enc d[i])[j]? := by
 obtain ⟨C, h1, _, _, _, h5⟩ := h
 rw [cell0 h1, h5 _ (E.lt hi hj), E.flat_get d i hi j hj]
theorem Enc.In.gl {w : World} {g cap : Nat} {d : List α} (h : E.In w g cap d) : g < w.heap.size := by
 obtain ⟨C, h1, _⟩ := h
 exact lt_of_heap h1
theorem Enc.In.own {w : World} {g cap base : Nat} {d : List α} (h : E.In w g cap d) (hb : base ≤ g) : E.Row base w (.slice (some ⟨g, 0, none⟩) d.length cap) d := by
 obtain ⟨C, h1, h2, h3, h4, h5⟩ := h
 refine ⟨E.flat_len d, Or.inr ⟨g, cap, C, rfl, hb, h1, h3, h4, h2, ?_⟩⟩
 apply List.ext_getElem?
 intro t
 rw [List.getElem?_take]
 split
 ·rename_i ht
  rw [Array.getElem?_toList, h5 t ht]
 ·rename_i ht
  rw [List.getElem?_eq_none (by rw [E.flat_len]; omega)]
theorem Enc.Row.at {w : World} {g cap base n : Nat} {d : List α} (h : E.Row base w (.slice (some ⟨g, 0, none⟩) n cap) d) : E.In w g cap d ∧ base ≤ g ∧ d.length = n := by
 obtain ⟨_, ⟨hv, _⟩ | ⟨g', cap', cur, hv, hg, hb, h1, h2, h3, h4⟩⟩ := h
 ·cases hv
 ·cases hv
  refine ⟨⟨cur, hb, h3, h1, h2, fun t ht => ?_⟩, hg, rfl⟩
  rw [← h4, List.getElem?_take, if_pos ht, Array.getElem?_toList]
theorem Enc.Row.some {w : World} {base : Nat} {v : Value} {d : List α} (h : E.Row base w v d) (hn : d ≠ []) : ∃ g cap, v = .slice (some ⟨g, 0, none⟩) d.length cap ∧ E.In w g cap d ∧ base ≤ g := by
 obtain ⟨_, ⟨hv, h0⟩ | ⟨g, cap, cur, hv, _⟩⟩ := id h
 ·exact absurd (List.eq_nil_of_length_eq_zero h0) hn
 ·subst hv
  obtain ⟨h1, h2, _⟩ := h.at
  exact ⟨g, cap, rfl, h1, h2⟩
theorem Enc.In.froz {w : World} {g cap : Nat} {d : List α} (h : E.In w g cap d) (i : Nat) : w.frozen? ⟨g, i, none⟩ = false := by
 obtain ⟨C, h1, _⟩ := h
 exact froz0 h1 i
theorem Enc.In.of_heap {w w' : World} {g cap : Nat} {d : List α} (h : E.In w g cap d) (hb : w'.heap[g]? = w.heap[g]?) : E.In w' g cap d := by
 obtain ⟨C, h1, h2⟩ := h
 exact ⟨C, by rw [hb]; exact h1, h2⟩
theorem Enc.In.take {w : World} {g cap : Nat} {d : List α} (h : E.In w g cap d) (m : Nat) : E.In w g cap (d.take m) := by
 obtain ⟨C, h1, h2, h3, h4, h5⟩ := h
 refine ⟨C, h1, h2, by rw [List.length_take]; omega, h4, fun t ht => ?_⟩
 have h6 : (d.take m).length ≤ m := by rw [List.length_take]; omega
 have h7 : (d.take m).length ≤ d.length := by rw [List.length_take]; omega
 rw [h5 t (Nat.lt_of_lt_of_le ht (Nat.mul_le_mul_right _ h7)), E.flat_take d m t (Nat.lt_of_lt_of_le ht (Nat.mul_le_mul_right _ h6))]
theorem setCells_get {T : TypeId} {fz : Nat × Nat} : ∀ (vs : List Value) (w : World) (g o : Nat) (C : Array Value), w.heap[g]? = some (.cells C T fz) → o + vs.length ≤ C.size → ∃ C', (w.setCells g o vs).heap[g]? = some (.cells C' T fz) ∧ C'.size = C.size ∧ ∀ t, C'[t]? = if o ≤ t ∧ t < o + vs.length then vs[t - o]? else C[t]?
 | [], _, _, o, C, h, _ => ⟨C, h, rfl, fun t => by rw [if_neg (by simp)]⟩
 | v :: r, w, g, o, C, h, hl => by
  simp only [List.length_cons] at hl
  obtain ⟨C', h1, h2, h3⟩ := setCells_get r (w.setCell ⟨g, o, none⟩ v) g (o + 1) _ (setCell_same h o v) (by simp; omega)
  refine ⟨C', h1, by rw [h2]; simp, fun t => ?_⟩
  rw [h3 t]
  by_cases e : t = o
  ·subst e
   rw [if_neg (by omega), if_pos (by simp), Array.getElem?_setIfInBounds_self_of_lt (by omega)]
   simp
  ·by_cases e2 : o + 1 ≤ t ∧ t < o + 1 + r.length
   ·rw [if_pos e2, if_pos (by simp only [List.length_cons]; omega), show t - o = (t - (o + 1)) + 1 by omega]
    rfl
   ·rw [if_neg e2, if_neg (by simp only [List.length_cons]; omega), Array.getElem?_setIfInBounds_ne (by omega)]
/-- A store of one element. -/
theorem Enc.In.set {w : World} {g cap : Nat} {d : List α} (h : E.In w g cap d) (i : Nat) (hi : i < d.length) (x : α) : E.In (w.setCells g (i * E.k) (E.enc x)) g cap (d.set i x) := by
 obtain ⟨C, h1, h2, h3, h4, h5⟩ := h
 have hil : (i + 1) * E.k ≤ cap * E.k := Nat.mul_le_mul_right _ (by omega)
 rw [Nat.add_mul, Nat.one_mul] at hil
 obtain ⟨C', a1, a2, a3⟩ := setCells_get (E.enc x) w g (i * E.k) C h1 (by rw [E.len]; omega)
 refine ⟨C', a1, by rw [a2, h2], by simpa using h3, h4, fun t ht => ?_⟩
 rw [a3 t, E.flat_set d i hi x t, E.len, h5 t (by simpa using ht)]
theorem zeroCells_one {z : Value} (hz : ∀ u ∈ z.cells.toList, u.oneCell' = true) (hp : 0 < z.cells.size) (m : Nat) : (Builtin.zeroCells z.cells m).toList.length = m * z.cells.size ∧ ∀ v ∈ (Builtin.zeroCells z.cells m).toList, v.oneCell' = true := by
 refine ⟨by simp [Builtin.zeroCells], fun v hv => ?_⟩
 simp only [Builtin.zeroCells, Array.toList_map, List.mem_map] at hv
 obtain ⟨i, _, rfl⟩ := hv
 have hlt : i % z.cells.size < z.cells.size := Nat.mod_lt _ hp
 rw [getElem!_pos z.cells _ hlt]
 exact hz _ (by simp)
/-- clear from place m on. -/
theorem Enc.In.clear {P : Program} {w : World} {g cap : Nat} {d : List α} (h : E.In w g cap d) (m n : Nat) (hmd : m ≤ d.length) (hm : m ≤ n) (hn : n ≤ cap) (t : TypeId) (z : Value) (ht : P.underlying t = some (.slice E.T)) (hz : ∀ w, (zeroValue E.T).run P w = .ok z w) (hk : z.cells.size = E.k) (h1z : ∀ u ∈ z.cells.toList, u.oneCell' = true) :
  ∃ w', (∀ ty c, (Builtin.clear_ #[t] ty #[.slice (some ⟨g, m * E.k, none⟩) (n - m) c]).run P w = .ok (.tuple #[]) w') ∧ E.In w' g cap (d.take m) ∧ (∀ B w0, B ≤ g → Below B w0 w → Below B w0 w') ∧ w'.heap.size = w.heap.size ∧ ∀ b, b ≠ g → w'.heap[b]? = w.heap[b]? := by
 have h0 := h
 obtain ⟨C, h1, h2, h3, h4, h5⟩ := h
 obtain ⟨z1, z2⟩ := zeroCells_one h1z (by rw [hk]; exact E.pos) (n - m)
 rw [hk] at z1
 have hle : m * E.k + (n - m) * E.k ≤ cap * E.k := by rw [← Nat.add_mul]; exact Nat.mul_le_mul_right _ (by omega)
 obtain ⟨C', a1, a2, a3⟩ := setCells_get (Builtin.zeroCells z.cells (n - m)).toList w g (m * E.k) C h1 (by rw [z1]; omega)
 have hot : ∀ (vs : List Value) (w : World) (o : Nat), (w.setCells g o vs).heap.size = w.heap.size ∧ ∀ b, b ≠ g → (w.setCells g o vs).heap[b]? = w.heap[b]? := by
  intro vs
  induction vs with
  | nil => intro w o; exact ⟨rfl, fun _ _ => rfl⟩
  | cons v r ih =>
   intro w o
   obtain ⟨i1, i2⟩ := ih (w.setCell ⟨g, o, none⟩ v) (o + 1)
   refine ⟨by rw [← setCell_size w ⟨g, o, none⟩ v]; exact i1, fun b hb => ?_⟩
   have e : (w.setCells g o (v :: r)).heap[b]? = (w.setCell ⟨g, o, none⟩ v).heap[b]? := i2 b hb
   rw [e]
   simp only [World.setCell]
   rw [Array.getElem?_modify, if_neg (fun e => hb e.symm)]
 obtain ⟨o1, o2⟩ := hot (Builtin.zeroCells z.cells (n - m)).toList w (m * E.k)
 refine ⟨_, fun ty c => run_clear_n w ty t E.T z g (m * E.k) c (n - m) ht hz (fun j hj => ?_) (fun j _ => h0.froz _) z2, ⟨C', a1, by rw [a2, h2], by rw [List.length_take]; omega, h4, fun t ht => ?_⟩, fun B w0 hB hb => setCells_below _ w0 w B g _ hB hb, o1, o2⟩
 ·rw [cell0 h1, Array.getElem?_eq_getElem (by rw [h2]; omega)]; rfl
 ·have h6 : (d.take m).length = m := by rw [List.length_take]; omega
  rw [h6] at ht
  have h7 : m * E.k ≤ d.length * E.k := Nat.mul_le_mul_right _ (by omega)
  rw [a3 t, if_neg (by omega), h5 t (by omega), E.flat_take d m t ht]
theorem Enc.In.holds [Inhabited α] {w : World} {g cap : Nat} {d : List α} (h : E.In w g cap d) : HoldsK E.enc E.k w g 0 d.toArray := by
 have h0 := h
 obtain ⟨C, h1, h2, h3, h4, h5⟩ := h
 intro t ht
 have ht2 := ht
 rw [size_flatK] at ht
 simp at ht
 have hp := E.pos
 have hd : t / E.k < d.length := (Nat.div_lt_iff_lt_mul hp).2 ht
 have hm : t % E.k < E.k := Nat.mod_lt _ hp
 have e : d.toArray[t / E.k]! = d[t / E.k] := by rw [getElem!_pos d.toArray (t / E.k) (by simpa using hd)]; simp
 have et : t / E.k * E.k + t % E.k = t := by rw [Nat.mul_comm]; exact Nat.div_add_mod t E.k
 refine ⟨?_, h0.froz _⟩
 have h6 := E.flat_get d (t / E.k) hd (t % E.k) hm
 rw [et] at h6
 rw [cell0 h1, Nat.zero_add, get_flatK _ _ _ _ (by rw [size_flatK] at ht2; exact ht2), e, h5 t ht, h6]
 rw [List.getElem?_eq_getElem (by rw [E.len]; exact hm)]
 simp [List.getElem?_eq_getElem (show t % E.k < (E.enc d[t / E.k]).length by rw [E.len]; exact hm)]
theorem Enc.In.sorted [Inhabited α] {w : World} {g cap : Nat} {d : List α} (h : E.In w g cap d) (d2 : List α) (hl : d2.length = d.length) (n : Nat) (os : Array Obj) :
  E.In (sortWorldK E.enc E.k w g 0 n d2.toArray os) g cap d2 := by
 obtain ⟨C, h1, h2, h3, h4, h5⟩ := h
 have hcap : d2.length * E.k ≤ cap * E.k := Nat.mul_le_mul_right _ (by omega)
 refine ⟨_, (heap_sorted h1 E.enc E.k n 0 d2.toArray os).1, by simp [putCells, h2], by omega, h4, fun t ht => ?_⟩
 have hp := E.pos
 have hd : t / E.k < d2.length := (Nat.div_lt_iff_lt_mul hp).2 ht
 have hm : t % E.k < E.k := Nat.mod_lt _ hp
 have et : t / E.k * E.k + t % E.k = t := by rw [Nat.mul_comm]; exact Nat.div_add_mod t E.k
 have h6 := E.flat_get d2 (t / E.k) hd (t % E.k) hm
 rw [et] at h6
 unfold putCells
 rw [Array.getElem?_mapIdx, Array.getElem?_eq_getElem (by omega)]
 simp only [Option.map_some]
 rw [if_pos ⟨Nat.zero_le _, by simp; omega⟩]
 have e : d2.toArray[t / E.k]! = d2[t / E.k] := by rw [getElem!_pos d2.toArray (t / E.k) (by simpa using hd)]; simp
 rw [Nat.sub_zero, id, get_flatK _ _ _ _ (by simp; omega), e, h6]
 rw [List.getElem?_eq_getElem (by rw [E.len]; exact hm)]
 simp [List.getElem?_eq_getElem (show t % E.k < (E.enc d2[t / E.k]).length by rw [E.len]; exact hm)]

/-- append to a row. -/
theorem wpList_row {P : Program} {w : World} {ops : Array Oper} {rest : List Oper} {o : Oper} {a : Act} {Q : Exit → Act → World → Prop} (hgd : o.guard = none) (s x : Operand) (t : TypeId)
  (ho : o.op = .call { callee := .builtin .append, args := #[s, x], argTypes := #[t, t] })
  (E : Enc α) (base : Nat) (z : Value) (bytes : Nat) (ht : P.underlying t = some (.slice E.T)) (hI : (P.info? E.T).map (fun i => (i.zero, i.size, i.bytes)) = some (some z, E.k, bytes)) (hzs : z.cells.size = E.k) (hby : bytes ≤ 1000)
  (v : Value) (l : List α) (hs : a.eval s = v) (hown : E.Row base w v l)
  (src : Value) (news : List α) (hx : a.eval x = src) (hsrc : SrcIs w src news.length (E.flat news))
  (h63 : l.length + news.length ≤ 10000000000) (hbase : base ≤ w.heap.size)
  (h : ∀ v' w', E.Row base w' v' (l ++ news) → w.grownBy w' v.ownBlock → wpList P ops Q rest (a.put o.dst v') w') : wpList P ops Q (o :: rest) a w := by
 obtain ⟨i, i1, i2, i3, i4⟩ := info_parts hI
 refine wpList_append_src hgd s x t ho base E.T i z E.k bytes ht i1 i2 i3 i4 hzs E.pos v l.length (E.flat l) hs hown src news.length (E.flat news) hx hsrc (E.flat_len _) (E.flat_one _) (by unfold maxLen; omega) ?_ hbase ?_
 ·have : (l.length + news.length) * bytes ≤ 10000000000 * 1000 := Nat.mul_le_mul h63 hby
  omega
 ·intro v' w' h1 h2 _
  refine h v' w' ?_ h2
  unfold Enc.Row
  rw [List.length_append, E.flat_append]
  exact h1
end
end Go.Proofs.YtjoljfnlkddfbaaGreatDoor
