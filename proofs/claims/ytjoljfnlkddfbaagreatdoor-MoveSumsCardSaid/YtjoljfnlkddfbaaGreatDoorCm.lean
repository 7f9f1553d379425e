/- slices.Compact at marks and at strings. -/
import Derived.Test.YtjoljfnlkddfbaaGreatDoorC5
import Derived.Test.YtjoljfnlkddfbaaGreatDoorCanonP
set_option linter.unusedSimpArgs false
set_option linter.unusedVariables false
set_option maxRecDepth 100000
set_option maxHeartbeats 8000000
namespace Go.Proofs.YtjoljfnlkddfbaaGreatDoor
open Go.RowKit Go.Maps Go.Sort Go.Shelf

def compactL {α : Type} [DecidableEq α] : List α → List α
 | [] => []
 | [a] => [a]
 | a :: b :: l => if a = b then compactL (b :: l) else a :: compactL (b :: l)
section
variable {α : Type} [DecidableEq α]
theorem compactL_snoc : ∀ (l : List α) (a x : α), compactL (l ++ [a] ++ [x]) = if a = x then compactL (l ++ [a]) else compactL (l ++ [a]) ++ [x]
 | [], a, x => by
  simp only [List.nil_append, List.cons_append, compactL]
  split
  ·rename_i h; rw [h]
  ·rfl
 | [b], a, x => by
  simp only [List.nil_append, List.cons_append, compactL]
  by_cases h1 : b = a <;> by_cases h2 : a = x <;> simp [h1, h2]
 | b :: c :: l, a, x => by
  have ih := compactL_snoc (c :: l) a x
  simp only [List.cons_append] at ih ⊢
  simp only [compactL]
  rw [ih]
  by_cases h1 : b = c <;> by_cases h2 : a = x <;> simp [h1, h2]
theorem compactL_take (l : List α) (k : Nat) (h : k + 1 < l.length) : compactL (l.take (k + 2)) = if l[k] = l[k + 1] then compactL (l.take (k + 1)) else compactL (l.take (k + 1)) ++ [l[k + 1]] := by
 have e1 : l.take (k + 1) = l.take k ++ [l[k]] := List.take_succ_eq_append_getElem (by omega)
 have e2 : l.take (k + 2) = l.take (k + 1) ++ [l[k + 1]] := List.take_succ_eq_append_getElem h
 rw [e2, e1]
 exact compactL_snoc _ _ _
theorem compactL_mem : ∀ (l : List α) (x : α), x ∈ compactL l ↔ x ∈ l
 | [], _ => Iff.rfl
 | [_], _ => Iff.rfl
 | a :: b :: l, x => by
  have ih := compactL_mem (b :: l) x
  simp only [compactL]
  split
  ·rename_i h
   rw [ih, h]
   simp
  ·rw [List.mem_cons, ih, List.mem_cons (a := x) (b := a)]
theorem compactL_len : ∀ (l : List α), (compactL l).length ≤ l.length
 | [] => Nat.le_refl _
 | [_] => Nat.le_refl _
 | a :: b :: l => by
  have ih := compactL_len (b :: l)
  simp only [compactL]
  split
  ·simp only [List.length_cons] at *; omega
  ·simp only [List.length_cons] at *; omega
/-- Of an ordered list in which what is alike is the same, a strictly rising one is left. -/
theorem compactL_rising {r : α → α → Prop} (hr : ∀ a b c, r a b → r b c → r a c) : ∀ (l : List α), l.Pairwise (fun a b => a = b ∨ r a b) → (compactL l).Pairwise r
 | [], _ => List.Pairwise.nil
 | [_], _ => List.pairwise_singleton _ _
 | a :: b :: l, h => by
  obtain ⟨h1, h2⟩ := List.pairwise_cons.1 h
  have ih := compactL_rising hr (b :: l) h2
  simp only [compactL]
  split
  ·exact ih
  ·rename_i hab
   refine List.pairwise_cons.2 ⟨fun x hx => ?_, ih⟩
   have hx' := (compactL_mem _ _).1 hx
   have hb : r a b := by
    rcases h1 b (by simp) with e | e
    ·exact absurd e hab
    ·exact e
   rcases List.mem_cons.1 hx' with e | hx2
   ·rw [e]; exact hb
   ·rcases (List.pairwise_cons.1 h2).1 x hx2 with e | e
    ·rw [← e]; exact hb
    ·exact hr _ _ _ hb e
/-- Nothing below base is changed, and of what is there only block g. -/
def BB (base g : Nat) (w w' : World) : Prop := Below base w w' ∧ w.heap.size ≤ w'.heap.size ∧ ∀ b, b < w.heap.size → b ≠ g → w'.heap[b]? = w.heap[b]?
theorem BB.refl (base g : Nat) (w : World) : BB base g w w := ⟨Below.refl _ _, Nat.le_refl _, fun _ _ _ => rfl⟩
theorem BB.drewN {base g : Nat} {w w' : World} (n : Nat) (h : BB base g w w') : BB base g w (w'.drewN n) := ⟨below_drewN _ h.1, h.2.1, h.2.2⟩
theorem BB.setCell {base g i : Nat} {w w' : World} (h : BB base g w w') (hb : base ≤ g) (v : Value) : BB base g w (w'.setCell ⟨g, i, none⟩ v) := ⟨h.1.setCell hb v, by rw [setCell_size]; exact h.2.1, fun b hl hne => by rw [setCell_other hne]; exact h.2.2 b hl hne⟩
omit [DecidableEq α] in
theorem set_takeL (d : List α) (m : Nat) (y : α) (hm : m < d.length) : (d.set m y).take (m + 1) = d.take m ++ [y] := by
 rw [List.take_succ_eq_append_getElem (by simpa using hm), List.getElem_set_self, List.take_set, List.set_eq_of_length_le (by simp; omega)]
end

theorem compactMarks_any (l : List MarkD) (v : Value) (w : World) (base : Nat) (h : EMark.Row base w v l) : Calls Tryz.prog 101 #[v] w fun e w' => ∃ v', e = .returned v' ∧ EMark.Row base w' v' (compactL l) ∧ Below base w w' ∧ w.heap.size ≤ w'.heap.size ∧ ∀ b, b < w.heap.size → v.ownBlock ≠ some b → w'.heap[b]? = w.heap[b]? := by
 obtain ⟨av, cv, rfl⟩ := h.slice
 by_cases h2 : l.length < 2
 ·have hc : compactL l = l := by
   match l, h2 with
   | [], _ => rfl
   | [a], _ => rfl
  have HROW := Hd h
  have t1 : decide ((l.length : Int) < 2) = true := decide_eq_true (by omega)
  clear h
  go_enter Tryz.func101, Tryz.ntmps101
  go_wp2_with fail
  go_ret
  exact ⟨_, rfl, by rw [hc]; exact HROW.out, Below.refl _ _, Nat.le_refl _, fun _ _ _ => rfl⟩
 ·obtain ⟨g, cap, hgv, hin, hgb⟩ := h.some (by intro e; rw [e] at h2; simp at h2)
  injection hgv with e1 e2 e3
  subst e1 e3
  have HIN := Hd hin
  have t1 : decide ((l.length : Int) < 2) = false := decide_eq_false (by omega)
  have hnm : l.length ≤ 9223372036854775807 := by
   have := h.le
   unfold maxLen at this
   omega
  have hcap : l.length ≤ cv := by
   obtain ⟨C, _, _, h3, _⟩ := hin
   exact h3
  have HNQ := Hd (fun x y wz => neqMark x y wz)
  have HEQ := Hd (fun x y wz => eqMark x y wz)
  clear h hin
  go_enter Tryz.func101, Tryz.ntmps101
  go_wp2_with fail
  go_loopw [3] (fun i wr => ∃ k : Nat, k + 1 ≤ l.length ∧ i = .int .i64 ((k : Int) + 1) ∧ wr.heap[g]? = w.heap[g]? ∧ BB base g w wr ∧ compactL (l.take (k + 1)) = l.take (k + 1)) (fun i _ => l.length - (intOf i).toNat)
  case atStart => exact ⟨0, by omega, rfl, rfl, BB.refl _ _ _, by
   match l, h2 with
   | a :: b :: l, _ => rfl⟩
  case round =>
   obtain ⟨k, hk, rfl, hg, hB, hc⟩ := hrel
   have HB := Hd hB
   have HC := Hd hc
   have HG := Hd hg
   clear hB hc hg
   by_cases hlt : k + 1 < l.length
   ·have HR := Hd (HIN.out.of_heap HG.out)
    have hgl := HR.out.gl
    have c0 : wr.cell? ⟨g, (k + 1) * 4, none⟩ = some (.int .i64 l[k + 1].dot.rep) := by
     have := HR.out.cell (k + 1) hlt 0 (by decide)
     simp only [Nat.add_zero, Nat.mul_one, show EMark.k = 4 from rfl] at this
     skip
     exact this
    have c1 : wr.cell? ⟨g, (k + 1) * 4 + 1, none⟩ = some (.int .i64 l[k + 1].dot.ctr) := by
     have := HR.out.cell (k + 1) hlt 1 (by decide)
     simp only [Nat.add_zero, Nat.mul_one, show EMark.k = 4 from rfl] at this
     skip
     exact this
    have c2 : wr.cell? ⟨g, (k + 1) * 4 + 2, none⟩ = some (.int .i64 l[k + 1].qty) := by
     have := HR.out.cell (k + 1) hlt 2 (by decide)
     simp only [Nat.add_zero, Nat.mul_one, show EMark.k = 4 from rfl] at this
     skip
     exact this
    have c3 : wr.cell? ⟨g, (k + 1) * 4 + 3, none⟩ = some (.int .u64 l[k + 1].time) := by
     have := HR.out.cell (k + 1) hlt 3 (by decide)
     simp only [Nat.add_zero, Nat.mul_one, show EMark.k = 4 from rfl] at this
     skip
     exact this
    have d0 : wr.cell? ⟨g, k * 4, none⟩ = some (.int .i64 l[k].dot.rep) := by
     have := HR.out.cell (k) (by omega) 0 (by decide)
     simp only [Nat.add_zero, Nat.mul_one, show EMark.k = 4 from rfl] at this
     skip
     exact this
    have d1 : wr.cell? ⟨g, k * 4 + 1, none⟩ = some (.int .i64 l[k].dot.ctr) := by
     have := HR.out.cell (k) (by omega) 1 (by decide)
     simp only [Nat.add_zero, Nat.mul_one, show EMark.k = 4 from rfl] at this
     skip
     exact this
    have d2 : wr.cell? ⟨g, k * 4 + 2, none⟩ = some (.int .i64 l[k].qty) := by
     have := HR.out.cell (k) (by omega) 2 (by decide)
     simp only [Nat.add_zero, Nat.mul_one, show EMark.k = 4 from rfl] at this
     skip
     exact this
    have d3 : wr.cell? ⟨g, k * 4 + 3, none⟩ = some (.int .u64 l[k].time) := by
     have := HR.out.cell (k) (by omega) 3 (by decide)
     simp only [Nat.add_zero, Nat.mul_one, show EMark.k = 4 from rfl] at this
     skip
     exact this
    have HT : Hid (compactL (l.take (k + 2)) = if l[k] = l[k + 1] then compactL (l.take (k + 1)) else compactL (l.take (k + 1)) ++ [l[k + 1]]) := Hd (compactL_take l k hlt)
    have HTK : Hid (l.take (k + 2) = l.take (k + 1) ++ [l[k + 1]]) := Hd (List.take_succ_eq_append_getElem hlt)
    generalize l[k + 1] = y at *
    generalize l[k] = x at *
    have x0 : IntKind.i64.wrap ((k : Int) + 1 - 1) = (k : Int) := by rw [IntKind.wrap_i64]; omega
    have x1 : IntKind.i64.wrap ((k : Int) + 1 + 1) = (k : Int) + 1 + 1 := by rw [IntKind.wrap_i64]; omega
    have x2 : IntKind.i64.wrap (k : Int) = (k : Int) := by rw [IntKind.wrap_i64]; omega
    have a0 : (0 : Int) ≤ k := by omega
    have a1 : (k : Int) < l.length := by omega
    have a2 : (0 : Int) ≤ (k : Int) + 1 := by omega
    have a3 : (k : Int) + 1 < l.length := by omega
    have x3 : ((k : Int) + 1).toNat = k + 1 := by omega
    by_cases hxy : y = x
    ·have hgd : ∀ (op : BinOp) (a b : Operand) (wz : World), Sem.run Tryz.prog (eqGuard op 85 a b (.agg #[.int .i64 y.dot.rep, .int .i64 y.dot.ctr, .int .i64 y.qty, .int .u64 y.time]) (.agg #[.int .i64 x.dot.rep, .int .i64 x.dot.ctr, .int .i64 x.qty, .int .u64 x.time])) wz = .ok () wz := fun op a b wz => guardMark op a b y x wz
     have heq : ∀ wz : World, Sem.run Tryz.prog (binOp .eql 85 (.agg #[.int .i64 y.dot.rep, .int .i64 y.dot.ctr, .int .i64 y.qty, .int .u64 y.time]) (.agg #[.int .i64 x.dot.rep, .int .i64 x.dot.ctr, .int .i64 x.qty, .int .u64 x.time])) wz = .ok (.bool (decide (y = x))) wz := fun wz => HEQ.out y x wz
     have hd : decide (y = x) = true := decide_eq_true hxy
     rw [hd] at heq
     clear hd
     have HC2 : Hid (compactL (l.take (k + 2)) = l.take (k + 1)) := Hd (by rw [HT.out, if_pos hxy.symm, HC.out])
     clear HT HC hxy
     have hcv : ¬ cv = k + 1 := by omega
     go_upto_region 6 with fail
     go_quiet (fail)
     go_wp2_with fail
     clear c0 d0 c1 d1 c2 d2 c3 d3 heq hgd
     obtain ⟨wo, hwo⟩ : ∃ wo : World, wo = wr.drewN nq := ⟨_, rfl⟩
     have HIO := Hd (show EMark.In wo g cv l by rw [hwo]; exact HR.out.of_heap rfl)
     have HBO := Hd (show BB base g w wo by rw [hwo]; exact HB.out.drewN _)
     rw [← hwo]
     clear hwo
     go_loopw [3, 5] (fun a b wx => ∃ (m j : Nat) (d : List MarkD), a = .int .i64 m ∧ b = .int .i64 ((j : Int) + 1) ∧ j + 1 ≤ l.length - (k + 1) ∧ m ≤ k + 1 + j ∧ 1 ≤ m ∧ d.length = l.length ∧ EMark.In wx g cv d ∧ d.take m = compactL (l.take (k + 1 + j + 1)) ∧ (∀ i, k + 1 + j ≤ i → d[i]? = l[i]?) ∧ BB base g w wx) (fun _ b _ => l.length - (intOf b).toNat)
     case atStart => exact ⟨k + 1, 0, l, by simp, rfl, by omega, by omega, by omega, rfl, HIO.out, HC2.out.symm, fun _ _ => rfl, HBO.out⟩
     case round =>
      obtain ⟨m, j, d, rfl, rfl, hj, hmk, hm1, hdl, hdin, htk, hsame, hbx⟩ := hrel
      have HTK2 := Hd htk
      have HSAME := Hd hsame
      have HBX := Hd hbx
      have HDIN := Hd hdin
      clear htk hsame hbx hdin
      by_cases hjl : j + 1 < l.length - (k + 1)
      ·have hi1 : k + 1 + j + 1 < d.length := by omega
       have hi0 : k + 1 + j < d.length := by omega
       have hgl := HDIN.out.gl
       have hmd : m < d.length := by omega
       have c0 : wr.cell? ⟨g, (k + 1) * 4 + (j + 1) * 4, none⟩ = some (.int .i64 d[k + 1 + j + 1].dot.rep) := by
        have := HDIN.out.cell (k + 1 + j + 1) hi1 0 (by decide)
        simp only [Nat.add_zero, Nat.mul_one, show EMark.k = 4 from rfl] at this
        rw [show (k + 1) * 4 + (j + 1) * 4 = (k + 1 + j + 1) * 4 by omega]
        exact this
       have c1 : wr.cell? ⟨g, (k + 1) * 4 + (j + 1) * 4 + 1, none⟩ = some (.int .i64 d[k + 1 + j + 1].dot.ctr) := by
        have := HDIN.out.cell (k + 1 + j + 1) hi1 1 (by decide)
        simp only [Nat.add_zero, Nat.mul_one, show EMark.k = 4 from rfl] at this
        rw [show (k + 1) * 4 + (j + 1) * 4 = (k + 1 + j + 1) * 4 by omega]
        exact this
       have c2 : wr.cell? ⟨g, (k + 1) * 4 + (j + 1) * 4 + 2, none⟩ = some (.int .i64 d[k + 1 + j + 1].qty) := by
        have := HDIN.out.cell (k + 1 + j + 1) hi1 2 (by decide)
        simp only [Nat.add_zero, Nat.mul_one, show EMark.k = 4 from rfl] at this
        rw [show (k + 1) * 4 + (j + 1) * 4 = (k + 1 + j + 1) * 4 by omega]
        exact this
       have c3 : wr.cell? ⟨g, (k + 1) * 4 + (j + 1) * 4 + 3, none⟩ = some (.int .u64 d[k + 1 + j + 1].time) := by
        have := HDIN.out.cell (k + 1 + j + 1) hi1 3 (by decide)
        simp only [Nat.add_zero, Nat.mul_one, show EMark.k = 4 from rfl] at this
        rw [show (k + 1) * 4 + (j + 1) * 4 = (k + 1 + j + 1) * 4 by omega]
        exact this
       have d0 : wr.cell? ⟨g, (k + 1) * 4 + j * 4, none⟩ = some (.int .i64 d[k + 1 + j].dot.rep) := by
        have := HDIN.out.cell (k + 1 + j) hi0 0 (by decide)
        simp only [Nat.add_zero, Nat.mul_one, show EMark.k = 4 from rfl] at this
        rw [show (k + 1) * 4 + j * 4 = (k + 1 + j) * 4 by omega]
        exact this
       have d1 : wr.cell? ⟨g, (k + 1) * 4 + j * 4 + 1, none⟩ = some (.int .i64 d[k + 1 + j].dot.ctr) := by
        have := HDIN.out.cell (k + 1 + j) hi0 1 (by decide)
        simp only [Nat.add_zero, Nat.mul_one, show EMark.k = 4 from rfl] at this
        rw [show (k + 1) * 4 + j * 4 = (k + 1 + j) * 4 by omega]
        exact this
       have d2 : wr.cell? ⟨g, (k + 1) * 4 + j * 4 + 2, none⟩ = some (.int .i64 d[k + 1 + j].qty) := by
        have := HDIN.out.cell (k + 1 + j) hi0 2 (by decide)
        simp only [Nat.add_zero, Nat.mul_one, show EMark.k = 4 from rfl] at this
        rw [show (k + 1) * 4 + j * 4 = (k + 1 + j) * 4 by omega]
        exact this
       have d3 : wr.cell? ⟨g, (k + 1) * 4 + j * 4 + 3, none⟩ = some (.int .u64 d[k + 1 + j].time) := by
        have := HDIN.out.cell (k + 1 + j) hi0 3 (by decide)
        simp only [Nat.add_zero, Nat.mul_one, show EMark.k = 4 from rfl] at this
        rw [show (k + 1) * 4 + j * 4 = (k + 1 + j) * 4 by omega]
        exact this
       have p0 : wr.cell? ⟨g, m * 4, none⟩ = some (.int .i64 d[m].dot.rep) := by
        have := HDIN.out.cell (m) hmd 0 (by decide)
        simp only [Nat.add_zero, Nat.mul_one, show EMark.k = 4 from rfl] at this
        skip
        exact this
       have p1 : wr.cell? ⟨g, m * 4 + 1, none⟩ = some (.int .i64 d[m].dot.ctr) := by
        have := HDIN.out.cell (m) hmd 1 (by decide)
        simp only [Nat.add_zero, Nat.mul_one, show EMark.k = 4 from rfl] at this
        skip
        exact this
       have p2 : wr.cell? ⟨g, m * 4 + 2, none⟩ = some (.int .i64 d[m].qty) := by
        have := HDIN.out.cell (m) hmd 2 (by decide)
        simp only [Nat.add_zero, Nat.mul_one, show EMark.k = 4 from rfl] at this
        skip
        exact this
       have p3 : wr.cell? ⟨g, m * 4 + 3, none⟩ = some (.int .u64 d[m].time) := by
        have := HDIN.out.cell (m) hmd 3 (by decide)
        simp only [Nat.add_zero, Nat.mul_one, show EMark.k = 4 from rfl] at this
        skip
        exact this
       have f0 := HDIN.out.froz (m * 4)
       have f1 := HDIN.out.froz (m * 4 + 1)
       have f2 := HDIN.out.froz (m * 4 + 2)
       have f3 := HDIN.out.froz (m * 4 + 3)
       have e1 : d[k + 1 + j + 1] = l[k + 1 + j + 1]'(by omega) := by
        have := HSAME.out (k + 1 + j + 1) (by omega)
        rw [List.getElem?_eq_getElem hi1, List.getElem?_eq_getElem (by omega)] at this
        exact Option.some.inj this
       have e0 : d[k + 1 + j] = l[k + 1 + j]'(by omega) := by
        have := HSAME.out (k + 1 + j) (by omega)
        rw [List.getElem?_eq_getElem hi0, List.getElem?_eq_getElem (by omega)] at this
        exact Option.some.inj this
       have HT2 := Hd (compactL_take l (k + 1 + j) (by omega))
       have HSET : Hid (∀ z, EMark.In ((((wr.setCell ⟨g, m * 4, none⟩ (.int .i64 z.dot.rep)).setCell ⟨g, m * 4 + 1, none⟩ (.int .i64 z.dot.ctr)).setCell ⟨g, m * 4 + 2, none⟩ (.int .i64 z.qty)).setCell ⟨g, m * 4 + 3, none⟩ (.int .u64 z.time)) g cv (d.set m z)) := Hd (fun z => by have := HDIN.out.set m hmd z; rw [show m * EMark.k = m * 4 from rfl] at this; exact this)
       rw [← e1, ← e0] at HT2
       clear e0 e1
       generalize hy : d[k + 1 + j + 1] = y at *
       generalize hx : d[k + 1 + j] = x at *
       generalize d[m] = z at *
       have HY := Hd hy
       have w0 : IntKind.i64.wrap ((j : Int) + 1 - 1) = (j : Int) := by rw [IntKind.wrap_i64]; omega
       have w1 : IntKind.i64.wrap ((j : Int) + 1 + 1) = (j : Int) + 1 + 1 := by rw [IntKind.wrap_i64]; omega
       have w2 : IntKind.i64.wrap (j : Int) = (j : Int) := by rw [IntKind.wrap_i64]; omega
       have w3 : IntKind.i64.wrap ((m : Int) + 1) = (m : Int) + 1 := by rw [IntKind.wrap_i64]; omega
       have b0 : (0 : Int) ≤ j := by omega
       have b2 : (0 : Int) ≤ (j : Int) + 1 := by omega
       have b4 : (0 : Int) ≤ m := by omega
       have b5 : (m : Int) < l.length := by omega
       have w4 : ((j : Int) + 1).toNat = j + 1 := by omega
       have b6 : ((l.length - (k + 1) : Nat) : Int) = (l.length : Int) - (k + 1) := by omega
       have t5 : decide ((j : Int) + 1 < (l.length : Int) - ((k : Int) + 1)) = true := decide_eq_true (by omega)
       clear hy hx
       by_cases hxy : y = x
       ·have hgd : ∀ (op : BinOp) (a b : Operand) (wz : World), Sem.run Tryz.prog (eqGuard op 85 a b (.agg #[.int .i64 y.dot.rep, .int .i64 y.dot.ctr, .int .i64 y.qty, .int .u64 y.time]) (.agg #[.int .i64 x.dot.rep, .int .i64 x.dot.ctr, .int .i64 x.qty, .int .u64 x.time])) wz = .ok () wz := fun op a b wz => guardMark op a b y x wz
        have hnq : ∀ wz : World, Sem.run Tryz.prog (binOp .neq 85 (.agg #[.int .i64 y.dot.rep, .int .i64 y.dot.ctr, .int .i64 y.qty, .int .u64 y.time]) (.agg #[.int .i64 x.dot.rep, .int .i64 x.dot.ctr, .int .i64 x.qty, .int .u64 x.time])) wz = .ok (.bool (!decide (y = x))) wz := fun wz => HNQ.out y x wz
        have hd : decide (y = x) = true := decide_eq_true hxy
        rw [hd] at hnq
        clear hd
        have HC3 : Hid (d.take m = compactL (l.take (k + 1 + (j + 1) + 1))) := Hd (by rw [HTK2.out, show k + 1 + (j + 1) + 1 = k + 1 + j + 2 by omega, HT2.out, if_pos hxy.symm])
        clear HT2 hxy
        go_upto_region 11 with fail
        go_quiet (fail)
        go_wp2_with fail
        go_roundw
        case rel => exact ⟨m, j + 1, d, rfl, by go_num, by omega, by omega, hm1, hdl, HDIN.out.of_heap rfl, HC3.out, fun i hi => HSAME.out i (by omega), HBX.out.drewN _⟩
        case measure => simp [intOf]; omega
       ·have hgd : ∀ (op : BinOp) (a b : Operand) (wz : World), Sem.run Tryz.prog (eqGuard op 85 a b (.agg #[.int .i64 y.dot.rep, .int .i64 y.dot.ctr, .int .i64 y.qty, .int .u64 y.time]) (.agg #[.int .i64 x.dot.rep, .int .i64 x.dot.ctr, .int .i64 x.qty, .int .u64 x.time])) wz = .ok () wz := fun op a b wz => guardMark op a b y x wz
        have hnq : ∀ wz : World, Sem.run Tryz.prog (binOp .neq 85 (.agg #[.int .i64 y.dot.rep, .int .i64 y.dot.ctr, .int .i64 y.qty, .int .u64 y.time]) (.agg #[.int .i64 x.dot.rep, .int .i64 x.dot.ctr, .int .i64 x.qty, .int .u64 x.time])) wz = .ok (.bool (!decide (y = x))) wz := fun wz => HNQ.out y x wz
        have hd : decide (y = x) = false := decide_eq_false hxy
        rw [hd] at hnq
        clear hd
        have HC3 : Hid ((d.set m y).take (m + 1) = compactL (l.take (k + 1 + (j + 1) + 1))) := Hd (by rw [set_takeL d m y hmd, HTK2.out, show k + 1 + (j + 1) + 1 = k + 1 + j + 2 by omega, HT2.out, if_neg (fun e => hxy e.symm)])
        have HS3 : Hid (∀ i, k + 1 + (j + 1) ≤ i → (d.set m y)[i]? = l[i]?) := Hd (fun i hi => by rw [List.getElem?_set_ne (by omega)]; exact HSAME.out i (by omega))
        clear HT2 hxy
        go_upto_region 11 with fail
        go_quiet (fail)
        go_wp2_with fail
        go_roundw
        case rel => exact ⟨m + 1, j + 1, d.set m y, by go_num, by go_num, by omega, by omega, by omega, by simpa using hdl, (HSET.out y).of_heap rfl, HC3.out, HS3.out, BB.drewN _ (((((HBX.out.setCell hgb (.int .i64 y.dot.rep)).setCell hgb (.int .i64 y.dot.ctr)).setCell hgb (.int .i64 y.qty)).setCell hgb (.int .u64 y.time)))⟩
        case measure => simp [intOf]; omega
      ·have hje : k + 1 + j + 1 = l.length := by omega
       have HF : Hid (d.take m = compactL l) := Hd (by have := HTK2.out; rw [hje, List.take_length] at this; exact this)
       obtain ⟨w4, hclr, hin4, hbl4, hsz4, hot4⟩ := HDIN.out.clear m l.length (by omega) (by omega) hcap 53 (.agg #[.int .i64 0, .int .i64 0, .int .i64 0, .int .u64 0]) Tryz.underlying53 (fun _ => Tryz.zeroValue85 _) rfl (by intro u hu; simp [Value.cells] at hu; rcases hu with rfl | rfl <;> rfl)
       have HIN4 := Hd (hin4.own hgb)
       have HB4 : Hid (BB base g w w4) := Hd ⟨hbl4 base w hgb HBX.out.1, by rw [hsz4]; exact HBX.out.2.1, fun b hb hne => by rw [hot4 b hne]; exact HBX.out.2.2 b hb hne⟩
       have hlen : (d.take m).length = m := by rw [List.length_take]; omega
       rw [hlen] at HIN4
       have hcm : ¬ cv = m := by omega
       have b4 : (0 : Int) ≤ m := by omega
       have b5 : (m : Int) ≤ l.length := by omega
       have b7 : (m : Int) ≤ cv := by omega
       have b6 : ((l.length - (k + 1) : Nat) : Int) = (l.length : Int) - (k + 1) := by omega
       have t5 : decide ((j : Int) + 1 < (l.length : Int) - ((k : Int) + 1)) = false := decide_eq_false (by omega)
       simp only [show EMark.k = 4 from rfl, Nat.mul_one] at hclr
       clear HTK2 HSAME hin4 hbl4 hlen hsz4 hot4
       go_wp2_with fail
       go_ret
       exact ⟨_, rfl, by rw [← HF.out]; exact HIN4.out, HB4.out.1, HB4.out.2.1, fun b hb hne => HB4.out.2.2 b hb (fun e => hne (by rw [e]; rfl))⟩
    ·have hgd : ∀ (op : BinOp) (a b : Operand) (wz : World), Sem.run Tryz.prog (eqGuard op 85 a b (.agg #[.int .i64 y.dot.rep, .int .i64 y.dot.ctr, .int .i64 y.qty, .int .u64 y.time]) (.agg #[.int .i64 x.dot.rep, .int .i64 x.dot.ctr, .int .i64 x.qty, .int .u64 x.time])) wz = .ok () wz := fun op a b wz => guardMark op a b y x wz
     have heq : ∀ wz : World, Sem.run Tryz.prog (binOp .eql 85 (.agg #[.int .i64 y.dot.rep, .int .i64 y.dot.ctr, .int .i64 y.qty, .int .u64 y.time]) (.agg #[.int .i64 x.dot.rep, .int .i64 x.dot.ctr, .int .i64 x.qty, .int .u64 x.time])) wz = .ok (.bool (decide (y = x))) wz := fun wz => HEQ.out y x wz
     have hd : decide (y = x) = false := decide_eq_false hxy
     rw [hd] at heq
     clear hd
     have HC2 : Hid (compactL (l.take (k + 2)) = l.take (k + 2)) := Hd (by rw [HT.out, if_neg (fun e => hxy e.symm), HC.out, HTK.out])
     clear HT HC hxy
     go_upto_region 6 with fail
     go_quiet (fail)
     go_wp2_with fail
     go_roundw
     case rel => exact ⟨k + 1, by omega, by go_num, HG.out, HB.out.drewN _, HC2.out⟩
     case measure => simp [intOf]; omega
   ·have hke : k + 1 = l.length := by omega
    have HF : Hid (compactL l = l) := Hd (by have := HC.out; rw [hke, List.take_length] at this; exact this)
    have HR := Hd ((HIN.out.of_heap HG.out).own hgb)
    have t2 : decide ((k : Int) + 1 < l.length) = false := decide_eq_false (by omega)
    clear HC
    go_wp2_with fail
    go_ret
    exact ⟨_, rfl, by rw [HF.out]; exact HR.out, HB.out.1, HB.out.2.1, fun b hb hne => HB.out.2.2 b hb (fun e => hne (by rw [e]; rfl))⟩

theorem compactStrs_any (l : List ByteArray) (v : Value) (w : World) (base : Nat) (h : EStr.Row base w v l) : Calls Tryz.prog 59 #[v] w fun e w' => ∃ v', e = .returned v' ∧ EStr.Row base w' v' (compactL l) ∧ Below base w w' ∧ w.heap.size ≤ w'.heap.size ∧ ∀ b, b < w.heap.size → v.ownBlock ≠ some b → w'.heap[b]? = w.heap[b]? := by
 obtain ⟨av, cv, rfl⟩ := h.slice
 by_cases h2 : l.length < 2
 ·have hc : compactL l = l := by
   match l, h2 with
   | [], _ => rfl
   | [a], _ => rfl
  have HROW := Hd h
  have t1 : decide ((l.length : Int) < 2) = true := decide_eq_true (by omega)
  clear h
  go_enter Tryz.func59, Tryz.ntmps59
  go_wp2_with fail
  go_ret
  exact ⟨_, rfl, by rw [hc]; exact HROW.out, Below.refl _ _, Nat.le_refl _, fun _ _ _ => rfl⟩
 ·obtain ⟨g, cap, hgv, hin, hgb⟩ := h.some (by intro e; rw [e] at h2; simp at h2)
  injection hgv with e1 e2 e3
  subst e1 e3
  have HIN := Hd hin
  have t1 : decide ((l.length : Int) < 2) = false := decide_eq_false (by omega)
  have hnm : l.length ≤ 9223372036854775807 := by
   have := h.le
   unfold maxLen at this
   omega
  have hcap : l.length ≤ cv := by
   obtain ⟨C, _, _, h3, _⟩ := hin
   exact h3
  clear h hin
  go_enter Tryz.func59, Tryz.ntmps59
  go_wp2_with fail
  go_loopw [3] (fun i wr => ∃ k : Nat, k + 1 ≤ l.length ∧ i = .int .i64 ((k : Int) + 1) ∧ wr.heap[g]? = w.heap[g]? ∧ BB base g w wr ∧ compactL (l.take (k + 1)) = l.take (k + 1)) (fun i _ => l.length - (intOf i).toNat)
  case atStart => exact ⟨0, by omega, rfl, rfl, BB.refl _ _ _, by
   match l, h2 with
   | a :: b :: l, _ => rfl⟩
  case round =>
   obtain ⟨k, hk, rfl, hg, hB, hc⟩ := hrel
   have HB := Hd hB
   have HC := Hd hc
   have HG := Hd hg
   clear hB hc hg
   by_cases hlt : k + 1 < l.length
   ·have HR := Hd (HIN.out.of_heap HG.out)
    have hgl := HR.out.gl
    have c0 : wr.cell? ⟨g, (k + 1), none⟩ = some (.string l[k + 1]) := by
     have := HR.out.cell (k + 1) hlt 0 (by decide)
     simp only [Nat.add_zero, Nat.mul_one, show EStr.k = 1 from rfl] at this
     skip
     exact this
    have d0 : wr.cell? ⟨g, k, none⟩ = some (.string l[k]) := by
     have := HR.out.cell (k) (by omega) 0 (by decide)
     simp only [Nat.add_zero, Nat.mul_one, show EStr.k = 1 from rfl] at this
     skip
     exact this
    have HT : Hid (compactL (l.take (k + 2)) = if l[k] = l[k + 1] then compactL (l.take (k + 1)) else compactL (l.take (k + 1)) ++ [l[k + 1]]) := Hd (compactL_take l k hlt)
    have HTK : Hid (l.take (k + 2) = l.take (k + 1) ++ [l[k + 1]]) := Hd (List.take_succ_eq_append_getElem hlt)
    generalize l[k + 1] = y at *
    generalize l[k] = x at *
    have x0 : IntKind.i64.wrap ((k : Int) + 1 - 1) = (k : Int) := by rw [IntKind.wrap_i64]; omega
    have x1 : IntKind.i64.wrap ((k : Int) + 1 + 1) = (k : Int) + 1 + 1 := by rw [IntKind.wrap_i64]; omega
    have x2 : IntKind.i64.wrap (k : Int) = (k : Int) := by rw [IntKind.wrap_i64]; omega
    have a0 : (0 : Int) ≤ k := by omega
    have a1 : (k : Int) < l.length := by omega
    have a2 : (0 : Int) ≤ (k : Int) + 1 := by omega
    have a3 : (k : Int) + 1 < l.length := by omega
    have x3 : ((k : Int) + 1).toNat = k + 1 := by omega
    by_cases hxy : y = x
    ·have heq : (y.toList == x.toList) = true := str_eq hxy
     have HC2 : Hid (compactL (l.take (k + 2)) = l.take (k + 1)) := Hd (by rw [HT.out, if_pos hxy.symm, HC.out])
     clear HT HC hxy
     have hcv : ¬ cv = k + 1 := by omega
     go_upto_region 6 with fail
     go_quiet (fail)
     go_wp2_with fail
     clear c0 d0 heq
     obtain ⟨wo, hwo⟩ : ∃ wo : World, wo = wr.drewN nq := ⟨_, rfl⟩
     have HIO := Hd (show EStr.In wo g cv l by rw [hwo]; exact HR.out.of_heap rfl)
     have HBO := Hd (show BB base g w wo by rw [hwo]; exact HB.out.drewN _)
     rw [← hwo]
     clear hwo
     go_loopw [3, 5] (fun a b wx => ∃ (m j : Nat) (d : List ByteArray), a = .int .i64 m ∧ b = .int .i64 ((j : Int) + 1) ∧ j + 1 ≤ l.length - (k + 1) ∧ m ≤ k + 1 + j ∧ 1 ≤ m ∧ d.length = l.length ∧ EStr.In wx g cv d ∧ d.take m = compactL (l.take (k + 1 + j + 1)) ∧ (∀ i, k + 1 + j ≤ i → d[i]? = l[i]?) ∧ BB base g w wx) (fun _ b _ => l.length - (intOf b).toNat)
     case atStart => exact ⟨k + 1, 0, l, by simp, rfl, by omega, by omega, by omega, rfl, HIO.out, HC2.out.symm, fun _ _ => rfl, HBO.out⟩
     case round =>
      obtain ⟨m, j, d, rfl, rfl, hj, hmk, hm1, hdl, hdin, htk, hsame, hbx⟩ := hrel
      have HTK2 := Hd htk
      have HSAME := Hd hsame
      have HBX := Hd hbx
      have HDIN := Hd hdin
      clear htk hsame hbx hdin
      by_cases hjl : j + 1 < l.length - (k + 1)
      ·have hi1 : k + 1 + j + 1 < d.length := by omega
       have hi0 : k + 1 + j < d.length := by omega
       have hgl := HDIN.out.gl
       have hmd : m < d.length := by omega
       have c0 : wr.cell? ⟨g, k + 1 + (j + 1), none⟩ = some (.string d[k + 1 + j + 1]) := by
        have := HDIN.out.cell (k + 1 + j + 1) hi1 0 (by decide)
        simp only [Nat.add_zero, Nat.mul_one, show EStr.k = 1 from rfl] at this
        rw [show k + 1 + (j + 1) = k + 1 + j + 1 by omega]
        exact this
       have d0 : wr.cell? ⟨g, k + 1 + j, none⟩ = some (.string d[k + 1 + j]) := by
        have := HDIN.out.cell (k + 1 + j) hi0 0 (by decide)
        simp only [Nat.add_zero, Nat.mul_one, show EStr.k = 1 from rfl] at this
        skip
        exact this
       have p0 : wr.cell? ⟨g, m, none⟩ = some (.string d[m]) := by
        have := HDIN.out.cell (m) hmd 0 (by decide)
        simp only [Nat.add_zero, Nat.mul_one, show EStr.k = 1 from rfl] at this
        skip
        exact this
       have f0 := HDIN.out.froz (m)
       have e1 : d[k + 1 + j + 1] = l[k + 1 + j + 1]'(by omega) := by
        have := HSAME.out (k + 1 + j + 1) (by omega)
        rw [List.getElem?_eq_getElem hi1, List.getElem?_eq_getElem (by omega)] at this
        exact Option.some.inj this
       have e0 : d[k + 1 + j] = l[k + 1 + j]'(by omega) := by
        have := HSAME.out (k + 1 + j) (by omega)
        rw [List.getElem?_eq_getElem hi0, List.getElem?_eq_getElem (by omega)] at this
        exact Option.some.inj this
       have HT2 := Hd (compactL_take l (k + 1 + j) (by omega))
       have HSET : Hid (∀ z, EStr.In (wr.setCell ⟨g, m, none⟩ (.string z)) g cv (d.set m z)) := Hd (fun z => by have := HDIN.out.set m hmd z; rw [show m * EStr.k = m from Nat.mul_one m] at this; exact this)
       rw [← e1, ← e0] at HT2
       clear e0 e1
       generalize hy : d[k + 1 + j + 1] = y at *
       generalize hx : d[k + 1 + j] = x at *
       generalize d[m] = z at *
       have HY := Hd hy
       have w0 : IntKind.i64.wrap ((j : Int) + 1 - 1) = (j : Int) := by rw [IntKind.wrap_i64]; omega
       have w1 : IntKind.i64.wrap ((j : Int) + 1 + 1) = (j : Int) + 1 + 1 := by rw [IntKind.wrap_i64]; omega
       have w2 : IntKind.i64.wrap (j : Int) = (j : Int) := by rw [IntKind.wrap_i64]; omega
       have w3 : IntKind.i64.wrap ((m : Int) + 1) = (m : Int) + 1 := by rw [IntKind.wrap_i64]; omega
       have b0 : (0 : Int) ≤ j := by omega
       have b2 : (0 : Int) ≤ (j : Int) + 1 := by omega
       have b4 : (0 : Int) ≤ m := by omega
       have b5 : (m : Int) < l.length := by omega
       have w4 : ((j : Int) + 1).toNat = j + 1 := by omega
       have b6 : ((l.length - (k + 1) : Nat) : Int) = (l.length : Int) - (k + 1) := by omega
       have t5 : decide ((j : Int) + 1 < (l.length : Int) - ((k : Int) + 1)) = true := decide_eq_true (by omega)
       clear hy hx
       by_cases hxy : y = x
       ·have hnq : (y.toList == x.toList) = true := str_eq hxy
        have HC3 : Hid (d.take m = compactL (l.take (k + 1 + (j + 1) + 1))) := Hd (by rw [HTK2.out, show k + 1 + (j + 1) + 1 = k + 1 + j + 2 by omega, HT2.out, if_pos hxy.symm])
        clear HT2 hxy
        go_upto_region 11 with fail
        go_quiet (fail)
        go_wp2_with fail
        go_roundw
        case rel => exact ⟨m, j + 1, d, rfl, by go_num, by omega, by omega, hm1, hdl, HDIN.out.of_heap rfl, HC3.out, fun i hi => HSAME.out i (by omega), HBX.out.drewN _⟩
        case measure => simp [intOf]; omega
       ·have hnq : (y.toList == x.toList) = false := str_ne hxy
        have HC3 : Hid ((d.set m y).take (m + 1) = compactL (l.take (k + 1 + (j + 1) + 1))) := Hd (by rw [set_takeL d m y hmd, HTK2.out, show k + 1 + (j + 1) + 1 = k + 1 + j + 2 by omega, HT2.out, if_neg (fun e => hxy e.symm)])
        have HS3 : Hid (∀ i, k + 1 + (j + 1) ≤ i → (d.set m y)[i]? = l[i]?) := Hd (fun i hi => by rw [List.getElem?_set_ne (by omega)]; exact HSAME.out i (by omega))
        clear HT2 hxy
        go_upto_region 11 with fail
        go_quiet (fail)
        go_wp2_with fail
        go_roundw
        case rel => exact ⟨m + 1, j + 1, d.set m y, by go_num, by go_num, by omega, by omega, by omega, by simpa using hdl, (HSET.out y).of_heap rfl, HC3.out, HS3.out, BB.drewN _ ((HBX.out.setCell hgb (.string y)))⟩
        case measure => simp [intOf]; omega
      ·have hje : k + 1 + j + 1 = l.length := by omega
       have HF : Hid (d.take m = compactL l) := Hd (by have := HTK2.out; rw [hje, List.take_length] at this; exact this)
       obtain ⟨w4, hclr, hin4, hbl4, hsz4, hot4⟩ := HDIN.out.clear m l.length (by omega) (by omega) hcap 96 (.string ⟨#[]⟩) Tryz.underlying96 (fun _ => Tryz.zeroValue9 _) rfl (by intro u hu; simp [Value.cells] at hu; subst hu; rfl)
       have HIN4 := Hd (hin4.own hgb)
       have HB4 : Hid (BB base g w w4) := Hd ⟨hbl4 base w hgb HBX.out.1, by rw [hsz4]; exact HBX.out.2.1, fun b hb hne => by rw [hot4 b hne]; exact HBX.out.2.2 b hb hne⟩
       have hlen : (d.take m).length = m := by rw [List.length_take]; omega
       rw [hlen] at HIN4
       have hcm : ¬ cv = m := by omega
       have b4 : (0 : Int) ≤ m := by omega
       have b5 : (m : Int) ≤ l.length := by omega
       have b7 : (m : Int) ≤ cv := by omega
       have b6 : ((l.length - (k + 1) : Nat) : Int) = (l.length : Int) - (k + 1) := by omega
       have t5 : decide ((j : Int) + 1 < (l.length : Int) - ((k : Int) + 1)) = false := decide_eq_false (by omega)
       simp only [show EStr.k = 1 from rfl, Nat.mul_one] at hclr
       clear HTK2 HSAME hin4 hbl4 hlen hsz4 hot4
       go_wp2_with fail
       go_ret
       exact ⟨_, rfl, by rw [← HF.out]; exact HIN4.out, HB4.out.1, HB4.out.2.1, fun b hb hne => HB4.out.2.2 b hb (fun e => hne (by rw [e]; rfl))⟩
    ·have heq : (y.toList == x.toList) = false := str_ne hxy
     have HC2 : Hid (compactL (l.take (k + 2)) = l.take (k + 2)) := Hd (by rw [HT.out, if_neg (fun e => hxy e.symm), HC.out, HTK.out])
     clear HT HC hxy
     go_upto_region 6 with fail
     go_quiet (fail)
     go_wp2_with fail
     go_roundw
     case rel => exact ⟨k + 1, by omega, by go_num, HG.out, HB.out.drewN _, HC2.out⟩
     case measure => simp [intOf]; omega
   ·have hke : k + 1 = l.length := by omega
    have HF : Hid (compactL l = l) := Hd (by have := HC.out; rw [hke, List.take_length] at this; exact this)
    have HR := Hd ((HIN.out.of_heap HG.out).own hgb)
    have t2 : decide ((k : Int) + 1 < l.length) = false := decide_eq_false (by omega)
    clear HC
    go_wp2_with fail
    go_ret
    exact ⟨_, rfl, by rw [HF.out]; exact HR.out, HB.out.1, HB.out.2.1, fun b hb hne => HB.out.2.2 b hb (fun e => hne (by rw [e]; rfl))⟩
end Go.Proofs.YtjoljfnlkddfbaaGreatDoor

