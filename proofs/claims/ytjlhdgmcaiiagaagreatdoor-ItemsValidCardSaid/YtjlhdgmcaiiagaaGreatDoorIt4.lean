/- items.Equal, dot.Has. -/
import Derived.Test.YtjlhdgmcaiiagaaGreatDoorIt3
import Derived.Test.YtjlhdgmcaiiagaaGreatDoorR1b
namespace Go.Proofs.YtjlhdgmcaiiagaaGreatDoor
open Go.RowKit Go.Maps

theorem eqDotIn (n : Nat) (x y : DotD) (w : World) : (Op.equalIn (n + 1 + 1) 24 (.agg #[.int .i64 x.rep, .int .i64 x.ctr]) (.agg #[.int .i64 y.rep, .int .i64 y.ctr])).run Tryz.prog w = .ok (decide (x = y)) w := by
  have u3 := Tryz.underlying3
  have a3 := Tryz.isAgg3
  have z3 := Tryz.sizeOf3
  rw [run_equalIn_agg w (n + 1) 24 _ _ (by kernel_rfl) (by kernel_rfl)]
  simp only [Program.fieldsOf, Tryz.underlying24]
  go_simp
  obtain ⟨a, b⟩ := x
  obtain ⟨c, d⟩ := y
  by_cases h1 : a = c <;> by_cases h2 : b = d <;> simp [h1, h2]
theorem eqMark (x y : MarkD) (w : World) : (binOp .eql 62 (markV x) (markV y)).run Tryz.prog w = .ok (.bool (decide (x = y))) w := by
  have u3 := Tryz.underlying3
  have u4 := Tryz.underlying60
  have a3 := Tryz.isAgg3
  have z3 := Tryz.sizeOf3
  have a4 := Tryz.isAgg60
  have z4 := Tryz.sizeOf60
  have a5 := Tryz.isAgg24
  have z5 := Tryz.sizeOf24
  have hE1 := eqDotIn 9997 x.dot y.dot w
  have hE2 := eqDotIn 9996 x.dot y.dot w
  simp only [Nat.reduceAdd] at hE1 hE2
  unfold markV
  rw [run_eql_struct, show (10000 : Nat) = 9999 + 1 from rfl, run_equalIn_agg w 9999 62 _ _ (by kernel_rfl) (by kernel_rfl)]
  simp only [Program.fieldsOf, Tryz.underlying62]
  go_simp
  obtain ⟨⟨a, b⟩, c, d⟩ := x
  obtain ⟨⟨a', b'⟩, c', d'⟩ := y
  by_cases h1 : a = a' <;> by_cases h2 : b = b' <;> by_cases h3 : c = c' <;> by_cases h4 : d = d' <;> simp [h1, h2, h3, h4]
theorem neqMark (x y : MarkD) (w : World) : (binOp .neq 62 (markV x) (markV y)).run Tryz.prog w = .ok (.bool (!decide (x = y))) w := by
  have h := eqMark x y w
  unfold markV at *
  rw [run_eql_struct] at h
  rw [run_neq_struct]
  generalize (Op.equalIn 10000 62 (.agg #[.int .i64 x.dot.rep, .int .i64 x.dot.ctr, .int .i64 x.qty, .int .u64 x.time]) (.agg #[.int .i64 y.dot.rep, .int .i64 y.dot.ctr, .int .i64 y.qty, .int .u64 y.time])).run Tryz.prog w = r at h ⊢
  cases r with
  | ok b w1 =>
    simp only [Result.andThen_ok] at h ⊢
    injection h with h1 h2
    subst h2
    injection h1 with h1
    rw [h1]
  | _ => all_goals (simp [Result.andThen] at h)
theorem guardMark (op : BinOp) (a b : Operand) (x y : MarkD) (w : World) : (eqGuard op 62 a b (markV x) (markV y)).run Tryz.prog w = .ok () w :=
  run_eqGuard_agg w op 62 a b _ _ (by kernel_rfl)

set_option maxRecDepth 100000 in
set_option maxHeartbeats 2000000 in
theorem equalMarks_any (l m : List MarkD) (v u : Value) (w : World) (h : Arr MarkR 4 w v l) (h2 : Arr MarkR 4 w u m) : Calls Tryz.prog 86 #[v, u] w fun e w' => e = .returned (.bool (decide (l = m))) ∧ Below w.heap.size w w' := by
  have hn := h.len
  have hn2 := h2.len
  obtain ⟨o, c, rfl, hel⟩ := h.markAt
  obtain ⟨o2, c2, rfl, hel2⟩ := h2.markAt
  have HEL := Lib.hid hel
  have HEL2 := Lib.hid hel2
  have HNQ := Lib.hid (fun x y wz => neqMark x y wz)
  clear hel hel2 h h2
  by_cases hll : l.length = m.length
  · have tl : ((l.length : Int) != m.length) = false := by simp [hll]
    have tl2 : ((l.length : Int) == m.length) = true := by simp [hll]
    go_enter Tryz.func86, Tryz.ntmps86
    go_wp2_with fail
    go_loopw [13] (fun i wr => ∃ k : Nat, k ≤ l.length ∧ i = .int .i64 k ∧ l.take k = m.take k ∧ Below w.heap.size w wr) (fun i _ => l.length - (intOf i).toNat)
    case atStart => exact ⟨0, Nat.zero_le _, rfl, by simp, Below.refl _ _⟩
    case round =>
      obtain ⟨k, hk, rfl, htk, hB⟩ := hrel
      have HTK := Lib.hid htk
      have HB := Lib.hid hB
      clear htk hB
      by_cases hlt : k < l.length
      · have hlt2 : k < m.length := by omega
        obtain ⟨b, off, rfl, hbl, e0, e1, e2, e3, -⟩ := HEL.out k hlt
        obtain ⟨b2, off2, rfl, hbl2, f0, f1, f2, f3, -⟩ := HEL2.out k hlt2
        have c0 : wr.cell? ⟨b, off + k * 4, none⟩ = some (.int .i64 l[k].dot.rep) := by rw [HB.out.cell (p := ⟨_, _, _⟩) hbl]; exact e0
        have c1 : wr.cell? ⟨b, off + k * 4 + 1, none⟩ = some (.int .i64 l[k].dot.ctr) := by rw [HB.out.cell (p := ⟨_, _, _⟩) hbl]; exact e1
        have c2 : wr.cell? ⟨b, off + k * 4 + 2, none⟩ = some (.int .i64 l[k].qty) := by rw [HB.out.cell (p := ⟨_, _, _⟩) hbl]; exact e2
        have c3 : wr.cell? ⟨b, off + k * 4 + 3, none⟩ = some (.int .u64 l[k].time) := by rw [HB.out.cell (p := ⟨_, _, _⟩) hbl]; exact e3
        have d0 : wr.cell? ⟨b2, off2 + k * 4, none⟩ = some (.int .i64 m[k].dot.rep) := by rw [HB.out.cell (p := ⟨_, _, _⟩) hbl2]; exact f0
        have d1 : wr.cell? ⟨b2, off2 + k * 4 + 1, none⟩ = some (.int .i64 m[k].dot.ctr) := by rw [HB.out.cell (p := ⟨_, _, _⟩) hbl2]; exact f1
        have d2 : wr.cell? ⟨b2, off2 + k * 4 + 2, none⟩ = some (.int .i64 m[k].qty) := by rw [HB.out.cell (p := ⟨_, _, _⟩) hbl2]; exact f2
        have d3 : wr.cell? ⟨b2, off2 + k * 4 + 3, none⟩ = some (.int .u64 m[k].time) := by rw [HB.out.cell (p := ⟨_, _, _⟩) hbl2]; exact f3
        have HSN : Hid (l[k] = m[k] → l.take (k + 1) = m.take (k + 1)) := Lib.hid (fun he => take_snoc_eq hlt hlt2 HTK.out he)
        have HNE : Hid (l = m → l[k] = m[k]) := Lib.hid (fun e => by subst e; rfl)
        generalize l[k] = x at *
        generalize m[k] = y at *
        have hnq : ∀ wz : World, Sem.run Tryz.prog (binOp .neq 62 (.agg #[.int .i64 x.dot.rep, .int .i64 x.dot.ctr, .int .i64 x.qty, .int .u64 x.time]) (.agg #[.int .i64 y.dot.rep, .int .i64 y.dot.ctr, .int .i64 y.qty, .int .u64 y.time])) wz = .ok (.bool (!decide (x = y))) wz := fun wz => HNQ.out x y wz
        have hgd : ∀ (op : BinOp) (a b : Operand) (wz : World), Sem.run Tryz.prog (eqGuard op 62 a b (.agg #[.int .i64 x.dot.rep, .int .i64 x.dot.ctr, .int .i64 x.qty, .int .u64 x.time]) (.agg #[.int .i64 y.dot.rep, .int .i64 y.dot.ctr, .int .i64 y.qty, .int .u64 y.time])) wz = .ok () wz := fun op a b wz => guardMark op a b x y wz
        have a0 : (0 : Int) ≤ k := by omega
        have a1 : (k : Int) < l.length := by omega
        have hkw : IntKind.i64.wrap ((k : Int) + 1) = (k : Int) + 1 := by rw [IntKind.wrap_i64]; omega
        have a2 : (k : Int) < m.length := by omega
        clear e0 e1 e2 e3 f0 f1 f2 f3 HNQ HTK
        by_cases hxy : x = y
        · have hd : decide (x = y) = true := decide_eq_true hxy
          rw [hd] at hnq
          have HF := Lib.hid (HSN.out hxy)
          clear HSN HNE hxy hd
          go_upto_region 6 with fail
          go_quiet (fail)
          go_wp2_with fail
          go_roundw
          case rel => exact ⟨k + 1, by omega, by go_num, HF.out, below_drewN _ HB.out⟩
          case measure => simp [intOf]; omega
        · have hd : decide (x = y) = false := decide_eq_false hxy
          rw [hd] at hnq
          have HF : Hid (decide (l = m) = false) := Lib.hid (decide_eq_false (fun e => hxy (HNE.out e)))
          clear HSN HNE hxy hd
          go_upto_region 6 with fail
          go_quiet (fail)
          go_wp2_with fail
          go_ret
          exact ⟨by rw [HF.out]; rfl, below_drewN _ HB.out⟩
      · have hke : k = l.length := by omega
        have HF : Hid (decide (l = m) = true) := Lib.hid (decide_eq_true (take_eq_of hll hke HTK.out))
        clear HTK
        go_wp2_with fail
        go_ret
        exact ⟨by rw [HF.out]; rfl, HB.out⟩
  · have tl : ((l.length : Int) != m.length) = true := by simp; omega
    have tl2 : ((l.length : Int) == m.length) = false := by simp; omega
    have HF : Hid (decide (l = m) = false) := Lib.hid (decide_eq_false (fun e => hll (by rw [e])))
    go_enter Tryz.func86, Tryz.ntmps86
    go_wp2_with fail
    go_ret
    exact ⟨by rw [HF.out]; rfl, Below.refl _ _⟩

theorem strDec (a b : ByteArray) : (a.toList == b.toList) = decide (a = b) := by
  rw [str_eq_iff]
  congr 1
  exact propext ⟨fun h => by
    obtain ⟨⟨x⟩⟩ := a
    obtain ⟨⟨y⟩⟩ := b
    simp at h
    subst h
    rfl, fun h => by rw [h]⟩
theorem item_eq {x y : ItemD} : (x = y) ↔ x.name = y.name ∧ x.marks = y.marks := by
  obtain ⟨a, b⟩ := x
  obtain ⟨c, d⟩ := y
  simp
set_option maxRecDepth 100000 in
set_option maxHeartbeats 2000000 in
theorem itemsSame_any (x y : ItemD) (mv nv : Value) (w : World) (h : Arr MarkR 4 w mv x.marks) (h2 : Arr MarkR 4 w nv y.marks) : Calls Tryz.prog 63 #[.agg #[.string x.name, mv], .agg #[.string y.name, nv]] w fun e w' => e = .returned (.bool (decide (x = y))) ∧ Below w.heap.size w w' := by
  obtain ⟨o1, k1, rfl, -⟩ := id h
  obtain ⟨o2, k2, rfl, -⟩ := id h2
  have hb1 : Below w.heap.size w ((w.alloc (.cells #[.string x.name, .slice o1 x.marks.length k1] 31)).alloc (.cells #[.string y.name, .slice o2 y.marks.length k2] 31)) := ((Below.refl _ _).alloc (Nat.le_refl _) _).alloc (by simp) _
  have HB1 := Lib.hid hb1
  have HM := Lib.hid (equalMarks_any x.marks y.marks _ _ _ (h.marks hb1) (h2.marks hb1))
  have hse := strDec x.name y.name
  clear h h2 hb1
  by_cases hn : x.name = y.name
  · have t1 : (x.name.toList == y.name.toList) = true := by rw [hse]; exact decide_eq_true hn
    have HF : Hid (decide (x = y) = decide (x.marks = y.marks)) := Lib.hid (by congr 1; exact propext ⟨fun h => (item_eq.1 h).2, fun h => item_eq.2 ⟨hn, h⟩⟩)
    clear hse hn
    go_enter Tryz.func63, Tryz.ntmps63
    go_wp2_with fail
    refine HM.out.mono ?_
    rintro e w2 ⟨rfl, hb2⟩
    go_wp2_with fail
    go_ret
    exact ⟨by rw [HF.out]; rfl, HB1.out.trans (hb2.mono HB1.out.size)⟩
  · have t1 : (x.name.toList == y.name.toList) = false := by rw [hse]; exact decide_eq_false hn
    have HF : Hid (decide (x = y) = false) := Lib.hid (decide_eq_false (fun h => hn (item_eq.1 h).1))
    clear hse hn
    go_enter Tryz.func63, Tryz.ntmps63
    go_wp2_with fail
    go_ret
    exact ⟨by rw [HF.out]; rfl, HB1.out⟩

set_option maxRecDepth 100000 in
set_option maxHeartbeats 2000000 in
theorem equalFuncItems_any (l m : List ItemD) (v u : Value) (w : World) (h : Arr ItemR 2 w v l) (h2 : Arr ItemR 2 w u m) : Calls Tryz.prog 62 #[v, u, .func (.func 63) #[] #[]] w fun e w' => e = .returned (.bool (decide (l = m))) ∧ Below w.heap.size w w' := by
  have eg : ∀ args w, (callFunc 63 args).run Tryz.prog w = .ok (.enter 63 args) w := enters_of Tryz.func63 (by kernel_rfl) rfl
  have hn := h.len
  have hn2 := h2.len
  obtain ⟨o, c, rfl, hel⟩ := h.itemAt
  obtain ⟨o2, c2, rfl, hel2⟩ := h2.itemAt
  have HEL := Lib.hid hel
  have HEL2 := Lib.hid hel2
  clear hel hel2 h h2
  by_cases hll : l.length = m.length
  · have tl : ((l.length : Int) != m.length) = false := by simp [hll]
    have tl2 : ((l.length : Int) == m.length) = true := by simp [hll]
    have HLL := Lib.hid hll
    clear hll
    go_enter Tryz.func62, Tryz.ntmps62
    go_wp2_with fail
    go_loopw [17] (fun i wr => ∃ k : Nat, k ≤ l.length ∧ i = .int .i64 k ∧ l.take k = m.take k ∧ Below w.heap.size w wr) (fun i _ => l.length - (intOf i).toNat)
    case atStart => exact ⟨0, Nat.zero_le _, rfl, by simp, Below.refl _ _⟩
    case round =>
      obtain ⟨k, hk, rfl, htk, hB⟩ := hrel
      have HTK := Lib.hid htk
      have HB := Lib.hid hB
      clear htk hB
      by_cases hlt : k < l.length
      · have hlt2 : k < m.length := by have := HLL.out; omega
        obtain ⟨b, off, mv, rfl, hbl, e0, e1, -, hm1⟩ := HEL.out k hlt
        obtain ⟨b2, off2, nv, rfl, hbl2, f0, f1, -, hm2⟩ := HEL2.out k hlt2
        obtain ⟨o3, k3, rfl, -⟩ := id hm1
        obtain ⟨o4, k4, rfl, -⟩ := id hm2
        have c0 : wr.cell? ⟨b, off + k * 2, none⟩ = some (.string l[k].name) := by rw [HB.out.cell (p := ⟨_, _, _⟩) hbl]; exact e0
        have c1 : wr.cell? ⟨b, off + k * 2 + 1, none⟩ = some (.slice o3 l[k].marks.length k3) := by rw [HB.out.cell (p := ⟨_, _, _⟩) hbl]; exact e1
        have hbr2 : b2 < wr.heap.size := Nat.lt_of_lt_of_le hbl2 HB.out.size
        have d0 : wr.cell? ⟨b2, off2 + k * 2, none⟩ = some (.string m[k].name) := by rw [HB.out.cell (p := ⟨_, _, _⟩) hbl2]; exact f0
        have d1 : wr.cell? ⟨b2, off2 + k * 2 + 1, none⟩ = some (.slice o4 m[k].marks.length k4) := by rw [HB.out.cell (p := ⟨_, _, _⟩) hbl2]; exact f1
        have hal : Below wr.heap.size wr ((wr.alloc (.cells #[.string l[k].name, .slice o3 l[k].marks.length k3] 31)).alloc (.cells #[.string m[k].name, .slice o4 m[k].marks.length k4] 31)) := ((Below.refl _ _).alloc (Nat.le_refl _) _).alloc (by simp) _
        have HAL := Lib.hid hal
        have HSA := Lib.hid (itemsSame_any l[k] m[k] _ _ _ ((hm1.marks HB.out).marks hal) ((hm2.marks HB.out).marks hal))
        have HSN : Hid (l[k] = m[k] → l.take (k + 1) = m.take (k + 1)) := Lib.hid (fun he => take_snoc_eq hlt hlt2 HTK.out he)
        have HNE : Hid (l = m → l[k] = m[k]) := Lib.hid (fun e => by subst e; rfl)
        generalize l[k] = x at *
        generalize m[k] = y at *
        have a0 : (0 : Int) ≤ k := by omega
        have a1 : (k : Int) < l.length := by omega
        have hkw : IntKind.i64.wrap ((k : Int) + 1) = (k : Int) + 1 := by rw [IntKind.wrap_i64]; omega
        have a2 : (k : Int) < m.length := by have := HLL.out; omega
        clear e0 e1 f0 f1 HTK hal hm1 hm2
        obtain ⟨r, hr⟩ : ∃ r, r = decide (x = y) := ⟨_, rfl⟩
        rw [← hr] at HSA
        cases r with
        | true =>
          have HF := Lib.hid (HSN.out (of_decide_eq_true hr.symm))
          clear HSN HNE hr
          go_wp2_with (go_at_fn 63; refine HSA.out.mono ?_; rintro e w2 ⟨rfl, hb2⟩)
          have hbf := HB.out.trans ((HAL.out.trans (hb2.mono HAL.out.size)).mono HB.out.size)
          go_roundw
          case rel => exact ⟨k + 1, by omega, by go_num, HF.out, hbf⟩
          case measure => simp [intOf]; omega
        | false =>
          have HF : Hid (decide (l = m) = false) := Lib.hid (decide_eq_false (fun e => of_decide_eq_false hr.symm (HNE.out e)))
          clear HSN HNE hr
          go_wp2_with (go_at_fn 63; refine HSA.out.mono ?_; rintro e w2 ⟨rfl, hb2⟩)
          go_ret
          exact ⟨by rw [HF.out]; rfl, HB.out.trans ((HAL.out.trans (hb2.mono HAL.out.size)).mono HB.out.size)⟩
      · have hke : k = l.length := by omega
        have HF : Hid (decide (l = m) = true) := Lib.hid (decide_eq_true (take_eq_of HLL.out hke HTK.out))
        clear HTK
        go_wp2_with fail
        go_ret
        exact ⟨by rw [HF.out]; rfl, HB.out⟩
  · have tl : ((l.length : Int) != m.length) = true := by simp; omega
    have tl2 : ((l.length : Int) == m.length) = false := by simp; omega
    have HF : Hid (decide (l = m) = false) := Lib.hid (decide_eq_false (fun e => hll (by rw [e])))
    go_enter Tryz.func62, Tryz.ntmps62
    go_wp2_with fail
    go_ret
    exact ⟨by rw [HF.out]; rfl, Below.refl _ _⟩
set_option maxRecDepth 100000 in
theorem itemsEqual_any (l m : List ItemD) (v u : Value) (w : World) (h : Arr ItemR 2 w v l) (h2 : Arr ItemR 2 w u m) : Calls Tryz.prog 35 #[v, u] w fun e w' => e = .returned (.bool (decide (l = m))) ∧ Below w.heap.size w w' := by
  have HE := Lib.hid (equalFuncItems_any l m v u w h h2)
  clear h h2
  go_enter Tryz.func35, Tryz.ntmps35
  go_wp2_with fail
  refine HE.out.mono ?_
  rintro e w2 ⟨rfl, hb2⟩
  go_wp2_with fail
  go_ret
  exact ⟨rfl, hb2⟩

def IdxPost (b : Bool) (w : World) (e : Ending) (w' : World) : Prop := ∃ i : Int, e = .returned (.int .i64 i) ∧ decide (0 ≤ i) = b ∧ Below w.heap.size w w'
set_option maxRecDepth 100000 in
set_option maxHeartbeats 2000000 in
theorem indexDot_any (l : List DotD) (d : DotD) (v : Value) (w : World) (h : Arr DotR 2 w v l) : Calls Tryz.prog 113 #[v, dotV d] w (IdxPost (decide (d ∈ l)) w) := by
  have hn := h.len
  obtain ⟨o, c, rfl, hel⟩ := h.dotAt
  have HEL := Lib.hid hel
  have HEQ := Lib.hid (fun x y wz => eqDot x y wz)
  obtain ⟨W1, hW1⟩ : ∃ W1, W1 = w.alloc (.cells #[.int .i64 d.rep, .int .i64 d.ctr] 24) := ⟨_, rfl⟩
  have hb1 : Below w.heap.size w W1 := by rw [hW1]; exact (Below.refl _ _).alloc (Nat.le_refl _) _
  have hg1 : W1.heap[w.heap.size]? = some (.cells #[.int .i64 d.rep, .int .i64 d.ctr] 24) := by rw [hW1]; exact alloc_new _ _
  have hgl1 := lt_of_heap hg1
  have HD0 : Hid (W1.cell? ⟨w.heap.size, 0, none⟩ = some (.int .i64 d.rep) ∧ W1.cell? ⟨w.heap.size, 1, none⟩ = some (.int .i64 d.ctr)) := Lib.hid ⟨by rw [cell0 hg1 0]; rfl, by rw [cell0 hg1 1]; rfl⟩
  have HB1 := Lib.hid hb1
  have HW := Lib.hid hW1
  clear hel h hg1 hb1 hW1
  unfold dotV
  go_enter Tryz.func113, Tryz.ntmps113
  go_wp2_with fail
  rw [← HW.out]
  go_loopw [8] (fun i wr => ∃ k : Nat, k ≤ l.length ∧ i = .int .i64 k ∧ d ∉ l.take k ∧ Below W1.heap.size W1 wr) (fun i _ => l.length - (intOf i).toNat)
  case atStart => exact ⟨0, Nat.zero_le _, rfl, by simp, Below.refl _ _⟩
  case round =>
    obtain ⟨k, hk, rfl, hnot, hB⟩ := hrel
    have HNOT := Lib.hid hnot
    have HB := Lib.hid hB
    clear hnot hB
    by_cases hlt : k < l.length
    · obtain ⟨b, off, rfl, hbl, e0, e1⟩ := HEL.out k hlt
      have hbl1 : b < W1.heap.size := Nat.lt_of_lt_of_le hbl HB1.out.size
      have d0 : wr.cell? ⟨w.heap.size, 0, none⟩ = some (.int .i64 d.rep) := by rw [HB.out.cell (p := ⟨w.heap.size, 0, none⟩) hgl1]; exact HD0.out.1
      have d1 : wr.cell? ⟨w.heap.size, 1, none⟩ = some (.int .i64 d.ctr) := by rw [HB.out.cell (p := ⟨w.heap.size, 1, none⟩) hgl1]; exact HD0.out.2
      have HTK : Hid (l.take (k + 1) = l.take k ++ [l[k]]) := Lib.hid (List.take_succ_eq_append_getElem hlt)
      have HMEM : Hid (l[k] ∈ l) := Lib.hid (List.getElem_mem hlt)
      have c0 : wr.cell? ⟨b, off + k * 2, none⟩ = some (.int .i64 l[k].rep) := by rw [HB.out.cell (p := ⟨_, _, _⟩) hbl1, HB1.out.cell (p := ⟨_, _, _⟩) hbl]; exact e0
      have c1 : wr.cell? ⟨b, off + k * 2 + 1, none⟩ = some (.int .i64 l[k].ctr) := by rw [HB.out.cell (p := ⟨_, _, _⟩) hbl1, HB1.out.cell (p := ⟨_, _, _⟩) hbl]; exact e1
      generalize l[k] = x at *
      have heq : ∀ wz : World, Sem.run Tryz.prog (binOp .eql 24 (.agg #[.int .i64 d.rep, .int .i64 d.ctr]) (.agg #[.int .i64 x.rep, .int .i64 x.ctr])) wz = .ok (.bool (decide (d = x))) wz := fun wz => HEQ.out d x wz
      have hgd : ∀ (op : BinOp) (a b : Operand) (wz : World), Sem.run Tryz.prog (eqGuard op 24 a b (.agg #[.int .i64 d.rep, .int .i64 d.ctr]) (.agg #[.int .i64 x.rep, .int .i64 x.ctr])) wz = .ok () wz := fun op a b wz => guardDot op a b d x wz
      have a0 : (0 : Int) ≤ k := by omega
      have a1 : (k : Int) < l.length := by omega
      have hkw : IntKind.i64.wrap ((k : Int) + 1) = (k : Int) + 1 := by rw [IntKind.wrap_i64]; omega
      clear e0 e1 HEQ HW
      by_cases hxy : d = x
      · have hd : decide (d = x) = true := decide_eq_true hxy
        rw [hd] at heq
        have HF : Hid (decide (d ∈ l) = true) := Lib.hid (decide_eq_true (hxy.symm ▸ HMEM.out))
        clear HMEM HTK HNOT hxy hd
        go_upto_region 4 with fail
        go_quiet (fail)
        go_wp2_with fail
        go_ret
        exact ⟨(k : Int), rfl, by rw [HF.out]; exact decide_eq_true (by omega), below_drewN _ (HB1.out.trans (HB.out.mono HB1.out.size))⟩
      · have hd : decide (d = x) = false := decide_eq_false hxy
        rw [hd] at heq
        have HF : Hid (d ∉ l.take (k + 1)) := Lib.hid (by rw [HTK.out, List.mem_append, List.mem_singleton]; exact fun h => h.elim HNOT.out (fun e => hxy e))
        clear HMEM HTK HNOT hxy hd
        go_upto_region 4 with fail
        go_quiet (fail)
        go_wp2_with fail
        go_roundw
        case rel => exact ⟨k + 1, by omega, by go_num, HF.out, below_drewN _ HB.out⟩
        case measure => simp [intOf]; omega
    · have hke : k = l.length := by omega
      have HF : Hid (decide (d ∈ l) = false) := Lib.hid (decide_eq_false (by have := HNOT.out; rw [hke, List.take_length] at this; exact this))
      clear HNOT
      go_wp2_with fail
      go_ret
      exact ⟨-1, rfl, by rw [HF.out]; rfl, HB1.out.trans (HB.out.mono HB1.out.size)⟩
set_option maxRecDepth 100000 in
theorem containsDot_any (l : List DotD) (d : DotD) (v : Value) (w : World) (h : Arr DotR 2 w v l) : Calls Tryz.prog 85 #[v, dotV d] w fun e w' => e = .returned (.bool (decide (d ∈ l))) ∧ Below w.heap.size w w' := by
  obtain ⟨W1, hW1⟩ : ∃ W1, W1 = w.alloc (.cells #[.int .i64 d.rep, .int .i64 d.ctr] 24) := ⟨_, rfl⟩
  have hb1 : Below w.heap.size w W1 := by rw [hW1]; exact (Below.refl _ _).alloc (Nat.le_refl _) _
  have hg1 : W1.heap[w.heap.size]? = some (.cells #[.int .i64 d.rep, .int .i64 d.ctr] 24) := by rw [hW1]; exact alloc_new _ _
  have hgl1 := lt_of_heap hg1
  have HD0 : Hid (W1.cell? ⟨w.heap.size, 0, none⟩ = some (.int .i64 d.rep) ∧ W1.cell? ⟨w.heap.size, 1, none⟩ = some (.int .i64 d.ctr)) := Lib.hid ⟨by rw [cell0 hg1 0]; rfl, by rw [cell0 hg1 1]; rfl⟩
  have HB1 := Lib.hid hb1
  have HW := Lib.hid hW1
  have HI := Lib.hid (indexDot_any l d v W1 (h.dots hb1))
  have d0 := HD0.out.1
  have d1 := HD0.out.2
  clear hg1 hb1 hW1 h
  unfold dotV at *
  go_enter Tryz.func85, Tryz.ntmps85
  go_wp2_with fail
  rw [← HW.out]
  go_wp2_with fail
  refine HI.out.mono ?_
  rintro e w2 ⟨i, rfl, hi, hb2⟩
  have HF := Lib.hid hi
  clear hi
  go_wp2_with fail
  go_ret
  exact ⟨by rw [← HF.out]; rfl, HB1.out.trans (hb2.mono HB1.out.size)⟩
set_option maxRecDepth 100000 in
theorem dotHas_any (l : List DotD) (d : DotD) (v : Value) (w : World) (h : Arr DotR 2 w v l) : Calls Tryz.prog 61 #[v, dotV d] w fun e w' => e = .returned (.bool (decide (d ∈ l))) ∧ Below w.heap.size w w' := by
  obtain ⟨W1, hW1⟩ : ∃ W1, W1 = w.alloc (.cells #[.int .i64 d.rep, .int .i64 d.ctr] 24) := ⟨_, rfl⟩
  have hb1 : Below w.heap.size w W1 := by rw [hW1]; exact (Below.refl _ _).alloc (Nat.le_refl _) _
  have hg1 : W1.heap[w.heap.size]? = some (.cells #[.int .i64 d.rep, .int .i64 d.ctr] 24) := by rw [hW1]; exact alloc_new _ _
  have hgl1 := lt_of_heap hg1
  have HD0 : Hid (W1.cell? ⟨w.heap.size, 0, none⟩ = some (.int .i64 d.rep) ∧ W1.cell? ⟨w.heap.size, 1, none⟩ = some (.int .i64 d.ctr)) := Lib.hid ⟨by rw [cell0 hg1 0]; rfl, by rw [cell0 hg1 1]; rfl⟩
  have HB1 := Lib.hid hb1
  have HW := Lib.hid hW1
  have HI := Lib.hid (containsDot_any l d v W1 (h.dots hb1))
  have d0 := HD0.out.1
  have d1 := HD0.out.2
  clear hg1 hb1 hW1 h
  unfold dotV at *
  go_enter Tryz.func61, Tryz.ntmps61
  go_wp2_with fail
  rw [← HW.out]
  go_wp2_with fail
  refine HI.out.mono ?_
  rintro e w2 ⟨rfl, hb2⟩
  go_wp2_with fail
  go_ret
  exact ⟨rfl, HB1.out.trans (hb2.mono HB1.out.size)⟩
end Go.Proofs.YtjlhdgmcaiiagaaGreatDoor

