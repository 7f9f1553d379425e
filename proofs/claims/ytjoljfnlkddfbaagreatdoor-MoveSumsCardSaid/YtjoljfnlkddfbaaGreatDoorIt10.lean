/- The order of items by name: plain; slices.SortFunc at items. -/
import Derived.Test.YtjoljfnlkddfbaaGreatDoorDot2
import Derived.Test.YtjoljfnlkddfbaaGreatDoorIt6
import Derived.Test.YtjoljfnlkddfbaaGreatDoorCanonP
import Derived.Test.YtjoljfnlkddfbaaGreatDoorIt2
set_option linter.unusedSimpArgs false
set_option linter.unusedVariables false
set_option maxRecDepth 100000
set_option maxHeartbeats 8000000
namespace Go.Proofs.YtjoljfnlkddfbaaGreatDoor
open Go.RowKit Go.Maps

theorem qtyGreatest_any (m0 : MarkD) (l : List MarkD) (v : Value) (w : World) (h : Arr MarkR 4 w v (m0 :: l)) : Calls Tryz.prog 130 #[v, .func (.func 131) #[] #[]] w fun e w' => e = .returned (markV (greatM m0 (m0 :: l))) ∧ Below w.heap.size w w' := by
 have eg : ∀ args w, (callFunc 131 args).run Tryz.prog w = .ok (.enter 131 args) w := enters_of Tryz.func131 (by kernel_rfl) rfl
 have hn := h.len
 obtain ⟨o, c, rfl, hel⟩ := h.markAt
 have HEL := Hd hel
 obtain ⟨b, off, rfl, hbl, e0, e1, e2, e3, -⟩ := hel 0 (by simp)
 have hlz : (m0 :: l)[0] = m0 := rfl
 rw [hlz] at e0 e1 e2 e3
 simp only [Nat.zero_mul, Nat.add_zero] at e0 e1 e2 e3
 have HC := Hd (fun a b wz => qtyCompare_any a b wz)
 have hpos : (0 : Int) < ((m0 :: l).length : Int) := by rw [List.length_cons]; omega
 have HG0 : Hid (greatM m0 ((m0 :: l).take 0) = m0) := Hd rfl
 obtain ⟨W1, hW1⟩ : ∃ W1, W1 = ((w.alloc (.cells #[.int .i64 0, .int .i64 0, .int .i64 0, .int .u64 0] 85)).alloc (.cells #[.int .i64 m0.dot.rep, .int .i64 m0.dot.ctr, .int .i64 m0.qty, .int .u64 m0.time] 85)) := ⟨_, rfl⟩
 have hb1 : Below w.heap.size w W1 := by rw [hW1]; exact (bal).alloc (by simp) _
 have hg0 : W1.heap[w.heap.size]? = some (.cells #[.int .i64 0, .int .i64 0, .int .i64 0, .int .u64 0] 85) := by rw [hW1, alloc_old _ _ (by simp)]; exact alloc_new _ _
 have hg1 : W1.heap[w.heap.size + 1]? = some (.cells #[.int .i64 m0.dot.rep, .int .i64 m0.dot.ctr, .int .i64 m0.qty, .int .u64 m0.time] 85) := by
  rw [hW1]
  have := alloc_new (w.alloc (.cells #[.int .i64 0, .int .i64 0, .int .i64 0, .int .u64 0] 85)) (.cells #[.int .i64 m0.dot.rep, .int .i64 m0.dot.ctr, .int .i64 m0.qty, .int .u64 m0.time] 85)
  simpa only [alloc_size] using this
 have HW := Hd hW1
 have HB1 := Hd hb1
 have HGA := Hd (And.intro hg0 hg1)
 clear hW1 hb1 hg0 hg1 h hlz hel
 unfold markV at *
 generalize hL : m0 :: l = L at *
 clear hL
 go_enter Tryz.func130, Tryz.ntmps130
 go_wp2_with fail
 rw [← HW.out]
 go_loopw [13] (fun i wr => ∃ k : Nat, k ≤ L.length ∧ i = .int .i64 k ∧ wr.heap[w.heap.size]? = some (.cells #[.int .i64 0, .int .i64 0, .int .i64 0, .int .u64 0] 85) ∧ wr.heap[w.heap.size + 1]? = some (.cells #[.int .i64 (greatM m0 (L.take k)).dot.rep, .int .i64 (greatM m0 (L.take k)).dot.ctr, .int .i64 (greatM m0 (L.take k)).qty, .int .u64 (greatM m0 (L.take k)).time] 85) ∧ Below w.heap.size w wr) (fun i _ => L.length - (intOf i).toNat)
 case atStart => exact ⟨0, Nat.zero_le _, rfl, HGA.out.1, by rw [HG0.out]; exact HGA.out.2, HB1.out⟩
 case round =>
  obtain ⟨k, hk, rfl, hz, hg, hB⟩ := hrel
  have HB := Hd hB
  have HZ := Hd hz
  have HG := Hd hg
  have hgl := lt_of_heap hg
  clear hB
  by_cases hlt : k < L.length
  ·obtain ⟨b', off', he, hbl', x0, x1, x2, x3, -⟩ := HEL.out k hlt
   cases he
   have c0 : wr.cell? ⟨b, off + k * 4, none⟩ = some (.int .i64 L[k].dot.rep) := by rw [HB.out.cell (p := ⟨_, _, _⟩) hbl]; exact x0
   have c1 : wr.cell? ⟨b, off + k * 4 + 1, none⟩ = some (.int .i64 L[k].dot.ctr) := by rw [HB.out.cell (p := ⟨_, _, _⟩) hbl]; exact x1
   have c2 : wr.cell? ⟨b, off + k * 4 + 2, none⟩ = some (.int .i64 L[k].qty) := by rw [HB.out.cell (p := ⟨_, _, _⟩) hbl]; exact x2
   have c3 : wr.cell? ⟨b, off + k * 4 + 3, none⟩ = some (.int .u64 L[k].time) := by rw [HB.out.cell (p := ⟨_, _, _⟩) hbl]; exact x3
   have d0 : wr.cell? ⟨w.heap.size + 1, 0, none⟩ = some (.int .i64 (greatM m0 (L.take k)).dot.rep) := cl0 hg 0 rfl
   have d1 : wr.cell? ⟨w.heap.size + 1, 1, none⟩ = some (.int .i64 (greatM m0 (L.take k)).dot.ctr) := cl0 hg 1 rfl
   have d2 : wr.cell? ⟨w.heap.size + 1, 2, none⟩ = some (.int .i64 (greatM m0 (L.take k)).qty) := cl0 hg 2 rfl
   have d3 : wr.cell? ⟨w.heap.size + 1, 3, none⟩ = some (.int .u64 (greatM m0 (L.take k)).time) := cl0 hg 3 rfl
   have HT := Hd (greatM_take m0 L k hlt)
   generalize greatM m0 (L.take k) = a at *
   generalize L[k] = x at *
   have HCX := Hd (HC.out x a)
   have hb2 : Below wr.heap.size wr (wr.alloc (.cells #[.int .i64 x.dot.rep, .int .i64 x.dot.ctr, .int .i64 x.qty, .int .u64 x.time] 85)) := bal
   have HA2 := Hd hb2
   have hn2 : (wr.alloc (.cells #[.int .i64 x.dot.rep, .int .i64 x.dot.ctr, .int .i64 x.qty, .int .u64 x.time] 85)).heap[wr.heap.size]? = some (.cells #[.int .i64 x.dot.rep, .int .i64 x.dot.ctr, .int .i64 x.qty, .int .u64 x.time] 85) := alloc_new _ _
   have HN2 := Hd hn2
   have a0 : (0 : Int) ≤ k := by omega
   have a1 : (k : Int) < L.length := by omega
   have hkw := wr1 k (by omega)
   clear x0 x1 x2 x3 hz hg hb2 hn2 HC
   obtain ⟨r, hr⟩ : ∃ r, r = mcmp x a := ⟨_, rfl⟩
   have HBT : Hid (better a x = if 0 < r then x else a) := Hd (by unfold better; rw [hr])
   rw [← hr] at HCX
   clear hr
   by_cases hr : 0 < r
   ·have t1 : decide (0 < r) = true := decide_eq_true hr
    have HF := Hd (HT.out.trans (HBT.out.trans (if_pos hr)))
    clear hr HT HBT
    go_wp2_with (go_at_fn 131; refine (HCX.out _).mono ?_; rintro e w2 ⟨rfl, hb3⟩; have hb4 := btr HA2.out hb3; have hx2 : w2.heap[wr.heap.size]? = some (.cells #[.int .i64 x.dot.rep, .int .i64 x.dot.ctr, .int .i64 x.qty, .int .u64 x.time] 85) := (by rw [hb3.block _ (by simp)]; exact HN2.out); have hg2 : w2.heap[w.heap.size + 1]? = some (.cells #[.int .i64 a.dot.rep, .int .i64 a.dot.ctr, .int .i64 a.qty, .int .u64 a.time] 85) := (by rw [hb4.block _ hgl]; exact HG.out); have p0 : w2.cell? ⟨wr.heap.size, 0, none⟩ = some (.int .i64 x.dot.rep) := (cl0 hx2 0 rfl); have p1 : w2.cell? ⟨wr.heap.size, 1, none⟩ = some (.int .i64 x.dot.ctr) := (cl0 hx2 1 rfl); have p2 : w2.cell? ⟨wr.heap.size, 2, none⟩ = some (.int .i64 x.qty) := (cl0 hx2 2 rfl); have p3 : w2.cell? ⟨wr.heap.size, 3, none⟩ = some (.int .u64 x.time) := (cl0 hx2 3 rfl); have q0 : w2.cell? ⟨w.heap.size + 1, 0, none⟩ = some (.int .i64 a.dot.rep) := (cl0 hg2 0 rfl); have f0 : w2.frozen? ⟨w.heap.size + 1, 0, none⟩ = false := froz0 hg2 0; have q1 : w2.cell? ⟨w.heap.size + 1, 1, none⟩ = some (.int .i64 a.dot.ctr) := (cl0 hg2 1 rfl); have f1 : w2.frozen? ⟨w.heap.size + 1, 1, none⟩ = false := froz0 hg2 1; have q2 : w2.cell? ⟨w.heap.size + 1, 2, none⟩ = some (.int .i64 a.qty) := (cl0 hg2 2 rfl); have f2 : w2.frozen? ⟨w.heap.size + 1, 2, none⟩ = false := froz0 hg2 2; have q3 : w2.cell? ⟨w.heap.size + 1, 3, none⟩ = some (.int .u64 a.time) := (cl0 hg2 3 rfl); have f3 : w2.frozen? ⟨w.heap.size + 1, 3, none⟩ = false := froz0 hg2 3)
    have hz2 : w2.heap[w.heap.size]? = some (.cells #[.int .i64 0, .int .i64 0, .int .i64 0, .int .u64 0] 85) := by rw [hb4.block _ (Nat.lt_trans (Nat.lt_succ_self _) hgl)]; exact HZ.out
    have hbf := btr HB.out hb4
    go_roundw
    case rel => exact ⟨k + 1, by omega, by go_num, by simp only [setCell_other (show w.heap.size ≠ w.heap.size + 1 by omega)]; exact hz2, by rw [HF.out]; exact setCell_same (setCell_same (setCell_same (setCell_same hg2 _ _) _ _) _ _) _ _, (((hbf.setCell (Nat.le_succ _) _).setCell (Nat.le_succ _) _).setCell (Nat.le_succ _) _).setCell (Nat.le_succ _) _⟩
    case measure => simp [intOf]; omega
   ·have t1 : decide (0 < r) = false := decide_eq_false hr
    have HF := Hd (HT.out.trans (HBT.out.trans (if_neg hr)))
    clear hr HT HBT
    go_wp2_with (go_at_fn 131; refine (HCX.out _).mono ?_; rintro e w2 ⟨rfl, hb3⟩; have hb4 := btr HA2.out hb3)
    have hg2 : w2.heap[w.heap.size + 1]? = some (.cells #[.int .i64 a.dot.rep, .int .i64 a.dot.ctr, .int .i64 a.qty, .int .u64 a.time] 85) := by rw [hb4.block _ hgl]; exact HG.out
    have hz2 : w2.heap[w.heap.size]? = some (.cells #[.int .i64 0, .int .i64 0, .int .i64 0, .int .u64 0] 85) := by rw [hb4.block _ (Nat.lt_trans (Nat.lt_succ_self _) hgl)]; exact HZ.out
    have hbf := btr HB.out hb4
    go_roundw
    case rel => exact ⟨k + 1, by omega, by go_num, hz2, by rw [HF.out]; exact hg2, hbf⟩
    case measure => simp [intOf]; omega
  ·have hke : k = L.length := by omega
   rw [hke, List.take_length] at hg
   clear HG
   have d0 : wr.cell? ⟨w.heap.size + 1, 0, none⟩ = some (.int .i64 (greatM m0 L).dot.rep) := cl0 hg 0 rfl
   have d1 : wr.cell? ⟨w.heap.size + 1, 1, none⟩ = some (.int .i64 (greatM m0 L).dot.ctr) := cl0 hg 1 rfl
   have d2 : wr.cell? ⟨w.heap.size + 1, 2, none⟩ = some (.int .i64 (greatM m0 L).qty) := cl0 hg 2 rfl
   have d3 : wr.cell? ⟨w.heap.size + 1, 3, none⟩ = some (.int .u64 (greatM m0 L).time) := cl0 hg 3 rfl
   have z0 : wr.cell? ⟨w.heap.size, 0, none⟩ = some (.int .i64 0) := cl0 hz 0 rfl
   have f0 : wr.frozen? ⟨w.heap.size, 0, none⟩ = false := froz0 hz 0
   have z1 : wr.cell? ⟨w.heap.size, 1, none⟩ = some (.int .i64 0) := cl0 hz 1 rfl
   have f1 : wr.frozen? ⟨w.heap.size, 1, none⟩ = false := froz0 hz 1
   have z2 : wr.cell? ⟨w.heap.size, 2, none⟩ = some (.int .i64 0) := cl0 hz 2 rfl
   have f2 : wr.frozen? ⟨w.heap.size, 2, none⟩ = false := froz0 hz 2
   have z3 : wr.cell? ⟨w.heap.size, 3, none⟩ = some (.int .u64 0) := cl0 hz 3 rfl
   have f3 : wr.frozen? ⟨w.heap.size, 3, none⟩ = false := froz0 hz 3
   clear hz hg
   go_wp2_with fail
   (try simp only [Exit.inBlock, Exit.then])
   refine bodyPost_ret (v := .agg #[.int .i64 (greatM m0 L).dot.rep, .int .i64 (greatM m0 L).dot.ctr, .int .i64 (greatM m0 L).qty, .int .u64 (greatM m0 L).time]) ?_ rfl ⟨rfl, (((HB.out.setCell (Nat.le_refl _) _).setCell (Nat.le_refl _) _).setCell (Nat.le_refl _) _).setCell (Nat.le_refl _) _⟩
   rw [results_cell_one rfl]
   go_simp
theorem qtyInvalid_any (m : MarkD) (w : World) : Calls Tryz.prog 129 #[markV m] w fun e w' => e = .returned (.bool (!validMarkD m)) ∧ Below w.heap.size w w' := by
 have HV := Hd (fun wz => qtyValidMark_any m wz)
 obtain ⟨r, hr⟩ : ∃ r, r = validMarkD m := ⟨_, rfl⟩
 rw [← hr] at HV ⊢
 clear hr
 unfold markV at *
 go_enter Tryz.func129, Tryz.ntmps129
 go_wp2_with fail
 refine (HV.out _).mono ?_
 rintro e w1 ⟨rfl, hb1⟩
 go_wp2_with fail
 go_ret
 exact ⟨rfl, (bal).trans (hb1.mono (by simp))⟩
theorem qtyNewest_any (l : List MarkD) (v : Value) (w : World) (h : Arr MarkR 4 w v l) : Calls Tryz.prog 89 #[v] w fun e w' => e = .returned (.tuple #[markV (newestV l), .int .i64 (newestE l)]) ∧ Below w.heap.size w w' := by
 have eg : ∀ args w, (callFunc 129 args).run Tryz.prog w = .ok (.enter 129 args) w := enters_of Tryz.func129 (by kernel_rfl) rfl
 have hn := h.len
 obtain ⟨W1, hW1⟩ : ∃ W1, W1 = w.alloc (.cells #[.int .i64 0, .int .i64 0, .int .i64 0, .int .u64 0] 85) := ⟨_, rfl⟩
 have hb1 : Below w.heap.size w W1 := by rw [hW1]; exact bal
 have hg1 : W1.heap[w.heap.size]? = some (.cells #[.int .i64 0, .int .i64 0, .int .i64 0, .int .u64 0] 85) := by rw [hW1]; exact alloc_new _ _
 have hgl1 := lt_of_heap hg1
 have HI := Hd (containsMark_any (fun m => !validMarkD m) 129 eg qtyInvalid_any l v W1 (h.marks hb1))
 have HALL : Hid (l.any (fun m => !validMarkD m) = !(l.all validMarkD)) := Hd (by rw [List.not_all_eq_any_not])
 have HA := Hd h
 have HG1 := Hd hg1
 have HB1 := Hd hb1
 have HW := Hd hW1
 obtain ⟨o, c, rfl, -⟩ := id h
 rw [HALL.out] at HI
 clear hg1 hb1 hW1 h HALL
 have HV : Hid (newestV l = if l.all validMarkD then newestM l else ⟨⟨0, 0⟩, 0, 0⟩) := Hd rfl
 have HE : Hid (newestE l = if l.all validMarkD then (if l = [] then 9 else 0) else 2) := Hd rfl
 obtain ⟨r, hr⟩ : ∃ r, r = l.all validMarkD := ⟨_, rfl⟩
 rw [← hr] at HI HV HE
 clear hr
 unfold markV at *
 generalize newestV l = nv at *
 generalize newestE l = ne at *
 go_enter Tryz.func89, Tryz.ntmps89
 go_wp2_with fail
 rw [← HW.out]
 refine HI.out.mono ?_
 rintro e w2 ⟨rfl, hb2⟩
 have hg2 : w2.heap[w.heap.size]? = some (.cells #[.int .i64 0, .int .i64 0, .int .i64 0, .int .u64 0] 85) := by rw [hb2.block _ hgl1]; exact HG1.out
 have z0 : w2.cell? ⟨w.heap.size, 0, none⟩ = some (.int .i64 0) := cl0 hg2 0 rfl
 have f0 : w2.frozen? ⟨w.heap.size, 0, none⟩ = false := froz0 hg2 0
 have z1 : w2.cell? ⟨w.heap.size, 1, none⟩ = some (.int .i64 0) := cl0 hg2 1 rfl
 have f1 : w2.frozen? ⟨w.heap.size, 1, none⟩ = false := froz0 hg2 1
 have z2 : w2.cell? ⟨w.heap.size, 2, none⟩ = some (.int .i64 0) := cl0 hg2 2 rfl
 have f2 : w2.frozen? ⟨w.heap.size, 2, none⟩ = false := froz0 hg2 2
 have z3 : w2.cell? ⟨w.heap.size, 3, none⟩ = some (.int .u64 0) := cl0 hg2 3 rfl
 have f3 : w2.frozen? ⟨w.heap.size, 3, none⟩ = false := froz0 hg2 3
 have hgl2 : w.heap.size < w2.heap.size := lt_of_heap hg2
 have HB2 := Hd (btr HB1.out hb2)
 have HG2 := Hd hg2
 clear hg2 hb2 HI HG1
 cases r with
 | false =>
  have h1 : nv = ⟨⟨0, 0⟩, 0, 0⟩ := HV.out
  have h2 : ne = 2 := HE.out
  subst h1 h2
  clear HV HE
  go_wp2_with fail
  (try simp only [Exit.inBlock, Exit.then])
  refine bodyPost_ret (v := .tuple #[.agg #[.int .i64 0, .int .i64 0, .int .i64 0, .int .u64 0], .int .i64 2]) ?_ rfl ⟨rfl, (((HB2.out.setCell (Nat.le_refl _) _).setCell (Nat.le_refl _) _).setCell (Nat.le_refl _) _).setCell (Nat.le_refl _) _⟩
  rw [results_cell_tmp rfl]
  go_simp
 | true =>
  cases l with
  | nil =>
   have h1 : nv = ⟨⟨0, 0⟩, 0, 0⟩ := HV.out
   have h2 : ne = 9 := HE.out
   subst h1 h2
   clear HV HE
   simp only [List.length_nil]
   go_wp2_with fail
   (try simp only [Exit.inBlock, Exit.then])
   refine bodyPost_ret (v := .tuple #[.agg #[.int .i64 0, .int .i64 0, .int .i64 0, .int .u64 0], .int .i64 9]) ?_ rfl ⟨rfl, (((HB2.out.setCell (Nat.le_refl _) _).setCell (Nat.le_refl _) _).setCell (Nat.le_refl _) _).setCell (Nat.le_refl _) _⟩
   rw [results_cell_tmp rfl]
   go_simp
  | cons m0 l =>
   have h1 : nv = greatM m0 (m0 :: l) := HV.out
   have h2 : ne = 0 := HE.out
   have HGR := Hd (qtyGreatest_any m0 l _ w2 (HA.out.marks HB2.out))
   rw [← h1] at HGR
   subst h2
   have t0 : (((m0 :: l).length : Int) == 0) = false := by rw [List.length_cons]; simp; omega
   unfold markV at HGR
   clear HV HE h1 z0 z1 z2 z3 f0 f1 f2 f3
   generalize hL : m0 :: l = L at *
   clear hL
   go_wp2_with fail
   refine HGR.out.mono ?_
   rintro e w3 ⟨rfl, hb3⟩
   have hg3 : w3.heap[w.heap.size]? = some (.cells #[.int .i64 0, .int .i64 0, .int .i64 0, .int .u64 0] 85) := by rw [hb3.block _ hgl2]; exact HG2.out
   have z0 : w3.cell? ⟨w.heap.size, 0, none⟩ = some (.int .i64 0) := cl0 hg3 0 rfl
   have f0 : w3.frozen? ⟨w.heap.size, 0, none⟩ = false := froz0 hg3 0
   have z1 : w3.cell? ⟨w.heap.size, 1, none⟩ = some (.int .i64 0) := cl0 hg3 1 rfl
   have f1 : w3.frozen? ⟨w.heap.size, 1, none⟩ = false := froz0 hg3 1
   have z2 : w3.cell? ⟨w.heap.size, 2, none⟩ = some (.int .i64 0) := cl0 hg3 2 rfl
   have f2 : w3.frozen? ⟨w.heap.size, 2, none⟩ = false := froz0 hg3 2
   have z3 : w3.cell? ⟨w.heap.size, 3, none⟩ = some (.int .u64 0) := cl0 hg3 3 rfl
   have f3 : w3.frozen? ⟨w.heap.size, 3, none⟩ = false := froz0 hg3 3
   have HB3 := Hd (btr HB2.out hb3)
   clear hb3 hg3
   go_wp2_with fail
   (try simp only [Exit.inBlock, Exit.then])
   refine bodyPost_ret (v := .tuple #[.agg #[.int .i64 nv.dot.rep, .int .i64 nv.dot.ctr, .int .i64 nv.qty, .int .u64 nv.time], .int .i64 0]) ?_ rfl ⟨rfl, (((HB3.out.setCell (Nat.le_refl _) _).setCell (Nat.le_refl _) _).setCell (Nat.le_refl _) _).setCell (Nat.le_refl _) _⟩
   rw [results_cell_tmp rfl]
   go_simp
end Go.Proofs.YtjoljfnlkddfbaaGreatDoor
namespace Go.Proofs.YtjoljfnlkddfbaaGreatDoor
open Go.RowKit Go.Maps

theorem itemsQty_any (x : ItemD) (mv : Value) (w : World) (h : Arr MarkR 4 w mv x.marks) (hs : x.name.size ≤ maxLen) (hl : x.marks.length ≤ 100000) (hG : GlobIs w) : Calls Tryz.prog 54 #[.agg #[.string x.name, mv]] w fun e w' => e = .returned (.tuple #[.int .i64 (qtyI x), .int .i64 (qtyIE x)]) ∧ Below w.heap.size w w' := by
 obtain ⟨o, c, rfl, -⟩ := id h
 obtain ⟨W1, hW1⟩ : ∃ W1, W1 = w.alloc (.cells #[.string x.name, .slice o x.marks.length c] 55) := ⟨_, rfl⟩
 have hb1 : Below w.heap.size w W1 := by rw [hW1]; exact bal
 have hg1 : W1.heap[w.heap.size]? = some (.cells #[.string x.name, .slice o x.marks.length c] 55) := by rw [hW1]; exact alloc_new _ _
 have hgl1 := lt_of_heap hg1
 have HI := Hd (itemsInvalid_any x _ W1 (h.marks hb1) hs hl (hG.below hb1))
 have HA := Hd h
 have HG1 := Hd hg1
 have HB1 := Hd hb1
 have HW := Hd hW1
 have HQ : Hid (qtyI x = if oneI x then (newestM x.marks).qty else 0) := Hd rfl
 have HE : Hid (qtyIE x = if oneI x then 0 else 2) := Hd rfl
 have HONE : Hid (oneI x = true → newestV x.marks = newestM x.marks ∧ newestE x.marks = 0) := Hd (fun h => by
  unfold oneI at h
  simp only [Bool.and_eq_true, decide_eq_true_eq] at h
  unfold newestV newestE
  rw [if_pos h.2, if_pos h.2, if_neg (by intro e; have := h.1.1.2; rw [e] at this; simp at this)]
  exact ⟨rfl, rfl⟩)
 clear hg1 hb1 hW1 h hs hG
 obtain ⟨r, hr⟩ : ∃ r, r = oneI x := ⟨_, rfl⟩
 rw [← hr] at HI HQ HE HONE
 clear hr
 generalize qtyI x = q at *
 generalize qtyIE x = qe at *
 go_enter Tryz.func54, Tryz.ntmps54
 go_wp2_with fail
 rw [← HW.out]
 refine HI.out.mono ?_
 rintro e w2 ⟨rfl, hb2⟩
 have hg2 : w2.heap[w.heap.size]? = some (.cells #[.string x.name, .slice o x.marks.length c] 55) := by rw [hb2.block _ hgl1]; exact HG1.out
 have c1 : w2.cell? ⟨w.heap.size, 1, none⟩ = some (.slice o x.marks.length c) := cl0 hg2 1 rfl
 have HB2 := Hd (btr HB1.out hb2)
 have HN := Hd (qtyNewest_any x.marks _ w2 (HA.out.marks HB2.out))
 clear hb2 hg2 HI HG1
 cases r with
 | false =>
  have h1 : q = 0 := HQ.out
  have h2 : qe = 2 := HE.out
  subst h1 h2
  clear HQ HE HONE
  go_wp2_with fail
  go_ret2
  exact ⟨rfl, HB2.out⟩
 | true =>
  have h1 : q = (newestM x.marks).qty := HQ.out
  have h2 : qe = 0 := HE.out
  obtain ⟨e1, e2⟩ := HONE.out rfl
  rw [e1, e2] at HN
  have HF := Hd h1
  subst h2
  clear HQ HE HONE h1 e1 e2
  unfold markV at HN
  generalize newestM x.marks = nm at *
  go_wp2_with fail
  refine HN.out.mono ?_
  rintro e w3 ⟨rfl, hb3⟩
  have HB3 := Hd (btr HB2.out hb3)
  go_wp2_with fail
  go_ret2
  exact ⟨by rw [HF.out]; rfl, HB3.out.alloc HB3.out.size _⟩

end Go.Proofs.YtjoljfnlkddfbaaGreatDoor
namespace Go.Proofs.YtjoljfnlkddfbaaGreatDoor
open Go.RowKit Go.Maps

/-- A part of a fresh list of items, in its block. -/
theorem FreshI.part {base : Nat} {w w4 : World} {g c n : Nat} {ps qs : List ItW} (h : FreshI base w (.slice (some ⟨g, 0, none⟩) n c) ps) (hm : ∀ q ∈ qs, q ∈ ps) (hpw : qs.Pairwise (fun a b => Apart a.v b.v)) (hin : EItem.In w4 g c qs) (hst : ∀ b, b < w.heap.size → b ≠ g → w4.heap[b]? = w.heap[b]?) : FreshI base w4 (.slice (some ⟨g, 0, none⟩) qs.length c) qs := by
 obtain ⟨h1, h2, h3⟩ := h
 obtain ⟨-, hgb, -⟩ := h1.at
 refine ⟨hin.own hgb, fun p hp => ?_, hpw⟩
 obtain ⟨a1, a2⟩ := h2 p (hm p hp)
 refine ⟨a1.stay (fun k hk => hst k (a1.2.1.lt k hk).2 (fun e => ?_)), fun k hk hk2 => a2 k hk hk2⟩
 subst e
 exact a2 k rfl hk
end Go.Proofs.YtjoljfnlkddfbaaGreatDoor
namespace Go.Proofs.YtjoljfnlkddfbaaGreatDoor
open Go.RowKit Go.Maps Go.Sort Go.Shelf

def scmp (a b : ByteArray) : Int := if ltK a b then -1 else if ltK b a then 1 else 0
theorem isNaNStr_any (x : ByteArray) (w : World) : Calls Tryz.prog 92 #[.string x] w fun e w' => e = .returned (.bool false) ∧ w' = w := by
 go_enter Tryz.func92, Tryz.ntmps92
 go_wp2
 go_ret
 exact ⟨rfl, rfl⟩
theorem cmpStr_any (x y : ByteArray) (w : World) : Calls Tryz.prog 57 #[.string x, .string y] w fun e w' => e = .returned (.int .i64 (scmp x y)) ∧ w' = w := by
 have HN := Hd (fun z wz => isNaNStr_any z wz)
 have hl1 := less_ltK x y
 have hl2 := less_ltK y x
 by_cases h1 : ltK x y
 ·have hc : Hid (scmp x y = -1) := Hd (by unfold scmp; rw [if_pos h1])
  rw [decide_eq_true h1] at hl1
  clear h1 hl2
  go_enter Tryz.func57, Tryz.ntmps57
  go_wp2_with fail
  refine (HN.out _ _).mono ?_
  rintro e w1 ⟨rfl, rfl⟩
  go_wp2_with fail
  refine (HN.out _ _).mono ?_
  rintro e w2 ⟨rfl, rfl⟩
  go_wp2_with fail
  go_ret
  exact ⟨by rw [hc.out]; rfl, rfl⟩
 ·rw [decide_eq_false h1] at hl1
  by_cases h2 : ltK y x
  ·have hc : Hid (scmp x y = 1) := Hd (by unfold scmp; rw [if_neg h1, if_pos h2])
   rw [decide_eq_true h2] at hl2
   have heq : (x.toList == y.toList) = false := by rw [strDec]; exact decide_eq_false (fun e => by rw [e] at h2; exact ltK_irrefl _ h2)
   clear h1 h2
   go_enter Tryz.func57, Tryz.ntmps57
   go_wp2_with fail
   refine (HN.out _ _).mono ?_
   rintro e w1 ⟨rfl, rfl⟩
   go_wp2_with fail
   refine (HN.out _ _).mono ?_
   rintro e w2 ⟨rfl, rfl⟩
   go_wp2_with fail
   go_ret
   exact ⟨by rw [hc.out]; rfl, rfl⟩
  ·have hc : Hid (scmp x y = 0) := Hd (by unfold scmp; rw [if_neg h1, if_neg h2])
   rw [decide_eq_false h2] at hl2
   have heq : (x.toList == y.toList) = true := by rw [strDec]; exact decide_eq_true (ltK_total h1 h2)
   clear h1 h2
   go_enter Tryz.func57, Tryz.ntmps57
   go_wp2_with fail
   refine (HN.out _ _).mono ?_
   rintro e w1 ⟨rfl, rfl⟩
   go_wp2_with fail
   refine (HN.out _ _).mono ?_
   rintro e w2 ⟨rfl, rfl⟩
   go_wp2_with fail
   go_ret
   exact ⟨by rw [hc.out]; rfl, rfl⟩
theorem heap_sorted_ot {w : World} {g : Nat} {α : Type} [Inhabited α] (enc : α → List Value) (k n off : Nat) (d : Array α) (os : Array Obj) (b : Nat) (hb : b < w.heap.size) (hg : b ≠ g) : (sortWorldK enc k w g off n d os).heap[b]? = w.heap[b]? := by
 have hh : (sortWorldK enc k w g off n d os).heap = (w.heap.modify g (onCells (putCells id off (flatK enc k d)))) ++ os := rfl
 rw [hh, Array.getElem?_append_left (by simpa using hb), Array.getElem?_modify, if_neg (fun e => hg e.symm)]
end Go.Proofs.YtjoljfnlkddfbaaGreatDoor
