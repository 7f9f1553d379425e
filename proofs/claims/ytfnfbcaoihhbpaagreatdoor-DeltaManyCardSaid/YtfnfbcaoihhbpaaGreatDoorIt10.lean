/- The order of items by name: plain; slices.SortFunc at items. -/
import Derived.Test.YtfnfbcaoihhbpaaGreatDoorDot2
import Derived.Test.YtfnfbcaoihhbpaaGreatDoorIt6
import Derived.Test.YtfnfbcaoihhbpaaGreatDoorCanonP
import Derived.Test.YtfnfbcaoihhbpaaGreatDoorIt2
set_option linter.unusedSimpArgs false
set_option linter.unusedVariables false
set_option maxRecDepth 100000
set_option maxHeartbeats 8000000
namespace Go.Proofs.YtfnfbcaoihhbpaaGreatDoor
open Go.RowKit Go.Maps

theorem qtyGreatest_any (m0 : MarkD) (l : List MarkD) (v : Value) (w : World) (h : Arr MarkR 4 w v (m0 :: l)) : Calls Tryz.prog 190 #[v, .func (.func 185) #[] #[]] w fun e w' => e = .returned (markV (greatM m0 (m0 :: l))) ∧ Below w.heap.size w w' := by
 have eg : ∀ args w, (callFunc 185 args).run Tryz.prog w = .ok (.enter 185 args) w := enters_of Tryz.func185 (by kernel_rfl) rfl
 have hn := h.len
 obtain ⟨o, c, rfl, hel⟩ := h.markAt
 have HEL := Hd hel
 obtain ⟨b, off, rfl, hbl, e0, e1, e2, e3, -⟩ := hel 0 (by simp)
 have hlz : (m0 :: l)[0] = m0 := rfl
 rw [hlz] at e0 e1 e2 e3
 simp only [Nat.zero_mul, Nat.add_zero] at e0 e1 e2 e3
 have HC := Hd (fun a b wz => qtyCompare_any a b wz)
 have hpos : (0 : Int) < ((m0 :: l).length : Int) := by rw [List.length_cons]; omega
 have HG0 : Hid (greatM m0 ((m0 :: l).take 0) = m0) := Hd rfl
 obtain ⟨W1, hW1⟩ : ∃ W1, W1 = ((w.alloc (.cells #[.int .i64 0, .int .i64 0, .int .i64 0, .int .u64 0] 55)).alloc (.cells #[.int .i64 m0.dot.rep, .int .i64 m0.dot.ctr, .int .i64 m0.qty, .int .u64 m0.time] 55)) := ⟨_, rfl⟩
 have hb1 : Below w.heap.size w W1 := by rw [hW1]; exact (bal).alloc (by simp) _
 have hg0 : W1.heap[w.heap.size]? = some (.cells #[.int .i64 0, .int .i64 0, .int .i64 0, .int .u64 0] 55) := by rw [hW1, alloc_old _ _ (by simp)]; exact alloc_new _ _
 have hg1 : W1.heap[w.heap.size + 1]? = some (.cells #[.int .i64 m0.dot.rep, .int .i64 m0.dot.ctr, .int .i64 m0.qty, .int .u64 m0.time] 55) := by
  rw [hW1]
  have := alloc_new (w.alloc (.cells #[.int .i64 0, .int .i64 0, .int .i64 0, .int .u64 0] 55)) (.cells #[.int .i64 m0.dot.rep, .int .i64 m0.dot.ctr, .int .i64 m0.qty, .int .u64 m0.time] 55)
  simpa only [alloc_size] using this
 have HW := Hd hW1
 have HB1 := Hd hb1
 have HGA := Hd (And.intro hg0 hg1)
 clear hW1 hb1 hg0 hg1 h hlz hel
 unfold markV at *
 generalize hL : m0 :: l = L at *
 clear hL
 go_enter Tryz.func190, Tryz.ntmps190
 go_wp2_with fail
 rw [← HW.out]
 go_loopw [13] (fun i wr => ∃ k : Nat, k ≤ L.length ∧ i = .int .i64 k ∧ wr.heap[w.heap.size]? = some (.cells #[.int .i64 0, .int .i64 0, .int .i64 0, .int .u64 0] 55) ∧ wr.heap[w.heap.size + 1]? = some (.cells #[.int .i64 (greatM m0 (L.take k)).dot.rep, .int .i64 (greatM m0 (L.take k)).dot.ctr, .int .i64 (greatM m0 (L.take k)).qty, .int .u64 (greatM m0 (L.take k)).time] 55) ∧ Below w.heap.size w wr) (fun i _ => L.length - (intOf i).toNat)
 case atStart => exact ⟨0, Nat.zero_le _, rfl, HGA.out.1, by rw [HG0.out]; exact HGA.out.2, HB1.out⟩
 case round =>
  obtain ⟨k, hk, rfl, hz, hg, hB⟩ := hrel
  have HB := Hd hB
  have HZ := Hd hz
  have HG := Hd hg
  have hgl := lt_of_heap hg
  clear hB
  by_cases hlt : k < L.length
  ·obtain ⟨b', off', he, hbl', x0, x1, x2, x3, -⟩ := HEL.out k hlt
   cases he
   have c0 : wr.cell? ⟨b, off + k * 4, none⟩ = some (.int .i64 L[k].dot.rep) := by rw [HB.out.cell (p := ⟨_, _, _⟩) hbl]; exact x0
   have c1 : wr.cell? ⟨b, off + k * 4 + 1, none⟩ = some (.int .i64 L[k].dot.ctr) := by rw [HB.out.cell (p := ⟨_, _, _⟩) hbl]; exact x1
   have c2 : wr.cell? ⟨b, off + k * 4 + 2, none⟩ = some (.int .i64 L[k].qty) := by rw [HB.out.cell (p := ⟨_, _, _⟩) hbl]; exact x2
   have c3 : wr.cell? ⟨b, off + k * 4 + 3, none⟩ = some (.int .u64 L[k].time) := by rw [HB.out.cell (p := ⟨_, _, _⟩) hbl]; exact x3
   have d0 : wr.cell? ⟨w.heap.size + 1, 0, none⟩ = some (.int .i64 (greatM m0 (L.take k)).dot.rep) := cl0 hg 0 rfl
   have d1 : wr.cell? ⟨w.heap.size + 1, 1, none⟩ = some (.int .i64 (greatM m0 (L.take k)).dot.ctr) := cl0 hg 1 rfl
   have d2 : wr.cell? ⟨w.heap.size + 1, 2, none⟩ = some (.int .i64 (greatM m0 (L.take k)).qty) := cl0 hg 2 rfl
   have d3 : wr.cell? ⟨w.heap.size + 1, 3, none⟩ = some (.int .u64 (greatM m0 (L.take k)).time) := cl0 hg 3 rfl
   have HT := Hd (greatM_take m0 L k hlt)
   generalize greatM m0 (L.take k) = a at *
   generalize L[k] = x at *
   have HCX := Hd (HC.out x a)
   have hb2 : Below wr.heap.size wr (wr.alloc (.cells #[.int .i64 x.dot.rep, .int .i64 x.dot.ctr, .int .i64 x.qty, .int .u64 x.time] 55)) := bal
   have HA2 := Hd hb2
   have hn2 : (wr.alloc (.cells #[.int .i64 x.dot.rep, .int .i64 x.dot.ctr, .int .i64 x.qty, .int .u64 x.time] 55)).heap[wr.heap.size]? = some (.cells #[.int .i64 x.dot.rep, .int .i64 x.dot.ctr, .int .i64 x.qty, .int .u64 x.time] 55) := alloc_new _ _
   have HN2 := Hd hn2
   have a0 : (0 : Int) ≤ k := by omega
   have a1 : (k : Int) < L.length := by omega
   have hkw := wr1 k (by omega)
   clear x0 x1 x2 x3 hz hg hb2 hn2 HC
   obtain ⟨r, hr⟩ : ∃ r, r = mcmp x a := ⟨_, rfl⟩
   have HBT : Hid (better a x = if 0 < r then x else a) := Hd (by unfold better; rw [hr])
   rw [← hr] at HCX
   clear hr
   by_cases hr : 0 < r
   ·have t1 : decide (0 < r) = true := decide_eq_true hr
    have HF := Hd (HT.out.trans (HBT.out.trans (if_pos hr)))
    clear hr HT HBT
    go_wp2_with (go_at_fn 185; refine (HCX.out _).mono ?_; rintro e w2 ⟨rfl, hb3⟩; have hb4 := btr HA2.out hb3; have hx2 : w2.heap[wr.heap.size]? = some (.cells #[.int .i64 x.dot.rep, .int .i64 x.dot.ctr, .int .i64 x.qty, .int .u64 x.time] 55) := (by rw [hb3.block _ (by simp)]; exact HN2.out); have hg2 : w2.heap[w.heap.size + 1]? = some (.cells #[.int .i64 a.dot.rep, .int .i64 a.dot.ctr, .int .i64 a.qty, .int .u64 a.time] 55) := (by rw [hb4.block _ hgl]; exact HG.out); have p0 : w2.cell? ⟨wr.heap.size, 0, none⟩ = some (.int .i64 x.dot.rep) := (cl0 hx2 0 rfl); have p1 : w2.cell? ⟨wr.heap.size, 1, none⟩ = some (.int .i64 x.dot.ctr) := (cl0 hx2 1 rfl); have p2 : w2.cell? ⟨wr.heap.size, 2, none⟩ = some (.int .i64 x.qty) := (cl0 hx2 2 rfl); have p3 : w2.cell? ⟨wr.heap.size, 3, none⟩ = some (.int .u64 x.time) := (cl0 hx2 3 rfl); have q0 : w2.cell? ⟨w.heap.size + 1, 0, none⟩ = some (.int .i64 a.dot.rep) := (cl0 hg2 0 rfl); have f0 : w2.frozen? ⟨w.heap.size + 1, 0, none⟩ = false := froz0 hg2 0; have q1 : w2.cell? ⟨w.heap.size + 1, 1, none⟩ = some (.int .i64 a.dot.ctr) := (cl0 hg2 1 rfl); have f1 : w2.frozen? ⟨w.heap.size + 1, 1, none⟩ = false := froz0 hg2 1; have q2 : w2.cell? ⟨w.heap.size + 1, 2, none⟩ = some (.int .i64 a.qty) := (cl0 hg2 2 rfl); have f2 : w2.frozen? ⟨w.heap.size + 1, 2, none⟩ = false := froz0 hg2 2; have q3 : w2.cell? ⟨w.heap.size + 1, 3, none⟩ = some (.int .u64 a.time) := (cl0 hg2 3 rfl); have f3 : w2.frozen? ⟨w.heap.size + 1, 3, none⟩ = false := froz0 hg2 3)
    have hz2 : w2.heap[w.heap.size]? = some (.cells #[.int .i64 0, .int .i64 0, .int .i64 0, .int .u64 0] 55) := by rw [hb4.block _ (Nat.lt_trans (Nat.lt_succ_self _) hgl)]; exact HZ.out
    have hbf := btr HB.out hb4
    go_roundw
    case rel => exact ⟨k + 1, by omega, by go_num, by simp only [setCell_other (show w.heap.size ≠ w.heap.size + 1 by omega)]; exact hz2, by rw [HF.out]; exact setCell_same (setCell_same (setCell_same (setCell_same hg2 _ _) _ _) _ _) _ _, (((hbf.setCell (Nat.le_succ _) _).setCell (Nat.le_succ _) _).setCell (Nat.le_succ _) _).setCell (Nat.le_succ _) _⟩
    case measure => simp [intOf]; omega
   ·have t1 : decide (0 < r) = false := decide_eq_false hr
    have HF := Hd (HT.out.trans (HBT.out.trans (if_neg hr)))
    clear hr HT HBT
    go_wp2_with (go_at_fn 185; refine (HCX.out _).mono ?_; rintro e w2 ⟨rfl, hb3⟩; have hb4 := btr HA2.out hb3)
    have hg2 : w2.heap[w.heap.size + 1]? = some (.cells #[.int .i64 a.dot.rep, .int .i64 a.dot.ctr, .int .i64 a.qty, .int .u64 a.time] 55) := by rw [hb4.block _ hgl]; exact HG.out
    have hz2 : w2.heap[w.heap.size]? = some (.cells #[.int .i64 0, .int .i64 0, .int .i64 0, .int .u64 0] 55) := by rw [hb4.block _ (Nat.lt_trans (Nat.lt_succ_self _) hgl)]; exact HZ.out
    have hbf := btr HB.out hb4
    go_roundw
    case rel => exact ⟨k + 1, by omega, by go_num, hz2, by rw [HF.out]; exact hg2, hbf⟩
    case measure => simp [intOf]; omega
  ·have hke : k = L.length := by omega
   rw [hke, List.take_length] at hg
   clear HG
   have d0 : wr.cell? ⟨w.heap.size + 1, 0, none⟩ = some (.int .i64 (greatM m0 L).dot.rep) := cl0 hg 0 rfl
   have d1 : wr.cell? ⟨w.heap.size + 1, 1, none⟩ = some (.int .i64 (greatM m0 L).dot.ctr) := cl0 hg 1 rfl
   have d2 : wr.cell? ⟨w.heap.size + 1, 2, none⟩ = some (.int .i64 (greatM m0 L).qty) := cl0 hg 2 rfl
   have d3 : wr.cell? ⟨w.heap.size + 1, 3, none⟩ = some (.int .u64 (greatM m0 L).time) := cl0 hg 3 rfl
   have z0 : wr.cell? ⟨w.heap.size, 0, none⟩ = some (.int .i64 0) := cl0 hz 0 rfl
   have f0 : wr.frozen? ⟨w.heap.size, 0, none⟩ = false := froz0 hz 0
   have z1 : wr.cell? ⟨w.heap.size, 1, none⟩ = some (.int .i64 0) := cl0 hz 1 rfl
   have f1 : wr.frozen? ⟨w.heap.size, 1, none⟩ = false := froz0 hz 1
   have z2 : wr.cell? ⟨w.heap.size, 2, none⟩ = some (.int .i64 0) := cl0 hz 2 rfl
   have f2 : wr.frozen? ⟨w.heap.size, 2, none⟩ = false := froz0 hz 2
   have z3 : wr.cell? ⟨w.heap.size, 3, none⟩ = some (.int .u64 0) := cl0 hz 3 rfl
   have f3 : wr.frozen? ⟨w.heap.size, 3, none⟩ = false := froz0 hz 3
   clear hz hg
   go_wp2_with fail
   (try simp only [Exit.inBlock, Exit.then])
   refine bodyPost_ret (v := .agg #[.int .i64 (greatM m0 L).dot.rep, .int .i64 (greatM m0 L).dot.ctr, .int .i64 (greatM m0 L).qty, .int .u64 (greatM m0 L).time]) ?_ rfl ⟨rfl, (((HB.out.setCell (Nat.le_refl _) _).setCell (Nat.le_refl _) _).setCell (Nat.le_refl _) _).setCell (Nat.le_refl _) _⟩
   rw [results_cell_one rfl]
   go_simp
theorem qtyInvalid_any (m : MarkD) (w : World) : Calls Tryz.prog 189 #[markV m] w fun e w' => e = .returned (.bool (!validMarkD m)) ∧ Below w.heap.size w w' := by
 have HV := Hd (fun wz => qtyValidMark_any m wz)
 obtain ⟨r, hr⟩ : ∃ r, r = validMarkD m := ⟨_, rfl⟩
 rw [← hr] at HV ⊢
 clear hr
 unfold markV at *
 go_enter Tryz.func189, Tryz.ntmps189
 go_wp2_with fail
 refine (HV.out _).mono ?_
 rintro e w1 ⟨rfl, hb1⟩
 go_wp2_with fail
 go_ret
 exact ⟨rfl, (bal).trans (hb1.mono (by simp))⟩
theorem qtyNewest_any (l : List MarkD) (v : Value) (w : World) (h : Arr MarkR 4 w v l) : Calls Tryz.prog 126 #[v] w fun e w' => e = .returned (.tuple #[markV (newestV l), .int .i64 (newestE l)]) ∧ Below w.heap.size w w' := by
 have eg : ∀ args w, (callFunc 189 args).run Tryz.prog w = .ok (.enter 189 args) w := enters_of Tryz.func189 (by kernel_rfl) rfl
 have hn := h.len
 obtain ⟨W1, hW1⟩ : ∃ W1, W1 = w.alloc (.cells #[.int .i64 0, .int .i64 0, .int .i64 0, .int .u64 0] 55) := ⟨_, rfl⟩
 have hb1 : Below w.heap.size w W1 := by rw [hW1]; exact bal
 have hg1 : W1.heap[w.heap.size]? = some (.cells #[.int .i64 0, .int .i64 0, .int .i64 0, .int .u64 0] 55) := by rw [hW1]; exact alloc_new _ _
 have hgl1 := lt_of_heap hg1
 have HI := Hd (containsMark_any (fun m => !validMarkD m) 189 eg qtyInvalid_any l v W1 (h.marks hb1))
 have HALL : Hid (l.any (fun m => !validMarkD m) = !(l.all validMarkD)) := Hd (by rw [List.not_all_eq_any_not])
 have HA := Hd h
 have HG1 := Hd hg1
 have HB1 := Hd hb1
 have HW := Hd hW1
 obtain ⟨o, c, rfl, -⟩ := id h
 rw [HALL.out] at HI
 clear hg1 hb1 hW1 h HALL
 have HV : Hid (newestV l = if l.all validMarkD then newestM l else ⟨⟨0, 0⟩, 0, 0⟩) := Hd rfl
 have HE : Hid (newestE l = if l.all validMarkD then (if l = [] then 9 else 0) else 2) := Hd rfl
 obtain ⟨r, hr⟩ : ∃ r, r = l.all validMarkD := ⟨_, rfl⟩
 rw [← hr] at HI HV HE
 clear hr
 unfold markV at *
 generalize newestV l = nv at *
 generalize newestE l = ne at *
 go_enter Tryz.func126, Tryz.ntmps126
 go_wp2_with fail
 rw [← HW.out]
 refine HI.out.mono ?_
 rintro e w2 ⟨rfl, hb2⟩
 have hg2 : w2.heap[w.heap.size]? = some (.cells #[.int .i64 0, .int .i64 0, .int .i64 0, .int .u64 0] 55) := by rw [hb2.block _ hgl1]; exact HG1.out
 have z0 : w2.cell? ⟨w.heap.size, 0, none⟩ = some (.int .i64 0) := cl0 hg2 0 rfl
 have f0 : w2.frozen? ⟨w.heap.size, 0, none⟩ = false := froz0 hg2 0
 have z1 : w2.cell? ⟨w.heap.size, 1, none⟩ = some (.int .i64 0) := cl0 hg2 1 rfl
 have f1 : w2.frozen? ⟨w.heap.size, 1, none⟩ = false := froz0 hg2 1
 have z2 : w2.cell? ⟨w.heap.size, 2, none⟩ = some (.int .i64 0) := cl0 hg2 2 rfl
 have f2 : w2.frozen? ⟨w.heap.size, 2, none⟩ = false := froz0 hg2 2
 have z3 : w2.cell? ⟨w.heap.size, 3, none⟩ = some (.int .u64 0) := cl0 hg2 3 rfl
 have f3 : w2.frozen? ⟨w.heap.size, 3, none⟩ = false := froz0 hg2 3
 have hgl2 : w.heap.size < w2.heap.size := lt_of_heap hg2
 have HB2 := Hd (btr HB1.out hb2)
 have HG2 := Hd hg2
 clear hg2 hb2 HI HG1
 cases r with
 | false =>
  have h1 : nv = ⟨⟨0, 0⟩, 0, 0⟩ := HV.out
  have h2 : ne = 2 := HE.out
  subst h1 h2
  clear HV HE
  go_wp2_with fail
  (try simp only [Exit.inBlock, Exit.then])
  refine bodyPost_ret (v := .tuple #[.agg #[.int .i64 0, .int .i64 0, .int .i64 0, .int .u64 0], .int .i64 2]) ?_ rfl ⟨rfl, (((HB2.out.setCell (Nat.le_refl _) _).setCell (Nat.le_refl _) _).setCell (Nat.le_refl _) _).setCell (Nat.le_refl _) _⟩
  rw [results_cell_tmp rfl]
  go_simp
 | true =>
  cases l with
  | nil =>
   have h1 : nv = ⟨⟨0, 0⟩, 0, 0⟩ := HV.out
   have h2 : ne = 9 := HE.out
   subst h1 h2
   clear HV HE
   simp only [List.length_nil]
   go_wp2_with fail
   (try simp only [Exit.inBlock, Exit.then])
   refine bodyPost_ret (v := .tuple #[.agg #[.int .i64 0, .int .i64 0, .int .i64 0, .int .u64 0], .int .i64 9]) ?_ rfl ⟨rfl, (((HB2.out.setCell (Nat.le_refl _) _).setCell (Nat.le_refl _) _).setCell (Nat.le_refl _) _).setCell (Nat.le_refl _) _⟩
   rw [results_cell_tmp rfl]
   go_simp
  | cons m0 l =>
   have h1 : nv = greatM m0 (m0 :: l) := HV.out
   have h2 : ne = 0 := HE.out
   have HGR := Hd (qtyGreatest_any m0 l _ w2 (HA.out.marks HB2.out))
   rw [← h1] at HGR
   subst h2
   have t0 : (((m0 :: l).length : Int) == 0) = false := by rw [List.length_cons]; simp; omega
   unfold markV at HGR
   clear HV HE h1 z0 z1 z2 z3 f0 f1 f2 f3
   generalize hL : m0 :: l = L at *
   clear hL
   go_wp2_with fail
   refine HGR.out.mono ?_
   rintro e w3 ⟨rfl, hb3⟩
   have hg3 : w3.heap[w.heap.size]? = some (.cells #[.int .i64 0, .int .i64 0, .int .i64 0, .int .u64 0] 55) := by rw [hb3.block _ hgl2]; exact HG2.out
   have z0 : w3.cell? ⟨w.heap.size, 0, none⟩ = some (.int .i64 0) := cl0 hg3 0 rfl
   have f0 : w3.frozen? ⟨w.heap.size, 0, none⟩ = false := froz0 hg3 0
   have z1 : w3.cell? ⟨w.heap.size, 1, none⟩ = some (.int .i64 0) := cl0 hg3 1 rfl
   have f1 : w3.frozen? ⟨w.heap.size, 1, none⟩ = false := froz0 hg3 1
   have z2 : w3.cell? ⟨w.heap.size, 2, none⟩ = some (.int .i64 0) := cl0 hg3 2 rfl
   have f2 : w3.frozen? ⟨w.heap.size, 2, none⟩ = false := froz0 hg3 2
   have z3 : w3.cell? ⟨w.heap.size, 3, none⟩ = some (.int .u64 0) := cl0 hg3 3 rfl
   have f3 : w3.frozen? ⟨w.heap.size, 3, none⟩ = false := froz0 hg3 3
   have HB3 := Hd (btr HB2.out hb3)
   clear hb3 hg3
   go_wp2_with fail
   (try simp only [Exit.inBlock, Exit.then])
   refine bodyPost_ret (v := .tuple #[.agg #[.int .i64 nv.dot.rep, .int .i64 nv.dot.ctr, .int .i64 nv.qty, .int .u64 nv.time], .int .i64 0]) ?_ rfl ⟨rfl, (((HB3.out.setCell (Nat.le_refl _) _).setCell (Nat.le_refl _) _).setCell (Nat.le_refl _) _).setCell (Nat.le_refl _) _⟩
   rw [results_cell_tmp rfl]
   go_simp
end Go.Proofs.YtfnfbcaoihhbpaaGreatDoor
namespace Go.Proofs.YtfnfbcaoihhbpaaGreatDoor
open Go.RowKit Go.Maps

theorem itemsQty_any (x : ItemD) (mv : Value) (w : World) (h : Arr MarkR 4 w mv x.marks) (hs : x.name.size ≤ maxLen) (hl : x.marks.length ≤ 100000) (hG : GlobIs w) : Calls Tryz.prog 72 #[.agg #[.string x.name, mv]] w fun e w' => e = .returned (.tuple #[.int .i64 (qtyI x), .int .i64 (qtyIE x)]) ∧ Below w.heap.size w w' := by
 obtain ⟨o, c, rfl, -⟩ := id h
 obtain ⟨W1, hW1⟩ : ∃ W1, W1 = w.alloc (.cells #[.string x.name, .slice o x.marks.length c] 50) := ⟨_, rfl⟩
 have hb1 : Below w.heap.size w W1 := by rw [hW1]; exact bal
 have hg1 : W1.heap[w.heap.size]? = some (.cells #[.string x.name, .slice o x.marks.length c] 50) := by rw [hW1]; exact alloc_new _ _
 have hgl1 := lt_of_heap hg1
 have HI := Hd (itemsInvalid_any x _ W1 (h.marks hb1) hs hl (hG.below hb1))
 have HA := Hd h
 have HG1 := Hd hg1
 have HB1 := Hd hb1
 have HW := Hd hW1
 have HQ : Hid (qtyI x = if oneI x then (newestM x.marks).qty else 0) := Hd rfl
 have HE : Hid (qtyIE x = if oneI x then 0 else 2) := Hd rfl
 have HONE : Hid (oneI x = true → newestV x.marks = newestM x.marks ∧ newestE x.marks = 0) := Hd (fun h => by
  unfold oneI at h
  simp only [Bool.and_eq_true, decide_eq_true_eq] at h
  unfold newestV newestE
  rw [if_pos h.2, if_pos h.2, if_neg (by intro e; have := h.1.1.2; rw [e] at this; simp at this)]
  exact ⟨rfl, rfl⟩)
 clear hg1 hb1 hW1 h hs hG
 obtain ⟨r, hr⟩ : ∃ r, r = oneI x := ⟨_, rfl⟩
 rw [← hr] at HI HQ HE HONE
 clear hr
 generalize qtyI x = q at *
 generalize qtyIE x = qe at *
 go_enter Tryz.func72, Tryz.ntmps72
 go_wp2_with fail
 rw [← HW.out]
 refine HI.out.mono ?_
 rintro e w2 ⟨rfl, hb2⟩
 have hg2 : w2.heap[w.heap.size]? = some (.cells #[.string x.name, .slice o x.marks.length c] 50) := by rw [hb2.block _ hgl1]; exact HG1.out
 have c1 : w2.cell? ⟨w.heap.size, 1, none⟩ = some (.slice o x.marks.length c) := cl0 hg2 1 rfl
 have HB2 := Hd (btr HB1.out hb2)
 have HN := Hd (qtyNewest_any x.marks _ w2 (HA.out.marks HB2.out))
 clear hb2 hg2 HI HG1
 cases r with
 | false =>
  have h1 : q = 0 := HQ.out
  have h2 : qe = 2 := HE.out
  subst h1 h2
  clear HQ HE HONE
  go_wp2_with fail
  go_ret2
  exact ⟨rfl, HB2.out⟩
 | true =>
  have h1 : q = (newestM x.marks).qty := HQ.out
  have h2 : qe = 0 := HE.out
  obtain ⟨e1, e2⟩ := HONE.out rfl
  rw [e1, e2] at HN
  have HF := Hd h1
  subst h2
  clear HQ HE HONE h1 e1 e2
  unfold markV at HN
  generalize newestM x.marks = nm at *
  go_wp2_with fail
  refine HN.out.mono ?_
  rintro e w3 ⟨rfl, hb3⟩
  have HB3 := Hd (btr HB2.out hb3)
  go_wp2_with fail
  go_ret2
  exact ⟨by rw [HF.out]; rfl, HB3.out.alloc HB3.out.size _⟩

end Go.Proofs.YtfnfbcaoihhbpaaGreatDoor
namespace Go.Proofs.YtfnfbcaoihhbpaaGreatDoor
open Go.RowKit Go.Maps

/-- A part of a fresh list of items, in its block. -/
theorem FreshI.part {base : Nat} {w w4 : World} {g c n : Nat} {ps qs : List ItW} (h : FreshI base w (.slice (some ⟨g, 0, none⟩) n c) ps) (hm : ∀ q ∈ qs, q ∈ ps) (hpw : qs.Pairwise (fun a b => Apart a.v b.v)) (hin : EItem.In w4 g c qs) (hst : ∀ b, b < w.heap.size → b ≠ g → w4.heap[b]? = w.heap[b]?) : FreshI base w4 (.slice (some ⟨g, 0, none⟩) qs.length c) qs := by
 obtain ⟨h1, h2, h3⟩ := h
 obtain ⟨-, hgb, -⟩ := h1.at
 refine ⟨hin.own hgb, fun p hp => ?_, hpw⟩
 obtain ⟨a1, a2⟩ := h2 p (hm p hp)
 refine ⟨a1.stay (fun k hk => hst k (a1.2.1.lt k hk).2 (fun e => ?_)), fun k hk hk2 => a2 k hk hk2⟩
 subst e
 exact a2 k rfl hk
theorem take_set_snoc {α : Type} (d : List α) (m : Nat) (y : α) (hm : m < d.length) : (d.set m y).take (m + 1) = d.take m ++ [y] := by
 rw [List.take_succ_eq_append_getElem (by simpa using hm), List.getElem_set_self, List.take_set, List.set_eq_of_length_le (by simp; omega)]
def DelPost (base : Nat) (ps : List ItW) (p : ItemD → Bool) (w : World) (e : Ending) (w' : World) : Prop := ∃ v' qs, e = .returned v' ∧ qs.map (·.x) = (ps.map (·.x)).filter (fun x => !p x) ∧ FreshI base w' v' qs ∧ Below base w w'
theorem deleteFuncItems_any (p : ItemD → Bool) (f q : Nat) (eg : ∀ args w, (callFunc f args).run Tryz.prog w = .ok (.enter f args) w) (base : Nat) (ps : List ItW) (v : Value) (w : World)
  (hp : ∀ (x : ItemD) (mo : Option Addr) (mc : Nat) W, W.heap[q]? = w.heap[q]? → Calls Tryz.prog f #[.agg #[.string x.name, .slice mo x.marks.length mc], .pointer (some ⟨q, 0, none⟩)] W fun e w' => e = .returned (.bool (p x)) ∧ Below W.heap.size W w')
  (hqw : q < w.heap.size) (hqv : v.ownBlock ≠ some q) (hbase : base ≤ w.heap.size) (h : FreshI base w v ps) : Calls Tryz.prog 80 #[v, .func (.func f) #[] #[.pointer (some ⟨q, 0, none⟩)]] w (DelPost base ps p w) := by
 have hn := h.1.le
 unfold maxLen at hn
 have HI := Hd (indexFuncItems_any p f q eg (ps.map (·.x)) v w (fun x mo mc W hW => hp x mo mc W (hW.block q hqw)) h.arr)
 have HP := Hd hp
 have HF := Hd h
 obtain ⟨av, cv, rfl⟩ := h.1.slice
 clear h hp
 go_enter Tryz.func80, Tryz.ntmps80
 go_wp2_with fail
 refine HI.out.mono ?_
 rintro e w1 ⟨i, rfl, hi, hb1⟩
 have HF1 := Hd (HF.out.below hb1)
 have hq1 : w1.heap[q]? = w.heap[q]? := hb1.block q hqw
 have hqw1 : q < w1.heap.size := Nat.lt_of_lt_of_le hqw hb1.size
 have HB1 : Hid (Below base w w1) := Hd (hb1.mono hbase)
 rcases hi with ⟨rfl, hany⟩ | ⟨k0, hk0, rfl, hpk, htk⟩
 ·have HFL : Hid (ps.map (·.x) = (ps.map (·.x)).filter (fun x => !p x)) := Hd (filter_all p _ hany).symm
  clear hany hb1 HI
  go_wp2_with fail
  go_ret
  exact ⟨_, ps, rfl, HFL.out, HF1.out, HB1.out⟩
 ·have hk : k0 < ps.length := by simpa using hk0
  obtain ⟨g, cap, hv, hin, hgb⟩ := HF1.out.1.some (by intro e; rw [e] at hk; simp at hk)
  cases hv
  have hgq : q ≠ g := fun e => hqv (by subst e; rfl)
  have hgq1 : g < w1.heap.size := hin.gl
  have hcap : ps.length ≤ cv := by obtain ⟨_, _, _, h3, _⟩ := hin; exact h3
  have HIN := Hd hin
  have HT0 : Hid (ps.take k0 = (ps.take (k0 + 1)).filter (fun a => !p a.x)) := Hd (by
   rw [filter_take _ _ _ hk, if_neg (by simpa using hpk), List.append_nil]
   symm
   rw [List.filter_eq_self]
   intro a ha
   rw [List.any_eq_false] at htk
   have := htk a.x (by rw [← List.map_take]; exact List.mem_map_of_mem ha)
   simpa using this)
  have HQ1 := Hd hq1
  have t0 : ((k0 : Int) == -1) = false := by simp
  have t00 : (k0 : Int) ≠ -1 := by omega
  have hkw0 : IntKind.i64.wrap ((k0 : Int) + 1) = (k0 : Int) + 1 := by rw [IntKind.wrap_i64]; omega
  have hk00 : (k0 : Int) ≠ -1 := by omega
  clear hin hb1 hpk htk HI hk0 hq1
  go_wp2_with fail
  go_loopw [5, 6] (fun a b wr => ∃ (m k : Nat) (d : List ItW), a = .int .i64 m ∧ b = .int .i64 k ∧ k ≤ ps.length ∧ m < k ∧ d.length = ps.length ∧ EItem.In wr g cv d ∧ d.take m = (ps.take k).filter (fun a => !p a.x) ∧ (∀ i, k ≤ i → d[i]? = ps[i]?) ∧ (∀ b, b < w1.heap.size → b ≠ g → wr.heap[b]? = w1.heap[b]?) ∧ w1.heap.size ≤ wr.heap.size ∧ Below base w wr) (fun _ b _ => ps.length - (intOf b).toNat)
  case atStart => exact ⟨k0, k0 + 1, ps, rfl, by go_num, by omega, by omega, rfl, HIN.out, HT0.out, fun _ _ => rfl, fun _ _ _ => rfl, Nat.le_refl _, HB1.out⟩
  case round =>
   obtain ⟨m, k, d, rfl, rfl, hkl, hmk, hdl, hdin, htk, hsame, hoth, hw1r, hB⟩ := hrel
   have HTK := Hd htk
   have HSAME := Hd hsame
   have HOTH := Hd hoth
   have HB := Hd hB
   have HDIN := Hd hdin
   have hgr := hdin.gl
   clear htk hsame hoth hB hdin
   by_cases hlt : k < ps.length
   ·have hkd : k < d.length := by omega
    have hmd : m < d.length := by omega
    have edk : d[k] = ps[k] := by
     have := HSAME.out k (Nat.le_refl _)
     rw [List.getElem?_eq_getElem hkd, List.getElem?_eq_getElem hlt] at this
     exact Option.some.inj this
    have c0 : wr.cell? ⟨g, k * 2, none⟩ = some (.string ps[k].x.name) := by have := HDIN.out.cell k hkd 0 (by decide); rw [edk] at this; exact this
    have c1 : wr.cell? ⟨g, k * 2 + 1, none⟩ = some (.slice ps[k].mo ps[k].x.marks.length ps[k].mc) := by have := HDIN.out.cell k hkd 1 (by decide); rw [edk] at this; exact this
    have m0 : wr.cell? ⟨g, m * 2, none⟩ = some (.string d[m].x.name) := HDIN.out.cell m hmd 0 (by decide)
    have m1 : wr.cell? ⟨g, m * 2 + 1, none⟩ = some (.slice d[m].mo d[m].x.marks.length d[m].mc) := HDIN.out.cell m hmd 1 (by decide)
    have g0 := HDIN.out.froz (m * 2)
    have g1 := HDIN.out.froz (m * 2 + 1)
    have hal : Below wr.heap.size wr (wr.alloc (.cells #[.string ps[k].x.name, .slice ps[k].mo ps[k].x.marks.length ps[k].mc] 50)) := bal
    have hn2 : (wr.alloc (.cells #[.string ps[k].x.name, .slice ps[k].mo ps[k].x.marks.length ps[k].mc] 50)).heap[wr.heap.size]? = some (.cells #[.string ps[k].x.name, .slice ps[k].mo ps[k].x.marks.length ps[k].mc] 50) := alloc_new _ _
    have HPX := Hd (HP.out ps[k].x ps[k].mo ps[k].mc (wr.alloc (.cells #[.string ps[k].x.name, .slice ps[k].mo ps[k].x.marks.length ps[k].mc] 50)) (by rw [hal.block q (by omega), HOTH.out q hqw1 hgq]; exact HQ1.out))
    have HAL := Hd hal
    have HN2 := Hd hn2
    have HFT := Hd (filter_take (fun a : ItW => !p a.x) ps k hlt)
    have HSET := Hd (fun (wz : World) (hz : Below wr.heap.size wr wz) => (HDIN.out.of_heap (hz.block g hgr)).set m hmd ps[k])
    have HST := Hd (take_set_snoc d m ps[k] hmd)
    have HS3 : Hid (∀ i, k + 1 ≤ i → (d.set m ps[k])[i]? = ps[i]?) := Hd (fun i hi => by rw [List.getElem?_set_ne (by omega)]; exact HSAME.out i (by omega))
    generalize ps[k] = y at *
    generalize d[m] = z at *
    have a0 : (0 : Int) ≤ k := by omega
    have a1 : (k : Int) < ps.length := by omega
    have b0 : (0 : Int) ≤ m := by omega
    have b1 : (m : Int) < ps.length := by omega
    have hkw := wr1 k (by omega)
    have hmw : IntKind.i64.wrap ((m : Int) + 1) = (m : Int) + 1 := by rw [IntKind.wrap_i64]; omega
    clear hal hn2 edk
    obtain ⟨r, hr⟩ : ∃ r, r = p y.x := ⟨_, rfl⟩
    rw [← hr] at HPX HFT
    clear hr
    cases r with
    | true =>
     have HC3 : Hid (d.take m = (ps.take (k + 1)).filter (fun a => !p a.x)) := Hd (by rw [HFT.out, HTK.out]; simp)
     go_wp2_with (go_at_fn f; refine HPX.out.mono ?_; rintro e w2 ⟨rfl, hb2⟩)
     have hb3 := btr HAL.out hb2
     have hot2 : ∀ b, b < w1.heap.size → b ≠ g → w2.heap[b]? = w1.heap[b]? := fun b h1 h2 => by rw [hb3.block b (by omega)]; exact HOTH.out b h1 h2
     have hbf := HB.out.trans (hb3.mono (Nat.le_trans hbase HB.out.size))
     have hin2 := HDIN.out.of_heap (hb3.block g hgr)
     have hws := Nat.le_trans hw1r hb3.size
     go_roundw
     case rel => exact ⟨m, k + 1, d, rfl, by go_num, by omega, by omega, hdl, hin2, HC3.out, fun i hi => HSAME.out i (by omega), hot2, hws, hbf⟩
     case measure => simp [intOf]; omega
    | false =>
     have HC3 : Hid ((d.set m y).take (m + 1) = (ps.take (k + 1)).filter (fun a => !p a.x)) := Hd (by rw [HST.out, HFT.out, HTK.out]; rfl)
     go_wp2_with (go_at_fn f; refine HPX.out.mono ?_; rintro e w2 ⟨rfl, hb2⟩; have hb3 := btr HAL.out hb2; have hx2 : w2.heap[wr.heap.size]? = some (.cells #[.string y.x.name, .slice y.mo y.x.marks.length y.mc] 50) := (by rw [hb2.block _ (by simp)]; exact HN2.out); have p0 : w2.cell? ⟨wr.heap.size, 0, none⟩ = some (.string y.x.name) := (cl0 hx2 0 rfl); have p1 : w2.cell? ⟨wr.heap.size, 1, none⟩ = some (.slice y.mo y.x.marks.length y.mc) := (cl0 hx2 1 rfl); have k0 : w2.cell? ⟨g, m * 2, none⟩ = some (.string z.x.name) := (by rw [hb3.cell (p := ⟨_, _, _⟩) hgr]; exact m0); have k1 : w2.cell? ⟨g, m * 2 + 1, none⟩ = some (.slice z.mo z.x.marks.length z.mc) := (by rw [hb3.cell (p := ⟨_, _, _⟩) hgr]; exact m1); have l0 : w2.frozen? ⟨g, m * 2, none⟩ = false := (by rw [hb3.frozen (p := ⟨_, _, _⟩) hgr]; exact g0); have l1 : w2.frozen? ⟨g, m * 2 + 1, none⟩ = false := (by rw [hb3.frozen (p := ⟨_, _, _⟩) hgr]; exact g1))
     have hot2 : ∀ b, b < w1.heap.size → b ≠ g → ((w2.setCell ⟨g, m * 2, none⟩ (.string y.x.name)).setCell ⟨g, m * 2 + 1, none⟩ (.slice y.mo y.x.marks.length y.mc)).heap[b]? = w1.heap[b]? := fun b h1 h2 => by rw [setCell_other h2, setCell_other h2, hb3.block b (by omega)]; exact HOTH.out b h1 h2
     have hbf : Below base w ((w2.setCell ⟨g, m * 2, none⟩ (.string y.x.name)).setCell ⟨g, m * 2 + 1, none⟩ (.slice y.mo y.x.marks.length y.mc)) := ((HB.out.trans (hb3.mono (Nat.le_trans hbase HB.out.size))).setCell hgb _).setCell hgb _
     have hin2 : EItem.In ((w2.setCell ⟨g, m * 2, none⟩ (.string y.x.name)).setCell ⟨g, m * 2 + 1, none⟩ (.slice y.mo y.x.marks.length y.mc)) g cv (d.set m y) := HSET.out w2 hb3
     have hws : w1.heap.size ≤ ((w2.setCell ⟨g, m * 2, none⟩ (.string y.x.name)).setCell ⟨g, m * 2 + 1, none⟩ (.slice y.mo y.x.marks.length y.mc)).heap.size := by rw [setCell_size, setCell_size]; exact Nat.le_trans hw1r hb3.size
     go_roundw
     case rel => exact ⟨m + 1, k + 1, d.set m y, by go_num, by go_num, by omega, by omega, by rw [List.length_set]; exact hdl, hin2, HC3.out, HS3.out, hot2, hws, hbf⟩
     case measure => simp [intOf]; omega
   ·have hke : k = ps.length := by omega
    have HFT : Hid (d.take m = ps.filter (fun a => !p a.x)) := Hd (by have := HTK.out; rw [hke, List.take_length] at this; exact this)
    obtain ⟨w4, hclr, hin4, hbl4, hsz4, hot4⟩ := HDIN.out.clear (P := Tryz.prog) m ps.length (by omega) (by omega) hcap 26 (.agg #[.string ⟨#[]⟩, .slice none 0 0]) Tryz.underlying26 Tryz.zeroValue50 rfl (fun u hu => by change u ∈ [Value.string ⟨#[]⟩, Value.slice none 0 0] at hu; rw [List.mem_cons, List.mem_singleton] at hu; rcases hu with h | h <;> (rw [h]; rfl))
    have hclr2 : ∀ (ty : TypeId) (c : Nat), (Builtin.clear_ #[26] ty #[.slice (some ⟨g, m * 2, none⟩) (ps.length - m) c]).run Tryz.prog wr = .ok (.tuple #[]) w4 := hclr
    have HB4 := Hd (hbl4 base w hgb HB.out)
    have hfr : FreshI base w4 (.slice (some ⟨g, 0, none⟩) (d.take m).length cv) (d.take m) := FreshI.part HF1.out (fun a ha => by rw [HFT.out] at ha; exact (List.mem_filter.1 ha).1) (by rw [HFT.out]; exact HF1.out.2.2.sublist List.filter_sublist) hin4 (fun b h1 h2 => by rw [hot4 b h2]; exact HOTH.out b h1 h2)
    have hlen : (d.take m).length = m := by rw [List.length_take]; omega
    have hmap : (d.take m).map (·.x) = (ps.map (·.x)).filter (fun x => !p x) := by rw [HFT.out, List.filter_map]; rfl
    rw [hlen] at hfr
    have HFR := Hd hfr
    have HMAP := Hd hmap
    have hcm : ¬ cv = m := by omega
    have b4 : (0 : Int) ≤ m := by omega
    have b5 : (m : Int) ≤ ps.length := by omega
    have b7 : (m : Int) ≤ cv := by omega
    clear hclr hin4 hbl4 hfr hlen hmap hot4
    go_wp2_with fail
    go_ret
    exact ⟨_, d.take m, rfl, HMAP.out, HFR.out, HB4.out⟩
end Go.Proofs.YtfnfbcaoihhbpaaGreatDoor
namespace Go.Proofs.YtfnfbcaoihhbpaaGreatDoor
open Go.RowKit Go.Maps Go.Sort Go.Shelf

def scmp (a b : ByteArray) : Int := if ltK a b then -1 else if ltK b a then 1 else 0
theorem isNaNStr_any (x : ByteArray) (w : World) : Calls Tryz.prog 118 #[.string x] w fun e w' => e = .returned (.bool false) ∧ w' = w := by
 go_enter Tryz.func118, Tryz.ntmps118
 go_wp2
 go_ret
 exact ⟨rfl, rfl⟩
theorem cmpStr_any (x y : ByteArray) (w : World) : Calls Tryz.prog 68 #[.string x, .string y] w fun e w' => e = .returned (.int .i64 (scmp x y)) ∧ w' = w := by
 have HN := Hd (fun z wz => isNaNStr_any z wz)
 have hl1 := less_ltK x y
 have hl2 := less_ltK y x
 by_cases h1 : ltK x y
 ·have hc : Hid (scmp x y = -1) := Hd (by unfold scmp; rw [if_pos h1])
  rw [decide_eq_true h1] at hl1
  clear h1 hl2
  go_enter Tryz.func68, Tryz.ntmps68
  go_wp2_with fail
  refine (HN.out _ _).mono ?_
  rintro e w1 ⟨rfl, rfl⟩
  go_wp2_with fail
  refine (HN.out _ _).mono ?_
  rintro e w2 ⟨rfl, rfl⟩
  go_wp2_with fail
  go_ret
  exact ⟨by rw [hc.out]; rfl, rfl⟩
 ·rw [decide_eq_false h1] at hl1
  by_cases h2 : ltK y x
  ·have hc : Hid (scmp x y = 1) := Hd (by unfold scmp; rw [if_neg h1, if_pos h2])
   rw [decide_eq_true h2] at hl2
   have heq : (x.toList == y.toList) = false := by rw [strDec]; exact decide_eq_false (fun e => by rw [e] at h2; exact ltK_irrefl _ h2)
   clear h1 h2
   go_enter Tryz.func68, Tryz.ntmps68
   go_wp2_with fail
   refine (HN.out _ _).mono ?_
   rintro e w1 ⟨rfl, rfl⟩
   go_wp2_with fail
   refine (HN.out _ _).mono ?_
   rintro e w2 ⟨rfl, rfl⟩
   go_wp2_with fail
   go_ret
   exact ⟨by rw [hc.out]; rfl, rfl⟩
  ·have hc : Hid (scmp x y = 0) := Hd (by unfold scmp; rw [if_neg h1, if_neg h2])
   rw [decide_eq_false h2] at hl2
   have heq : (x.toList == y.toList) = true := by rw [strDec]; exact decide_eq_true (ltK_total h1 h2)
   clear h1 h2
   go_enter Tryz.func68, Tryz.ntmps68
   go_wp2_with fail
   refine (HN.out _ _).mono ?_
   rintro e w1 ⟨rfl, rfl⟩
   go_wp2_with fail
   refine (HN.out _ _).mono ?_
   rintro e w2 ⟨rfl, rfl⟩
   go_wp2_with fail
   go_ret
   exact ⟨by rw [hc.out]; rfl, rfl⟩
theorem grown_two (w : World) (o1 o2 : Obj) : Grown w ((w.alloc o1).alloc o2) :=
 ⟨0, #[o1, o2], by rw [Go.Sort.alloc_eq_grow, Go.Sort.alloc_eq_grow, Go.Sort.grow_grow]; rfl⟩
def icmp (a b : ItW) : Int := scmp a.x.name b.x.name
theorem itemsPut2_any (a b : ItW) (w : World) : Calls Tryz.prog 83 #[.agg #[.string a.x.name, .slice a.mo a.x.marks.length a.mc], .agg #[.string b.x.name, .slice b.mo b.x.marks.length b.mc]] w fun e w' => e = .returned (.int .i64 (icmp a b)) ∧ Grown w w' := by
 have HC := Hd (fun wz => cmpStr_any a.x.name b.x.name wz)
 have HF : Hid (icmp a b = scmp a.x.name b.x.name) := Hd rfl
 go_enter Tryz.func83, Tryz.ntmps83
 go_wp2_with fail
 refine (HC.out _).mono ?_
 rintro e w1 ⟨rfl, rfl⟩
 go_wp2_with fail
 go_ret
 exact ⟨by rw [HF.out]; rfl, grown_two _ _ _⟩
theorem ltOf_icmp (a b : ItW) : ltOf icmp a b = decide (ltK a.x.name b.x.name) := by
 show decide (icmp a b < 0) = _
 congr 1
 unfold icmp scmp
 apply propext
 split
 ·simp_all
 ·split <;> simp_all
theorem swoI : SWO (ltOf icmp) where
 irrefl x := by rw [ltOf_icmp]; exact decide_eq_false (ltK_irrefl _)
 trans x y z h k := by
  rw [ltOf_icmp] at *
  exact decide_eq_true (ltK_trans (of_decide_eq_true h) (of_decide_eq_true k))
 ntrans x y z h k := by
  rw [ltOf_icmp] at *
  refine decide_eq_false (fun h3 => ?_)
  have h1 := of_decide_eq_false h
  have h2 := of_decide_eq_false k
  by_cases e : ltK y.x.name x.x.name
  ·exact h2 (ltK_trans e h3)
  ·rw [ltK_total h1 e] at h3; exact h2 h3
theorem heap_sorted_ot {w : World} {g : Nat} {α : Type} [Inhabited α] (enc : α → List Value) (k n off : Nat) (d : Array α) (os : Array Obj) (b : Nat) (hb : b < w.heap.size) (hg : b ≠ g) : (sortWorldK enc k w g off n d os).heap[b]? = w.heap[b]? := by
 have hh : (sortWorldK enc k w g off n d os).heap = (w.heap.modify g (onCells (putCells id off (flatK enc k d)))) ++ os := rfl
 rw [hh, Array.getElem?_append_left (by simpa using hb), Array.getElem?_modify, if_neg (fun e => hg e.symm)]
def SortPost (w : World) (g cap : Nat) (ps : List ItW) (e : Ending) (w' : World) : Prop :=
 e = .returned (.tuple #[]) ∧ ∃ qs : List ItW, qs.Perm ps ∧ qs.Pairwise (fun a b => ¬ ltK b.x.name a.x.name) ∧ EItem.In w' g cap qs ∧ (∀ B w0, B ≤ g → Below B w0 w → Below B w0 w') ∧ ∀ b, b < w.heap.size → b ≠ g → w'.heap[b]? = w.heap[b]?
theorem sortItems_any (g cap : Nat) (ps : List ItW) (w : World) (h : EItem.In w g cap ps) (hl : ps.length ≤ 10000000) :
  Calls Tryz.prog 82 #[.slice (some ⟨g, 0, none⟩) ps.length cap, .func (.func 83) #[] #[]] w (SortPost w g cap ps) := by
 have eg : ∀ args w, (callFunc 83 args).run Tryz.prog w = .ok (.enter 83 args) w := enters_of Tryz.func83 (by kernel_rfl) rfl
 obtain ⟨C, h1, _⟩ := id h
 have hcl : CmpLays Tryz.prog 83 #[] encT 2 icmp g 0 ps.toArray.size w := fun _ _ _ _ x y => itemsPut2_any x y _
 have hcon := AnyQ.slices_SortFunc Tryz.sortItem 2 Tryz.isAgg50 Tryz.sizeOf50 encT (fun _ => rfl) (fun x => EItem.one x) icmp swoI 83 #[] g 0 cap ps.toArray w eg hcl h.holds (lt_of_heap h1) (by simp; omega)
 change Calls Tryz.prog 82 _ _ _ at hcon
 refine hcon.mono fun _ _ ⟨he, d', n, os, hp, hs, hw⟩ => ⟨he, d'.toList, ?_, ?_, ?_, ?_, ?_⟩
 ·obtain ⟨p1, _, p3⟩ := hp
  have e1 : d'.extract 0 ps.toArray.size = d' := by rw [← p1]; exact Array.extract_size
  rw [e1, Array.extract_size] at p3
  exact p3
 ·obtain ⟨p1, _⟩ := hp
  rw [List.pairwise_iff_getElem]
  intro i j hi hj hij
  have hj2 : j < d'.size := by simpa using hj
  have := hs i j (Nat.zero_le _) hij (by omega)
  rw [ltOf_icmp, getElem!_pos d' j hj2, getElem!_pos d' i (by omega)] at this
  exact of_decide_eq_false this
 ·rw [hw]
  obtain ⟨p1, _⟩ := hp
  have := h.sorted d'.toList (by simpa using p1) n os
  rw [Array.toArray_toList] at this
  exact this
 ·rw [hw]; exact (heap_sorted h1 encT 2 n 0 d' os).2
 ·rw [hw]; exact fun b hb hg => heap_sorted_ot encT 2 n 0 d' os b hb hg

end Go.Proofs.YtfnfbcaoihhbpaaGreatDoor
