/- qty.greatest, Newest; items.Qty, Owner. -/
import Derived.Test.YtjlhdgmcaiiagaaGreatDoorIt6
namespace Go.Proofs.YtjlhdgmcaiiagaaGreatDoor
open Go.RowKit Go.Maps

def better (o x : MarkD) : MarkD := if 0 < mcmp x o then x else o
/-- The greatest one of m and l. -/
def greatM (m : MarkD) (l : List MarkD) : MarkD := l.foldl better m
theorem greatM_take (m : MarkD) (l : List MarkD) (k : Nat) (h : k < l.length) : greatM m (l.take (k + 1)) = better (greatM m (l.take k)) l[k] := by
  unfold greatM
  rw [List.take_succ_eq_append_getElem h, List.foldl_append]; rfl
set_option maxRecDepth 100000 in
set_option maxHeartbeats 8000000 in
theorem qtyGreatest_any (m0 : MarkD) (l : List MarkD) (v : Value) (w : World) (h : Arr MarkR 4 w v (m0 :: l)) : Calls Tryz.prog 95 #[v, .func (.func 96) #[] #[]] w fun e w' => e = .returned (markV (greatM m0 (m0 :: l))) ∧ Below w.heap.size w w' := by
  have eg : ∀ args w, (callFunc 96 args).run Tryz.prog w = .ok (.enter 96 args) w := enters_of Tryz.func96 (by kernel_rfl) rfl
  have hn := h.len
  obtain ⟨o, c, rfl, hel⟩ := h.markAt
  have HEL := Lib.hid hel
  obtain ⟨b, off, rfl, hbl, e0, e1, e2, e3, -⟩ := hel 0 (by simp)
  have hlz : (m0 :: l)[0] = m0 := rfl
  rw [hlz] at e0 e1 e2 e3
  simp only [Nat.zero_mul, Nat.add_zero] at e0 e1 e2 e3
  have HC := Lib.hid (fun a b wz => qtyCompare_any a b wz)
  have hpos : (0 : Int) < ((m0 :: l).length : Int) := by rw [List.length_cons]; omega
  have HG0 : Hid (greatM m0 ((m0 :: l).take 0) = m0) := Lib.hid rfl
  obtain ⟨W1, hW1⟩ : ∃ W1, W1 = ((w.alloc (.cells #[.int .i64 0, .int .i64 0, .int .i64 0, .int .u64 0] 62)).alloc (.cells #[.int .i64 m0.dot.rep, .int .i64 m0.dot.ctr, .int .i64 m0.qty, .int .u64 m0.time] 62)) := ⟨_, rfl⟩
  have hb1 : Below w.heap.size w W1 := by rw [hW1]; exact ((Below.refl _ _).alloc (Nat.le_refl _) _).alloc (by simp) _
  have hg0 : W1.heap[w.heap.size]? = some (.cells #[.int .i64 0, .int .i64 0, .int .i64 0, .int .u64 0] 62) := by rw [hW1, alloc_old _ _ (by simp)]; exact alloc_new _ _
  have hg1 : W1.heap[w.heap.size + 1]? = some (.cells #[.int .i64 m0.dot.rep, .int .i64 m0.dot.ctr, .int .i64 m0.qty, .int .u64 m0.time] 62) := by
    rw [hW1]
    have := alloc_new (w.alloc (.cells #[.int .i64 0, .int .i64 0, .int .i64 0, .int .u64 0] 62)) (.cells #[.int .i64 m0.dot.rep, .int .i64 m0.dot.ctr, .int .i64 m0.qty, .int .u64 m0.time] 62)
    simpa only [alloc_size] using this
  have HW := Lib.hid hW1
  have HB1 := Lib.hid hb1
  have HGA := Lib.hid (And.intro hg0 hg1)
  clear hW1 hb1 hg0 hg1 h hlz hel
  unfold markV at *
  generalize hL : m0 :: l = L at *
  clear hL
  go_enter Tryz.func95, Tryz.ntmps95
  go_wp2_with fail
  rw [← HW.out]
  go_loopw [13] (fun i wr => ∃ k : Nat, k ≤ L.length ∧ i = .int .i64 k ∧ wr.heap[w.heap.size]? = some (.cells #[.int .i64 0, .int .i64 0, .int .i64 0, .int .u64 0] 62) ∧ wr.heap[w.heap.size + 1]? = some (.cells #[.int .i64 (greatM m0 (L.take k)).dot.rep, .int .i64 (greatM m0 (L.take k)).dot.ctr, .int .i64 (greatM m0 (L.take k)).qty, .int .u64 (greatM m0 (L.take k)).time] 62) ∧ Below w.heap.size w wr) (fun i _ => L.length - (intOf i).toNat)
  case atStart => exact ⟨0, Nat.zero_le _, rfl, HGA.out.1, by rw [HG0.out]; exact HGA.out.2, HB1.out⟩
  case round =>
    obtain ⟨k, hk, rfl, hz, hg, hB⟩ := hrel
    have HB := Lib.hid hB
    have HZ := Lib.hid hz
    have HG := Lib.hid hg
    have hgl := lt_of_heap hg
    clear hB
    by_cases hlt : k < L.length
    · obtain ⟨b', off', he, hbl', x0, x1, x2, x3, -⟩ := HEL.out k hlt
      cases he
      have c0 : wr.cell? ⟨b, off + k * 4, none⟩ = some (.int .i64 L[k].dot.rep) := by rw [HB.out.cell (p := ⟨_, _, _⟩) hbl]; exact x0
      have c1 : wr.cell? ⟨b, off + k * 4 + 1, none⟩ = some (.int .i64 L[k].dot.ctr) := by rw [HB.out.cell (p := ⟨_, _, _⟩) hbl]; exact x1
      have c2 : wr.cell? ⟨b, off + k * 4 + 2, none⟩ = some (.int .i64 L[k].qty) := by rw [HB.out.cell (p := ⟨_, _, _⟩) hbl]; exact x2
      have c3 : wr.cell? ⟨b, off + k * 4 + 3, none⟩ = some (.int .u64 L[k].time) := by rw [HB.out.cell (p := ⟨_, _, _⟩) hbl]; exact x3
      have d0 : wr.cell? ⟨w.heap.size + 1, 0, none⟩ = some (.int .i64 (greatM m0 (L.take k)).dot.rep) := by rw [cell0 hg 0]; rfl
      have d1 : wr.cell? ⟨w.heap.size + 1, 1, none⟩ = some (.int .i64 (greatM m0 (L.take k)).dot.ctr) := by rw [cell0 hg 1]; rfl
      have d2 : wr.cell? ⟨w.heap.size + 1, 2, none⟩ = some (.int .i64 (greatM m0 (L.take k)).qty) := by rw [cell0 hg 2]; rfl
      have d3 : wr.cell? ⟨w.heap.size + 1, 3, none⟩ = some (.int .u64 (greatM m0 (L.take k)).time) := by rw [cell0 hg 3]; rfl
      have HT := Lib.hid (greatM_take m0 L k hlt)
      generalize greatM m0 (L.take k) = a at *
      generalize L[k] = x at *
      have HCX := Lib.hid (HC.out x a)
      have hb2 : Below wr.heap.size wr (wr.alloc (.cells #[.int .i64 x.dot.rep, .int .i64 x.dot.ctr, .int .i64 x.qty, .int .u64 x.time] 62)) := (Below.refl _ _).alloc (Nat.le_refl _) _
      have HA2 := Lib.hid hb2
      have hn2 : (wr.alloc (.cells #[.int .i64 x.dot.rep, .int .i64 x.dot.ctr, .int .i64 x.qty, .int .u64 x.time] 62)).heap[wr.heap.size]? = some (.cells #[.int .i64 x.dot.rep, .int .i64 x.dot.ctr, .int .i64 x.qty, .int .u64 x.time] 62) := alloc_new _ _
      have HN2 := Lib.hid hn2
      have a0 : (0 : Int) ≤ k := by omega
      have a1 : (k : Int) < L.length := by omega
      have hkw : IntKind.i64.wrap ((k : Int) + 1) = (k : Int) + 1 := by rw [IntKind.wrap_i64]; omega
      clear x0 x1 x2 x3 hz hg hb2 hn2 HC
      obtain ⟨r, hr⟩ : ∃ r, r = mcmp x a := ⟨_, rfl⟩
      have HBT : Hid (better a x = if 0 < r then x else a) := Lib.hid (by unfold better; rw [hr])
      rw [← hr] at HCX
      clear hr
      by_cases hr : 0 < r
      · have t1 : decide (0 < r) = true := decide_eq_true hr
        have HF := Lib.hid (HT.out.trans (HBT.out.trans (if_pos hr)))
        clear hr HT HBT
        go_wp2_with (go_at_fn 96; refine (HCX.out _).mono ?_; rintro e w2 ⟨rfl, hb3⟩; have hb4 := HA2.out.trans (hb3.mono HA2.out.size); have hx2 : w2.heap[wr.heap.size]? = some (.cells #[.int .i64 x.dot.rep, .int .i64 x.dot.ctr, .int .i64 x.qty, .int .u64 x.time] 62) := (by rw [hb3.block _ (by simp)]; exact HN2.out); have hg2 : w2.heap[w.heap.size + 1]? = some (.cells #[.int .i64 a.dot.rep, .int .i64 a.dot.ctr, .int .i64 a.qty, .int .u64 a.time] 62) := (by rw [hb4.block _ hgl]; exact HG.out); have p0 : w2.cell? ⟨wr.heap.size, 0, none⟩ = some (.int .i64 x.dot.rep) := (by rw [cell0 hx2 0]; rfl); have p1 : w2.cell? ⟨wr.heap.size, 1, none⟩ = some (.int .i64 x.dot.ctr) := (by rw [cell0 hx2 1]; rfl); have p2 : w2.cell? ⟨wr.heap.size, 2, none⟩ = some (.int .i64 x.qty) := (by rw [cell0 hx2 2]; rfl); have p3 : w2.cell? ⟨wr.heap.size, 3, none⟩ = some (.int .u64 x.time) := (by rw [cell0 hx2 3]; rfl); have q0 : w2.cell? ⟨w.heap.size + 1, 0, none⟩ = some (.int .i64 a.dot.rep) := (by rw [cell0 hg2 0]; rfl); have f0 : w2.frozen? ⟨w.heap.size + 1, 0, none⟩ = false := froz0 hg2 0; have q1 : w2.cell? ⟨w.heap.size + 1, 1, none⟩ = some (.int .i64 a.dot.ctr) := (by rw [cell0 hg2 1]; rfl); have f1 : w2.frozen? ⟨w.heap.size + 1, 1, none⟩ = false := froz0 hg2 1; have q2 : w2.cell? ⟨w.heap.size + 1, 2, none⟩ = some (.int .i64 a.qty) := (by rw [cell0 hg2 2]; rfl); have f2 : w2.frozen? ⟨w.heap.size + 1, 2, none⟩ = false := froz0 hg2 2; have q3 : w2.cell? ⟨w.heap.size + 1, 3, none⟩ = some (.int .u64 a.time) := (by rw [cell0 hg2 3]; rfl); have f3 : w2.frozen? ⟨w.heap.size + 1, 3, none⟩ = false := froz0 hg2 3)
        have hz2 : w2.heap[w.heap.size]? = some (.cells #[.int .i64 0, .int .i64 0, .int .i64 0, .int .u64 0] 62) := by rw [hb4.block _ (Nat.lt_trans (Nat.lt_succ_self _) hgl)]; exact HZ.out
        have hbf := HB.out.trans (hb4.mono HB.out.size)
        go_roundw
        case rel => exact ⟨k + 1, by omega, by go_num, by simp only [setCell_other (show w.heap.size ≠ w.heap.size + 1 by omega)]; exact hz2, by rw [HF.out]; exact setCell_same (setCell_same (setCell_same (setCell_same hg2 _ _) _ _) _ _) _ _, (((hbf.setCell (Nat.le_succ _) _).setCell (Nat.le_succ _) _).setCell (Nat.le_succ _) _).setCell (Nat.le_succ _) _⟩
        case measure => simp [intOf]; omega
      · have t1 : decide (0 < r) = false := decide_eq_false hr
        have HF := Lib.hid (HT.out.trans (HBT.out.trans (if_neg hr)))
        clear hr HT HBT
        go_wp2_with (go_at_fn 96; refine (HCX.out _).mono ?_; rintro e w2 ⟨rfl, hb3⟩; have hb4 := HA2.out.trans (hb3.mono HA2.out.size))
        have hg2 : w2.heap[w.heap.size + 1]? = some (.cells #[.int .i64 a.dot.rep, .int .i64 a.dot.ctr, .int .i64 a.qty, .int .u64 a.time] 62) := by rw [hb4.block _ hgl]; exact HG.out
        have hz2 : w2.heap[w.heap.size]? = some (.cells #[.int .i64 0, .int .i64 0, .int .i64 0, .int .u64 0] 62) := by rw [hb4.block _ (Nat.lt_trans (Nat.lt_succ_self _) hgl)]; exact HZ.out
        have hbf := HB.out.trans (hb4.mono HB.out.size)
        go_roundw
        case rel => exact ⟨k + 1, by omega, by go_num, hz2, by rw [HF.out]; exact hg2, hbf⟩
        case measure => simp [intOf]; omega
    · have hke : k = L.length := by omega
      rw [hke, List.take_length] at hg
      clear HG
      have d0 : wr.cell? ⟨w.heap.size + 1, 0, none⟩ = some (.int .i64 (greatM m0 L).dot.rep) := by rw [cell0 hg 0]; rfl
      have d1 : wr.cell? ⟨w.heap.size + 1, 1, none⟩ = some (.int .i64 (greatM m0 L).dot.ctr) := by rw [cell0 hg 1]; rfl
      have d2 : wr.cell? ⟨w.heap.size + 1, 2, none⟩ = some (.int .i64 (greatM m0 L).qty) := by rw [cell0 hg 2]; rfl
      have d3 : wr.cell? ⟨w.heap.size + 1, 3, none⟩ = some (.int .u64 (greatM m0 L).time) := by rw [cell0 hg 3]; rfl
      have z0 : wr.cell? ⟨w.heap.size, 0, none⟩ = some (.int .i64 0) := by rw [cell0 hz 0]; rfl
      have f0 : wr.frozen? ⟨w.heap.size, 0, none⟩ = false := froz0 hz 0
      have z1 : wr.cell? ⟨w.heap.size, 1, none⟩ = some (.int .i64 0) := by rw [cell0 hz 1]; rfl
      have f1 : wr.frozen? ⟨w.heap.size, 1, none⟩ = false := froz0 hz 1
      have z2 : wr.cell? ⟨w.heap.size, 2, none⟩ = some (.int .i64 0) := by rw [cell0 hz 2]; rfl
      have f2 : wr.frozen? ⟨w.heap.size, 2, none⟩ = false := froz0 hz 2
      have z3 : wr.cell? ⟨w.heap.size, 3, none⟩ = some (.int .u64 0) := by rw [cell0 hz 3]; rfl
      have f3 : wr.frozen? ⟨w.heap.size, 3, none⟩ = false := froz0 hz 3
      clear hz hg
      go_wp2_with fail
      (try simp only [Exit.inBlock, Exit.then])
      refine bodyPost_ret (v := .agg #[.int .i64 (greatM m0 L).dot.rep, .int .i64 (greatM m0 L).dot.ctr, .int .i64 (greatM m0 L).qty, .int .u64 (greatM m0 L).time]) ?_ rfl ⟨rfl, (((HB.out.setCell (Nat.le_refl _) _).setCell (Nat.le_refl _) _).setCell (Nat.le_refl _) _).setCell (Nat.le_refl _) _⟩
      rw [results_cell_one rfl]
      go_simp
set_option maxRecDepth 100000 in
theorem qtyInvalid_any (m : MarkD) (w : World) : Calls Tryz.prog 94 #[markV m] w fun e w' => e = .returned (.bool (!validMarkD m)) ∧ Below w.heap.size w w' := by
  have HV := Lib.hid (fun wz => qtyValidMark_any m wz)
  obtain ⟨r, hr⟩ : ∃ r, r = validMarkD m := ⟨_, rfl⟩
  rw [← hr] at HV ⊢
  clear hr
  unfold markV at *
  go_enter Tryz.func94, Tryz.ntmps94
  go_wp2_with fail
  refine (HV.out _).mono ?_
  rintro e w1 ⟨rfl, hb1⟩
  go_wp2_with fail
  go_ret
  exact ⟨rfl, ((Below.refl _ _).alloc (Nat.le_refl _) _).trans (hb1.mono (by simp))⟩
/-- The newest mark of a list that has one. -/
def newestM : List MarkD → MarkD
  | [] => ⟨⟨0, 0⟩, 0, 0⟩
  | a :: l => greatM a (a :: l)
def newestE (l : List MarkD) : Int := if l.all validMarkD then (if l = [] then 9 else 0) else 2
def newestV (l : List MarkD) : MarkD := if l.all validMarkD then newestM l else ⟨⟨0, 0⟩, 0, 0⟩
set_option maxRecDepth 100000 in
set_option maxHeartbeats 4000000 in
theorem qtyNewest_any (l : List MarkD) (v : Value) (w : World) (h : Arr MarkR 4 w v l) : Calls Tryz.prog 73 #[v] w fun e w' => e = .returned (.tuple #[markV (newestV l), .int .i64 (newestE l)]) ∧ Below w.heap.size w w' := by
  have eg : ∀ args w, (callFunc 94 args).run Tryz.prog w = .ok (.enter 94 args) w := enters_of Tryz.func94 (by kernel_rfl) rfl
  have hn := h.len
  obtain ⟨W1, hW1⟩ : ∃ W1, W1 = w.alloc (.cells #[.int .i64 0, .int .i64 0, .int .i64 0, .int .u64 0] 62) := ⟨_, rfl⟩
  have hb1 : Below w.heap.size w W1 := by rw [hW1]; exact (Below.refl _ _).alloc (Nat.le_refl _) _
  have hg1 : W1.heap[w.heap.size]? = some (.cells #[.int .i64 0, .int .i64 0, .int .i64 0, .int .u64 0] 62) := by rw [hW1]; exact alloc_new _ _
  have hgl1 := lt_of_heap hg1
  have HI := Lib.hid (containsMark_any (fun m => !validMarkD m) 94 eg qtyInvalid_any l v W1 (h.marks hb1))
  have HALL : Hid (l.any (fun m => !validMarkD m) = !(l.all validMarkD)) := Lib.hid (by rw [List.not_all_eq_any_not])
  have HA := Lib.hid h
  have HG1 := Lib.hid hg1
  have HB1 := Lib.hid hb1
  have HW := Lib.hid hW1
  obtain ⟨o, c, rfl, -⟩ := id h
  rw [HALL.out] at HI
  clear hg1 hb1 hW1 h HALL
  have HV : Hid (newestV l = if l.all validMarkD then newestM l else ⟨⟨0, 0⟩, 0, 0⟩) := Lib.hid rfl
  have HE : Hid (newestE l = if l.all validMarkD then (if l = [] then 9 else 0) else 2) := Lib.hid rfl
  obtain ⟨r, hr⟩ : ∃ r, r = l.all validMarkD := ⟨_, rfl⟩
  rw [← hr] at HI HV HE
  clear hr
  unfold markV at *
  generalize newestV l = nv at *
  generalize newestE l = ne at *
  go_enter Tryz.func73, Tryz.ntmps73
  go_wp2_with fail
  rw [← HW.out]
  refine HI.out.mono ?_
  rintro e w2 ⟨rfl, hb2⟩
  have hg2 : w2.heap[w.heap.size]? = some (.cells #[.int .i64 0, .int .i64 0, .int .i64 0, .int .u64 0] 62) := by rw [hb2.block _ hgl1]; exact HG1.out
  have z0 : w2.cell? ⟨w.heap.size, 0, none⟩ = some (.int .i64 0) := by rw [cell0 hg2 0]; rfl
  have f0 : w2.frozen? ⟨w.heap.size, 0, none⟩ = false := froz0 hg2 0
  have z1 : w2.cell? ⟨w.heap.size, 1, none⟩ = some (.int .i64 0) := by rw [cell0 hg2 1]; rfl
  have f1 : w2.frozen? ⟨w.heap.size, 1, none⟩ = false := froz0 hg2 1
  have z2 : w2.cell? ⟨w.heap.size, 2, none⟩ = some (.int .i64 0) := by rw [cell0 hg2 2]; rfl
  have f2 : w2.frozen? ⟨w.heap.size, 2, none⟩ = false := froz0 hg2 2
  have z3 : w2.cell? ⟨w.heap.size, 3, none⟩ = some (.int .u64 0) := by rw [cell0 hg2 3]; rfl
  have f3 : w2.frozen? ⟨w.heap.size, 3, none⟩ = false := froz0 hg2 3
  have hgl2 : w.heap.size < w2.heap.size := lt_of_heap hg2
  have HB2 := Lib.hid (HB1.out.trans (hb2.mono HB1.out.size))
  have HG2 := Lib.hid hg2
  clear hg2 hb2 HI HG1
  cases r with
  | false =>
    have h1 : nv = ⟨⟨0, 0⟩, 0, 0⟩ := HV.out
    have h2 : ne = 2 := HE.out
    subst h1 h2
    clear HV HE
    go_wp2_with fail
    (try simp only [Exit.inBlock, Exit.then])
    refine bodyPost_ret (v := .tuple #[.agg #[.int .i64 0, .int .i64 0, .int .i64 0, .int .u64 0], .int .i64 2]) ?_ rfl ⟨rfl, (((HB2.out.setCell (Nat.le_refl _) _).setCell (Nat.le_refl _) _).setCell (Nat.le_refl _) _).setCell (Nat.le_refl _) _⟩
    rw [results_cell_tmp rfl]
    go_simp
  | true =>
    cases l with
    | nil =>
      have h1 : nv = ⟨⟨0, 0⟩, 0, 0⟩ := HV.out
      have h2 : ne = 9 := HE.out
      subst h1 h2
      clear HV HE
      simp only [List.length_nil]
      go_wp2_with fail
      (try simp only [Exit.inBlock, Exit.then])
      refine bodyPost_ret (v := .tuple #[.agg #[.int .i64 0, .int .i64 0, .int .i64 0, .int .u64 0], .int .i64 9]) ?_ rfl ⟨rfl, (((HB2.out.setCell (Nat.le_refl _) _).setCell (Nat.le_refl _) _).setCell (Nat.le_refl _) _).setCell (Nat.le_refl _) _⟩
      rw [results_cell_tmp rfl]
      go_simp
    | cons m0 l =>
      have h1 : nv = greatM m0 (m0 :: l) := HV.out
      have h2 : ne = 0 := HE.out
      have HGR := Lib.hid (qtyGreatest_any m0 l _ w2 (HA.out.marks HB2.out))
      rw [← h1] at HGR
      subst h2
      have t0 : (((m0 :: l).length : Int) == 0) = false := by rw [List.length_cons]; simp; omega
      unfold markV at HGR
      clear HV HE h1 z0 z1 z2 z3 f0 f1 f2 f3
      generalize hL : m0 :: l = L at *
      clear hL
      go_wp2_with fail
      refine HGR.out.mono ?_
      rintro e w3 ⟨rfl, hb3⟩
      have hg3 : w3.heap[w.heap.size]? = some (.cells #[.int .i64 0, .int .i64 0, .int .i64 0, .int .u64 0] 62) := by rw [hb3.block _ hgl2]; exact HG2.out
      have z0 : w3.cell? ⟨w.heap.size, 0, none⟩ = some (.int .i64 0) := by rw [cell0 hg3 0]; rfl
      have f0 : w3.frozen? ⟨w.heap.size, 0, none⟩ = false := froz0 hg3 0
      have z1 : w3.cell? ⟨w.heap.size, 1, none⟩ = some (.int .i64 0) := by rw [cell0 hg3 1]; rfl
      have f1 : w3.frozen? ⟨w.heap.size, 1, none⟩ = false := froz0 hg3 1
      have z2 : w3.cell? ⟨w.heap.size, 2, none⟩ = some (.int .i64 0) := by rw [cell0 hg3 2]; rfl
      have f2 : w3.frozen? ⟨w.heap.size, 2, none⟩ = false := froz0 hg3 2
      have z3 : w3.cell? ⟨w.heap.size, 3, none⟩ = some (.int .u64 0) := by rw [cell0 hg3 3]; rfl
      have f3 : w3.frozen? ⟨w.heap.size, 3, none⟩ = false := froz0 hg3 3
      have HB3 := Lib.hid (HB2.out.trans (hb3.mono HB2.out.size))
      clear hb3 hg3
      go_wp2_with fail
      (try simp only [Exit.inBlock, Exit.then])
      refine bodyPost_ret (v := .tuple #[.agg #[.int .i64 nv.dot.rep, .int .i64 nv.dot.ctr, .int .i64 nv.qty, .int .u64 nv.time], .int .i64 0]) ?_ rfl ⟨rfl, (((HB3.out.setCell (Nat.le_refl _) _).setCell (Nat.le_refl _) _).setCell (Nat.le_refl _) _).setCell (Nat.le_refl _) _⟩
      rw [results_cell_tmp rfl]
      go_simp
end Go.Proofs.YtjlhdgmcaiiagaaGreatDoor

