/- The reference's joined. -/
import Derived.Test.YtemfaojmelljpaaGreatDoorR3b
set_option linter.unusedSimpArgs false
set_option linter.unusedVariables false
set_option maxRecDepth 100000
set_option maxHeartbeats 8000000
namespace Go.Proofs.YtemfaojmelljpaaGreatDoor
open Go.RowKit Go.Maps

def set4 (w : World) (b : Nat) (x0 x1 x2 x3 : Value) : World := (((w.setCell ⟨b, 0, none⟩ x0).setCell ⟨b, 1, none⟩ x1).setCell ⟨b, 2, none⟩ x2).setCell ⟨b, 3, none⟩ x3
theorem set4_same {w : World} {b : Nat} {y0 y1 y2 y3 : Value} (x0 x1 x2 x3 : Value) {T : TypeId} (h : w.heap[b]? = some (.cells #[y0, y1, y2, y3] T)) : (set4 w b x0 x1 x2 x3).heap[b]? = some (.cells #[x0, x1, x2, x3] T) := by
 unfold set4;rw [setCell_same (setCell_same (setCell_same (setCell_same h 0 x0) 1 x1) 2 x2) 3 x3]
 rfl
theorem set4_below {w0 w : World} {n b : Nat} (x0 x1 x2 x3 : Value) (h : Below n w0 w) (hb : n ≤ b) : Below n w0 (set4 w b x0 x1 x2 x3) :=
 (((h.setCell (p := ⟨b, 0, none⟩) hb _).setCell (p := ⟨b, 1, none⟩) hb _).setCell (p := ⟨b, 2, none⟩) hb _).setCell (p := ⟨b, 3, none⟩) hb _
def markRV : Option MarkD → Value
 | none => .tuple #[.agg #[.int .i64 0, .int .i64 0, .int .i64 0, .int .u64 0], .bool false]
 | some m => .tuple #[.agg #[.int .i64 m.dot.rep, .int .i64 m.dot.ctr, .int .i64 m.qty, .int .u64 m.time], .bool true]
theorem r11mark_any (c : CartD) (nm : ByteArray) (d : DotD) (x1 x2 x3 : Value) (w : World) (h : CartA w x1 x2 x3 c) : Calls Tryz.prog 49 #[.agg #[x1, x2, x3], .string nm, dotV d] w fun e w' => e = .returned (markRV (markAt c.items nm d)) ∧ Below w.heap.size w w' := by
 obtain ⟨h1, h2, h3⟩ := h;have hln := h3.len;have HI0 := Hd h3;obtain ⟨o3, k3, rfl, hel⟩ := h3.itemAt;have HEL := Hd hel;clear hel;obtain ⟨o1, k1, rfl⟩ := h1.slice;obtain ⟨o2, k2, rfl⟩ := h2.slice;obtain ⟨n1, hn1⟩ : ∃ n, n = c.vec.length := ⟨_, rfl⟩;obtain ⟨n2, hn2⟩ : ∃ n, n = c.cloud.length := ⟨_, rfl⟩;obtain ⟨n3, hn3⟩ : ∃ n, n = c.items.length := ⟨_, rfl⟩;rw [← hn3] at HI0 hln;rw [← hn1, ← hn2, ← hn3];clear h1 h2 h3 hn1 hn2;obtain ⟨W2, HW, HB, HS, HK0, HK1, HK2⟩ := box3 w #[.slice o1 n1 k1, .slice o2 n2 k2, .slice o3 n3 k3] 28 #[.int .i64 d.rep, .int .i64 d.ctr] 51 #[.int .i64 0, .int .i64 0, .int .i64 0, .int .u64 0] 54;have HC := Hd (fun wz (hz : Below W2.heap.size W2 wz) => And.intro (cel3 (HK0.out wz hz)) (And.intro (cel2 (HK1.out wz hz)) (cel4 (HK2.out wz hz))))
 have hbb2 := HB.out;have HN3 := Hd hn3;have HFI := Hd (r9Find_any nm c.items _ W2 (HI0.out.items hbb2));have HBW := Hd HB.out;have HEQ := Hd (fun x y wz => eqDot x y wz)
 have hsz := HS.out;clear hbb2 hn3;obtain ⟨⟨c0, c1, c2⟩, ⟨d0, d1⟩, ⟨m0, m1, m2, m3⟩⟩ := HC.out W2 brf;unfold dotV
 go_enter Tryz.func49, Tryz.ntmps49
 go_wp2_with fail
 rw [← HW.out]
 go_wp2_with fail
 refine HFI.out.mono ?_;rintro e w2 ⟨i, rfl, hix, hb2⟩;have HB2 := Hd hb2;have hz2 := HK2.out w2 hb2;clear hb2 c0 c1 c2 d0 d1 m0 m1 m2 m3 HFI;obtain ⟨⟨c0, c1, c2⟩, ⟨d0, d1⟩, ⟨m0, m1, m2, m3⟩⟩ := HC.out w2 HB2.out
 rcases hix with ⟨rfl, hno⟩ | ⟨k, hk, rfl, hpk, htk⟩
 ·have HF : Hid (markAt c.items nm d = none) := Hd (by
   unfold markAt marksOf findX;rw [find_none _ _ hno]; rfl)
  have f0 := froz0 hz2 0;have f1 := froz0 hz2 1;have f2 := froz0 hz2 2;have f3 := froz0 hz2 3;have HZ2 := Hd hz2;have HBF := Hd (HBW.out.trans (HB2.out.mono HBW.out.size));clear hno hz2
  go_wp2_with fail
  obtain ⟨W9, hW9⟩ : ∃ x, x = set4 w2 (w.heap.size + 1 + 1) (.int .i64 0) (.int .i64 0) (.int .i64 0) (.int .u64 0) := ⟨_, rfl⟩;have y9 : W9.heap[w.heap.size + 1 + 1]? = some (.cells #[.int .i64 0, .int .i64 0, .int .i64 0, .int .u64 0] 54) := by rw [hW9]; exact set4_same _ _ _ _ HZ2.out
  have hbf9 : Below w.heap.size w W9 := by rw [hW9]; exact set4_below _ _ _ _ HBF.out (by omega)
  have y0 : W9.cell? ⟨w.heap.size + 1 + 1, 0, none⟩ = some (.int .i64 0) := cl0 y9 0 rfl;have y1 : W9.cell? ⟨w.heap.size + 1 + 1, 1, none⟩ = some (.int .i64 0) := cl0 y9 1 rfl;have y2 : W9.cell? ⟨w.heap.size + 1 + 1, 2, none⟩ = some (.int .i64 0) := cl0 y9 2 rfl;have y3 : W9.cell? ⟨w.heap.size + 1 + 1, 3, none⟩ = some (.int .u64 0) := cl0 y9 3 rfl
  (try simp only [Exit.inBlock, Exit.then])
  change bodyPost _ _ _ _ _ (set4 w2 (w.heap.size + 1 + 1) (.int .i64 0) (.int .i64 0) (.int .i64 0) (.int .u64 0));rw [← hW9];clear hW9 y9;refine bodyPost_ret (v := .tuple #[.agg #[.int .i64 0, .int .i64 0, .int .i64 0, .int .u64 0], .bool false]) ?_ rfl ⟨by rw [HF.out]; rfl, hbf9⟩
  rw [results_cell_tmp rfl];go_simp
 ·obtain ⟨b, off, mv, rfl, hbl, -, e1, -, hm⟩ := HEL.out k hk
  have hmn := hm.len;obtain ⟨mo, mc, rfl, hmel⟩ := hm.markAt;have HF0 : Hid (markAt c.items nm d = c.items[k].marks.find? (fun m => decide (m.dot = d))) := Hd (by
   unfold markAt marksOf findX;rw [find_at _ _ _ hk htk hpk]; rfl)
  have hb02 := HBW.out.trans (HB2.out.mono HBW.out.size);have e2 : w2.cell? ⟨b, off + k * 2 + 1, none⟩ = some (.slice mo c.items[k].marks.length mc) := by rw [hb02.cell (p := ⟨_, _, _⟩) hbl]; exact e1
  have hkn : k < n3 := by rw [HN3.out]; exact hk
  generalize c.items[k].marks = ms at *
  have HMEL := Hd hmel;have a0 : (0 : Int) ≤ k := by omega
  have a1 : (k : Int) < (n3 : Int) := by omega
  have t1 : ¬ ((k : Int) < 0) := by omega
  have hz2' := Hd hz2;clear hmel hm e1 hpk htk hz2
  go_wp2_with fail
  go_loopw [10] (fun i wr => ∃ j : Nat, j ≤ ms.length ∧ i = .int .i64 j ∧ (ms.take j).any (fun m => decide (m.dot = d)) = false ∧ Below W2.heap.size W2 wr) (fun i _ => ms.length - (intOf i).toNat)
  case atStart => exact ⟨0, Nat.zero_le _, rfl, rfl, HB2.out⟩
  case round =>
   obtain ⟨j, hj, rfl, hno, hB⟩ := hrel;have HNO := Hd hno;have HB := Hd hB;have hz3 := HK2.out wr hB;clear hno hB c0 c1 c2 d0 d1 m0 m1 m2 m3 e2;obtain ⟨⟨c0, c1, c2⟩, ⟨d0, d1⟩, ⟨m0, m1, m2, m3⟩⟩ := HC.out wr HB.out
   by_cases hlt : j < ms.length
   ·obtain ⟨b4, off4, rfl, hbl4, q0, q1, q2, q3, -⟩ := HMEL.out j hlt
    have hb0r := HBW.out.trans (HB.out.mono HBW.out.size);have s0 : wr.cell? ⟨b4, off4 + j * 4, none⟩ = some (.int .i64 ms[j].dot.rep) := by rw [hb0r.cell (p := ⟨_, _, _⟩) hbl4]; exact q0
    have s1' : wr.cell? ⟨b4, off4 + j * 4 + 1, none⟩ = some (.int .i64 ms[j].dot.ctr) := by rw [hb0r.cell (p := ⟨_, _, _⟩) hbl4]; exact q1
    have s2' : wr.cell? ⟨b4, off4 + j * 4 + 2, none⟩ = some (.int .i64 ms[j].qty) := by rw [hb0r.cell (p := ⟨_, _, _⟩) hbl4]; exact q2
    have s3' : wr.cell? ⟨b4, off4 + j * 4 + 3, none⟩ = some (.int .u64 ms[j].time) := by rw [hb0r.cell (p := ⟨_, _, _⟩) hbl4]; exact q3
    have HS1 := Hd (any_take_snoc (fun m : MarkD => decide (m.dot = d)) ms j hlt)
    have HFD : Hid (ms[j].dot = d → ms.find? (fun m => decide (m.dot = d)) = some ms[j]) := Hd (fun h => find_at _ _ _ hlt HNO.out (decide_eq_true h))
    generalize ms[j] = m at *
    have heq : ∀ wz : World, Sem.run Tryz.prog (binOp .eql 51 (.agg #[.int .i64 m.dot.rep, .int .i64 m.dot.ctr]) (.agg #[.int .i64 d.rep, .int .i64 d.ctr])) wz = .ok (.bool (decide (m.dot = d))) wz := fun wz => HEQ.out m.dot d wz
    have hgd : ∀ (op : BinOp) (a b : Operand) (wz : World), Sem.run Tryz.prog (eqGuard op 51 a b (.agg #[.int .i64 m.dot.rep, .int .i64 m.dot.ctr]) (.agg #[.int .i64 d.rep, .int .i64 d.ctr])) wz = .ok () wz := fun op a b wz => guardDot op a b m.dot d wz
    have i0 : (0 : Int) ≤ j := by omega
    have i1 : (j : Int) < ms.length := by omega
    have hkw := wr1 j (by omega)
    have HZ3 := Hd hz3;clear q0 q1 q2 q3 HW hz3
    by_cases hxy : m.dot = d
    ·have hd : decide (m.dot = d) = true := decide_eq_true hxy
     rw [hd] at heq;have HF : Hid (markAt c.items nm d = some m) := Hd (by rw [HF0.out]; exact HFD.out hxy)
     have f0 := froz0 HZ3.out 0;have f1 := froz0 HZ3.out 1;have f2 := froz0 HZ3.out 2;have f3 := froz0 HZ3.out 3;clear HFD HS1 HNO hxy hd
     go_upto_region 8 with fail
     go_quiet (fail)
     obtain ⟨wv, hwv⟩ : ∃ x, x = wr.drewN nq := ⟨_, rfl⟩;rw [← hwv];have hbv : Below wr.heap.size wr wv := by rw [hwv]; exact below_drewN _ brf
     have HBV := Hd (btr HB.out hbv);have hblr : b4 < wr.heap.size := Nat.lt_of_lt_of_le hbl4 hb0r.size;have p0 : wv.cell? ⟨b4, off4 + j * 4, none⟩ = some (.int .i64 m.dot.rep) := by rw [hbv.cell (p := ⟨_, _, _⟩) hblr]; exact s0
     have p1 : wv.cell? ⟨b4, off4 + j * 4 + 1, none⟩ = some (.int .i64 m.dot.ctr) := by rw [hbv.cell (p := ⟨_, _, _⟩) hblr]; exact s1'
     have p2 : wv.cell? ⟨b4, off4 + j * 4 + 2, none⟩ = some (.int .i64 m.qty) := by rw [hbv.cell (p := ⟨_, _, _⟩) hblr]; exact s2'
     have p3 : wv.cell? ⟨b4, off4 + j * 4 + 3, none⟩ = some (.int .u64 m.time) := by rw [hbv.cell (p := ⟨_, _, _⟩) hblr]; exact s3'
     have HZ4 := Hd (HK2.out wv HBV.out);clear c0 c1 c2 d0 d1 m0 m1 m2 m3 f0 f1 f2 f3 hwv hbv s0 s1' s2' s3';obtain ⟨-, -, ⟨m0, m1, m2, m3⟩⟩ := HC.out wv HBV.out;have f0 := froz0 HZ4.out 0;have f1 := froz0 HZ4.out 1;have f2 := froz0 HZ4.out 2;have f3 := froz0 HZ4.out 3;have HBF := Hd (HBW.out.trans (HBV.out.mono HBW.out.size))
     go_wp2_with fail
     obtain ⟨W9, hW9⟩ : ∃ x, x = set4 wv (w.heap.size + 1 + 1) (.int .i64 m.dot.rep) (.int .i64 m.dot.ctr) (.int .i64 m.qty) (.int .u64 m.time) := ⟨_, rfl⟩;have y9 : W9.heap[w.heap.size + 1 + 1]? = some (.cells #[.int .i64 m.dot.rep, .int .i64 m.dot.ctr, .int .i64 m.qty, .int .u64 m.time] 54) := by rw [hW9]; exact set4_same _ _ _ _ HZ4.out
     have hbf9 : Below w.heap.size w W9 := by rw [hW9]; exact set4_below _ _ _ _ HBF.out (by omega)
     have y0 : W9.cell? ⟨w.heap.size + 1 + 1, 0, none⟩ = some (.int .i64 m.dot.rep) := cl0 y9 0 rfl;have y1 : W9.cell? ⟨w.heap.size + 1 + 1, 1, none⟩ = some (.int .i64 m.dot.ctr) := cl0 y9 1 rfl;have y2 : W9.cell? ⟨w.heap.size + 1 + 1, 2, none⟩ = some (.int .i64 m.qty) := cl0 y9 2 rfl;have y3 : W9.cell? ⟨w.heap.size + 1 + 1, 3, none⟩ = some (.int .u64 m.time) := cl0 y9 3 rfl
     (try simp only [Exit.inBlock, Exit.then])
     change bodyPost _ _ _ _ _ (set4 wv (w.heap.size + 1 + 1) (.int .i64 m.dot.rep) (.int .i64 m.dot.ctr) (.int .i64 m.qty) (.int .u64 m.time));rw [← hW9];clear hW9 y9;refine bodyPost_ret (v := .tuple #[.agg #[.int .i64 m.dot.rep, .int .i64 m.dot.ctr, .int .i64 m.qty, .int .u64 m.time], .bool true]) ?_ rfl ⟨by rw [HF.out]; rfl, hbf9⟩
     rw [results_cell_tmp rfl];go_simp
    ·have hd : decide (m.dot = d) = false := decide_eq_false hxy
     rw [hd] at heq;have HF : Hid ((ms.take (j + 1)).any (fun m => decide (m.dot = d)) = false) := Hd (by rw [HS1.out, HNO.out, decide_eq_false hxy]; rfl)
     clear HFD HS1 HNO hxy hd
     go_upto_region 8 with fail
     go_quiet (fail)
     go_wp2_with fail
     go_roundw
     case rel => exact ⟨j + 1, by omega, by go_num, HF.out, below_drewN _ HB.out⟩
     case measure => simp [intOf]; omega
   ·have hje : j = ms.length := by omega
    have HF : Hid (markAt c.items nm d = none) := Hd (by
     have := HNO.out;rw [hje, List.take_length] at this;rw [HF0.out, find_none _ _ this])
    have f0 := froz0 hz3 0;have f1 := froz0 hz3 1;have f2 := froz0 hz3 2;have f3 := froz0 hz3 3;have HZ3 := Hd hz3;have HBF := Hd (HBW.out.trans (HB.out.mono HBW.out.size));have i1 : ¬ ((j : Int) < ms.length) := by omega
    clear HNO hz3
    go_wp2_with fail
    obtain ⟨W9, hW9⟩ : ∃ x, x = set4 wr (w.heap.size + 1 + 1) (.int .i64 0) (.int .i64 0) (.int .i64 0) (.int .u64 0) := ⟨_, rfl⟩;have y9 : W9.heap[w.heap.size + 1 + 1]? = some (.cells #[.int .i64 0, .int .i64 0, .int .i64 0, .int .u64 0] 54) := by rw [hW9]; exact set4_same _ _ _ _ HZ3.out
    have hbf9 : Below w.heap.size w W9 := by rw [hW9]; exact set4_below _ _ _ _ HBF.out (by omega)
    have y0 : W9.cell? ⟨w.heap.size + 1 + 1, 0, none⟩ = some (.int .i64 0) := cl0 y9 0 rfl;have y1 : W9.cell? ⟨w.heap.size + 1 + 1, 1, none⟩ = some (.int .i64 0) := cl0 y9 1 rfl;have y2 : W9.cell? ⟨w.heap.size + 1 + 1, 2, none⟩ = some (.int .i64 0) := cl0 y9 2 rfl;have y3 : W9.cell? ⟨w.heap.size + 1 + 1, 3, none⟩ = some (.int .u64 0) := cl0 y9 3 rfl
    (try simp only [Exit.inBlock, Exit.then])
    change bodyPost _ _ _ _ _ (set4 wr (w.heap.size + 1 + 1) (.int .i64 0) (.int .i64 0) (.int .i64 0) (.int .u64 0));rw [← hW9];clear hW9 y9;refine bodyPost_ret (v := .tuple #[.agg #[.int .i64 0, .int .i64 0, .int .i64 0, .int .u64 0], .bool false]) ?_ rfl ⟨by rw [HF.out]; rfl, hbf9⟩
    rw [results_cell_tmp rfl];go_simp
end Go.Proofs.YtemfaojmelljpaaGreatDoor
namespace Go.Proofs.YtemfaojmelljpaaGreatDoor
open Go.RowKit Go.Maps

theorem r11joined_ss (a b : CartD) (nm : ByteArray) (d : DotD) (x : MarkD) (y : MarkD) (x1 x2 x3 y1 y2 y3 : Value) (w : World) (h : CartA w x1 x2 x3 a) (g : CartA w y1 y2 y3 b) (hmx : markAt a.items nm d = some x) (hmy : markAt b.items nm d = some y) :
  Calls Tryz.prog 43 #[.agg #[x1, x2, x3], .agg #[y1, y2, y3], .string nm, dotV d] w fun e w' => e = .returned (markRV (joinedM a b nm d)) ∧ Below w.heap.size w w' := by
 have hj : joinedM a b nm d = if newerM y x then some y else some x := by
  unfold joinedM;rw [hmx, hmy]
 obtain ⟨o1, n1, k1, o2, n2, k2, o3, n3, k3, rfl, rfl, rfl, hn1, hn2, hn3⟩ := opn h;obtain ⟨o4, n4, k4, o5, n5, k5, o6, n6, k6, rfl, rfl, rfl, hn4, hn5, hn6⟩ := opn g;obtain ⟨W3, HW, HB, HS, HK0, HK1, HK2, HK3⟩ := box4 w #[.slice o1 n1 k1, .slice o2 n2 k2, .slice o3 n3 k3] 28 #[.slice o4 n4 k4, .slice o5 n5 k5, .slice o6 n6 k6] 28 #[.int .i64 d.rep, .int .i64 d.ctr] 51 #[.int .i64 0, .int .i64 0, .int .i64 0, .int .u64 0] 54;have HC := Hd (fun wz (hz : Below W3.heap.size W3 wz) => And.intro (cel3 (HK0.out wz hz)) (And.intro (cel3 (HK1.out wz hz)) (And.intro (cel2 (HK2.out wz hz)) (cel4 (HK3.out wz hz)))))
 have hbb3 := HB.out;have HA := Hd (h.below hbb3);have HG := Hd (g.below hbb3);have HM1 := Hd (r11mark_any a nm d _ _ _ W3 HA.out);rw [hmx] at HM1;have HM2 : Hid (∀ wz, Below W3.heap.size W3 wz → Calls Tryz.prog 49 #[.agg #[.slice o4 n4 k4, .slice o5 n5 k5, .slice o6 n6 k6], .string nm, dotV d] wz fun e w' => e = .returned (markRV (some y)) ∧ Below wz.heap.size wz w') := Hd (fun wz hz => by
  have := r11mark_any b nm d _ _ _ wz (HG.out.below hz);rw [hmy] at this;exact this)
 have HHa : Hid (∀ wz, Below W3.heap.size W3 wz → Calls Tryz.prog 61 #[.agg #[.slice o1 n1 k1, .slice o2 n2 k2], dotV d] wz fun e w' => e = .returned (.bool (hasC a d)) ∧ Below wz.heap.size wz w') := Hd (fun wz hz => r3Has_any a.vec a.cloud d _ _ wz (HA.out.below hz).1 (HA.out.below hz).2.1)
 have HHb : Hid (∀ wz, Below W3.heap.size W3 wz → Calls Tryz.prog 61 #[.agg #[.slice o4 n4 k4, .slice o5 n5 k5], dotV d] wz fun e w' => e = .returned (.bool (hasC b d)) ∧ Below wz.heap.size wz w') := Hd (fun wz hz => r3Has_any b.vec b.cloud d _ _ wz (HG.out.below hz).1 (HG.out.below hz).2.1)
 have HJ := Hd hj;have HBW := Hd HB.out;have hsz := HS.out;unfold dotV at HM1 HM2 HHa HHb ⊢;unfold markRV at HM1 HM2;clear hbb3 h g hj hmx hmy hn1 hn2 hn3 hn4 hn5 hn6;obtain ⟨⟨c0_0_0, c0_0_1, c0_0_2⟩, ⟨c0_1_0, c0_1_1, c0_1_2⟩, ⟨c0_2_0, c0_2_1⟩, ⟨c0_3_0, c0_3_1, c0_3_2, c0_3_3⟩⟩ := HC.out W3 brf
 go_enter Tryz.func43, Tryz.ntmps43
 go_wp2_with fail
 rw [← HW.out]
 go_wp2_with fail
 refine HM1.out.mono ?_;rintro e w5 ⟨rfl, hb5⟩;have HB5 := Hd hb5;clear hb5 c0_0_0 c0_0_1 c0_0_2 c0_1_0 c0_1_1 c0_1_2 c0_2_0 c0_2_1 c0_3_0 c0_3_1 c0_3_2 c0_3_3;obtain ⟨W6, hW6⟩ : ∃ wq, wq = w5.alloc (.cells #[.int .i64 x.dot.rep, .int .i64 x.dot.ctr, .int .i64 x.qty, .int .u64 x.time] 54) := ⟨_, rfl⟩;have hbb6 : Below w5.heap.size w5 W6 := by rw [hW6]; exact bal
 have hx6 : W6.heap[w5.heap.size]? = some (.cells #[.int .i64 x.dot.rep, .int .i64 x.dot.ctr, .int .i64 x.qty, .int .u64 x.time] 54) := by rw [hW6]; exact alloc_new _ _
 have HM6 := Hd (fun wz (hz : Below W6.heap.size W6 wz) => cel4 ((hz.block _ (lt_of_heap hx6)).trans hx6))
 have HBX6 := Hd (btr HB5.out hbb6);have HWX6 := Hd hW6;clear hbb6 hx6 hW6;obtain ⟨⟨c1_0_0, c1_0_1, c1_0_2⟩, ⟨c1_1_0, c1_1_1, c1_1_2⟩, ⟨c1_2_0, c1_2_1⟩, ⟨c1_3_0, c1_3_1, c1_3_2, c1_3_3⟩⟩ := HC.out w5 HB5.out;have hlw50 : w.heap.size < w5.heap.size := by have := HB5.out.size; omega
 have hlw51 : w.heap.size + 1 < w5.heap.size := by have := HB5.out.size; omega
 have hlw52 : w.heap.size + 1 + 1 < w5.heap.size := by have := HB5.out.size; omega
 have hlw53 : w.heap.size + 1 + 1 + 1 < w5.heap.size := by have := HB5.out.size; omega
 have HM2b := Hd (HM2.out W6 HBX6.out)
 go_wp2_with (go_at_call 49; go_loud (rw [← HWX6.out]))
 refine HM2b.out.mono ?_;rintro e w7 ⟨rfl, hb7⟩;have HB7 := Hd (btr HBX6.out hb7);have HD7 := Hd hb7;clear hb7 HM2b c1_0_0 c1_0_1 c1_0_2 c1_1_0 c1_1_1 c1_1_2 c1_2_0 c1_2_1 c1_3_0 c1_3_1 c1_3_2 c1_3_3;obtain ⟨W8, hW8⟩ : ∃ wq, wq = w7.alloc (.cells #[.int .i64 y.dot.rep, .int .i64 y.dot.ctr, .int .i64 y.qty, .int .u64 y.time] 54) := ⟨_, rfl⟩;have hbb8 : Below w7.heap.size w7 W8 := by rw [hW8]; exact bal
 have hx8 : W8.heap[w7.heap.size]? = some (.cells #[.int .i64 y.dot.rep, .int .i64 y.dot.ctr, .int .i64 y.qty, .int .u64 y.time] 54) := by rw [hW8]; exact alloc_new _ _
 have HM8 := Hd (fun wz (hz : Below W8.heap.size W8 wz) => cel4 ((hz.block _ (lt_of_heap hx8)).trans hx8))
 have HBX8 := Hd (btr HB7.out hbb8);have HWX8 := Hd hW8;clear hbb8 hx8 hW8;have HD8 : Hid (Below W6.heap.size W6 W8) := Hd (HD7.out.trans ((by rw [HWX8.out]; exact bal : Below w7.heap.size w7 W8).mono HD7.out.size))
 obtain ⟨⟨c2_0_0, c2_0_1, c2_0_2⟩, ⟨c2_1_0, c2_1_1, c2_1_2⟩, ⟨c2_2_0, c2_2_1⟩, ⟨c2_3_0, c2_3_1, c2_3_2, c2_3_3⟩⟩ := HC.out w7 HB7.out;have hlw70 : w.heap.size < w7.heap.size := by have := HB7.out.size; omega
 have hlw71 : w.heap.size + 1 < w7.heap.size := by have := HB7.out.size; omega
 have hlw72 : w.heap.size + 1 + 1 < w7.heap.size := by have := HB7.out.size; omega
 have hlw73 : w.heap.size + 1 + 1 + 1 < w7.heap.size := by have := HB7.out.size; omega
 obtain ⟨a0, a1, a2, a3⟩ := HM6.out w7 HD7.out;have hl76 : w5.heap.size < w7.heap.size := by have := HD7.out.size; rw [HWX6.out, alloc_size] at this; omega
 have HN := Hd (r8Newer_any y x W8);unfold markV at HN;obtain ⟨r, hr⟩ : ∃ r, r = newerM y x := ⟨_, rfl⟩;rw [← hr] at HN;have HJ2 : Hid (joinedM a b nm d = if r then some y else some x) := Hd (by rw [HJ.out, hr])
 clear hr HJ
 go_wp2_with (go_at_call 81; go_loud (rw [← HWX8.out]))
 refine HN.out.mono ?_;rintro e w9 ⟨rfl, hb9⟩;have HB9 := Hd (btr HBX8.out hb9);have HD9 := Hd (btr HD8.out hb9);have HE9 := Hd hb9;clear hb9 a0 a1 a2 a3 HN c2_0_0 c2_0_1 c2_0_2 c2_1_0 c2_1_1 c2_1_2 c2_2_0 c2_2_1 c2_3_0 c2_3_1 c2_3_2 c2_3_3;obtain ⟨⟨c3_0_0, c3_0_1, c3_0_2⟩, ⟨c3_1_0, c3_1_1, c3_1_2⟩, ⟨c3_2_0, c3_2_1⟩, ⟨c3_3_0, c3_3_1, c3_3_2, c3_3_3⟩⟩ := HC.out w9 HB9.out;obtain ⟨a0, a1, a2, a3⟩ := HM6.out w9 HD9.out;obtain ⟨b0, b1, b2, b3⟩ := HM8.out w9 HE9.out
 cases r with
 | true =>
  have HF : Hid (joinedM a b nm d = some y) := Hd (by rw [HJ2.out]; rfl)
  clear HJ2;have HZ := Hd (HK3.out w9 HB9.out);have f0 := froz0 HZ.out 0;have f1 := froz0 HZ.out 1;have f2 := froz0 HZ.out 2;have f3 := froz0 HZ.out 3;have HBF := Hd (HBW.out.trans (Below.mono HB9.out HBW.out.size))
  go_wp2_with fail
  obtain ⟨W9, hW9⟩ : ∃ wq, wq = set4 w9 (w.heap.size + 1 + 1 + 1) (.int .i64 y.dot.rep) (.int .i64 y.dot.ctr) (.int .i64 y.qty) (.int .u64 y.time) := ⟨_, rfl⟩;have y9 : W9.heap[w.heap.size + 1 + 1 + 1]? = some (.cells #[.int .i64 y.dot.rep, .int .i64 y.dot.ctr, .int .i64 y.qty, .int .u64 y.time] 54) := by rw [hW9]; exact set4_same _ _ _ _ HZ.out
  have hbf9 : Below w.heap.size w W9 := by rw [hW9]; exact set4_below _ _ _ _ HBF.out (by omega)
  have y0 : W9.cell? ⟨w.heap.size + 1 + 1 + 1, 0, none⟩ = some (.int .i64 y.dot.rep) := cl0 y9 0 rfl;have y1 : W9.cell? ⟨w.heap.size + 1 + 1 + 1, 1, none⟩ = some (.int .i64 y.dot.ctr) := cl0 y9 1 rfl;have y2 : W9.cell? ⟨w.heap.size + 1 + 1 + 1, 2, none⟩ = some (.int .i64 y.qty) := cl0 y9 2 rfl;have y3 : W9.cell? ⟨w.heap.size + 1 + 1 + 1, 3, none⟩ = some (.int .u64 y.time) := cl0 y9 3 rfl
  (try simp only [Exit.inBlock, Exit.then])
  change bodyPost _ _ _ _ _ (set4 w9 (w.heap.size + 1 + 1 + 1) (.int .i64 y.dot.rep) (.int .i64 y.dot.ctr) (.int .i64 y.qty) (.int .u64 y.time));rw [← hW9];clear hW9 y9;refine bodyPost_ret (v := .tuple #[.agg #[.int .i64 y.dot.rep, .int .i64 y.dot.ctr, .int .i64 y.qty, .int .u64 y.time], .bool true]) ?_ rfl ⟨by rw [HF.out]; rfl, hbf9⟩
  rw [results_cell_tmp rfl];go_simp
 | false =>
  have HF : Hid (joinedM a b nm d = some x) := Hd (by rw [HJ2.out]; rfl)
  clear HJ2;have HZ := Hd (HK3.out w9 HB9.out);have f0 := froz0 HZ.out 0;have f1 := froz0 HZ.out 1;have f2 := froz0 HZ.out 2;have f3 := froz0 HZ.out 3;have HBF := Hd (HBW.out.trans (Below.mono HB9.out HBW.out.size))
  go_wp2_with fail
  obtain ⟨W9, hW9⟩ : ∃ wq, wq = set4 w9 (w.heap.size + 1 + 1 + 1) (.int .i64 x.dot.rep) (.int .i64 x.dot.ctr) (.int .i64 x.qty) (.int .u64 x.time) := ⟨_, rfl⟩;have y9 : W9.heap[w.heap.size + 1 + 1 + 1]? = some (.cells #[.int .i64 x.dot.rep, .int .i64 x.dot.ctr, .int .i64 x.qty, .int .u64 x.time] 54) := by rw [hW9]; exact set4_same _ _ _ _ HZ.out
  have hbf9 : Below w.heap.size w W9 := by rw [hW9]; exact set4_below _ _ _ _ HBF.out (by omega)
  have y0 : W9.cell? ⟨w.heap.size + 1 + 1 + 1, 0, none⟩ = some (.int .i64 x.dot.rep) := cl0 y9 0 rfl;have y1 : W9.cell? ⟨w.heap.size + 1 + 1 + 1, 1, none⟩ = some (.int .i64 x.dot.ctr) := cl0 y9 1 rfl;have y2 : W9.cell? ⟨w.heap.size + 1 + 1 + 1, 2, none⟩ = some (.int .i64 x.qty) := cl0 y9 2 rfl;have y3 : W9.cell? ⟨w.heap.size + 1 + 1 + 1, 3, none⟩ = some (.int .u64 x.time) := cl0 y9 3 rfl
  (try simp only [Exit.inBlock, Exit.then])
  change bodyPost _ _ _ _ _ (set4 w9 (w.heap.size + 1 + 1 + 1) (.int .i64 x.dot.rep) (.int .i64 x.dot.ctr) (.int .i64 x.qty) (.int .u64 x.time));rw [← hW9];clear hW9 y9;refine bodyPost_ret (v := .tuple #[.agg #[.int .i64 x.dot.rep, .int .i64 x.dot.ctr, .int .i64 x.qty, .int .u64 x.time], .bool true]) ?_ rfl ⟨by rw [HF.out]; rfl, hbf9⟩
  rw [results_cell_tmp rfl];go_simp
theorem r11joined_sn (a b : CartD) (nm : ByteArray) (d : DotD) (x : MarkD) (x1 x2 x3 y1 y2 y3 : Value) (w : World) (h : CartA w x1 x2 x3 a) (g : CartA w y1 y2 y3 b) (hmx : markAt a.items nm d = some x) (hmy : markAt b.items nm d = none) :
  Calls Tryz.prog 43 #[.agg #[x1, x2, x3], .agg #[y1, y2, y3], .string nm, dotV d] w fun e w' => e = .returned (markRV (joinedM a b nm d)) ∧ Below w.heap.size w w' := by
 have hj : joinedM a b nm d = if hasC b d then none else some x := by
  unfold joinedM;rw [hmx, hmy]
 obtain ⟨o1, n1, k1, o2, n2, k2, o3, n3, k3, rfl, rfl, rfl, hn1, hn2, hn3⟩ := opn h;obtain ⟨o4, n4, k4, o5, n5, k5, o6, n6, k6, rfl, rfl, rfl, hn4, hn5, hn6⟩ := opn g;obtain ⟨W3, HW, HB, HS, HK0, HK1, HK2, HK3⟩ := box4 w #[.slice o1 n1 k1, .slice o2 n2 k2, .slice o3 n3 k3] 28 #[.slice o4 n4 k4, .slice o5 n5 k5, .slice o6 n6 k6] 28 #[.int .i64 d.rep, .int .i64 d.ctr] 51 #[.int .i64 0, .int .i64 0, .int .i64 0, .int .u64 0] 54;have HC := Hd (fun wz (hz : Below W3.heap.size W3 wz) => And.intro (cel3 (HK0.out wz hz)) (And.intro (cel3 (HK1.out wz hz)) (And.intro (cel2 (HK2.out wz hz)) (cel4 (HK3.out wz hz)))))
 have hbb3 := HB.out;have HA := Hd (h.below hbb3);have HG := Hd (g.below hbb3);have HM1 := Hd (r11mark_any a nm d _ _ _ W3 HA.out);rw [hmx] at HM1;have HM2 : Hid (∀ wz, Below W3.heap.size W3 wz → Calls Tryz.prog 49 #[.agg #[.slice o4 n4 k4, .slice o5 n5 k5, .slice o6 n6 k6], .string nm, dotV d] wz fun e w' => e = .returned (markRV (none)) ∧ Below wz.heap.size wz w') := Hd (fun wz hz => by
  have := r11mark_any b nm d _ _ _ wz (HG.out.below hz);rw [hmy] at this;exact this)
 have HHa : Hid (∀ wz, Below W3.heap.size W3 wz → Calls Tryz.prog 61 #[.agg #[.slice o1 n1 k1, .slice o2 n2 k2], dotV d] wz fun e w' => e = .returned (.bool (hasC a d)) ∧ Below wz.heap.size wz w') := Hd (fun wz hz => r3Has_any a.vec a.cloud d _ _ wz (HA.out.below hz).1 (HA.out.below hz).2.1)
 have HHb : Hid (∀ wz, Below W3.heap.size W3 wz → Calls Tryz.prog 61 #[.agg #[.slice o4 n4 k4, .slice o5 n5 k5], dotV d] wz fun e w' => e = .returned (.bool (hasC b d)) ∧ Below wz.heap.size wz w') := Hd (fun wz hz => r3Has_any b.vec b.cloud d _ _ wz (HG.out.below hz).1 (HG.out.below hz).2.1)
 have HJ := Hd hj;have HBW := Hd HB.out;have hsz := HS.out;unfold dotV at HM1 HM2 HHa HHb ⊢;unfold markRV at HM1 HM2;clear hbb3 h g hj hmx hmy hn1 hn2 hn3 hn4 hn5 hn6;obtain ⟨⟨c0_0_0, c0_0_1, c0_0_2⟩, ⟨c0_1_0, c0_1_1, c0_1_2⟩, ⟨c0_2_0, c0_2_1⟩, ⟨c0_3_0, c0_3_1, c0_3_2, c0_3_3⟩⟩ := HC.out W3 brf
 go_enter Tryz.func43, Tryz.ntmps43
 go_wp2_with fail
 rw [← HW.out]
 go_wp2_with fail
 refine HM1.out.mono ?_;rintro e w5 ⟨rfl, hb5⟩;have HB5 := Hd hb5;clear hb5 c0_0_0 c0_0_1 c0_0_2 c0_1_0 c0_1_1 c0_1_2 c0_2_0 c0_2_1 c0_3_0 c0_3_1 c0_3_2 c0_3_3;obtain ⟨W6, hW6⟩ : ∃ wq, wq = w5.alloc (.cells #[.int .i64 x.dot.rep, .int .i64 x.dot.ctr, .int .i64 x.qty, .int .u64 x.time] 54) := ⟨_, rfl⟩;have hbb6 : Below w5.heap.size w5 W6 := by rw [hW6]; exact bal
 have hx6 : W6.heap[w5.heap.size]? = some (.cells #[.int .i64 x.dot.rep, .int .i64 x.dot.ctr, .int .i64 x.qty, .int .u64 x.time] 54) := by rw [hW6]; exact alloc_new _ _
 have HM6 := Hd (fun wz (hz : Below W6.heap.size W6 wz) => cel4 ((hz.block _ (lt_of_heap hx6)).trans hx6))
 have HBX6 := Hd (btr HB5.out hbb6);have HWX6 := Hd hW6;clear hbb6 hx6 hW6;obtain ⟨⟨c1_0_0, c1_0_1, c1_0_2⟩, ⟨c1_1_0, c1_1_1, c1_1_2⟩, ⟨c1_2_0, c1_2_1⟩, ⟨c1_3_0, c1_3_1, c1_3_2, c1_3_3⟩⟩ := HC.out w5 HB5.out;have hlw50 : w.heap.size < w5.heap.size := by have := HB5.out.size; omega
 have hlw51 : w.heap.size + 1 < w5.heap.size := by have := HB5.out.size; omega
 have hlw52 : w.heap.size + 1 + 1 < w5.heap.size := by have := HB5.out.size; omega
 have hlw53 : w.heap.size + 1 + 1 + 1 < w5.heap.size := by have := HB5.out.size; omega
 have HM2b := Hd (HM2.out W6 HBX6.out)
 go_wp2_with (go_at_call 49; go_loud (rw [← HWX6.out]))
 refine HM2b.out.mono ?_;rintro e w7 ⟨rfl, hb7⟩;have HB7 := Hd (btr HBX6.out hb7);have HD7 := Hd hb7;clear hb7 HM2b c1_0_0 c1_0_1 c1_0_2 c1_1_0 c1_1_1 c1_1_2 c1_2_0 c1_2_1 c1_3_0 c1_3_1 c1_3_2 c1_3_3;obtain ⟨W8, hW8⟩ : ∃ wq, wq = w7.alloc (.cells #[.int .i64 0, .int .i64 0, .int .i64 0, .int .u64 0] 54) := ⟨_, rfl⟩;have hbb8 : Below w7.heap.size w7 W8 := by rw [hW8]; exact bal
 have hx8 : W8.heap[w7.heap.size]? = some (.cells #[.int .i64 0, .int .i64 0, .int .i64 0, .int .u64 0] 54) := by rw [hW8]; exact alloc_new _ _
 have HM8 := Hd (fun wz (hz : Below W8.heap.size W8 wz) => cel4 ((hz.block _ (lt_of_heap hx8)).trans hx8))
 have HBX8 := Hd (btr HB7.out hbb8);have HWX8 := Hd hW8;clear hbb8 hx8 hW8;have HD8 : Hid (Below W6.heap.size W6 W8) := Hd (HD7.out.trans ((by rw [HWX8.out]; exact bal : Below w7.heap.size w7 W8).mono HD7.out.size))
 obtain ⟨⟨c2_0_0, c2_0_1, c2_0_2⟩, ⟨c2_1_0, c2_1_1, c2_1_2⟩, ⟨c2_2_0, c2_2_1⟩, ⟨c2_3_0, c2_3_1, c2_3_2, c2_3_3⟩⟩ := HC.out w7 HB7.out;have hlw70 : w.heap.size < w7.heap.size := by have := HB7.out.size; omega
 have hlw71 : w.heap.size + 1 < w7.heap.size := by have := HB7.out.size; omega
 have hlw72 : w.heap.size + 1 + 1 < w7.heap.size := by have := HB7.out.size; omega
 have hlw73 : w.heap.size + 1 + 1 + 1 < w7.heap.size := by have := HB7.out.size; omega
 obtain ⟨a0, a1, a2, a3⟩ := HM6.out w7 HD7.out;have hl76 : w5.heap.size < w7.heap.size := by have := HD7.out.size; rw [HWX6.out, alloc_size] at this; omega
 have HN := Hd (HHb.out W8 HBX8.out);obtain ⟨r, hr⟩ : ∃ r, r = hasC b d := ⟨_, rfl⟩;rw [← hr] at HN;have HJ2 : Hid (joinedM a b nm d = if r then none else some x) := Hd (by rw [HJ.out, hr])
 clear hr HJ
 go_wp2_with (go_at_call 61; go_loud (rw [← HWX8.out]))
 refine HN.out.mono ?_;rintro e w9 ⟨rfl, hb9⟩;have HB9 := Hd (btr HBX8.out hb9);have HD9 := Hd (btr HD8.out hb9);have HE9 := Hd hb9;clear hb9 a0 a1 a2 a3 HN c2_0_0 c2_0_1 c2_0_2 c2_1_0 c2_1_1 c2_1_2 c2_2_0 c2_2_1 c2_3_0 c2_3_1 c2_3_2 c2_3_3;obtain ⟨⟨c3_0_0, c3_0_1, c3_0_2⟩, ⟨c3_1_0, c3_1_1, c3_1_2⟩, ⟨c3_2_0, c3_2_1⟩, ⟨c3_3_0, c3_3_1, c3_3_2, c3_3_3⟩⟩ := HC.out w9 HB9.out;obtain ⟨a0, a1, a2, a3⟩ := HM6.out w9 HD9.out;obtain ⟨b0, b1, b2, b3⟩ := HM8.out w9 HE9.out
 cases r with
 | true =>
  have HF : Hid (joinedM a b nm d = none) := Hd (by rw [HJ2.out]; rfl)
  clear HJ2;have HZ := Hd (HK3.out w9 HB9.out);have f0 := froz0 HZ.out 0;have f1 := froz0 HZ.out 1;have f2 := froz0 HZ.out 2;have f3 := froz0 HZ.out 3;have HBF := Hd (HBW.out.trans (Below.mono HB9.out HBW.out.size))
  go_wp2_with fail
  obtain ⟨W9, hW9⟩ : ∃ wq, wq = set4 w9 (w.heap.size + 1 + 1 + 1) (.int .i64 0) (.int .i64 0) (.int .i64 0) (.int .u64 0) := ⟨_, rfl⟩;have y9 : W9.heap[w.heap.size + 1 + 1 + 1]? = some (.cells #[.int .i64 0, .int .i64 0, .int .i64 0, .int .u64 0] 54) := by rw [hW9]; exact set4_same _ _ _ _ HZ.out
  have hbf9 : Below w.heap.size w W9 := by rw [hW9]; exact set4_below _ _ _ _ HBF.out (by omega)
  have y0 : W9.cell? ⟨w.heap.size + 1 + 1 + 1, 0, none⟩ = some (.int .i64 0) := cl0 y9 0 rfl;have y1 : W9.cell? ⟨w.heap.size + 1 + 1 + 1, 1, none⟩ = some (.int .i64 0) := cl0 y9 1 rfl;have y2 : W9.cell? ⟨w.heap.size + 1 + 1 + 1, 2, none⟩ = some (.int .i64 0) := cl0 y9 2 rfl;have y3 : W9.cell? ⟨w.heap.size + 1 + 1 + 1, 3, none⟩ = some (.int .u64 0) := cl0 y9 3 rfl
  (try simp only [Exit.inBlock, Exit.then])
  change bodyPost _ _ _ _ _ (set4 w9 (w.heap.size + 1 + 1 + 1) (.int .i64 0) (.int .i64 0) (.int .i64 0) (.int .u64 0));rw [← hW9];clear hW9 y9;refine bodyPost_ret (v := .tuple #[.agg #[.int .i64 0, .int .i64 0, .int .i64 0, .int .u64 0], .bool false]) ?_ rfl ⟨by rw [HF.out]; rfl, hbf9⟩
  rw [results_cell_tmp rfl];go_simp
 | false =>
  have HF : Hid (joinedM a b nm d = some x) := Hd (by rw [HJ2.out]; rfl)
  clear HJ2;have HZ := Hd (HK3.out w9 HB9.out);have f0 := froz0 HZ.out 0;have f1 := froz0 HZ.out 1;have f2 := froz0 HZ.out 2;have f3 := froz0 HZ.out 3;have HBF := Hd (HBW.out.trans (Below.mono HB9.out HBW.out.size))
  go_wp2_with fail
  obtain ⟨W9, hW9⟩ : ∃ wq, wq = set4 w9 (w.heap.size + 1 + 1 + 1) (.int .i64 x.dot.rep) (.int .i64 x.dot.ctr) (.int .i64 x.qty) (.int .u64 x.time) := ⟨_, rfl⟩;have y9 : W9.heap[w.heap.size + 1 + 1 + 1]? = some (.cells #[.int .i64 x.dot.rep, .int .i64 x.dot.ctr, .int .i64 x.qty, .int .u64 x.time] 54) := by rw [hW9]; exact set4_same _ _ _ _ HZ.out
  have hbf9 : Below w.heap.size w W9 := by rw [hW9]; exact set4_below _ _ _ _ HBF.out (by omega)
  have y0 : W9.cell? ⟨w.heap.size + 1 + 1 + 1, 0, none⟩ = some (.int .i64 x.dot.rep) := cl0 y9 0 rfl;have y1 : W9.cell? ⟨w.heap.size + 1 + 1 + 1, 1, none⟩ = some (.int .i64 x.dot.ctr) := cl0 y9 1 rfl;have y2 : W9.cell? ⟨w.heap.size + 1 + 1 + 1, 2, none⟩ = some (.int .i64 x.qty) := cl0 y9 2 rfl;have y3 : W9.cell? ⟨w.heap.size + 1 + 1 + 1, 3, none⟩ = some (.int .u64 x.time) := cl0 y9 3 rfl
  (try simp only [Exit.inBlock, Exit.then])
  change bodyPost _ _ _ _ _ (set4 w9 (w.heap.size + 1 + 1 + 1) (.int .i64 x.dot.rep) (.int .i64 x.dot.ctr) (.int .i64 x.qty) (.int .u64 x.time));rw [← hW9];clear hW9 y9;refine bodyPost_ret (v := .tuple #[.agg #[.int .i64 x.dot.rep, .int .i64 x.dot.ctr, .int .i64 x.qty, .int .u64 x.time], .bool true]) ?_ rfl ⟨by rw [HF.out]; rfl, hbf9⟩
  rw [results_cell_tmp rfl];go_simp
theorem r11joined_ns (a b : CartD) (nm : ByteArray) (d : DotD) (y : MarkD) (x1 x2 x3 y1 y2 y3 : Value) (w : World) (h : CartA w x1 x2 x3 a) (g : CartA w y1 y2 y3 b) (hmx : markAt a.items nm d = none) (hmy : markAt b.items nm d = some y) :
  Calls Tryz.prog 43 #[.agg #[x1, x2, x3], .agg #[y1, y2, y3], .string nm, dotV d] w fun e w' => e = .returned (markRV (joinedM a b nm d)) ∧ Below w.heap.size w w' := by
 have hj : joinedM a b nm d = if hasC a d then none else some y := by
  unfold joinedM;rw [hmx, hmy]
 obtain ⟨o1, n1, k1, o2, n2, k2, o3, n3, k3, rfl, rfl, rfl, hn1, hn2, hn3⟩ := opn h;obtain ⟨o4, n4, k4, o5, n5, k5, o6, n6, k6, rfl, rfl, rfl, hn4, hn5, hn6⟩ := opn g;obtain ⟨W3, HW, HB, HS, HK0, HK1, HK2, HK3⟩ := box4 w #[.slice o1 n1 k1, .slice o2 n2 k2, .slice o3 n3 k3] 28 #[.slice o4 n4 k4, .slice o5 n5 k5, .slice o6 n6 k6] 28 #[.int .i64 d.rep, .int .i64 d.ctr] 51 #[.int .i64 0, .int .i64 0, .int .i64 0, .int .u64 0] 54;have HC := Hd (fun wz (hz : Below W3.heap.size W3 wz) => And.intro (cel3 (HK0.out wz hz)) (And.intro (cel3 (HK1.out wz hz)) (And.intro (cel2 (HK2.out wz hz)) (cel4 (HK3.out wz hz)))))
 have hbb3 := HB.out;have HA := Hd (h.below hbb3);have HG := Hd (g.below hbb3);have HM1 := Hd (r11mark_any a nm d _ _ _ W3 HA.out);rw [hmx] at HM1;have HM2 : Hid (∀ wz, Below W3.heap.size W3 wz → Calls Tryz.prog 49 #[.agg #[.slice o4 n4 k4, .slice o5 n5 k5, .slice o6 n6 k6], .string nm, dotV d] wz fun e w' => e = .returned (markRV (some y)) ∧ Below wz.heap.size wz w') := Hd (fun wz hz => by
  have := r11mark_any b nm d _ _ _ wz (HG.out.below hz);rw [hmy] at this;exact this)
 have HHa : Hid (∀ wz, Below W3.heap.size W3 wz → Calls Tryz.prog 61 #[.agg #[.slice o1 n1 k1, .slice o2 n2 k2], dotV d] wz fun e w' => e = .returned (.bool (hasC a d)) ∧ Below wz.heap.size wz w') := Hd (fun wz hz => r3Has_any a.vec a.cloud d _ _ wz (HA.out.below hz).1 (HA.out.below hz).2.1)
 have HHb : Hid (∀ wz, Below W3.heap.size W3 wz → Calls Tryz.prog 61 #[.agg #[.slice o4 n4 k4, .slice o5 n5 k5], dotV d] wz fun e w' => e = .returned (.bool (hasC b d)) ∧ Below wz.heap.size wz w') := Hd (fun wz hz => r3Has_any b.vec b.cloud d _ _ wz (HG.out.below hz).1 (HG.out.below hz).2.1)
 have HJ := Hd hj;have HBW := Hd HB.out;have hsz := HS.out;unfold dotV at HM1 HM2 HHa HHb ⊢;unfold markRV at HM1 HM2;clear hbb3 h g hj hmx hmy hn1 hn2 hn3 hn4 hn5 hn6;obtain ⟨⟨c0_0_0, c0_0_1, c0_0_2⟩, ⟨c0_1_0, c0_1_1, c0_1_2⟩, ⟨c0_2_0, c0_2_1⟩, ⟨c0_3_0, c0_3_1, c0_3_2, c0_3_3⟩⟩ := HC.out W3 brf
 go_enter Tryz.func43, Tryz.ntmps43
 go_wp2_with fail
 rw [← HW.out]
 go_wp2_with fail
 refine HM1.out.mono ?_;rintro e w5 ⟨rfl, hb5⟩;have HB5 := Hd hb5;clear hb5 c0_0_0 c0_0_1 c0_0_2 c0_1_0 c0_1_1 c0_1_2 c0_2_0 c0_2_1 c0_3_0 c0_3_1 c0_3_2 c0_3_3;obtain ⟨W6, hW6⟩ : ∃ wq, wq = w5.alloc (.cells #[.int .i64 0, .int .i64 0, .int .i64 0, .int .u64 0] 54) := ⟨_, rfl⟩;have hbb6 : Below w5.heap.size w5 W6 := by rw [hW6]; exact bal
 have hx6 : W6.heap[w5.heap.size]? = some (.cells #[.int .i64 0, .int .i64 0, .int .i64 0, .int .u64 0] 54) := by rw [hW6]; exact alloc_new _ _
 have HM6 := Hd (fun wz (hz : Below W6.heap.size W6 wz) => cel4 ((hz.block _ (lt_of_heap hx6)).trans hx6))
 have HBX6 := Hd (btr HB5.out hbb6);have HWX6 := Hd hW6;clear hbb6 hx6 hW6;obtain ⟨⟨c1_0_0, c1_0_1, c1_0_2⟩, ⟨c1_1_0, c1_1_1, c1_1_2⟩, ⟨c1_2_0, c1_2_1⟩, ⟨c1_3_0, c1_3_1, c1_3_2, c1_3_3⟩⟩ := HC.out w5 HB5.out;have hlw50 : w.heap.size < w5.heap.size := by have := HB5.out.size; omega
 have hlw51 : w.heap.size + 1 < w5.heap.size := by have := HB5.out.size; omega
 have hlw52 : w.heap.size + 1 + 1 < w5.heap.size := by have := HB5.out.size; omega
 have hlw53 : w.heap.size + 1 + 1 + 1 < w5.heap.size := by have := HB5.out.size; omega
 have HM2b := Hd (HM2.out W6 HBX6.out)
 go_wp2_with (go_at_call 49; go_loud (rw [← HWX6.out]))
 refine HM2b.out.mono ?_;rintro e w7 ⟨rfl, hb7⟩;have HB7 := Hd (btr HBX6.out hb7);have HD7 := Hd hb7;clear hb7 HM2b c1_0_0 c1_0_1 c1_0_2 c1_1_0 c1_1_1 c1_1_2 c1_2_0 c1_2_1 c1_3_0 c1_3_1 c1_3_2 c1_3_3;obtain ⟨W8, hW8⟩ : ∃ wq, wq = w7.alloc (.cells #[.int .i64 y.dot.rep, .int .i64 y.dot.ctr, .int .i64 y.qty, .int .u64 y.time] 54) := ⟨_, rfl⟩;have hbb8 : Below w7.heap.size w7 W8 := by rw [hW8]; exact bal
 have hx8 : W8.heap[w7.heap.size]? = some (.cells #[.int .i64 y.dot.rep, .int .i64 y.dot.ctr, .int .i64 y.qty, .int .u64 y.time] 54) := by rw [hW8]; exact alloc_new _ _
 have HM8 := Hd (fun wz (hz : Below W8.heap.size W8 wz) => cel4 ((hz.block _ (lt_of_heap hx8)).trans hx8))
 have HBX8 := Hd (btr HB7.out hbb8);have HWX8 := Hd hW8;clear hbb8 hx8 hW8;have HD8 : Hid (Below W6.heap.size W6 W8) := Hd (HD7.out.trans ((by rw [HWX8.out]; exact bal : Below w7.heap.size w7 W8).mono HD7.out.size))
 obtain ⟨⟨c2_0_0, c2_0_1, c2_0_2⟩, ⟨c2_1_0, c2_1_1, c2_1_2⟩, ⟨c2_2_0, c2_2_1⟩, ⟨c2_3_0, c2_3_1, c2_3_2, c2_3_3⟩⟩ := HC.out w7 HB7.out;have hlw70 : w.heap.size < w7.heap.size := by have := HB7.out.size; omega
 have hlw71 : w.heap.size + 1 < w7.heap.size := by have := HB7.out.size; omega
 have hlw72 : w.heap.size + 1 + 1 < w7.heap.size := by have := HB7.out.size; omega
 have hlw73 : w.heap.size + 1 + 1 + 1 < w7.heap.size := by have := HB7.out.size; omega
 obtain ⟨a0, a1, a2, a3⟩ := HM6.out w7 HD7.out;have hl76 : w5.heap.size < w7.heap.size := by have := HD7.out.size; rw [HWX6.out, alloc_size] at this; omega
 have HN := Hd (HHa.out W8 HBX8.out);obtain ⟨r, hr⟩ : ∃ r, r = hasC a d := ⟨_, rfl⟩;rw [← hr] at HN;have HJ2 : Hid (joinedM a b nm d = if r then none else some y) := Hd (by rw [HJ.out, hr])
 clear hr HJ
 go_wp2_with (go_at_call 61; go_loud (rw [← HWX8.out]))
 refine HN.out.mono ?_;rintro e w9 ⟨rfl, hb9⟩;have HB9 := Hd (btr HBX8.out hb9);have HD9 := Hd (btr HD8.out hb9);have HE9 := Hd hb9;clear hb9 a0 a1 a2 a3 HN c2_0_0 c2_0_1 c2_0_2 c2_1_0 c2_1_1 c2_1_2 c2_2_0 c2_2_1 c2_3_0 c2_3_1 c2_3_2 c2_3_3;obtain ⟨⟨c3_0_0, c3_0_1, c3_0_2⟩, ⟨c3_1_0, c3_1_1, c3_1_2⟩, ⟨c3_2_0, c3_2_1⟩, ⟨c3_3_0, c3_3_1, c3_3_2, c3_3_3⟩⟩ := HC.out w9 HB9.out;obtain ⟨a0, a1, a2, a3⟩ := HM6.out w9 HD9.out;obtain ⟨b0, b1, b2, b3⟩ := HM8.out w9 HE9.out
 cases r with
 | true =>
  have HF : Hid (joinedM a b nm d = none) := Hd (by rw [HJ2.out]; rfl)
  clear HJ2;have HZ := Hd (HK3.out w9 HB9.out);have f0 := froz0 HZ.out 0;have f1 := froz0 HZ.out 1;have f2 := froz0 HZ.out 2;have f3 := froz0 HZ.out 3;have HBF := Hd (HBW.out.trans (Below.mono HB9.out HBW.out.size))
  go_wp2_with fail
  obtain ⟨W9, hW9⟩ : ∃ wq, wq = set4 w9 (w.heap.size + 1 + 1 + 1) (.int .i64 0) (.int .i64 0) (.int .i64 0) (.int .u64 0) := ⟨_, rfl⟩;have y9 : W9.heap[w.heap.size + 1 + 1 + 1]? = some (.cells #[.int .i64 0, .int .i64 0, .int .i64 0, .int .u64 0] 54) := by rw [hW9]; exact set4_same _ _ _ _ HZ.out
  have hbf9 : Below w.heap.size w W9 := by rw [hW9]; exact set4_below _ _ _ _ HBF.out (by omega)
  have y0 : W9.cell? ⟨w.heap.size + 1 + 1 + 1, 0, none⟩ = some (.int .i64 0) := cl0 y9 0 rfl;have y1 : W9.cell? ⟨w.heap.size + 1 + 1 + 1, 1, none⟩ = some (.int .i64 0) := cl0 y9 1 rfl;have y2 : W9.cell? ⟨w.heap.size + 1 + 1 + 1, 2, none⟩ = some (.int .i64 0) := cl0 y9 2 rfl;have y3 : W9.cell? ⟨w.heap.size + 1 + 1 + 1, 3, none⟩ = some (.int .u64 0) := cl0 y9 3 rfl
  (try simp only [Exit.inBlock, Exit.then])
  change bodyPost _ _ _ _ _ (set4 w9 (w.heap.size + 1 + 1 + 1) (.int .i64 0) (.int .i64 0) (.int .i64 0) (.int .u64 0));rw [← hW9];clear hW9 y9;refine bodyPost_ret (v := .tuple #[.agg #[.int .i64 0, .int .i64 0, .int .i64 0, .int .u64 0], .bool false]) ?_ rfl ⟨by rw [HF.out]; rfl, hbf9⟩
  rw [results_cell_tmp rfl];go_simp
 | false =>
  have HF : Hid (joinedM a b nm d = some y) := Hd (by rw [HJ2.out]; rfl)
  clear HJ2;have HZ := Hd (HK3.out w9 HB9.out);have f0 := froz0 HZ.out 0;have f1 := froz0 HZ.out 1;have f2 := froz0 HZ.out 2;have f3 := froz0 HZ.out 3;have HBF := Hd (HBW.out.trans (Below.mono HB9.out HBW.out.size))
  go_wp2_with fail
  obtain ⟨W9, hW9⟩ : ∃ wq, wq = set4 w9 (w.heap.size + 1 + 1 + 1) (.int .i64 y.dot.rep) (.int .i64 y.dot.ctr) (.int .i64 y.qty) (.int .u64 y.time) := ⟨_, rfl⟩;have y9 : W9.heap[w.heap.size + 1 + 1 + 1]? = some (.cells #[.int .i64 y.dot.rep, .int .i64 y.dot.ctr, .int .i64 y.qty, .int .u64 y.time] 54) := by rw [hW9]; exact set4_same _ _ _ _ HZ.out
  have hbf9 : Below w.heap.size w W9 := by rw [hW9]; exact set4_below _ _ _ _ HBF.out (by omega)
  have y0 : W9.cell? ⟨w.heap.size + 1 + 1 + 1, 0, none⟩ = some (.int .i64 y.dot.rep) := cl0 y9 0 rfl;have y1 : W9.cell? ⟨w.heap.size + 1 + 1 + 1, 1, none⟩ = some (.int .i64 y.dot.ctr) := cl0 y9 1 rfl;have y2 : W9.cell? ⟨w.heap.size + 1 + 1 + 1, 2, none⟩ = some (.int .i64 y.qty) := cl0 y9 2 rfl;have y3 : W9.cell? ⟨w.heap.size + 1 + 1 + 1, 3, none⟩ = some (.int .u64 y.time) := cl0 y9 3 rfl
  (try simp only [Exit.inBlock, Exit.then])
  change bodyPost _ _ _ _ _ (set4 w9 (w.heap.size + 1 + 1 + 1) (.int .i64 y.dot.rep) (.int .i64 y.dot.ctr) (.int .i64 y.qty) (.int .u64 y.time));rw [← hW9];clear hW9 y9;refine bodyPost_ret (v := .tuple #[.agg #[.int .i64 y.dot.rep, .int .i64 y.dot.ctr, .int .i64 y.qty, .int .u64 y.time], .bool true]) ?_ rfl ⟨by rw [HF.out]; rfl, hbf9⟩
  rw [results_cell_tmp rfl];go_simp
theorem r11joined_nn (a b : CartD) (nm : ByteArray) (d : DotD) (x1 x2 x3 y1 y2 y3 : Value) (w : World) (h : CartA w x1 x2 x3 a) (g : CartA w y1 y2 y3 b) (hmx : markAt a.items nm d = none) (hmy : markAt b.items nm d = none) :
  Calls Tryz.prog 43 #[.agg #[x1, x2, x3], .agg #[y1, y2, y3], .string nm, dotV d] w fun e w' => e = .returned (markRV (joinedM a b nm d)) ∧ Below w.heap.size w w' := by
 have hj : joinedM a b nm d = none := by
  unfold joinedM;rw [hmx, hmy]
 obtain ⟨o1, n1, k1, o2, n2, k2, o3, n3, k3, rfl, rfl, rfl, hn1, hn2, hn3⟩ := opn h;obtain ⟨o4, n4, k4, o5, n5, k5, o6, n6, k6, rfl, rfl, rfl, hn4, hn5, hn6⟩ := opn g;obtain ⟨W3, HW, HB, HS, HK0, HK1, HK2, HK3⟩ := box4 w #[.slice o1 n1 k1, .slice o2 n2 k2, .slice o3 n3 k3] 28 #[.slice o4 n4 k4, .slice o5 n5 k5, .slice o6 n6 k6] 28 #[.int .i64 d.rep, .int .i64 d.ctr] 51 #[.int .i64 0, .int .i64 0, .int .i64 0, .int .u64 0] 54;have HC := Hd (fun wz (hz : Below W3.heap.size W3 wz) => And.intro (cel3 (HK0.out wz hz)) (And.intro (cel3 (HK1.out wz hz)) (And.intro (cel2 (HK2.out wz hz)) (cel4 (HK3.out wz hz)))))
 have hbb3 := HB.out;have HA := Hd (h.below hbb3);have HG := Hd (g.below hbb3);have HM1 := Hd (r11mark_any a nm d _ _ _ W3 HA.out);rw [hmx] at HM1;have HM2 : Hid (∀ wz, Below W3.heap.size W3 wz → Calls Tryz.prog 49 #[.agg #[.slice o4 n4 k4, .slice o5 n5 k5, .slice o6 n6 k6], .string nm, dotV d] wz fun e w' => e = .returned (markRV (none)) ∧ Below wz.heap.size wz w') := Hd (fun wz hz => by
  have := r11mark_any b nm d _ _ _ wz (HG.out.below hz);rw [hmy] at this;exact this)
 have HHa : Hid (∀ wz, Below W3.heap.size W3 wz → Calls Tryz.prog 61 #[.agg #[.slice o1 n1 k1, .slice o2 n2 k2], dotV d] wz fun e w' => e = .returned (.bool (hasC a d)) ∧ Below wz.heap.size wz w') := Hd (fun wz hz => r3Has_any a.vec a.cloud d _ _ wz (HA.out.below hz).1 (HA.out.below hz).2.1)
 have HHb : Hid (∀ wz, Below W3.heap.size W3 wz → Calls Tryz.prog 61 #[.agg #[.slice o4 n4 k4, .slice o5 n5 k5], dotV d] wz fun e w' => e = .returned (.bool (hasC b d)) ∧ Below wz.heap.size wz w') := Hd (fun wz hz => r3Has_any b.vec b.cloud d _ _ wz (HG.out.below hz).1 (HG.out.below hz).2.1)
 have HJ := Hd hj;have HBW := Hd HB.out;have hsz := HS.out;unfold dotV at HM1 HM2 HHa HHb ⊢;unfold markRV at HM1 HM2;clear hbb3 h g hj hmx hmy hn1 hn2 hn3 hn4 hn5 hn6;obtain ⟨⟨c0_0_0, c0_0_1, c0_0_2⟩, ⟨c0_1_0, c0_1_1, c0_1_2⟩, ⟨c0_2_0, c0_2_1⟩, ⟨c0_3_0, c0_3_1, c0_3_2, c0_3_3⟩⟩ := HC.out W3 brf
 go_enter Tryz.func43, Tryz.ntmps43
 go_wp2_with fail
 rw [← HW.out]
 go_wp2_with fail
 refine HM1.out.mono ?_;rintro e w5 ⟨rfl, hb5⟩;have HB5 := Hd hb5;clear hb5 c0_0_0 c0_0_1 c0_0_2 c0_1_0 c0_1_1 c0_1_2 c0_2_0 c0_2_1 c0_3_0 c0_3_1 c0_3_2 c0_3_3;obtain ⟨W6, hW6⟩ : ∃ wq, wq = w5.alloc (.cells #[.int .i64 0, .int .i64 0, .int .i64 0, .int .u64 0] 54) := ⟨_, rfl⟩;have hbb6 : Below w5.heap.size w5 W6 := by rw [hW6]; exact bal
 have hx6 : W6.heap[w5.heap.size]? = some (.cells #[.int .i64 0, .int .i64 0, .int .i64 0, .int .u64 0] 54) := by rw [hW6]; exact alloc_new _ _
 have HM6 := Hd (fun wz (hz : Below W6.heap.size W6 wz) => cel4 ((hz.block _ (lt_of_heap hx6)).trans hx6))
 have HBX6 := Hd (btr HB5.out hbb6);have HWX6 := Hd hW6;clear hbb6 hx6 hW6;obtain ⟨⟨c1_0_0, c1_0_1, c1_0_2⟩, ⟨c1_1_0, c1_1_1, c1_1_2⟩, ⟨c1_2_0, c1_2_1⟩, ⟨c1_3_0, c1_3_1, c1_3_2, c1_3_3⟩⟩ := HC.out w5 HB5.out;have hlw50 : w.heap.size < w5.heap.size := by have := HB5.out.size; omega
 have hlw51 : w.heap.size + 1 < w5.heap.size := by have := HB5.out.size; omega
 have hlw52 : w.heap.size + 1 + 1 < w5.heap.size := by have := HB5.out.size; omega
 have hlw53 : w.heap.size + 1 + 1 + 1 < w5.heap.size := by have := HB5.out.size; omega
 have HM2b := Hd (HM2.out W6 HBX6.out)
 go_wp2_with (go_at_call 49; go_loud (rw [← HWX6.out]))
 refine HM2b.out.mono ?_;rintro e w7 ⟨rfl, hb7⟩;have HB7 := Hd (btr HBX6.out hb7);have HD7 := Hd hb7;clear hb7 HM2b c1_0_0 c1_0_1 c1_0_2 c1_1_0 c1_1_1 c1_1_2 c1_2_0 c1_2_1 c1_3_0 c1_3_1 c1_3_2 c1_3_3;obtain ⟨W8, hW8⟩ : ∃ wq, wq = w7.alloc (.cells #[.int .i64 0, .int .i64 0, .int .i64 0, .int .u64 0] 54) := ⟨_, rfl⟩;have hbb8 : Below w7.heap.size w7 W8 := by rw [hW8]; exact bal
 have hx8 : W8.heap[w7.heap.size]? = some (.cells #[.int .i64 0, .int .i64 0, .int .i64 0, .int .u64 0] 54) := by rw [hW8]; exact alloc_new _ _
 have HM8 := Hd (fun wz (hz : Below W8.heap.size W8 wz) => cel4 ((hz.block _ (lt_of_heap hx8)).trans hx8))
 have HBX8 := Hd (btr HB7.out hbb8);have HWX8 := Hd hW8;clear hbb8 hx8 hW8;have HD8 : Hid (Below W6.heap.size W6 W8) := Hd (HD7.out.trans ((by rw [HWX8.out]; exact bal : Below w7.heap.size w7 W8).mono HD7.out.size))
 obtain ⟨⟨c2_0_0, c2_0_1, c2_0_2⟩, ⟨c2_1_0, c2_1_1, c2_1_2⟩, ⟨c2_2_0, c2_2_1⟩, ⟨c2_3_0, c2_3_1, c2_3_2, c2_3_3⟩⟩ := HC.out w7 HB7.out;have hlw70 : w.heap.size < w7.heap.size := by have := HB7.out.size; omega
 have hlw71 : w.heap.size + 1 < w7.heap.size := by have := HB7.out.size; omega
 have hlw72 : w.heap.size + 1 + 1 < w7.heap.size := by have := HB7.out.size; omega
 have hlw73 : w.heap.size + 1 + 1 + 1 < w7.heap.size := by have := HB7.out.size; omega
 obtain ⟨a0, a1, a2, a3⟩ := HM6.out w7 HD7.out;have hl76 : w5.heap.size < w7.heap.size := by have := HD7.out.size; rw [HWX6.out, alloc_size] at this; omega
 have HF : Hid (joinedM a b nm d = none) := Hd HJ.out;clear HJ a0 a1 a2 a3 c2_0_0 c2_0_1 c2_0_2 c2_1_0 c2_1_1 c2_1_2 c2_2_0 c2_2_1 c2_3_0 c2_3_1 c2_3_2 c2_3_3;obtain ⟨⟨c3_0_0, c3_0_1, c3_0_2⟩, ⟨c3_1_0, c3_1_1, c3_1_2⟩, ⟨c3_2_0, c3_2_1⟩, ⟨c3_3_0, c3_3_1, c3_3_2, c3_3_3⟩⟩ := HC.out w7 HB7.out;have HZ := Hd (HK3.out w7 HB7.out);have f0 := froz0 HZ.out 0;have f1 := froz0 HZ.out 1;have f2 := froz0 HZ.out 2;have f3 := froz0 HZ.out 3;obtain ⟨a0, a1, a2, a3⟩ := HM6.out w7 HD7.out
 go_wp2_with fail
 obtain ⟨W9, hW9⟩ : ∃ wq, wq = (set4 w7 (w.heap.size + 1 + 1 + 1) (.int .i64 0) (.int .i64 0) (.int .i64 0) (.int .u64 0)).alloc (.cells #[.int .i64 0, .int .i64 0, .int .i64 0, .int .u64 0] 54) := ⟨_, rfl⟩;have hz9 := set4_same (.int .i64 0) (.int .i64 0) (.int .i64 0) (.int .u64 0) HZ.out;have hb9 : Below (set4 w7 (w.heap.size + 1 + 1 + 1) (.int .i64 0) (.int .i64 0) (.int .i64 0) (.int .u64 0)).heap.size (set4 w7 (w.heap.size + 1 + 1 + 1) (.int .i64 0) (.int .i64 0) (.int .i64 0) (.int .u64 0)) W9 := by rw [hW9]; exact bal
 have y9 : W9.heap[w.heap.size + 1 + 1 + 1]? = some (.cells #[.int .i64 0, .int .i64 0, .int .i64 0, .int .u64 0] 54) := (hb9.block _ (lt_of_heap hz9)).trans hz9;have hbs : Below w.heap.size w (set4 w7 (w.heap.size + 1 + 1 + 1) (.int .i64 0) (.int .i64 0) (.int .i64 0) (.int .u64 0)) := set4_below _ _ _ _ (HBW.out.trans (HB7.out.mono HBW.out.size)) (by omega)
 have hbf9 : Below w.heap.size w W9 := btr hbs hb9;have y0 : W9.cell? ⟨w.heap.size + 1 + 1 + 1, 0, none⟩ = some (.int .i64 0) := cl0 y9 0 rfl;have y1 : W9.cell? ⟨w.heap.size + 1 + 1 + 1, 1, none⟩ = some (.int .i64 0) := cl0 y9 1 rfl;have y2 : W9.cell? ⟨w.heap.size + 1 + 1 + 1, 2, none⟩ = some (.int .i64 0) := cl0 y9 2 rfl;have y3 : W9.cell? ⟨w.heap.size + 1 + 1 + 1, 3, none⟩ = some (.int .u64 0) := cl0 y9 3 rfl
 (try simp only [Exit.inBlock, Exit.then])
 change bodyPost _ _ _ _ _ ((set4 w7 (w.heap.size + 1 + 1 + 1) (.int .i64 0) (.int .i64 0) (.int .i64 0) (.int .u64 0)).alloc (.cells #[.int .i64 0, .int .i64 0, .int .i64 0, .int .u64 0] 54));rw [← hW9];clear hW9 y9 hz9 hb9 hbs;refine bodyPost_ret (v := .tuple #[.agg #[.int .i64 0, .int .i64 0, .int .i64 0, .int .u64 0], .bool false]) ?_ rfl ⟨by rw [HF.out]; rfl, hbf9⟩
 rw [results_cell_tmp rfl];go_simp
theorem r11joined_any (a b : CartD) (nm : ByteArray) (d : DotD) (x1 x2 x3 y1 y2 y3 : Value) (w : World) (h : CartA w x1 x2 x3 a) (g : CartA w y1 y2 y3 b) :
  Calls Tryz.prog 43 #[.agg #[x1, x2, x3], .agg #[y1, y2, y3], .string nm, dotV d] w fun e w' => e = .returned (markRV (joinedM a b nm d)) ∧ Below w.heap.size w w' := by
 rcases hmx : markAt a.items nm d with _ | x <;> rcases hmy : markAt b.items nm d with _ | y
 ·exact r11joined_nn a b nm d x1 x2 x3 y1 y2 y3 w h g hmx hmy
 ·exact r11joined_ns a b nm d y x1 x2 x3 y1 y2 y3 w h g hmx hmy
 ·exact r11joined_sn a b nm d x x1 x2 x3 y1 y2 y3 w h g hmx hmy
 ·exact r11joined_ss a b nm d x y x1 x2 x3 y1 y2 y3 w h g hmx hmy
end Go.Proofs.YtemfaojmelljpaaGreatDoor

