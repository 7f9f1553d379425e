/- Law 10's helpers: has, time, canon. -/
import Derived.Test.YtadbmineobldbaaGreatDoorD5
import Derived.Test.YtadbmineobldbaaGreatDoorC19
set_option linter.unusedSimpArgs false
set_option linter.unusedVariables false
set_option maxRecDepth 100000
set_option maxHeartbeats 4000000
namespace Go.Proofs.YtadbmineobldbaaGreatDoor
open Go.RowKit Go.Maps Go.Sort Go.Shelf

theorem l10mark_any (a b q t : Int) (w : World) : Calls Tryz.prog 35 #[.int .i64 a, .int .i64 b, .int .i64 q, .int .u64 t] w fun e w' => e = .returned (.agg #[.int .i64 a, .int .i64 b, .int .i64 q, .int .u64 t]) ∧ Below w.heap.size w w' := by
 go_enter Tryz.func35, Tryz.ntmps35
 go_wp2
 (try simp only [Exit.inBlock, Exit.then])
 refine bodyPost_ret (v := .agg #[.int .i64 a, .int .i64 b, .int .i64 q, .int .u64 t]) ?_ rfl ⟨rfl, bal⟩;rw [results_cell_one rfl];go_simp

theorem l10item_any (nm : ByteArray) (o : Option Addr) (n c : Nat) (w : World) : Calls Tryz.prog 34 #[.string nm, .slice o n c] w fun e w' => e = .returned (.agg #[.string nm, .slice o n c]) ∧ Below w.heap.size w w' := by
 go_enter Tryz.func34, Tryz.ntmps34
 go_wp2
 (try simp only [Exit.inBlock, Exit.then])
 refine bodyPost_ret (v := .agg #[.string nm, .slice o n c]) ?_ rfl ⟨rfl, bal⟩;rw [results_cell_one rfl];go_simp

def PairsIs (w : World) (v : Value) (ps : List DotD) : Prop :=
 ∃ o c, v = .slice o (2 * ps.length) c ∧ ∀ k (h : k < ps.length), ∃ b, o = some ⟨b, 0, none⟩ ∧ b < w.heap.size ∧ w.cell? ⟨b, 2 * k, none⟩ = some (.int .i64 ps[k].rep) ∧ w.cell? ⟨b, 2 * k + 1, none⟩ = some (.int .i64 ps[k].ctr)
theorem PairsIs.below {w w' : World} {v : Value} {ps : List DotD} (h : PairsIs w v ps) (hb : Below w.heap.size w w') : PairsIs w' v ps := by
 obtain ⟨o, c, e, h⟩ := h;refine ⟨o, c, e, fun k hk => ?_⟩
 obtain ⟨b, e1, e2, e3, e4⟩ := h k hk;exact ⟨b, e1, Nat.lt_of_lt_of_le e2 hb.size, by rw [hb.cell (p := ⟨_, _, _⟩) e2]; exact e3, by rw [hb.cell (p := ⟨_, _, _⟩) e2]; exact e4⟩

theorem l10dots_any (ps : List DotD) (pv : Value) (w : World) (hp : PairsIs w pv ps) (hl : ps.length ≤ 1000) :
  Calls Tryz.prog 36 #[pv] w fun e w' => ∃ v, e = .returned v ∧ EDot.Row w.heap.size w' v ps ∧ Below w.heap.size w w' := by
 obtain ⟨po, pc, rfl, hpc⟩ := hp;obtain ⟨n, hn⟩ : ∃ n, n = ps.length := ⟨_, rfl⟩;rw [← hn] at hl ⊢;obtain ⟨m, hm2⟩ : ∃ m, m = 2 * n := ⟨_, rfl⟩;rw [← hm2];have HPC := Hd hpc;have HN := Hd hn;have hinit : ∃ k : Nat, k ≤ n ∧ (.int .i64 0 : Value) = .int .i64 ((2 * k : Nat) : Int) ∧ EDot.Row w.heap.size w (.slice none 0 0) (ps.take k) ∧ Below w.heap.size w w := ⟨0, Nat.zero_le _, rfl, Enc.Row.nil _ _, Below.refl _ _⟩;have HI := Hd hinit;clear hpc hn hinit
 go_enter Tryz.func36, Tryz.ntmps36
 go_wp2_with fail
 go_loopw [3, 4] (fun v i wr => ∃ k : Nat, k ≤ n ∧ i = .int .i64 ((2 * k : Nat) : Int) ∧ EDot.Row w.heap.size wr v (ps.take k) ∧ Below w.heap.size w wr) (fun _ i _ => 2 * n + 2 - (intOf i).toNat)
 case atStart => exact HI.out
 case round =>
  obtain ⟨k, hk, rfl, hrow, hbr⟩ := hrel
  by_cases hlt : k < n
  ·have hlt' : k < ps.length := by rw [← HN.out]; exact hlt
   obtain ⟨pb, rfl, hpb, e0, e1⟩ := HPC.out k hlt';have c0 : wr.cell? ⟨pb, 2 * k, none⟩ = some (.int .i64 ps[k].rep) := by rw [hbr.cell (p := ⟨_, _, _⟩) hpb]; exact e0
   have c1 : wr.cell? ⟨pb, 2 * k + 1, none⟩ = some (.int .i64 ps[k].ctr) := by rw [hbr.cell (p := ⟨_, _, _⟩) hpb]; exact e1
   have HT : Hid (ps.take (k + 1) = ps.take k ++ [ps[k]]) := Hd (List.take_succ_eq_append_getElem hlt');have HL1 : Hid ((ps.take k).length = k) := Hd (by rw [List.length_take]; omega)
   have t1 : ((2 * k : Nat) : Int) + 1 < ((2 * n : Nat) : Int) := by omega
   have t0 : (0 : Int) ≤ ((2 * k : Nat) : Int) := by omega
   have t2 : ((2 * k : Nat) : Int) < ((2 * n : Nat) : Int) := by omega
   have kw1 : IntKind.i64.wrap (((2 * k : Nat) : Int) + 1) = ((2 * k : Nat) : Int) + 1 := by rw [IntKind.wrap_i64]; omega
   have kw2 : IntKind.i64.wrap (((2 * k : Nat) : Int) + 2) = ((2 * k : Nat) : Int) + 2 := by rw [IntKind.wrap_i64]; omega
   generalize ps[k] = x at *
   obtain ⟨j, hj⟩ : ∃ j, j = 2 * k := ⟨_, rfl⟩;rw [← hj] at c0 c1 t1 t0 t2 kw1 kw2 ⊢;rw [← hm2] at t1 t2;have HJ := Hd hj;obtain ⟨oa, oc, rfl⟩ := hrow.slice;rw [HL1.out] at hrow ⊢;have hbb : Below wr.heap.size wr (wr.drew.alloc (.cells #[.int .i64 x.rep, .int .i64 x.ctr] 63)) := bdr.alloc (Nat.le_refl _) _;have HR := Hd (hrow.below hbb);have HSRC : Hid (EDot.Src (wr.drew.alloc (.cells #[.int .i64 x.rep, .int .i64 x.ctr] 63)) (.slice (some ⟨wr.drew.heap.size, 0, none⟩) 1 1) [x]) := Hd (Enc.Src.one_lit (E := EDot) wr.drew 63 _);have hsz : w.heap.size ≤ (wr.drew.alloc (.cells #[.int .i64 x.rep, .int .i64 x.ctr] 63)).heap.size := by have := hbb.size; have := hbr.size; omega
   have HBR := Hd hbr;have HBB := Hd hbb;clear hrow hbr hbb hj hm2 e0 e1;have hL1 := HL1.out;have t3 : (0 : Int) ≤ (j : Int) + 1 := by omega
   have hpw : pb < wr.heap.size := Nat.lt_of_lt_of_le hpb HBR.out.size
   go_wp2_with fail
   go_region_law (refine step_append_row rfl _ _ 22 rfl EDot w.heap.size (.agg #[.int .i64 0, .int .i64 0]) 16 Tryz.underlying22 infoDot (by decide) (by decide) _ _ rfl HR.out _ [x] rfl HSRC.out (by simp; omega) hsz ?_; intro v8 w8 hrow8 hgr8; have hb8 := (HBR.out.trans (HBB.out.mono HBR.out.size)).grown hgr8 (by omega) (fun q hq => by have := (HR.out.lt _ hq).1; omega); obtain ⟨a8, c8, rfl⟩ := hrow8.slice)
   all_goals
    go_wp2_with fail
    have hn8 : (ps.take k ++ [x]).length = k + 1 := by simp; omega
    rw [hn8] at hrow8;have hj2 : (j : Int) + 2 = ((2 * (k + 1) : Nat) : Int) := by rw [HJ.out]; omega
    have hfin : ∃ k' : Nat, k' ≤ n ∧ (.int .i64 ((j : Int) + 2) : Value) = .int .i64 ((2 * k' : Nat) : Int) ∧ EDot.Row w.heap.size w8 (.slice a8 (k + 1) c8) (ps.take k') ∧ Below w.heap.size w w8 :=
     ⟨k + 1, by omega, by rw [hj2], by rw [HT.out]; exact hrow8, hb8⟩
    go_roundw
    case rel => exact hfin
    case measure => simp [intOf]; omega
  ·have hke : k = n := by omega
   have HT : Hid (ps.take k = ps) := Hd (by rw [hke, HN.out]; exact List.take_length)
   obtain ⟨j, hj⟩ : ∃ j, j = 2 * k := ⟨_, rfl⟩;rw [← hj];have t1 : ¬ ((j : Int) + 1 < (m : Int)) := by omega
   have kw1 : IntKind.i64.wrap ((j : Int) + 1) = (j : Int) + 1 := by rw [IntKind.wrap_i64]; omega
   rw [HT.out] at hrow;have hfin : ∃ v, (.returned u3 : Ending) = .returned v ∧ EDot.Row w.heap.size wr v ps ∧ Below w.heap.size w wr := ⟨_, rfl, hrow, hbr⟩;have HFIN := Hd hfin;clear hfin hrow hbr hke hlt hk hm2 hj
   go_wp2_with fail
   go_ret
   exact HFIN.out
end Go.Proofs.YtadbmineobldbaaGreatDoor
set_option linter.unusedSimpArgs false
set_option linter.unusedVariables false
set_option maxRecDepth 100000
set_option maxHeartbeats 4000000
namespace Go.Proofs.YtadbmineobldbaaGreatDoor
open Go.RowKit Go.Maps Go.Sort Go.Shelf

theorem l10has_any (c : CartD) (nm : ByteArray) (q no : Int) (v1 v2 v3 : Value) (w : World) (h : CartA w v1 v2 v3 c) (hl : Lt c.items) (hG : GlobIs w) :
  Calls Tryz.prog 17 #[.agg #[v1, v2, v3], .string nm, .int .i64 q, .int .i64 no] w fun e w' => e = .returned (.bool ((qtyC c nm == q) && (qtyCE c nm == no))) ∧ Below w.heap.size w w' := by
 obtain ⟨o1, n1, k1, o2, n2, k2, o3, n3, k3, rfl, rfl, rfl, hn1, hn2, hn3⟩ := opn4 h;obtain ⟨W1, HW, HB, HS, HK0⟩ := box1 w #[.slice o1 n1 k1, .slice o2 n2 k2, .slice o3 n3 k3] 28;have HQ := Hd (cartQty_any c nm _ _ _ W1 (h.below HB.out) hl (hG.below HB.out));obtain ⟨x0, x1, x2⟩ := cel3 (HK0.out W1 brf);obtain ⟨r, hr⟩ : ∃ r, r = (qtyC c nm == q) := ⟨_, rfl⟩;obtain ⟨E, hE⟩ : ∃ E, E = qtyCE c nm := ⟨_, rfl⟩;rw [← hE] at HQ;obtain ⟨F, hF⟩ : ∃ F, F = qtyC c nm := ⟨_, rfl⟩;rw [← hF] at HQ;rw [← hr, ← hE];rw [← hF] at hr;have HR := Hd hr;clear hr hE hF h hn1 hn2 hn3 hG hl
 go_enter Tryz.func17, Tryz.ntmps17
 go_wp2_with fail
 rw [← HW.out]
 go_wp2_with fail
 refine HQ.out.mono ?_;rintro e w5 ⟨rfl, hb5⟩;have HBF := Hd (btr HB.out hb5);clear hb5 HQ x0 x1 x2
 cases r with
 | false =>
  have t : (F == q) = false := HR.out.symm
  go_wp2_with fail
  go_ret
  exact ⟨rfl, HBF.out⟩
 | true =>
  have t : (F == q) = true := HR.out.symm
  go_wp2_with fail
  go_ret
  exact ⟨rfl, HBF.out⟩

theorem l10time_any (c : CartD) (q no : Int) (v1 v2 v3 : Value) (w : World) (h : CartA w v1 v2 v3 c) (hl : Lt c.items) (hG : GlobIs w) :
  Calls Tryz.prog 21 #[.agg #[v1, v2, v3], .int .u64 q, .int .i64 no] w fun e w' => e = .returned (.bool ((timeC c == q) && (timeCE c == no))) ∧ Below w.heap.size w w' := by
 obtain ⟨o1, n1, k1, o2, n2, k2, o3, n3, k3, rfl, rfl, rfl, hn1, hn2, hn3⟩ := opn4 h;obtain ⟨W1, HW, HB, HS, HK0⟩ := box1 w #[.slice o1 n1 k1, .slice o2 n2 k2, .slice o3 n3 k3] 28;have HQ := Hd (cartTime_any c _ _ _ W1 (h.below HB.out) hl (hG.below HB.out));obtain ⟨x0, x1, x2⟩ := cel3 (HK0.out W1 brf);obtain ⟨r, hr⟩ : ∃ r, r = (timeC c == q) := ⟨_, rfl⟩;obtain ⟨E, hE⟩ : ∃ E, E = timeCE c := ⟨_, rfl⟩;rw [← hE] at HQ;obtain ⟨F, hF⟩ : ∃ F, F = timeC c := ⟨_, rfl⟩;rw [← hF] at HQ;rw [← hr, ← hE];rw [← hF] at hr;have HR := Hd hr;clear hr hE hF h hn1 hn2 hn3 hG hl
 go_enter Tryz.func21, Tryz.ntmps21
 go_wp2_with fail
 rw [← HW.out]
 go_wp2_with fail
 refine HQ.out.mono ?_;rintro e w5 ⟨rfl, hb5⟩;have HBF := Hd (btr HB.out hb5);clear hb5 HQ x0 x1 x2
 cases r with
 | false =>
  have t : (F == q) = false := HR.out.symm
  go_wp2_with fail
  go_ret
  exact ⟨rfl, HBF.out⟩
 | true =>
  have t : (F == q) = true := HR.out.symm
  go_wp2_with fail
  go_ret
  exact ⟨rfl, HBF.out⟩
theorem canonC_valid (c : CartD) : validC (canonC c) = true := by
 unfold canonC
 cases h : canonOk c with
 | true => simp only [if_true]; exact canonOf_valid h
 | false => simp only [Bool.false_eq_true, if_false]; decide +kernel

theorem l10canon_any (a c : CartD) (no : Int) (v1 v2 v3 u1 u2 u3 : Value) (w : World) (h : CartA w v1 v2 v3 a) (g : CartA w u1 u2 u3 c) (hl : SzC a) (hds : (allDots a.items).length ≤ 9000) (hG : GlobIs w) :
  Calls Tryz.prog 11 #[.agg #[v1, v2, v3], .agg #[u1, u2, u3], .int .i64 no] w fun e w' => e = .returned (.bool (decide (canonC a = c) && (canonE a == no))) ∧ Below w.heap.size w w' := by
 obtain ⟨o1, n1, k1, o2, n2, k2, o3, n3, k3, rfl, rfl, rfl, hn1, hn2, hn3⟩ := opn4 h;obtain ⟨o4, n4, k4, o5, n5, k5, o6, n6, k6, rfl, rfl, rfl, hn4, hn5, hn6⟩ := opn4 g;obtain ⟨W2, HW, HB, HS, HK0, HK1⟩ := box2 w #[.slice o1 n1 k1, .slice o2 n2 k2, .slice o3 n3 k3] 28 #[.slice o4 n4 k4, .slice o5 n5 k5, .slice o6 n6 k6] 28;have HJ := Hd (cartCanon_any a _ _ _ W2 (h.below HB.out) hl hds (hG.below HB.out));have HF2 := Hd (g.below HB.out);obtain ⟨x0, x1, x2⟩ := cel3 (HK0.out W2 brf);have HEQ : Hid (∀ wz y1 y2 y3, Below W2.heap.size W2 wz → CartA wz y1 y2 y3 (canonC a) → Calls Tryz.prog 14 #[.agg #[y1, y2, y3], .agg #[.slice o4 n4 k4, .slice o5 n5 k5, .slice o6 n6 k6]] wz fun e w' => e = .returned (.bool (decide (canonC a = c))) ∧ Below wz.heap.size wz w') := Hd (fun wz y1 y2 y3 hz hy => r10Equal_any _ c _ _ _ _ _ _ wz hy (HF2.out.below hz))
 obtain ⟨E, hE0⟩ : ∃ E, E = canonE a := ⟨_, rfl⟩;rw [← hE0] at HJ ⊢;have HE0 := Hd hE0;clear h hn1 hn2 hn3 g hn4 hn5 hn6 hG hl hds hE0
 go_enter Tryz.func11, Tryz.ntmps11
 go_wp2_with fail
 rw [← HW.out]
 go_wp2_with fail
 refine HJ.out.mono ?_;rintro e w5 ⟨x1, x2, x3, rfl, hown, hb5⟩;have hRA := hown.cart (canonC_valid a);obtain ⟨p1, m1, l1, p2, m2, l2, p3, m3, l3, rfl, rfl, rfl, hm1, hm2, hm3⟩ := opn4 hRA;obtain ⟨W6, HW6, HB6a, HS6, HK6⟩ := box1 w5 #[.slice p1 m1 l1, .slice p2 m2 l2, .slice p3 m3 l3] 28;have hb6 := btr hb5 HB6a.out;have HE6 := Hd (HEQ.out W6 _ _ _ hb6 (hRA.below HB6a.out));obtain ⟨y0, y1, y2⟩ := cel3 (HK1.out W6 hb6);obtain ⟨c0, c1, c2⟩ := cel3 (HK6.out W6 brf);have HB6 := Hd (btr HB.out hb6);clear hown hRA hb5 hb6 HEQ HJ HB6a x0 x1 x2 hm1 hm2 hm3;obtain ⟨r, hr⟩ : ∃ r, r = decide (canonC a = c) := ⟨_, rfl⟩;rw [← hr] at HE6;have HR := Hd hr;clear hr
 go_wp2_with (go_loud (rw [← HW6.out]))
 refine HE6.out.mono ?_;rintro e w7 ⟨rfl, hb7⟩;have HBF := Hd (btr HB6.out hb7);clear hb7 HE6
 cases r with
 | false =>
  go_wp2_with fail
  go_ret
  exact ⟨by rw [← HR.out]; rfl, HBF.out⟩
 | true =>
  go_wp2_with fail
  go_ret
  exact ⟨by rw [← HR.out]; rfl, HBF.out⟩
end Go.Proofs.YtadbmineobldbaaGreatDoor
