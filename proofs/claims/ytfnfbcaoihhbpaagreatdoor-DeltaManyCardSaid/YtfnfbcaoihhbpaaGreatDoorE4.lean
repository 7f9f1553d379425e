/- Stage 12: the law's at, mark, item, con, adds, sets, removes, clears. -/
import Derived.Test.YtfnfbcaoihhbpaaGreatDoorE2
import Derived.Test.YtfnfbcaoihhbpaaGreatDoorD9m
set_option linter.unusedSimpArgs false
set_option linter.unusedVariables false
set_option maxRecDepth 100000
set_option maxHeartbeats 16000000
namespace Go.Proofs.YtfnfbcaoihhbpaaGreatDoor
open Go.RowKit Go.Maps Go.Sort Go.Shelf

theorem l12at_any (a b : Int) (w : World) : Calls Tryz.prog 25 #[.int .i64 a, .int .i64 b] w fun e w' => e = .returned (.agg #[.int .i64 a, .int .i64 b]) ∧ Below w.heap.size w w' := by
 go_enter Tryz.func25, Tryz.ntmps25
 go_wp2
 (try simp only [Exit.inBlock, Exit.then])
 refine bodyPost_ret (v := .agg #[.int .i64 a, .int .i64 b]) ?_ rfl ⟨rfl, bal⟩
 rw [results_cell_one rfl]
 go_simp
theorem l12mark_any (a b q t : Int) (w : World) : Calls Tryz.prog 27 #[.int .i64 a, .int .i64 b, .int .i64 q, .int .u64 t] w fun e w' => e = .returned (.agg #[.int .i64 a, .int .i64 b, .int .i64 q, .int .u64 t]) ∧ Below w.heap.size w w' := by
 obtain ⟨W1, HW, HB, HS, HK⟩ := box1 w #[.int .i64 0, .int .i64 0, .int .i64 0, .int .u64 0] 55
 have HA := Hd (l12at_any a b W1)
 have HBW := Hd HB.out
 clear HB HS
 go_enter Tryz.func27, Tryz.ntmps27
 go_wp2_with fail
 rw [← HW.out]
 go_wp2_with fail
 refine HA.out.mono ?_
 rintro e w2 ⟨rfl, hb2⟩
 have hz := HK.out w2 hb2
 have hbb : Below w.heap.size w ((((w2.setCell ⟨w.heap.size, 0, none⟩ (.int .i64 a)).setCell ⟨w.heap.size, 1, none⟩ (.int .i64 b)).setCell ⟨w.heap.size, 2, none⟩ (.int .i64 q)).setCell ⟨w.heap.size, 3, none⟩ (.int .u64 t)) := by
  refine (((((btr HBW.out hb2).setCell ?_ _).setCell ?_ _).setCell ?_ _).setCell ?_ _) <;> exact Nat.le_refl _
 have HF := Hd hbb
 obtain ⟨y0, y1, y2, y3⟩ := cel4 hz
 have g0 := froz0 hz 0
 have g1 := froz0 hz 1
 have g2 := froz0 hz 2
 have g3 := froz0 hz 3
 clear HA HK hz hb2 hbb
 go_wp2_with fail
 (try simp only [Exit.inBlock, Exit.then])
 refine bodyPost_ret (v := .agg #[.int .i64 a, .int .i64 b, .int .i64 q, .int .u64 t]) ?_ rfl ⟨rfl, HF.out⟩
 rw [results_cell_one rfl]
 go_simp
theorem l12item_any (nm : ByteArray) (o : Option Addr) (n c : Nat) (w : World) : Calls Tryz.prog 26 #[.string nm, .slice o n c] w fun e w' => e = .returned (.agg #[.string nm, .slice o n c]) ∧ Below w.heap.size w w' := by
 go_enter Tryz.func26, Tryz.ntmps26
 go_wp2
 (try simp only [Exit.inBlock, Exit.then])
 refine bodyPost_ret (v := .agg #[.string nm, .slice o n c]) ?_ rfl ⟨rfl, bal⟩
 rw [results_cell_one rfl]
 go_simp
theorem l12con_any (kz : Int) (k : Nat) (hkz : kz = k) (l : List DotD) (o : Option Addr) (n c : Nat) (w : World) (h : Arr DotR 2 w (.slice o n c) l) (hk : k ≤ l.length) :
  Calls Tryz.prog 24 #[.int .i64 kz, .slice o n c] w fun e w' => ∃ v, e = .returned v ∧ Ke.holds 0 (.ctx (l.take k) (l.drop k)) v w' ∧ Below w.heap.size w w' := by
 subst hkz
 obtain ⟨W1, HW, HB, HS, HK⟩ := box1 w #[.slice none 0 0, .slice none 0 0] 25
 have hn : n = l.length := by
  obtain ⟨o', c', e, -⟩ := id h
  injection e
 have hc : n ≤ c := by
  obtain ⟨o', c', e, h1, -⟩ := id h
  injection e with e1 e2 e3
  omega
 have a0 : (0 : Int) ≤ (k : Int) := by omega
 have a1 : (k : Int) ≤ (c : Int) := by omega
 have a2 : (k : Int) ≤ (n : Int) := by omega
 have H1 := Hd (arr_take h k hk)
 have H2 := Hd (arr_drop h k hk)
 rw [← hn] at H2
 have HBW := Hd HB.out
 have HKK := Hd (fun wz hz => And.intro (cel2 (HK.out wz hz)) (And.intro (froz0 (HK.out wz hz) 0) (froz0 (HK.out wz hz) 1)))
 clear h hk hn HB HS
 go_enter Tryz.func24, Tryz.ntmps24
 go_upto_region 1 with fail
 rw [← HW.out]
 refine NQ.to ?_
 refine wp_region_held_drew (S := (fun _ => True)) (by kernel_rfl) (trivial) (fun hS => ?_)
 refine tkR (n := 7) [0, 1, 2, 3, 4, 5, 6] rfl (by decide +kernel) hS ?_
 iterate 7 ((try simp only [Act.put, s1, s2, s3, s4, s5, s6]); refine ⟨_, ?_, rfl, Or.inl ⟨by kernel_rfl, fun w hSw => ok_of fun z hz => ?_⟩, ?_⟩; rotate_left; · (go_simp; exact hz))
 refine RunOK.done ?_
 try simp only [Act.put, s1, s2, s3, s4, s5, s6]
 refine rd1 7 (by decide +kernel) rfl (fun K hK => ?_)
 obtain ⟨⟨e0, e1⟩, f0, f1⟩ := HKK.out W1 brf
 go_simp
 refine Shut.out hK _ _ (trivial) (fun hS2 => ?_); clear hK K hS; have hS := hS2; clear hS2
 try simp only [Act.put, s1, s2, s3, s4, s5, s6]
 refine wpAnyH_done (by kernel_rfl) ?_ _
 try simp only [Act.put, s1, s2, s3, s4, s5, s6]
 simp only [NQ]
 have hx := HK.out W1 brf
 generalize (if c = k then o else Option.map (fun x => x.add (k * 2)) o) = oo at *
 have h1 := (H1.out.dots HBW.out)
 have h2 := (H2.out.dots HBW.out)
 have hl1 := h1.slice
 have HF : Hid (Below w.heap.size w (set2 W1 w.heap.size (.slice o k c) (.slice oo (n - k) (c - k))).drew) := Hd ((set2_below _ _ HBW.out (Nat.le_refl _)).trans bdr)
 have HK1 : Hid (Ke.holds 0 (.ctx (l.take k) (l.drop k)) (.agg #[.slice o k c, .slice oo (n - k) (c - k)]) (set2 W1 w.heap.size (.slice o k c) (.slice oo (n - k) (c - k))).drew) := Hd ⟨_, _, _, _, _, _, rfl, (arr_set2 h1 hx).dots bdr, (arr_set2 h2 hx).dots bdr⟩
 have hz : (set2 W1 w.heap.size (.slice o k c) (.slice oo (n - k) (c - k))).drew.heap[w.heap.size]? = some (.cells #[.slice o k c, .slice oo (n - k) (c - k)] 25) := set2_same _ _ hx
 obtain ⟨W9, hW9⟩ : ∃ x, x = (set2 W1 w.heap.size (.slice o k c) (.slice oo (n - k) (c - k))).drew := ⟨_, rfl⟩
 rw [← hW9] at hz HF HK1
 obtain ⟨y0, y1⟩ := cel2 hz
 clear h1 h2 hl1 hx H1 H2 hS e0 e1 f0 f1 HK HKK
 go_wp2_with fail
 (try simp only [Exit.inBlock, Exit.then])
 change bodyPost _ _ _ _ _ (set2 W1 w.heap.size (.slice o k c) (.slice oo (n - k) (c - k))).drew
 rw [← hW9]
 clear hW9
 refine bodyPost_ret (v := .agg #[.slice o k c, .slice oo (n - k) (c - k)]) ?_ rfl ⟨_, rfl, HK1.out, HF.out⟩
 rw [results_cell_one rfl]
 go_simp
theorem l12adds_any (c x : CartD) (d : DotD) (nm : ByteArray) (q : Int) (no : Int) (v1 v2 v3 u1 u2 u3 : Value) (w : World) (h : CartA w v1 v2 v3 c) (g : CartA w u1 u2 u3 x) (hl : Lt c.items) (hn : (allDots c.items).length ≤ 9000) (hs : nm.size ≤ maxLen) (hG : GlobIs w) :
  Calls Tryz.prog 13 #[.agg #[v1, v2, v3], dotV d, .string nm, .int .i64 q, .agg #[u1, u2, u3], .int .i64 no] w fun e w' => e = .returned (.bool (decide (putC c d nm q false = x) && (putCE c d nm q false == no))) ∧ Below w.heap.size w w' := by
 obtain ⟨o1, n1, k1, o2, n2, k2, o3, n3, k3, rfl, rfl, rfl, hn1, hn2, hn3⟩ := opn4 h
 obtain ⟨o4, n4, k4, o5, n5, k5, o6, n6, k6, rfl, rfl, rfl, hn4, hn5, hn6⟩ := opn4 g
 obtain ⟨W2, HW, HB, HS, HK0, HK1, HK2⟩ := box3 w #[.slice o1 n1 k1, .slice o2 n2 k2, .slice o3 n3 k3] 28 #[.int .i64 d.rep, .int .i64 d.ctr] 30 #[.slice o4 n4 k4, .slice o5 n5 k5, .slice o6 n6 k6] 28
 have HJ := Hd (deltaAdd_any c d nm q _ _ _ W2 (h.below HB.out) hl hn hs (hG.below HB.out))
 have HF2 := Hd (g.below HB.out)
 obtain ⟨x0, x1, x2⟩ := cel3 (HK0.out W2 brf)
 obtain ⟨x3, x4⟩ := cel2 (HK1.out W2 brf)
 unfold dotV at *
 have HEQ : Hid (∀ wz y1 y2 y3, Below W2.heap.size W2 wz → CartA wz y1 y2 y3 (putC c d nm q false) → Calls Tryz.prog 15 #[.agg #[y1, y2, y3], .agg #[.slice o4 n4 k4, .slice o5 n5 k5, .slice o6 n6 k6]] wz fun e w' => e = .returned (.bool (decide (putC c d nm q false = x))) ∧ Below wz.heap.size wz w') := Hd (fun wz y1 y2 y3 hz hy => r10Equal_any _ x _ _ _ _ _ _ wz hy (HF2.out.below hz))
 generalize putC c d nm q false = R at *
 generalize putCE c d nm q false = E at *
 have HBW := Hd HB.out
 clear h hn1 hn2 hn3 g hn4 hn5 hn6 hG hl hn HB HS
 go_enter Tryz.func13, Tryz.ntmps13
 go_wp2_with fail
 rw [← HW.out]
 go_wp2_with fail
 refine HJ.out.mono ?_
 rintro e w5 ⟨x1, x2, x3, rfl, hRA, hb5⟩
 obtain ⟨p1, m1, l1, p2, m2, l2, p3, m3, l3, rfl, rfl, rfl, hm1, hm2, hm3⟩ := opn4 hRA
 obtain ⟨W6, HW6, HB6a, HS6, HK6⟩ := box1 w5 #[.slice p1 m1 l1, .slice p2 m2 l2, .slice p3 m3 l3] 28
 have hb6 := btr hb5 HB6a.out
 have HE6 := Hd (HEQ.out W6 _ _ _ hb6 (hRA.below HB6a.out))
 obtain ⟨y0, y1, y2⟩ := cel3 (HK2.out W6 hb6)
 obtain ⟨c0, c1, c2⟩ := cel3 (HK6.out W6 brf)
 have HB6 := Hd (btr HBW.out hb6)
 clear hRA hb5 hb6 HEQ HJ HB6a x0 x1 x2 x3 x4 hm1 hm2 hm3
 obtain ⟨r, hr⟩ : ∃ r, r = decide (R = x) := ⟨_, rfl⟩
 rw [← hr] at HE6
 have HR := Hd hr
 clear hr
 go_wp2_with (go_loud (rw [← HW6.out]))
 refine HE6.out.mono ?_
 rintro e w7 ⟨rfl, hb7⟩
 have HBF := Hd (btr HB6.out hb7)
 clear hb7 HE6
 cases r with
 | false =>
  go_wp2_with fail
  go_ret
  exact ⟨by rw [← HR.out]; rfl, HBF.out⟩
 | true =>
  go_wp2_with fail
  go_ret
  exact ⟨by rw [← HR.out]; rfl, HBF.out⟩
theorem l12sets_any (c x : CartD) (d : DotD) (nm : ByteArray) (q : Int) (no : Int) (v1 v2 v3 u1 u2 u3 : Value) (w : World) (h : CartA w v1 v2 v3 c) (g : CartA w u1 u2 u3 x) (hl : Lt c.items) (hn : (allDots c.items).length ≤ 9000) (hs : nm.size ≤ maxLen) (hG : GlobIs w) :
  Calls Tryz.prog 14 #[.agg #[v1, v2, v3], dotV d, .string nm, .int .i64 q, .agg #[u1, u2, u3], .int .i64 no] w fun e w' => e = .returned (.bool (decide (putC c d nm q true = x) && (putCE c d nm q true == no))) ∧ Below w.heap.size w w' := by
 obtain ⟨o1, n1, k1, o2, n2, k2, o3, n3, k3, rfl, rfl, rfl, hn1, hn2, hn3⟩ := opn4 h
 obtain ⟨o4, n4, k4, o5, n5, k5, o6, n6, k6, rfl, rfl, rfl, hn4, hn5, hn6⟩ := opn4 g
 obtain ⟨W2, HW, HB, HS, HK0, HK1, HK2⟩ := box3 w #[.slice o1 n1 k1, .slice o2 n2 k2, .slice o3 n3 k3] 28 #[.int .i64 d.rep, .int .i64 d.ctr] 30 #[.slice o4 n4 k4, .slice o5 n5 k5, .slice o6 n6 k6] 28
 have HJ := Hd (deltaSet_any c d nm q _ _ _ W2 (h.below HB.out) hl hn hs (hG.below HB.out))
 have HF2 := Hd (g.below HB.out)
 obtain ⟨x0, x1, x2⟩ := cel3 (HK0.out W2 brf)
 obtain ⟨x3, x4⟩ := cel2 (HK1.out W2 brf)
 unfold dotV at *
 have HEQ : Hid (∀ wz y1 y2 y3, Below W2.heap.size W2 wz → CartA wz y1 y2 y3 (putC c d nm q true) → Calls Tryz.prog 15 #[.agg #[y1, y2, y3], .agg #[.slice o4 n4 k4, .slice o5 n5 k5, .slice o6 n6 k6]] wz fun e w' => e = .returned (.bool (decide (putC c d nm q true = x))) ∧ Below wz.heap.size wz w') := Hd (fun wz y1 y2 y3 hz hy => r10Equal_any _ x _ _ _ _ _ _ wz hy (HF2.out.below hz))
 generalize putC c d nm q true = R at *
 generalize putCE c d nm q true = E at *
 have HBW := Hd HB.out
 clear h hn1 hn2 hn3 g hn4 hn5 hn6 hG hl hn HB HS
 go_enter Tryz.func14, Tryz.ntmps14
 go_wp2_with fail
 rw [← HW.out]
 go_wp2_with fail
 refine HJ.out.mono ?_
 rintro e w5 ⟨x1, x2, x3, rfl, hRA, hb5⟩
 obtain ⟨p1, m1, l1, p2, m2, l2, p3, m3, l3, rfl, rfl, rfl, hm1, hm2, hm3⟩ := opn4 hRA
 obtain ⟨W6, HW6, HB6a, HS6, HK6⟩ := box1 w5 #[.slice p1 m1 l1, .slice p2 m2 l2, .slice p3 m3 l3] 28
 have hb6 := btr hb5 HB6a.out
 have HE6 := Hd (HEQ.out W6 _ _ _ hb6 (hRA.below HB6a.out))
 obtain ⟨y0, y1, y2⟩ := cel3 (HK2.out W6 hb6)
 obtain ⟨c0, c1, c2⟩ := cel3 (HK6.out W6 brf)
 have HB6 := Hd (btr HBW.out hb6)
 clear hRA hb5 hb6 HEQ HJ HB6a x0 x1 x2 x3 x4 hm1 hm2 hm3
 obtain ⟨r, hr⟩ : ∃ r, r = decide (R = x) := ⟨_, rfl⟩
 rw [← hr] at HE6
 have HR := Hd hr
 clear hr
 go_wp2_with (go_loud (rw [← HW6.out]))
 refine HE6.out.mono ?_
 rintro e w7 ⟨rfl, hb7⟩
 have HBF := Hd (btr HB6.out hb7)
 clear hb7 HE6
 cases r with
 | false =>
  go_wp2_with fail
  go_ret
  exact ⟨by rw [← HR.out]; rfl, HBF.out⟩
 | true =>
  go_wp2_with fail
  go_ret
  exact ⟨by rw [← HR.out]; rfl, HBF.out⟩
theorem l12removes_any (c x : CartD) (nm : ByteArray) (no : Int) (v1 v2 v3 u1 u2 u3 : Value) (w : World) (h : CartA w v1 v2 v3 c) (g : CartA w u1 u2 u3 x) (hl : Lt c.items) (hn : (allDots c.items).length ≤ 9000) (hs : nm.size ≤ maxLen) (hG : GlobIs w) :
  Calls Tryz.prog 18 #[.agg #[v1, v2, v3], .string nm, .agg #[u1, u2, u3], .int .i64 no] w fun e w' => e = .returned (.bool (decide (remC c nm = x) && (remCE c nm == no))) ∧ Below w.heap.size w w' := by
 obtain ⟨o1, n1, k1, o2, n2, k2, o3, n3, k3, rfl, rfl, rfl, hn1, hn2, hn3⟩ := opn4 h
 obtain ⟨o4, n4, k4, o5, n5, k5, o6, n6, k6, rfl, rfl, rfl, hn4, hn5, hn6⟩ := opn4 g
 obtain ⟨W2, HW, HB, HS, HK0, HK1⟩ := box2 w #[.slice o1 n1 k1, .slice o2 n2 k2, .slice o3 n3 k3] 28 #[.slice o4 n4 k4, .slice o5 n5 k5, .slice o6 n6 k6] 28
 have HJ := Hd (deltaRemove_any c nm _ _ _ W2 (h.below HB.out) hl hn hs (hG.below HB.out))
 have HF2 := Hd (g.below HB.out)
 obtain ⟨x0, x1, x2⟩ := cel3 (HK0.out W2 brf)
 have HEQ : Hid (∀ wz y1 y2 y3, Below W2.heap.size W2 wz → CartA wz y1 y2 y3 (remC c nm) → Calls Tryz.prog 15 #[.agg #[y1, y2, y3], .agg #[.slice o4 n4 k4, .slice o5 n5 k5, .slice o6 n6 k6]] wz fun e w' => e = .returned (.bool (decide (remC c nm = x))) ∧ Below wz.heap.size wz w') := Hd (fun wz y1 y2 y3 hz hy => r10Equal_any _ x _ _ _ _ _ _ wz hy (HF2.out.below hz))
 generalize remC c nm = R at *
 generalize remCE c nm = E at *
 have HBW := Hd HB.out
 clear h hn1 hn2 hn3 g hn4 hn5 hn6 hG hl hn HB HS
 go_enter Tryz.func18, Tryz.ntmps18
 go_wp2_with fail
 rw [← HW.out]
 go_wp2_with fail
 refine HJ.out.mono ?_
 rintro e w5 ⟨x1, x2, x3, rfl, hRA, hb5⟩
 obtain ⟨p1, m1, l1, p2, m2, l2, p3, m3, l3, rfl, rfl, rfl, hm1, hm2, hm3⟩ := opn4 hRA
 obtain ⟨W6, HW6, HB6a, HS6, HK6⟩ := box1 w5 #[.slice p1 m1 l1, .slice p2 m2 l2, .slice p3 m3 l3] 28
 have hb6 := btr hb5 HB6a.out
 have HE6 := Hd (HEQ.out W6 _ _ _ hb6 (hRA.below HB6a.out))
 obtain ⟨y0, y1, y2⟩ := cel3 (HK1.out W6 hb6)
 obtain ⟨c0, c1, c2⟩ := cel3 (HK6.out W6 brf)
 have HB6 := Hd (btr HBW.out hb6)
 clear hRA hb5 hb6 HEQ HJ HB6a x0 x1 x2 hm1 hm2 hm3
 obtain ⟨r, hr⟩ : ∃ r, r = decide (R = x) := ⟨_, rfl⟩
 rw [← hr] at HE6
 have HR := Hd hr
 clear hr
 go_wp2_with (go_loud (rw [← HW6.out]))
 refine HE6.out.mono ?_
 rintro e w7 ⟨rfl, hb7⟩
 have HBF := Hd (btr HB6.out hb7)
 clear hb7 HE6
 cases r with
 | false =>
  go_wp2_with fail
  go_ret
  exact ⟨by rw [← HR.out]; rfl, HBF.out⟩
 | true =>
  go_wp2_with fail
  go_ret
  exact ⟨by rw [← HR.out]; rfl, HBF.out⟩
theorem l12clears_any (c x : CartD) (no : Int) (v1 v2 v3 u1 u2 u3 : Value) (w : World) (h : CartA w v1 v2 v3 c) (g : CartA w u1 u2 u3 x) (hl : Lt c.items) (hn : (allDots c.items).length ≤ 9000) (hG : GlobIs w) :
  Calls Tryz.prog 19 #[.agg #[v1, v2, v3], .agg #[u1, u2, u3], .int .i64 no] w fun e w' => e = .returned (.bool (decide (clrC c = x) && (clrCE c == no))) ∧ Below w.heap.size w w' := by
 obtain ⟨o1, n1, k1, o2, n2, k2, o3, n3, k3, rfl, rfl, rfl, hn1, hn2, hn3⟩ := opn4 h
 obtain ⟨o4, n4, k4, o5, n5, k5, o6, n6, k6, rfl, rfl, rfl, hn4, hn5, hn6⟩ := opn4 g
 obtain ⟨W2, HW, HB, HS, HK0, HK1⟩ := box2 w #[.slice o1 n1 k1, .slice o2 n2 k2, .slice o3 n3 k3] 28 #[.slice o4 n4 k4, .slice o5 n5 k5, .slice o6 n6 k6] 28
 have HJ := Hd (deltaClear_any c _ _ _ W2 (h.below HB.out) hl hn (hG.below HB.out))
 have HF2 := Hd (g.below HB.out)
 obtain ⟨x0, x1, x2⟩ := cel3 (HK0.out W2 brf)
 have HEQ : Hid (∀ wz y1 y2 y3, Below W2.heap.size W2 wz → CartA wz y1 y2 y3 (clrC c) → Calls Tryz.prog 15 #[.agg #[y1, y2, y3], .agg #[.slice o4 n4 k4, .slice o5 n5 k5, .slice o6 n6 k6]] wz fun e w' => e = .returned (.bool (decide (clrC c = x))) ∧ Below wz.heap.size wz w') := Hd (fun wz y1 y2 y3 hz hy => r10Equal_any _ x _ _ _ _ _ _ wz hy (HF2.out.below hz))
 generalize clrC c = R at *
 generalize clrCE c = E at *
 have HBW := Hd HB.out
 clear h hn1 hn2 hn3 g hn4 hn5 hn6 hG hl hn HB HS
 go_enter Tryz.func19, Tryz.ntmps19
 go_wp2_with fail
 rw [← HW.out]
 go_wp2_with fail
 refine HJ.out.mono ?_
 rintro e w5 ⟨x1, x2, x3, rfl, hRA, hb5⟩
 obtain ⟨p1, m1, l1, p2, m2, l2, p3, m3, l3, rfl, rfl, rfl, hm1, hm2, hm3⟩ := opn4 hRA
 obtain ⟨W6, HW6, HB6a, HS6, HK6⟩ := box1 w5 #[.slice p1 m1 l1, .slice p2 m2 l2, .slice p3 m3 l3] 28
 have hb6 := btr hb5 HB6a.out
 have HE6 := Hd (HEQ.out W6 _ _ _ hb6 (hRA.below HB6a.out))
 obtain ⟨y0, y1, y2⟩ := cel3 (HK1.out W6 hb6)
 obtain ⟨c0, c1, c2⟩ := cel3 (HK6.out W6 brf)
 have HB6 := Hd (btr HBW.out hb6)
 clear hRA hb5 hb6 HEQ HJ HB6a x0 x1 x2 hm1 hm2 hm3
 obtain ⟨r, hr⟩ : ∃ r, r = decide (R = x) := ⟨_, rfl⟩
 rw [← hr] at HE6
 have HR := Hd hr
 clear hr
 go_wp2_with (go_loud (rw [← HW6.out]))
 refine HE6.out.mono ?_
 rintro e w7 ⟨rfl, hb7⟩
 have HBF := Hd (btr HB6.out hb7)
 clear hb7 HE6
 cases r with
 | false =>
  go_wp2_with fail
  go_ret
  exact ⟨by rw [← HR.out]; rfl, HBF.out⟩
 | true =>
  go_wp2_with fail
  go_ret
  exact ⟨by rw [← HR.out]; rfl, HBF.out⟩
end Go.Proofs.YtfnfbcaoihhbpaaGreatDoor
