/- Law 22: dot, seen, item, sums, manies, wishes, logins. -/
import Derived.Test.YtjoljfnlkddfbaaGreatDoorM7
import Derived.Test.YtjoljfnlkddfbaaGreatDoorMoveK
set_option linter.unusedSimpArgs false
set_option linter.unusedVariables false
set_option maxRecDepth 100000
set_option maxHeartbeats 16000000
namespace Go.Proofs.YtjoljfnlkddfbaaGreatDoor
open Go.RowKit Go.Maps Go.Sort Go.Shelf

theorem l22dot_any (a b : Int) (w : World) : Calls Tryz.prog 26 #[.int .i64 a, .int .i64 b] w fun e w' => e = .returned (.agg #[.int .i64 a, .int .i64 b]) ∧ Below w.heap.size w w' := by
 go_enter Tryz.func26, Tryz.ntmps26
 go_wp2
 (try simp only [Exit.inBlock, Exit.then])
 refine bodyPost_ret (v := .agg #[.int .i64 a, .int .i64 b]) ?_ rfl ⟨rfl, bal⟩
 rw [results_cell_one rfl]
 go_simp
theorem l22seen_any (d : DotD) (w : World) (hd : DI d) : Calls Tryz.prog 32 #[.agg #[.int .i64 d.rep, .int .i64 d.ctr]] w fun e w' => ∃ g, e = .returned (.agg #[.slice (some ⟨g, 0, none⟩) 1 1, .slice none 0 0]) ∧ Arr DotR 2 w' (.slice (some ⟨g, 0, none⟩) 1 1) [d] ∧ Below w.heap.size w w' := by
 obtain ⟨W1, HW, HB, HS, HK0, HK1⟩ := box2 w #[.int .i64 d.rep, .int .i64 d.ctr] 39 #[.slice none 0 0, .slice none 0 0] 25
 have hz := HK1.out W1 brf
 obtain ⟨x0, x1⟩ := cel2 (HK0.out W1 brf)
 obtain ⟨e0, e1⟩ := cel2 hz
 have f0 := froz0 hz 0
 have f1 := froz0 hz 1
 have hs := HS.out
 obtain ⟨V, hV⟩ : ∃ x, x = set2 W1 (w.heap.size + 1) (.slice (some ⟨w.heap.size + 1 + 1, 0, none⟩) 1 1) (.slice none 0 0) := ⟨_, rfl⟩
 have hsV : V.heap.size = w.heap.size + 1 + 1 := by rw [hV, set2_eq, setCell_size, setCell_size, hs]
 have hbV : Below w.heap.size w V := by rw [hV]; exact set2_below _ _ HB.out (by omega)
 have hzV : V.heap[w.heap.size + 1]? = some (.cells #[.slice (some ⟨w.heap.size + 1 + 1, 0, none⟩) 1 1, .slice none 0 0] 25) := by rw [hV]; exact set2_same _ _ hz
 obtain ⟨W2, hW2⟩ : ∃ x, x = V.alloc (.cells #[.int .i64 d.rep, .int .i64 d.ctr] 39) := ⟨_, rfl⟩
 have hb2 : Below V.heap.size V W2 := by rw [hW2]; exact bal
 have HF : Hid (Below w.heap.size w W2) := Hd (btr hbV hb2)
 have ha : Arr DotR 2 W2 (.slice (some ⟨V.heap.size, 0, none⟩) 1 1) [d] := by
  rw [hW2]
  exact lit_dots [d] (by unfold maxLen; simp) (fun y hy => by rw [List.mem_singleton.1 hy]; exact hd)
 rw [hsV] at ha
 have HA := Hd ha
 have hz2 := (hb2.block _ (lt_of_heap hzV)).trans hzV
 obtain ⟨y0, y1⟩ := cel2 hz2
 have HWW : Hid (W2 = ((W1.setCell ⟨w.heap.size + 1, 0, none⟩ (.slice (some ⟨w.heap.size + 1 + 1, 0, none⟩) 1 1)).setCell ⟨w.heap.size + 1, 1, none⟩ (.slice none 0 0)).alloc (.cells #[.int .i64 d.rep, .int .i64 d.ctr] 39)) := Hd (by rw [hW2, hV, set2_eq])
 clear hz hb2 hW2 HB ha hz2 hbV hzV hV hsV
 go_enter Tryz.func32, Tryz.ntmps32
 go_upto_region 1 with fail
 rw [← HW.out]
 go_wp2_with fail
 (try simp only [Exit.inBlock, Exit.then])
 try rw [hs]
 rw [← HWW.out]
 refine bodyPost_ret (v := .agg #[.slice (some ⟨w.heap.size + 1 + 1, 0, none⟩) 1 1, .slice none 0 0]) ?_ rfl ⟨_, rfl, HA.out, HF.out⟩
 rw [results_cell_one rfl]
 go_simp
theorem l22item_any (nm : ByteArray) (d : DotD) (q t : Int) (w : World) (hm : MI ⟨d, q, t⟩) : Calls Tryz.prog 33 #[.string nm, .agg #[.int .i64 d.rep, .int .i64 d.ctr], .int .i64 q, .int .u64 t] w fun e w' => ∃ g, e = .returned (.agg #[.string nm, .slice (some ⟨g, 0, none⟩) 1 1]) ∧ Arr MarkR 4 w' (.slice (some ⟨g, 0, none⟩) 1 1) [⟨d, q, t⟩] ∧ Below w.heap.size w w' := by
 obtain ⟨W1, HW, HB, HS, HK0, HK1⟩ := box2 w #[.int .i64 d.rep, .int .i64 d.ctr] 39 #[.string ⟨#[]⟩, .slice none 0 0] 55
 have hz := HK1.out W1 brf
 obtain ⟨x0, x1⟩ := cel2 (HK0.out W1 brf)
 obtain ⟨e0, e1⟩ := cel2 hz
 have f0 := froz0 hz 0
 have f1 := froz0 hz 1
 have hs := HS.out
 obtain ⟨V, hV⟩ : ∃ x, x = set2 W1 (w.heap.size + 1) (.string nm) (.slice (some ⟨w.heap.size + 1 + 1, 0, none⟩) 1 1) := ⟨_, rfl⟩
 have hsV : V.heap.size = w.heap.size + 1 + 1 := by rw [hV, set2_eq, setCell_size, setCell_size, hs]
 have hbV : Below w.heap.size w V := by rw [hV]; exact set2_below _ _ HB.out (by omega)
 have hzV : V.heap[w.heap.size + 1]? = some (.cells #[.string nm, .slice (some ⟨w.heap.size + 1 + 1, 0, none⟩) 1 1] 55) := by rw [hV]; exact set2_same _ _ hz
 obtain ⟨W2, hW2⟩ : ∃ x, x = V.alloc (.cells #[.int .i64 d.rep, .int .i64 d.ctr, .int .i64 q, .int .u64 t] 85) := ⟨_, rfl⟩
 have hb2 : Below V.heap.size V W2 := by rw [hW2]; exact bal
 have HF : Hid (Below w.heap.size w W2) := Hd (btr hbV hb2)
 have ha : Arr MarkR 4 W2 (.slice (some ⟨V.heap.size, 0, none⟩) 1 1) [⟨d, q, t⟩] := by
  rw [hW2]
  exact lit_marks [⟨d, q, t⟩] (by unfold maxLen; simp) (fun y hy => by rw [List.mem_singleton.1 hy]; exact hm)
 rw [hsV] at ha
 have HA := Hd ha
 have hz2 := (hb2.block _ (lt_of_heap hzV)).trans hzV
 obtain ⟨y0, y1⟩ := cel2 hz2
 have HWW : Hid (W2 = ((W1.setCell ⟨w.heap.size + 1, 0, none⟩ (.string nm)).setCell ⟨w.heap.size + 1, 1, none⟩ (.slice (some ⟨w.heap.size + 1 + 1, 0, none⟩) 1 1)).alloc (.cells #[.int .i64 d.rep, .int .i64 d.ctr, .int .i64 q, .int .u64 t] 85)) := Hd (by rw [hW2, hV, set2_eq])
 clear hz hb2 hW2 HB ha hz2 hbV hzV hV hsV hm
 go_enter Tryz.func33, Tryz.ntmps33
 go_upto_region 1 with fail
 rw [← HW.out]
 go_wp2_with fail
 (try simp only [Exit.inBlock, Exit.then])
 try rw [hs]
 rw [← HWW.out]
 refine bodyPost_ret (v := .agg #[.string nm, .slice (some ⟨w.heap.size + 1 + 1, 0, none⟩) 1 1]) ?_ rfl ⟨_, rfl, HA.out, HF.out⟩
 rw [results_cell_one rfl]
 go_simp
theorem l22sums_any (c : CartD) (nm : ByteArray) (q n no : Int) (v1 v2 v3 : Value) (w : World) (h : CartA w v1 v2 v3 c) (hl : Lt c.items) (hs : nm.size ≤ maxLen) (hG : GlobIs w) :
  Calls Tryz.prog 14 #[.agg #[v1, v2, v3], .string nm, .int .i64 q, .int .i64 n, .int .i64 no] w fun e w' => e = .returned (.bool ((mSum c nm q == n) && (mSumE c nm q == no))) ∧ Below w.heap.size w w' := by
 obtain ⟨o1, n1, k1, o2, n2, k2, o3, n3, k3, rfl, rfl, rfl, hn1, hn2, hn3⟩ := opn4 h
 obtain ⟨W1, HW, HB, HS, HK0⟩ := box1 w #[.slice o1 n1 k1, .slice o2 n2 k2, .slice o3 n3 k3] 28
 have HC := Hd (moveSum_any c nm q _ _ _ W1 (h.below HB.out) hl hs (hG.below HB.out))
 obtain ⟨c0, c1, c2⟩ := cel3 (HK0.out W1 brf)
 generalize mSum c nm q = V at *
 generalize mSumE c nm q = E at *
 have HBW := Hd HB.out
 clear h hl hs hG hn1 hn2 hn3 HB HS
 go_enter Tryz.func14, Tryz.ntmps14
 go_wp2_with fail
 rw [← HW.out]
 go_wp2_with fail
 refine HC.out.mono ?_
 rintro e w2 ⟨rfl, hb2⟩
 have HB2 := Hd (btr HBW.out hb2)
 clear hb2 HC c0 c1 c2
 by_cases hv : V = n
 ·have hv1 : (V == n) = true := by simpa using hv
  clear hv
  go_wp2_with fail
  go_ret
  exact ⟨by rw [hv1]; rfl, HB2.out⟩
 ·have hv1 : (V == n) = false := by simpa using hv
  clear hv
  go_wp2_with fail
  go_ret
  exact ⟨by rw [hv1]; rfl, HB2.out⟩
theorem l22manies_any (a b : CartD) (n no : Int) (v1 v2 v3 u1 u2 u3 : Value) (w : World) (h : CartA w v1 v2 v3 a) (g : CartA w u1 u2 u3 b) (hla : Lt a.items) (hlb : Lt b.items) (hG : GlobIs w) :
  Calls Tryz.prog 11 #[.agg #[v1, v2, v3], .agg #[u1, u2, u3], .int .i64 n, .int .i64 no] w fun e w' => e = .returned (.bool ((mMany a b == n) && (mManyE a b == no))) ∧ Below w.heap.size w w' := by
 obtain ⟨o1, n1, k1, o2, n2, k2, o3, n3, k3, rfl, rfl, rfl, hn1, hn2, hn3⟩ := opn4 h
 obtain ⟨o4, n4, k4, o5, n5, k5, o6, n6, k6, rfl, rfl, rfl, hn4, hn5, hn6⟩ := opn4 g
 obtain ⟨W1, HW, HB, HS, HK0, HK1⟩ := box2 w #[.slice o1 n1 k1, .slice o2 n2 k2, .slice o3 n3 k3] 28 #[.slice o4 n4 k4, .slice o5 n5 k5, .slice o6 n6 k6] 28
 have HC := Hd (moveMany_any a b _ _ _ _ _ _ W1 (h.below HB.out) (g.below HB.out) hla hlb (hG.below HB.out))
 obtain ⟨c0, c1, c2⟩ := cel3 (HK0.out W1 brf)
 obtain ⟨c3, c4, c5⟩ := cel3 (HK1.out W1 brf)
 generalize mMany a b = V at *
 generalize mManyE a b = E at *
 have HBW := Hd HB.out
 clear h g hla hlb hG hn1 hn2 hn3 hn4 hn5 hn6 HB HS
 go_enter Tryz.func11, Tryz.ntmps11
 go_wp2_with fail
 rw [← HW.out]
 go_wp2_with fail
 refine HC.out.mono ?_
 rintro e w2 ⟨rfl, hb2⟩
 have HB2 := Hd (btr HBW.out hb2)
 clear hb2 HC c0 c1 c2 c3 c4 c5
 by_cases hv : V = n
 ·have hv1 : (V == n) = true := by simpa using hv
  clear hv
  go_wp2_with fail
  go_ret
  exact ⟨by rw [hv1]; rfl, HB2.out⟩
 ·have hv1 : (V == n) = false := by simpa using hv
  clear hv
  go_wp2_with fail
  go_ret
  exact ⟨by rw [hv1]; rfl, HB2.out⟩
theorem wishX_valid (f t : CartD) (nm : ByteArray) (d : DotD) : validC (wishX f t nm d) = true ∧ validC (wishY f t nm d) = true := by
 by_cases h : wishE f t nm d = 0
 ·obtain ⟨-, -, -, h1, h2, -⟩ := wish_holds h
  exact ⟨h1, h2⟩
 ·obtain ⟨h1, h2, -⟩ := wish_bad h
  rw [h1, h2]
  exact ⟨zeroC_valid, zeroC_valid⟩
theorem logX_valid (f t : CartD) (l : List DotD) : validC (logX f t l) = true ∧ validC (logY f t l) = true := by
 by_cases h : logE f t l = 0
 ·obtain ⟨-, -, h1, h2, -⟩ := login_holds h
  exact ⟨h1, h2⟩
 ·obtain ⟨h1, h2⟩ := log_bad h
  rw [h1, h2]
  exact ⟨zeroC_valid, zeroC_valid⟩
theorem l22wishes_any (f t x y : CartD) (nm : ByteArray) (d : DotD) (n no : Int) (v1 v2 v3 u1 u2 u3 x1 x2 x3 y1 y2 y3 : Value) (w : World) (h : CartA w v1 v2 v3 f) (g : CartA w u1 u2 u3 t) (hx : CartA w x1 x2 x3 x) (hy : CartA w y1 y2 y3 y) (hlf : Lt f.items) (hnf : (allDots f.items).length ≤ 9000) (hlt : Lt t.items) (hnt : (allDots t.items).length ≤ 9000) (hs : nm.size ≤ maxLen) (hG : GlobIs w) :
  Calls Tryz.prog 18 #[.agg #[v1, v2, v3], .agg #[u1, u2, u3], .string nm, .agg #[.int .i64 d.rep, .int .i64 d.ctr], .agg #[x1, x2, x3], .agg #[y1, y2, y3], .int .i64 n, .int .i64 no] w fun e w' => e = .returned (.bool (wishB f t nm d x y n no)) ∧ Below w.heap.size w w' := by
 obtain ⟨o1, n1, k1, o2, n2, k2, o3, n3, k3, rfl, rfl, rfl, -, -, -⟩ := opn4 h
 obtain ⟨o4, n4, k4, o5, n5, k5, o6, n6, k6, rfl, rfl, rfl, -, -, -⟩ := opn4 g
 obtain ⟨a1, a2, a3, a4, a5, a6, a7, a8, a9, rfl, rfl, rfl, -, -, -⟩ := opn4 hx
 obtain ⟨b1, b2, b3, b4, b5, b6, b7, b8, b9, rfl, rfl, rfl, -, -, -⟩ := opn4 hy
 obtain ⟨W0, HW0, HB0, HS0, HK0, HK1, HK2, HK3⟩ := box4 w #[.slice o1 n1 k1, .slice o2 n2 k2, .slice o3 n3 k3] 28 #[.slice o4 n4 k4, .slice o5 n5 k5, .slice o6 n6 k6] 28 #[.int .i64 d.rep, .int .i64 d.ctr] 39 #[.slice a1 a2 a3, .slice a4 a5 a6, .slice a7 a8 a9] 28
 obtain ⟨W1, HW1, HB1, HS1, HK4⟩ := box1 W0 #[.slice b1 b2 b3, .slice b4 b5 b6, .slice b7 b8 b9] 28
 have hs0 := HS0.out
 rw [hs0] at HK4
 have HBW := Hd (btr HB0.out HB1.out)
 have HC := Hd (moveWish_any f t nm d _ _ _ _ _ _ W1 (h.below HBW.out) (g.below HBW.out) hlf hnf hlt hnt hs (hG.below HBW.out))
 have HSA : Hid (∀ wz p1 p2 p3, Below W1.heap.size W1 wz → CartA wz p1 p2 p3 (wishX f t nm d) → Calls Tryz.prog 21 #[.agg #[p1, p2, p3], .agg #[.slice a1 a2 a3, .slice a4 a5 a6, .slice a7 a8 a9]] wz fun e w' => e = .returned (.bool (decide (wishX f t nm d = x))) ∧ Below wz.heap.size wz w') := Hd (fun wz p1 p2 p3 hz hp => r14Same_any _ x _ _ _ _ _ _ wz hp (hx.below (btr HBW.out hz)))
 have HSB : Hid (∀ wz p1 p2 p3, Below W1.heap.size W1 wz → CartA wz p1 p2 p3 (wishY f t nm d) → Calls Tryz.prog 21 #[.agg #[p1, p2, p3], .agg #[.slice b1 b2 b3, .slice b4 b5 b6, .slice b7 b8 b9]] wz fun e w' => e = .returned (.bool (decide (wishY f t nm d = y))) ∧ Below wz.heap.size wz w') := Hd (fun wz p1 p2 p3 hz hp => r14Same_any _ y _ _ _ _ _ _ wz hp (hy.below (btr HBW.out hz)))
 have HV := Hd (wishX_valid f t nm d)
 have HBB : Hid (wishB f t nm d x y n no = (decide (wishX f t nm d = x) && decide (wishY f t nm d = y) && (wishQ f t nm d == n) && (wishE f t nm d == no))) := Hd rfl
 have HK3' := Hd (fun wz (hz : Below W1.heap.size W1 wz) => cel3 (HK3.out wz (btr HB1.out hz)))
 have HK4' := Hd (fun wz (hz : Below W1.heap.size W1 wz) => cel3 (HK4.out wz hz))
 obtain ⟨c0, c1, c2⟩ := cel3 (HK0.out W1 HB1.out)
 obtain ⟨c3, c4, c5⟩ := cel3 (HK1.out W1 HB1.out)
 obtain ⟨c6, c7⟩ := cel2 (HK2.out W1 HB1.out)
 clear h g hx hy hlf hnf hlt hnt hs hG HK0 HK1 HK2 HK3 HK4 HB0 HB1 HS0 HS1
 unfold dotV at HC
 generalize wishB f t nm d x y n no = BB at *
 generalize wishX f t nm d = X at *
 generalize wishY f t nm d = Y at *
 generalize wishQ f t nm d = Q at *
 generalize wishE f t nm d = E at *
 go_enter Tryz.func18, Tryz.ntmps18
 go_upto_region 1 with fail
 rw [← HW0.out, ← HW1.out]
 clear HW0 HW1 hs0
 go_wp2_with fail
 refine HC.out.mono ?_
 rintro e w2 ⟨x1, x2, x3, y1, y2, y3, rfl, hox, hoy, hb2⟩
 obtain ⟨p1, m1, l1, p2, m2, l2, p3, m3, l3, rfl, rfl, rfl, -, -, -⟩ := hox.opn
 obtain ⟨q1, h1, j1, q2, h2, j2, q3, h3, j3, rfl, rfl, rfl, -, -, -⟩ := hoy.opn
 obtain ⟨W3, HW3, HB3, HS3, HKX, HKY⟩ := box2 w2 #[.slice p1 m1 l1, .slice p2 m2 l2, .slice p3 m3 l3] 28 #[.slice q1 h1 j1, .slice q2 h2 j2, .slice q3 h3 j3] 28
 have HB13 := Hd (btr hb2 HB3.out)
 have HX3 := Hd ((hox.cart HV.out.1).below HB3.out)
 have HY3 := Hd ((hoy.cart HV.out.2).below HB3.out)
 have HS3' := Hd (HSA.out W3 _ _ _ HB13.out HX3.out)
 clear hox hoy hb2 HC c0 c1 c2 c3 c4 c5 c6 c7 HS3
 go_upto_region 2 with fail
 rw [← HW3.out]
 clear HW3
 obtain ⟨d0, d1, d2⟩ := cel3 (HKX.out W3 brf)
 obtain ⟨d3, d4, d5⟩ := HK3'.out W3 HB13.out
 obtain ⟨s1, hs1⟩ : ∃ r, r = decide (X = x) := ⟨_, rfl⟩
 obtain ⟨s2, hs2⟩ : ∃ r, r = decide (Y = y) := ⟨_, rfl⟩
 rw [← hs1] at HS3' HBB HSA
 rw [← hs2] at HBB HSB
 clear hs1 hs2
 go_wp2_with fail
 refine HS3'.out.mono ?_
 rintro e w4 ⟨rfl, hb4⟩
 have HB4 := Hd hb4
 have HB14 := Hd (btr HB13.out hb4)
 clear hb4 HS3' d0 d1 d2 d3 d4 d5
 cases s1 with
 | false =>
  have HF : Hid (BB = false) := HBB
  clear HBB
  go_wp2_with fail
  go_ret
  exact ⟨by rw [HF.out]; rfl, btr HBW.out HB14.out⟩
 | true =>
 have HS4 := Hd (HSB.out w4 _ _ _ HB14.out (HY3.out.below HB4.out))
 obtain ⟨d0, d1, d2⟩ := cel3 (HKY.out w4 HB4.out)
 obtain ⟨d3, d4, d5⟩ := HK4'.out w4 HB14.out
 go_wp2_with fail
 refine HS4.out.mono ?_
 rintro e w5 ⟨rfl, hb5⟩
 have HB15 := Hd (btr HB14.out hb5)
 clear hb5 HS4 d0 d1 d2 d3 d4 d5
 cases s2 with
 | false =>
  have HF : Hid (BB = false) := HBB
  clear HBB
  go_wp2_with fail
  go_ret
  exact ⟨by rw [HF.out]; rfl, btr HBW.out HB15.out⟩
 | true =>
 by_cases hq : Q = n
 rotate_left
 ·have hq1 : (Q == n) = false := by simpa using hq
  have HF : Hid (BB = false) := Hd (by rw [HBB.out, hq1]; rfl)
  clear HBB hq
  go_wp2_with fail
  go_ret
  exact ⟨by rw [HF.out]; rfl, btr HBW.out HB15.out⟩
 have hq1 : (Q == n) = true := by simpa using hq
 have HF : Hid (BB = (E == no)) := Hd (by rw [HBB.out, hq1]; rfl)
 clear HBB hq
 go_wp2_with fail
 go_ret
 exact ⟨by rw [HF.out]; rfl, btr HBW.out HB15.out⟩
theorem l22logins_any (M : Nat) (f t x y : CartD) (l : List DotD) (no : Int) (v1 v2 v3 u1 u2 u3 x1 x2 x3 y1 y2 y3 vl : Value) (w : World) (h : CartA w v1 v2 v3 f) (g : CartA w u1 u2 u3 t) (hl : Arr DotR 2 w vl l) (hx : CartA w x1 x2 x3 x) (hy : CartA w y1 y2 y3 y) (hsz : SzL M f t) (hG : GlobIs w) :
  Calls Tryz.prog 23 #[.agg #[v1, v2, v3], .agg #[u1, u2, u3], vl, .agg #[x1, x2, x3], .agg #[y1, y2, y3], .int .i64 no] w fun e w' => e = .returned (.bool (logB f t l x y no)) ∧ Below w.heap.size w w' := by
 obtain ⟨o1, n1, k1, o2, n2, k2, o3, n3, k3, rfl, rfl, rfl, -, -, -⟩ := opn4 h
 obtain ⟨o4, n4, k4, o5, n5, k5, o6, n6, k6, rfl, rfl, rfl, -, -, -⟩ := opn4 g
 obtain ⟨a1, a2, a3, a4, a5, a6, a7, a8, a9, rfl, rfl, rfl, -, -, -⟩ := opn4 hx
 obtain ⟨b1, b2, b3, b4, b5, b6, b7, b8, b9, rfl, rfl, rfl, -, -, -⟩ := opn4 hy
 obtain ⟨W1, HW0, HBW, HS0, HK0, HK1, HK3, HK4⟩ := box4 w #[.slice o1 n1 k1, .slice o2 n2 k2, .slice o3 n3 k3] 28 #[.slice o4 n4 k4, .slice o5 n5 k5, .slice o6 n6 k6] 28 #[.slice a1 a2 a3, .slice a4 a5 a6, .slice a7 a8 a9] 28 #[.slice b1 b2 b3, .slice b4 b5 b6, .slice b7 b8 b9] 28
 have HC := Hd (moveLogin_any M f t l _ _ _ _ _ _ vl W1 (h.below HBW.out) (g.below HBW.out) (hl.dots HBW.out) hsz (hG.below HBW.out))
 have HSA : Hid (∀ wz p1 p2 p3, Below W1.heap.size W1 wz → CartA wz p1 p2 p3 (logX f t l) → Calls Tryz.prog 21 #[.agg #[p1, p2, p3], .agg #[.slice a1 a2 a3, .slice a4 a5 a6, .slice a7 a8 a9]] wz fun e w' => e = .returned (.bool (decide (logX f t l = x))) ∧ Below wz.heap.size wz w') := Hd (fun wz p1 p2 p3 hz hp => r14Same_any _ x _ _ _ _ _ _ wz hp (hx.below (btr HBW.out hz)))
 have HSB : Hid (∀ wz p1 p2 p3, Below W1.heap.size W1 wz → CartA wz p1 p2 p3 (logY f t l) → Calls Tryz.prog 21 #[.agg #[p1, p2, p3], .agg #[.slice b1 b2 b3, .slice b4 b5 b6, .slice b7 b8 b9]] wz fun e w' => e = .returned (.bool (decide (logY f t l = y))) ∧ Below wz.heap.size wz w') := Hd (fun wz p1 p2 p3 hz hp => r14Same_any _ y _ _ _ _ _ _ wz hp (hy.below (btr HBW.out hz)))
 have HV := Hd (logX_valid f t l)
 have HBB : Hid (logB f t l x y no = (decide (logX f t l = x) && decide (logY f t l = y) && (logE f t l == no))) := Hd rfl
 have HK3' := Hd (fun wz (hz : Below W1.heap.size W1 wz) => cel3 (HK3.out wz hz))
 have HK4' := Hd (fun wz (hz : Below W1.heap.size W1 wz) => cel3 (HK4.out wz hz))
 obtain ⟨c0, c1, c2⟩ := cel3 (HK0.out W1 brf)
 obtain ⟨c3, c4, c5⟩ := cel3 (HK1.out W1 brf)
 obtain ⟨ol, cl, rfl, -⟩ := hl.dotAt
 obtain ⟨nl, hnl⟩ : ∃ n, n = l.length := ⟨_, rfl⟩
 rw [← hnl] at HC
 rw [← hnl]
 clear h g hx hy hl hsz hG HK0 HK1 HK3 HK4 HS0 hnl
 generalize logB f t l x y no = BB at *
 generalize logX f t l = X at *
 generalize logY f t l = Y at *
 generalize logE f t l = E at *
 go_enter Tryz.func23, Tryz.ntmps23
 go_upto_region 1 with fail
 rw [← HW0.out]
 clear HW0
 go_wp2_with fail
 refine HC.out.mono ?_
 rintro e w2 ⟨x1, x2, x3, y1, y2, y3, rfl, hox, hoy, hb2⟩
 obtain ⟨p1, m1, l1, p2, m2, l2, p3, m3, l3, rfl, rfl, rfl, -, -, -⟩ := hox.opn
 obtain ⟨q1, h1, j1, q2, h2, j2, q3, h3, j3, rfl, rfl, rfl, -, -, -⟩ := hoy.opn
 obtain ⟨W3, HW3, HB3, HS3, HKX, HKY⟩ := box2 w2 #[.slice p1 m1 l1, .slice p2 m2 l2, .slice p3 m3 l3] 28 #[.slice q1 h1 j1, .slice q2 h2 j2, .slice q3 h3 j3] 28
 have HB13 := Hd (btr hb2 HB3.out)
 have HX3 := Hd ((hox.cart HV.out.1).below HB3.out)
 have HY3 := Hd ((hoy.cart HV.out.2).below HB3.out)
 have HS3' := Hd (HSA.out W3 _ _ _ HB13.out HX3.out)
 clear hox hoy hb2 HC c0 c1 c2 c3 c4 c5 HS3
 go_upto_region 2 with fail
 rw [← HW3.out]
 clear HW3
 obtain ⟨d0, d1, d2⟩ := cel3 (HKX.out W3 brf)
 obtain ⟨d3, d4, d5⟩ := HK3'.out W3 HB13.out
 obtain ⟨s1, hs1⟩ : ∃ r, r = decide (X = x) := ⟨_, rfl⟩
 obtain ⟨s2, hs2⟩ : ∃ r, r = decide (Y = y) := ⟨_, rfl⟩
 rw [← hs1] at HS3' HBB HSA
 rw [← hs2] at HBB HSB
 clear hs1 hs2
 go_wp2_with fail
 refine HS3'.out.mono ?_
 rintro e w4 ⟨rfl, hb4⟩
 have HB4 := Hd hb4
 have HB14 := Hd (btr HB13.out hb4)
 clear hb4 HS3' d0 d1 d2 d3 d4 d5
 cases s1 with
 | false =>
  have HF : Hid (BB = false) := HBB
  clear HBB
  go_wp2_with fail
  go_ret
  exact ⟨by rw [HF.out]; rfl, btr HBW.out HB14.out⟩
 | true =>
 have HS4 := Hd (HSB.out w4 _ _ _ HB14.out (HY3.out.below HB4.out))
 obtain ⟨d0, d1, d2⟩ := cel3 (HKY.out w4 HB4.out)
 obtain ⟨d3, d4, d5⟩ := HK4'.out w4 HB14.out
 go_wp2_with fail
 refine HS4.out.mono ?_
 rintro e w5 ⟨rfl, hb5⟩
 have HB15 := Hd (btr HB14.out hb5)
 clear hb5 HS4 d0 d1 d2 d3 d4 d5
 cases s2 with
 | false =>
  have HF : Hid (BB = false) := HBB
  clear HBB
  go_wp2_with fail
  go_ret
  exact ⟨by rw [HF.out]; rfl, btr HBW.out HB15.out⟩
 | true =>
 have HF : Hid (BB = (E == no)) := Hd (by rw [HBB.out]; rfl)
 clear HBB
 go_wp2_with fail
 go_ret
 exact ⟨by rw [HF.out]; rfl, btr HBW.out HB15.out⟩
end Go.Proofs.YtjoljfnlkddfbaaGreatDoor
