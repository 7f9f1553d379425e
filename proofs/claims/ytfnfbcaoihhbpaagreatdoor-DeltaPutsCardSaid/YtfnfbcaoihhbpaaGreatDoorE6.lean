/- DeltaPuts, DeltaRemoves inside. -/
import Derived.Test.YtfnfbcaoihhbpaaGreatDoorE5b
import Derived.Test.YtfnfbcaoihhbpaaGreatDoorE3
set_option linter.unusedSimpArgs false
set_option linter.unusedVariables false
set_option maxRecDepth 100000
set_option maxHeartbeats 16000000
namespace Go.Proofs.YtfnfbcaoihhbpaaGreatDoor
open Go.RowKit Go.Maps Go.Sort Go.Shelf
theorem OwnC.cartB {base : Nat} {w w0 : World} {x1 x2 x3 v1 v2 v3 : Value} {c : CartD} (h : OwnC base w x1 x2 x3 c) (g : CartA w0 v1 v2 v3 c) : CartA w x1 x2 x3 c := by
 obtain ⟨h1, h2, ps, h3, h4⟩ := h
 exact ⟨h1.dots g.1.dotsI, h2.dots g.2.1.dotsI, by rw [← h3]; exact h4.arr⟩
theorem same_true (R : CartD) (E : Int) : (decide (R = R) && (E == E)) = true := by simp
set_option linter.unusedSimpArgs false in
set_option linter.unusedVariables false in
set_option maxRecDepth 100000 in
set_option maxHeartbeats 16000000 in
theorem l12Puts_any (c : CartD) (xc1 xc2 xc3 : Value) (d : DotD) (nm : ByteArray) (q : Int) (w : World) (hc : CartA w xc1 xc2 xc3 c) (hG : GlobIs w) :
    Calls Tryz.prog 3 #[.agg #[xc1, xc2, xc3], dotV d, .string nm, .int .i64 q] w fun e w' => e = .returned (.bool true) ∧ Below w.heap.size w w' := by
  obtain ⟨o1, n1, k1, o2, n2, k2, o3, n3, k3, rfl, rfl, rfl, hn1, hn2, hn3⟩ := opn4 hc
  obtain ⟨W0, hW0⟩ : ∃ x, x = w.alloc (.cells #[.slice o1 n1 k1, .slice o2 n2 k2, .slice o3 n3 k3] 28) := ⟨_, rfl⟩
  have hs0 : W0.heap.size = w.heap.size + 1 := by rw [hW0, alloc_size]
  have hst0 : Below w.heap.size w W0 := by rw [hW0]; exact (Below.refl _ _).alloc (Nat.le_refl _) _
  have hbb0 : Below w.heap.size w W0 := hst0
  have hx0_0 : W0.heap[w.heap.size]? = some (.cells #[.slice o1 n1 k1, .slice o2 n2 k2, .slice o3 n3 k3] 28) := by rw [hW0]; exact alloc_new _ _
  obtain ⟨W1, hW1⟩ : ∃ x, x = W0.alloc (.cells #[.int .i64 d.rep, .int .i64 d.ctr] 30) := ⟨_, rfl⟩
  have hs1 : W1.heap.size = w.heap.size + 1 + 1 := by rw [hW1, alloc_size, hs0]
  have hst1 : Below W0.heap.size W0 W1 := by rw [hW1]; exact (Below.refl _ _).alloc (Nat.le_refl _) _
  have hbb1 : Below w.heap.size w W1 := hbb0.trans (hst1.mono hbb0.size)
  have hx1_1 : W1.heap[w.heap.size + 1]? = some (.cells #[.int .i64 d.rep, .int .i64 d.ctr] 30) := by rw [hW1, ← hs0]; exact alloc_new _ _
  have hx0_1 : W1.heap[w.heap.size]? = _ := (hst1.block _ (lt_of_heap hx0_0)).trans hx0_0
  have HC : Hid (∀ wz, Below W1.heap.size W1 wz → ((wz.cell? ⟨w.heap.size, 0, none⟩ = some (.slice o1 n1 k1)) ∧ (wz.cell? ⟨w.heap.size, 1, none⟩ = some (.slice o2 n2 k2)) ∧ (wz.cell? ⟨w.heap.size, 2, none⟩ = some (.slice o3 n3 k3))) ∧ ((wz.cell? ⟨w.heap.size + 1, 0, none⟩ = some (.int .i64 d.rep)) ∧ (wz.cell? ⟨w.heap.size + 1, 1, none⟩ = some (.int .i64 d.ctr)))) := Lib.hid (fun wz hz => by
    have z0 := (hz.block _ (lt_of_heap hx0_1)).trans hx0_1
    have z1 := (hz.block _ (lt_of_heap hx1_1)).trans hx1_1
    exact ⟨⟨by rw [cell0 z0 0]; rfl, by rw [cell0 z0 1]; rfl, by rw [cell0 z0 2]; rfl⟩, ⟨by rw [cell0 z1 0]; rfl, by rw [cell0 z1 1]; rfl⟩⟩)
  have HK0 : Hid (∀ wz, Below W1.heap.size W1 wz → wz.heap[w.heap.size]? = some (.cells #[.slice o1 n1 k1, .slice o2 n2 k2, .slice o3 n3 k3] 28)) := Lib.hid (fun wz hz => (hz.block _ (lt_of_heap hx0_1)).trans hx0_1)
  have HK1 : Hid (∀ wz, Below W1.heap.size W1 wz → wz.heap[w.heap.size + 1]? = some (.cells #[.int .i64 d.rep, .int .i64 d.ctr] 30)) := Lib.hid (fun wz hz => (hz.block _ (lt_of_heap hx1_1)).trans hx1_1)
  have HB := Lib.hid hbb1
  have HS : Hid (W1.heap.size = w.heap.size + 1 + 1) := Lib.hid hs1
  have HW : Hid (W1 = (w.alloc (.cells #[.slice o1 n1 k1, .slice o2 n2 k2, .slice o3 n3 k3] 28)).alloc (.cells #[.int .i64 d.rep, .int .i64 d.ctr] 30)) := Lib.hid (by rw [hW1, hW0])
  have HAc := Lib.hid (hc.below hbb1)
  have HGL := Lib.hid (hG.below hbb1)
  have HB0 : Hid (Below W1.heap.size W1 W1) := Lib.hid (Below.refl _ _)
  clear hW0 hs0 hst0 hW1 hs1 hst1 hx0_0 hx0_1 hx1_1 hbb0 hbb1 hc hG hn1 hn2 hn3
  obtain ⟨⟨c0_0_0, c0_0_1, c0_0_2⟩, ⟨c0_1_0, c0_1_1⟩⟩ := HC.out W1 (Below.refl _ _)
  unfold dotV
  go_enter Tryz.func3, Tryz.ntmps3
  go_wp2_with fail
  rw [← HW.out]
  have HX := Lib.hid (l12light_any c _ _ _ W1 (HAc.out.below HB0.out))
  obtain ⟨r1, hr1⟩ : ∃ r, r = lightC c := ⟨_, rfl⟩
  rw [← hr1] at HX
  have HRr1 := Lib.hid hr1
  clear hr1
  refine HX.out.mono ?_
  rintro e w1 ⟨rfl, hb⟩
  clear HX
  have HB1 := Lib.hid (HB0.out.trans (hb.mono HB0.out.size))
  clear c0_0_0 c0_0_1 c0_0_2 c0_1_0 c0_1_1
  obtain ⟨⟨c1_0_0, c1_0_1, c1_0_2⟩, ⟨c1_1_0, c1_1_1⟩⟩ := HC.out w1 HB1.out
  clear hb
  cases r1 with
  | false =>
    have HX := Lib.hid (l12known_any w1 (HGL.out.below HB1.out))
    go_wp2_with fail
    refine HX.out.mono ?_
    rintro e wk ⟨rfl, hbk⟩
    clear HX
    have HBK := Lib.hid (HB1.out.trans (hbk.mono HB1.out.size))
    clear hbk
    go_wp2_with fail
    go_ret
    exact ⟨rfl, HB.out.trans (HBK.out.mono HB.out.size)⟩
  | true =>
    have HLD := Hd (light_dots HRr1.out.symm)
    have HLc := Hd (lightC_CL HRr1.out.symm)
    clear HRr1
    by_cases h100 : 100 < nm.size
    ·have a0 : (100 : Int) < (nm.size : Int) := by omega
     clear h100
     have HX := Lib.hid (l12known_any w1 (HGL.out.below HB1.out))
     go_wp2_with fail
     refine HX.out.mono ?_
     rintro e wk ⟨rfl, hbk⟩
     clear HX
     have HBK := Lib.hid (HB1.out.trans (hbk.mono HB1.out.size))
     clear hbk
     go_wp2_with fail
     go_ret
     exact ⟨rfl, HB.out.trans (HBK.out.mono HB.out.size)⟩
    have a0 : ¬ ((100 : Int) < (nm.size : Int)) := by omega
    have HSN0 : Hid (nm.size ≤ maxLen) := Hd (by unfold maxLen; omega)
    clear h100
    have HX := Lib.hid (r10Copy_any c _ _ _ w1 (HAc.out.below HB1.out) (HLc.out.sz (by omega)))
    go_wp2_with fail
    refine HX.out.mono ?_
    rintro e vO ⟨y1, y2, y3, rfl, hown, hb⟩
    clear HX
    have hRA := hown.cartB HAc.out
    obtain ⟨pO1, mO1, lO1, pO2, mO2, lO2, pO3, mO3, lO3, rfl, rfl, rfl, hm1, hm2, hm3⟩ := opn4 hRA
    obtain ⟨WO, HWO, HBO0, HSWO, HCO⟩ := box1 vO #[.slice pO1 mO1 lO1, .slice pO2 mO2 lO2, .slice pO3 mO3 lO3] 28
    have HXO := Hd (HCO.out WO brf)
    have HDBO := Hd (btr hb HBO0.out)
    have HDVO := Hd hb.size
    have HCO := Hd (fun wz hz => cel3 (HCO.out wz hz))
    have HAO := Hd (hRA.below HBO0.out)
    have HMO := Hd hm3
    have HB2 := Lib.hid (HB1.out.trans ((btr hb HBO0.out).mono HB1.out.size))
    have HDO2 : Hid (Below WO.heap.size WO WO) := Lib.hid (Below.refl _ _)
    clear hown hRA hb HBO0 hm1 hm2 hm3
    clear c1_0_0 c1_0_1 c1_0_2 c1_1_0 c1_1_1
    obtain ⟨⟨c2_0_0, c2_0_1, c2_0_2⟩, ⟨c2_1_0, c2_1_1⟩⟩ := HC.out WO HB2.out
    obtain ⟨eO2_0, eO2_1, eO2_2⟩ := HCO.out WO HDO2.out
    have HX := Lib.hid (r12Put_any c d nm q false _ _ _ WO (HAc.out.below HB2.out) (HLc.out.sz (by omega)).1 (by have := HLD.out; omega) HSN0.out)
    go_wp2_with (go_loud (rw [← HWO.out]))
    refine HX.out.mono ?_
    rintro e vX ⟨y1, y2, y3, rfl, hRA, hb⟩
    clear HX
    obtain ⟨pX1, mX1, lX1, pX2, mX2, lX2, pX3, mX3, lX3, rfl, rfl, rfl, hm1, hm2, hm3⟩ := opn4 hRA
    obtain ⟨WX, HWX, HBX0, HSWX, HCX⟩ := box1 vX #[.slice pX1 mX1 lX1, .slice pX2 mX2 lX2, .slice pX3 mX3 lX3] 28
    have HXX := Hd (HCX.out WX brf)
    have HDBX := Hd (btr hb HBX0.out)
    have HDVX := Hd hb.size
    have HCX := Hd (fun wz hz => cel3 (HCX.out wz hz))
    have HAX := Hd (hRA.below HBX0.out)
    have HMX := Hd hm3
    have HB3 := Lib.hid (HB2.out.trans ((btr hb HBX0.out).mono HB2.out.size))
    have HDO3 := Lib.hid (HDO2.out.trans ((btr hb HBX0.out).mono HDO2.out.size))
    have HDX3 : Hid (Below WX.heap.size WX WX) := Lib.hid (Below.refl _ _)
    clear hRA hb HBX0 hm1 hm2 hm3
    clear c2_0_0 c2_0_1 c2_0_2 c2_1_0 c2_1_1
    obtain ⟨⟨c3_0_0, c3_0_1, c3_0_2⟩, ⟨c3_1_0, c3_1_1⟩⟩ := HC.out WX HB3.out
    clear eO2_0 eO2_1 eO2_2
    obtain ⟨eO3_0, eO3_1, eO3_2⟩ := HCO.out WX HDO3.out
    obtain ⟨eX3_0, eX3_1, eX3_2⟩ := HCX.out WX HDX3.out
    have HX := Lib.hid (r12Put_any c d nm q true _ _ _ WX (HAc.out.below HB3.out) (HLc.out.sz (by omega)).1 (by have := HLD.out; omega) HSN0.out)
    go_wp2_with (go_loud (rw [← HWX.out]))
    refine HX.out.mono ?_
    rintro e vY ⟨y1, y2, y3, rfl, hRA, hb⟩
    clear HX
    obtain ⟨pY1, mY1, lY1, pY2, mY2, lY2, pY3, mY3, lY3, rfl, rfl, rfl, hm1, hm2, hm3⟩ := opn4 hRA
    obtain ⟨WY, HWY, HBY0, HSWY, HCY⟩ := box1 vY #[.slice pY1 mY1 lY1, .slice pY2 mY2 lY2, .slice pY3 mY3 lY3] 28
    have HXY := Hd (HCY.out WY brf)
    have HDBY := Hd (btr hb HBY0.out)
    have HDVY := Hd hb.size
    have HCY := Hd (fun wz hz => cel3 (HCY.out wz hz))
    have HAY := Hd (hRA.below HBY0.out)
    have HMY := Hd hm3
    have HB4 := Lib.hid (HB3.out.trans ((btr hb HBY0.out).mono HB3.out.size))
    have HDO4 := Lib.hid (HDO3.out.trans ((btr hb HBY0.out).mono HDO3.out.size))
    have HDX4 := Lib.hid (HDX3.out.trans ((btr hb HBY0.out).mono HDX3.out.size))
    have HDY4 : Hid (Below WY.heap.size WY WY) := Lib.hid (Below.refl _ _)
    clear hRA hb HBY0 hm1 hm2 hm3
    clear c3_0_0 c3_0_1 c3_0_2 c3_1_0 c3_1_1
    obtain ⟨⟨c4_0_0, c4_0_1, c4_0_2⟩, ⟨c4_1_0, c4_1_1⟩⟩ := HC.out WY HB4.out
    clear eO3_0 eO3_1 eO3_2
    obtain ⟨eO4_0, eO4_1, eO4_2⟩ := HCO.out WY HDO4.out
    clear eX3_0 eX3_1 eX3_2
    obtain ⟨eX4_0, eX4_1, eX4_2⟩ := HCX.out WY HDX4.out
    obtain ⟨eY4_0, eY4_1, eY4_2⟩ := HCY.out WY HDY4.out
    have HX := Lib.hid (l12adds_any c (putC c d nm q false) d nm q (putCE c d nm q false) _ _ _ _ _ _ WY (HAO.out.below HDO4.out) (HAX.out.below HDX4.out) (HLc.out.sz (by omega)).1 (by have := HLD.out; omega) HSN0.out (HGL.out.below HB4.out))
    rw [same_true] at HX
    go_wp2_with (go_loud (rw [← HWY.out]))
    refine HX.out.mono ?_
    rintro e w5 ⟨rfl, hb⟩
    clear HX
    have HB5 := Lib.hid (HB4.out.trans (hb.mono HB4.out.size))
    clear c4_0_0 c4_0_1 c4_0_2 c4_1_0 c4_1_1
    obtain ⟨⟨c5_0_0, c5_0_1, c5_0_2⟩, ⟨c5_1_0, c5_1_1⟩⟩ := HC.out w5 HB5.out
    have HDO5 := Lib.hid (HDO4.out.trans (hb.mono HDO4.out.size))
    clear eO4_0 eO4_1 eO4_2
    obtain ⟨eO5_0, eO5_1, eO5_2⟩ := HCO.out w5 HDO5.out
    have HDX5 := Lib.hid (HDX4.out.trans (hb.mono HDX4.out.size))
    clear eX4_0 eX4_1 eX4_2
    obtain ⟨eX5_0, eX5_1, eX5_2⟩ := HCX.out w5 HDX5.out
    have HDY5 := Lib.hid (HDY4.out.trans (hb.mono HDY4.out.size))
    clear eY4_0 eY4_1 eY4_2
    obtain ⟨eY5_0, eY5_1, eY5_2⟩ := HCY.out w5 HDY5.out
    clear hb
    have HX := Lib.hid (l12sets_any c (putC c d nm q true) d nm q (putCE c d nm q true) _ _ _ _ _ _ w5 (HAO.out.below HDO5.out) (HAY.out.below HDY5.out) (HLc.out.sz (by omega)).1 (by have := HLD.out; omega) HSN0.out (HGL.out.below HB5.out))
    rw [same_true] at HX
    go_wp2_with fail
    refine HX.out.mono ?_
    rintro e w6 ⟨rfl, hb⟩
    clear HX
    have HB6 := Lib.hid (HB5.out.trans (hb.mono HB5.out.size))
    clear c5_0_0 c5_0_1 c5_0_2 c5_1_0 c5_1_1
    obtain ⟨⟨c6_0_0, c6_0_1, c6_0_2⟩, ⟨c6_1_0, c6_1_1⟩⟩ := HC.out w6 HB6.out
    have HDO6 := Lib.hid (HDO5.out.trans (hb.mono HDO5.out.size))
    clear eO5_0 eO5_1 eO5_2
    obtain ⟨eO6_0, eO6_1, eO6_2⟩ := HCO.out w6 HDO6.out
    have HDX6 := Lib.hid (HDX5.out.trans (hb.mono HDX5.out.size))
    clear eX5_0 eX5_1 eX5_2
    obtain ⟨eX6_0, eX6_1, eX6_2⟩ := HCX.out w6 HDX6.out
    have HDY6 := Lib.hid (HDY5.out.trans (hb.mono HDY5.out.size))
    clear eY5_0 eY5_1 eY5_2
    obtain ⟨eY6_0, eY6_1, eY6_2⟩ := HCY.out w6 HDY6.out
    clear hb
    have HX := Lib.hid (r10Equal_any c c _ _ _ _ _ _ w6 (HAO.out.below HDO6.out) (HAc.out.below HB6.out))
    rw [decide_eq_true (rfl : c = c)] at HX
    go_wp2_with fail
    refine HX.out.mono ?_
    rintro e w7 ⟨rfl, hb⟩
    clear HX
    have HB7 := Lib.hid (HB6.out.trans (hb.mono HB6.out.size))
    clear c6_0_0 c6_0_1 c6_0_2 c6_1_0 c6_1_1
    obtain ⟨⟨c7_0_0, c7_0_1, c7_0_2⟩, ⟨c7_1_0, c7_1_1⟩⟩ := HC.out w7 HB7.out
    have HDO7 := Lib.hid (HDO6.out.trans (hb.mono HDO6.out.size))
    clear eO6_0 eO6_1 eO6_2
    obtain ⟨eO7_0, eO7_1, eO7_2⟩ := HCO.out w7 HDO7.out
    have HDX7 := Lib.hid (HDX6.out.trans (hb.mono HDX6.out.size))
    clear eX6_0 eX6_1 eX6_2
    obtain ⟨eX7_0, eX7_1, eX7_2⟩ := HCX.out w7 HDX7.out
    have HDY7 := Lib.hid (HDY6.out.trans (hb.mono HDY6.out.size))
    clear eY6_0 eY6_1 eY6_2
    obtain ⟨eY7_0, eY7_1, eY7_2⟩ := HCY.out w7 HDY7.out
    clear hb
    have HX := Lib.hid (l12known_any w7 (HGL.out.below HB7.out))
    go_wp2_with fail
    refine HX.out.mono ?_
    rintro e wk ⟨rfl, hbk⟩
    clear HX
    have HBK := Lib.hid (HB7.out.trans (hbk.mono HB7.out.size))
    clear hbk
    go_wp2_with fail
    go_ret
    exact ⟨rfl, HB.out.trans (HBK.out.mono HB.out.size)⟩
set_option linter.unusedSimpArgs false in
set_option linter.unusedVariables false in
set_option maxRecDepth 100000 in
set_option maxHeartbeats 16000000 in
theorem l12Removes_any (c : CartD) (xc1 xc2 xc3 : Value) (nm : ByteArray) (d : DotD) (w : World) (hc : CartA w xc1 xc2 xc3 c) (hG : GlobIs w) :
    Calls Tryz.prog 4 #[.agg #[xc1, xc2, xc3], .string nm, dotV d] w fun e w' => e = .returned (.bool true) ∧ Below w.heap.size w w' := by
  obtain ⟨o1, n1, k1, o2, n2, k2, o3, n3, k3, rfl, rfl, rfl, hn1, hn2, hn3⟩ := opn4 hc
  obtain ⟨W0, hW0⟩ : ∃ x, x = w.alloc (.cells #[.slice o1 n1 k1, .slice o2 n2 k2, .slice o3 n3 k3] 28) := ⟨_, rfl⟩
  have hs0 : W0.heap.size = w.heap.size + 1 := by rw [hW0, alloc_size]
  have hst0 : Below w.heap.size w W0 := by rw [hW0]; exact (Below.refl _ _).alloc (Nat.le_refl _) _
  have hbb0 : Below w.heap.size w W0 := hst0
  have hx0_0 : W0.heap[w.heap.size]? = some (.cells #[.slice o1 n1 k1, .slice o2 n2 k2, .slice o3 n3 k3] 28) := by rw [hW0]; exact alloc_new _ _
  obtain ⟨W1, hW1⟩ : ∃ x, x = W0.alloc (.cells #[.int .i64 d.rep, .int .i64 d.ctr] 30) := ⟨_, rfl⟩
  have hs1 : W1.heap.size = w.heap.size + 1 + 1 := by rw [hW1, alloc_size, hs0]
  have hst1 : Below W0.heap.size W0 W1 := by rw [hW1]; exact (Below.refl _ _).alloc (Nat.le_refl _) _
  have hbb1 : Below w.heap.size w W1 := hbb0.trans (hst1.mono hbb0.size)
  have hx1_1 : W1.heap[w.heap.size + 1]? = some (.cells #[.int .i64 d.rep, .int .i64 d.ctr] 30) := by rw [hW1, ← hs0]; exact alloc_new _ _
  have hx0_1 : W1.heap[w.heap.size]? = _ := (hst1.block _ (lt_of_heap hx0_0)).trans hx0_0
  have HC : Hid (∀ wz, Below W1.heap.size W1 wz → ((wz.cell? ⟨w.heap.size, 0, none⟩ = some (.slice o1 n1 k1)) ∧ (wz.cell? ⟨w.heap.size, 1, none⟩ = some (.slice o2 n2 k2)) ∧ (wz.cell? ⟨w.heap.size, 2, none⟩ = some (.slice o3 n3 k3))) ∧ ((wz.cell? ⟨w.heap.size + 1, 0, none⟩ = some (.int .i64 d.rep)) ∧ (wz.cell? ⟨w.heap.size + 1, 1, none⟩ = some (.int .i64 d.ctr)))) := Lib.hid (fun wz hz => by
    have z0 := (hz.block _ (lt_of_heap hx0_1)).trans hx0_1
    have z1 := (hz.block _ (lt_of_heap hx1_1)).trans hx1_1
    exact ⟨⟨by rw [cell0 z0 0]; rfl, by rw [cell0 z0 1]; rfl, by rw [cell0 z0 2]; rfl⟩, ⟨by rw [cell0 z1 0]; rfl, by rw [cell0 z1 1]; rfl⟩⟩)
  have HK0 : Hid (∀ wz, Below W1.heap.size W1 wz → wz.heap[w.heap.size]? = some (.cells #[.slice o1 n1 k1, .slice o2 n2 k2, .slice o3 n3 k3] 28)) := Lib.hid (fun wz hz => (hz.block _ (lt_of_heap hx0_1)).trans hx0_1)
  have HK1 : Hid (∀ wz, Below W1.heap.size W1 wz → wz.heap[w.heap.size + 1]? = some (.cells #[.int .i64 d.rep, .int .i64 d.ctr] 30)) := Lib.hid (fun wz hz => (hz.block _ (lt_of_heap hx1_1)).trans hx1_1)
  have HB := Lib.hid hbb1
  have HS : Hid (W1.heap.size = w.heap.size + 1 + 1) := Lib.hid hs1
  have HW : Hid (W1 = (w.alloc (.cells #[.slice o1 n1 k1, .slice o2 n2 k2, .slice o3 n3 k3] 28)).alloc (.cells #[.int .i64 d.rep, .int .i64 d.ctr] 30)) := Lib.hid (by rw [hW1, hW0])
  have HAc := Lib.hid (hc.below hbb1)
  have HGL := Lib.hid (hG.below hbb1)
  have HB0 : Hid (Below W1.heap.size W1 W1) := Lib.hid (Below.refl _ _)
  clear hW0 hs0 hst0 hW1 hs1 hst1 hx0_0 hx0_1 hx1_1 hbb0 hbb1 hc hG hn1 hn2 hn3
  obtain ⟨⟨c0_0_0, c0_0_1, c0_0_2⟩, ⟨c0_1_0, c0_1_1⟩⟩ := HC.out W1 (Below.refl _ _)
  unfold dotV
  go_enter Tryz.func4, Tryz.ntmps4
  go_wp2_with fail
  rw [← HW.out]
  have HX := Lib.hid (l12light_any c _ _ _ W1 (HAc.out.below HB0.out))
  obtain ⟨r1, hr1⟩ : ∃ r, r = lightC c := ⟨_, rfl⟩
  rw [← hr1] at HX
  have HRr1 := Lib.hid hr1
  clear hr1
  refine HX.out.mono ?_
  rintro e w1 ⟨rfl, hb⟩
  clear HX
  have HB1 := Lib.hid (HB0.out.trans (hb.mono HB0.out.size))
  clear c0_0_0 c0_0_1 c0_0_2 c0_1_0 c0_1_1
  obtain ⟨⟨c1_0_0, c1_0_1, c1_0_2⟩, ⟨c1_1_0, c1_1_1⟩⟩ := HC.out w1 HB1.out
  clear hb
  cases r1 with
  | false =>
    have HX := Lib.hid (l12known_any w1 (HGL.out.below HB1.out))
    go_wp2_with fail
    refine HX.out.mono ?_
    rintro e wk ⟨rfl, hbk⟩
    clear HX
    have HBK := Lib.hid (HB1.out.trans (hbk.mono HB1.out.size))
    clear hbk
    go_wp2_with fail
    go_ret
    exact ⟨rfl, HB.out.trans (HBK.out.mono HB.out.size)⟩
  | true =>
    have HLD := Hd (light_dots HRr1.out.symm)
    have HLc := Hd (lightC_CL HRr1.out.symm)
    clear HRr1
    by_cases h100 : 100 < nm.size
    ·have a0 : (100 : Int) < (nm.size : Int) := by omega
     clear h100
     have HX := Lib.hid (l12known_any w1 (HGL.out.below HB1.out))
     go_wp2_with fail
     refine HX.out.mono ?_
     rintro e wk ⟨rfl, hbk⟩
     clear HX
     have HBK := Lib.hid (HB1.out.trans (hbk.mono HB1.out.size))
     clear hbk
     go_wp2_with fail
     go_ret
     exact ⟨rfl, HB.out.trans (HBK.out.mono HB.out.size)⟩
    have a0 : ¬ ((100 : Int) < (nm.size : Int)) := by omega
    have HSN0 : Hid (nm.size ≤ maxLen) := Hd (by unfold maxLen; omega)
    clear h100
    have HX := Lib.hid (r12Remove_any c nm _ _ _ w1 (HAc.out.below HB1.out) (HLc.out.sz (by omega)).1 (by have := HLD.out; omega) HSN0.out)
    go_wp2_with fail
    refine HX.out.mono ?_
    rintro e vX ⟨y1, y2, y3, rfl, hRA, hb⟩
    clear HX
    obtain ⟨pX1, mX1, lX1, pX2, mX2, lX2, pX3, mX3, lX3, rfl, rfl, rfl, hm1, hm2, hm3⟩ := opn4 hRA
    obtain ⟨WX, HWX, HBX0, HSWX, HCX⟩ := box1 vX #[.slice pX1 mX1 lX1, .slice pX2 mX2 lX2, .slice pX3 mX3 lX3] 28
    have HXX := Hd (HCX.out WX brf)
    have HDBX := Hd (btr hb HBX0.out)
    have HDVX := Hd hb.size
    have HCX := Hd (fun wz hz => cel3 (HCX.out wz hz))
    have HAX := Hd (hRA.below HBX0.out)
    have HMX := Hd hm3
    have HB2 := Lib.hid (HB1.out.trans ((btr hb HBX0.out).mono HB1.out.size))
    have HDX2 : Hid (Below WX.heap.size WX WX) := Lib.hid (Below.refl _ _)
    clear hRA hb HBX0 hm1 hm2 hm3
    clear c1_0_0 c1_0_1 c1_0_2 c1_1_0 c1_1_1
    obtain ⟨⟨c2_0_0, c2_0_1, c2_0_2⟩, ⟨c2_1_0, c2_1_1⟩⟩ := HC.out WX HB2.out
    obtain ⟨eX2_0, eX2_1, eX2_2⟩ := HCX.out WX HDX2.out
    have HX := Lib.hid (r12Clear_any c _ _ _ WX (HAc.out.below HB2.out) (HLc.out.sz (by omega)).1 (by have := HLD.out; omega))
    go_wp2_with (go_loud (rw [← HWX.out]))
    refine HX.out.mono ?_
    rintro e vY ⟨y1, y2, y3, rfl, hRA, hb⟩
    clear HX
    obtain ⟨pY1, mY1, lY1, pY2, mY2, lY2, pY3, mY3, lY3, rfl, rfl, rfl, hm1, hm2, hm3⟩ := opn4 hRA
    obtain ⟨WY, HWY, HBY0, HSWY, HCY⟩ := box1 vY #[.slice pY1 mY1 lY1, .slice pY2 mY2 lY2, .slice pY3 mY3 lY3] 28
    have HXY := Hd (HCY.out WY brf)
    have HDBY := Hd (btr hb HBY0.out)
    have HDVY := Hd hb.size
    have HCY := Hd (fun wz hz => cel3 (HCY.out wz hz))
    have HAY := Hd (hRA.below HBY0.out)
    have HMY := Hd hm3
    have HB3 := Lib.hid (HB2.out.trans ((btr hb HBY0.out).mono HB2.out.size))
    have HDX3 := Lib.hid (HDX2.out.trans ((btr hb HBY0.out).mono HDX2.out.size))
    have HDY3 : Hid (Below WY.heap.size WY WY) := Lib.hid (Below.refl _ _)
    clear hRA hb HBY0 hm1 hm2 hm3
    clear c2_0_0 c2_0_1 c2_0_2 c2_1_0 c2_1_1
    obtain ⟨⟨c3_0_0, c3_0_1, c3_0_2⟩, ⟨c3_1_0, c3_1_1⟩⟩ := HC.out WY HB3.out
    clear eX2_0 eX2_1 eX2_2
    obtain ⟨eX3_0, eX3_1, eX3_2⟩ := HCX.out WY HDX3.out
    obtain ⟨eY3_0, eY3_1, eY3_2⟩ := HCY.out WY HDY3.out
    have HA1 := Hd (fun wz (hz : Below WY.heap.size WY wz) => (HAc.out.below HB3.out).below hz)
    have HX1 := Hd (fun wz (hz : Below WY.heap.size WY wz) => (HAX.out.below HDX3.out).below hz)
    have HY1 := Hd (fun wz (hz : Below WY.heap.size WY wz) => (HAY.out.below HDY3.out).below hz)
    have HGR := Hd (fun wz (hz : Below WY.heap.size WY wz) => (HGL.out.below HB3.out).below hz)
    have HCR := Hd (fun wz (hz : Below WY.heap.size WY wz) => And.intro (HC.out wz (HB3.out.trans (hz.mono HB3.out.size))) (And.intro (HCX.out wz (btr HDX3.out hz)) (HCY.out wz (btr HDY3.out hz))))
    go_upto_region 5 with fail
    rw [← HWY.out]
    refine NQ.to ?_
    refine wp_region_held_drew (S := (fun wz => Below WY.heap.size WY wz)) (by kernel_rfl) (bdr) (fun hS => ?_)
    refine tkR (n := 4) [0, 1, 2, 3] rfl (by decide +kernel) hS ?_
    iterate 4 ((try simp only [Act.put, s1, s2, s3, s4, s5, s6]); refine ⟨_, ?_, rfl, Or.inl ⟨by kernel_rfl, fun w hSw => ok_of fun z hz => ?_⟩, ?_⟩; rotate_left; · (obtain ⟨⟨⟨f0, f1, f2⟩, f3, f4⟩, ⟨f5, f6, f7⟩, f8, f9, f10⟩ := HCR.out _ hSw; go_simp; exact hz))
    refine RunOK.done ?_
    try simp only [Act.put, s1, s2, s3, s4, s5, s6]
    refine rd1 4 (by decide +kernel) rfl (fun K hK => ?_)
    go_simp
    go_at_call 18
    have HEE := l12removes_any c (remC c nm) nm (remCE c nm) _ _ _ _ _ _ _ (HA1.out _ (show Below WY.heap.size WY WY.drew from bdr)) (HX1.out _ (show Below WY.heap.size WY WY.drew from bdr)) (HLc.out.sz (by omega)).1 (by have := HLD.out; omega) HSN0.out (HGR.out _ (show Below WY.heap.size WY WY.drew from bdr))
    rw [same_true] at HEE
    refine HEE.mono ?_
    rintro e x1 ⟨rfl, hx1⟩
    clear HEE
    have hx1 := btr (show Below WY.heap.size WY WY.drew from bdr) hx1
    go_simp
    refine Shut.out hK _ _ (hx1) (fun hS2 => ?_); clear hK K hS; have hS := hS2; clear hS2
    try simp only [Act.put, s1, s2, s3, s4, s5, s6]
    refine tkR (n := 4) [5, 6, 7, 8] rfl (by decide +kernel) hS ?_
    iterate 4 ((try simp only [Act.put, s1, s2, s3, s4, s5, s6]); refine ⟨_, ?_, rfl, Or.inl ⟨by kernel_rfl, fun w hSw => ok_of fun z hz => ?_⟩, ?_⟩; rotate_left; · (obtain ⟨⟨⟨f0, f1, f2⟩, f3, f4⟩, ⟨f5, f6, f7⟩, f8, f9, f10⟩ := HCR.out _ hSw; go_simp; exact hz))
    refine RunOK.done ?_
    try simp only [Act.put, s1, s2, s3, s4, s5, s6]
    refine rd1 9 (by decide +kernel) rfl (fun K hK => ?_)
    go_simp
    go_at_call 19
    have HEE := l12clears_any c (clrC c) (clrCE c) _ _ _ _ _ _ _ (HA1.out _ hx1) (HY1.out _ hx1) (HLc.out.sz (by omega)).1 (by have := HLD.out; omega) (HGR.out _ hx1)
    rw [same_true] at HEE
    refine HEE.mono ?_
    rintro e x2 ⟨rfl, hx2⟩
    clear HEE
    have hx2 := btr hx1 hx2
    go_simp
    refine Shut.out hK _ _ (hx2) (fun hS2 => ?_); clear hK K hS; have hS := hS2; clear hS2
    try simp only [Act.put, s1, s2, s3, s4, s5, s6]
    refine tkR (n := 4) [10, 11, 12, 14] rfl (by decide +kernel) hS ?_
    iterate 4 ((try simp only [Act.put, s1, s2, s3, s4, s5, s6]); refine ⟨_, ?_, rfl, Or.inl ⟨by kernel_rfl, fun w hSw => ok_of fun z hz => ?_⟩, ?_⟩; rotate_left; · (obtain ⟨⟨⟨f0, f1, f2⟩, f3, f4⟩, ⟨f5, f6, f7⟩, f8, f9, f10⟩ := HCR.out _ hSw; go_simp; exact hz))
    refine RunOK.done ?_
    try simp only [Act.put, s1, s2, s3, s4, s5, s6]
    refine rd1 13 (by decide +kernel) rfl (fun K hK => ?_)
    go_simp
    go_at_call 20
    have HEE := deltaEmpty_any c _ _ _ _ (HA1.out _ hx2)
    refine HEE.mono ?_
    rintro e x3 ⟨rfl, hx3⟩
    clear HEE
    have hx3 := btr hx2 hx3
    go_simp
    refine Shut.out hK _ _ (hx3) (fun hS2 => ?_); clear hK K hS; have hS := hS2; clear hS2
    try simp only [Act.put, s1, s2, s3, s4, s5, s6]
    refine rd1 15 (by decide +kernel) rfl (fun K hK => ?_)
    go_simp
    go_at_call 21
    have HEE := r12Empty_any c _ _ _ _ (HA1.out _ hx3)
    refine HEE.mono ?_
    rintro e x4 ⟨rfl, hx4⟩
    clear HEE
    have hx4 := btr hx3 hx4
    go_simp
    refine Shut.out hK _ _ (hx4) (fun hS2 => ?_); clear hK K hS; have hS := hS2; clear hS2
    try simp only [Act.put, s1, s2, s3, s4, s5, s6]
    refine tkR (n := 7) [16, 17, 18, 19, 20, 22, 23] rfl (by decide +kernel) hS ?_
    iterate 7 ((try simp only [Act.put, s1, s2, s3, s4, s5, s6]); refine ⟨_, ?_, rfl, Or.inl ⟨by kernel_rfl, fun w hSw => ok_of fun z hz => ?_⟩, ?_⟩; rotate_left; · (obtain ⟨⟨⟨f0, f1, f2⟩, f3, f4⟩, ⟨f5, f6, f7⟩, f8, f9, f10⟩ := HCR.out _ hSw; go_simp; exact hz))
    refine RunOK.done ?_
    try simp only [Act.put, s1, s2, s3, s4, s5, s6]
    refine rd1 21 (by decide +kernel) rfl (fun K hK => ?_)
    go_simp
    go_at_call 22
    have HEE := deltaFresh_any c d _ _ _ _ (HA1.out _ hx4) (HLc.out.sz (by omega)).1 (HGR.out _ hx4)
    unfold dotV at HEE
    refine HEE.mono ?_
    rintro e x5 ⟨rfl, hx5⟩
    clear HEE
    have hx5 := btr hx4 hx5
    go_simp
    refine Shut.out hK _ _ (hx5) (fun hS2 => ?_); clear hK K hS; have hS := hS2; clear hS2
    try simp only [Act.put, s1, s2, s3, s4, s5, s6]
    refine rd1 24 (by decide +kernel) rfl (fun K hK => ?_)
    go_simp
    go_at_call 23
    have HEE := r12Fresh_any c d _ _ _ _ (HA1.out _ hx5) (HLc.out.sz (by omega)).1
    unfold dotV at HEE
    refine HEE.mono ?_
    rintro e x6 ⟨rfl, hx6⟩
    clear HEE
    have hx6 := btr hx5 hx6
    go_simp
    refine Shut.out hK _ _ (hx6) (fun hS2 => ?_); clear hK K hS; have hS := hS2; clear hS2
    try simp only [Act.put, s1, s2, s3, s4, s5, s6]
    refine tkR (n := 3) [25, 26, 27] rfl (by decide +kernel) hS ?_
    iterate 3 ((try simp only [Act.put, s1, s2, s3, s4, s5, s6]); refine ⟨_, ?_, rfl, Or.inl ⟨by kernel_rfl, fun w hSw => ok_of fun z hz => ?_⟩, ?_⟩; rotate_left; · (obtain ⟨⟨⟨f0, f1, f2⟩, f3, f4⟩, ⟨f5, f6, f7⟩, f8, f9, f10⟩ := HCR.out _ hSw; go_simp; exact hz))
    refine RunOK.done ?_
    try simp only [Act.put, s1, s2, s3, s4, s5, s6]
    refine rd1 28 (by decide +kernel) rfl (fun K hK => ?_)
    go_simp
    go_at_call 10
    have HEE := l12known_any _ (HGR.out _ hx6)
    refine HEE.mono ?_
    rintro e x7 ⟨rfl, hx7⟩
    clear HEE
    have hx7 := btr hx6 hx7
    go_simp
    refine Shut.out hK _ _ (hx7) (fun hS2 => ?_); clear hK K hS; have hS := hS2; clear hS2
    try simp only [Act.put, s1, s2, s3, s4, s5, s6]
    refine tkR (n := 2) [29, 30] rfl (by decide +kernel) hS ?_
    iterate 2 ((try simp only [Act.put, s1, s2, s3, s4, s5, s6]); refine ⟨_, ?_, rfl, Or.inl ⟨by kernel_rfl, fun w hSw => ok_of fun z hz => ?_⟩, ?_⟩; rotate_left; · (obtain ⟨⟨⟨f0, f1, f2⟩, f3, f4⟩, ⟨f5, f6, f7⟩, f8, f9, f10⟩ := HCR.out _ hSw; go_simp; exact hz))
    refine RunOK.done ?_
    try simp only [Act.put, s1, s2, s3, s4, s5, s6]
    refine wpAnyH_done (by kernel_rfl) ?_ _
    try simp only [Act.put, s1, s2, s3, s4, s5, s6]
    simp only [NQ]
    have HFI := Hd (HB.out.trans ((HB3.out.trans (hx7.mono HB3.out.size)).mono HB.out.size))
    clear hS hx1 hx2 hx3 hx4 hx5 hx6 hx7
    go_wp2_with fail
    go_ret
    exact ⟨rfl, HFI.out⟩
end Go.Proofs.YtfnfbcaoihhbpaaGreatDoor
