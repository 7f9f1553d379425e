/- DeltaHolds inside. -/
import Derived.Test.YtfnfbcaoihhbpaaGreatDoorE5b
import Derived.Test.YtfnfbcaoihhbpaaGreatDoorE7
import Derived.Test.YtfnfbcaoihhbpaaGreatDoorC21
import Derived.Test.YtfnfbcaoihhbpaaGreatDoorIt11
import Derived.Test.YtfnfbcaoihhbpaaGreatDoorIt12
set_option linter.unusedSimpArgs false
set_option linter.unusedVariables false
set_option maxRecDepth 100000
set_option maxHeartbeats 16000000
namespace Go.Proofs.YtfnfbcaoihhbpaaGreatDoor
open Go.RowKit Go.Maps Go.Sort Go.Shelf
theorem mark_cells {w : World} {o : Option Addr} {n k : Nat} {m : MarkD} (h : Arr MarkR 4 w (.slice o n k) [m]) : ∃ b off, o = some ⟨b, off, none⟩ ∧ b < w.heap.size ∧ w.cell? ⟨b, off, none⟩ = some (.int .i64 m.dot.rep) ∧ w.cell? ⟨b, off + 1, none⟩ = some (.int .i64 m.dot.ctr) := by
 obtain ⟨o', c', e, h1, h2, hel⟩ := h
 injection e with e1 e2 e3
 subst e1
 obtain ⟨b, off, cs, e1, e2, e3, e4, e5⟩ := hel 0 (by simp)
 have hc : cs = [.int .i64 m.dot.rep, .int .i64 m.dot.ctr, .int .i64 m.qty, .int .u64 m.time] := e4.1
 subst hc
 exact ⟨b, off, e1, e2, by have := e5 0 (by decide); simpa using this, by have := e5 1 (by decide); simpa using this⟩
set_option linter.unusedSimpArgs false in
set_option linter.unusedVariables false in
set_option maxRecDepth 100000 in
set_option maxHeartbeats 16000000 in
theorem l12Holds_any (c : CartD) (xc1 xc2 xc3 : Value) (d : DotD) (nm : ByteArray) (q : Int) (what : Int) (hw0 : 0 ≤ what) (hw1 : what < 256) (w : World) (hc : CartA w xc1 xc2 xc3 c) (hG : GlobIs w) :
    Calls Tryz.prog 8 #[.agg #[xc1, xc2, xc3], dotV d, .string nm, .int .i64 q, .int .u8 what] w fun e w' => e = .returned (.bool true) ∧ Below w.heap.size w w' := by
  obtain ⟨o1, n1, k1, o2, n2, k2, o3, n3, k3, rfl, rfl, rfl, hn1, hn2, hn3⟩ := opn4 hc
  obtain ⟨W0, hW0⟩ : ∃ x, x = w.alloc (.cells #[.slice o1 n1 k1, .slice o2 n2 k2, .slice o3 n3 k3] 28) := ⟨_, rfl⟩
  have hs0 : W0.heap.size = w.heap.size + 1 := by rw [hW0, alloc_size]
  have hst0 : Below w.heap.size w W0 := by rw [hW0]; exact (Below.refl _ _).alloc (Nat.le_refl _) _
  have hbb0 : Below w.heap.size w W0 := hst0
  have hx0_0 : W0.heap[w.heap.size]? = some (.cells #[.slice o1 n1 k1, .slice o2 n2 k2, .slice o3 n3 k3] 28) := by rw [hW0]; exact alloc_new _ _
  obtain ⟨W1, hW1⟩ : ∃ x, x = W0.alloc (.cells #[.int .i64 d.rep, .int .i64 d.ctr] 30) := ⟨_, rfl⟩
  have hs1 : W1.heap.size = w.heap.size + 1 + 1 := by rw [hW1, alloc_size, hs0]
  have hst1 : Below W0.heap.size W0 W1 := by rw [hW1]; exact (Below.refl _ _).alloc (Nat.le_refl _) _
  have hbb1 : Below w.heap.size w W1 := hbb0.trans (hst1.mono hbb0.size)
  have hx1_1 : W1.heap[w.heap.size + 1]? = some (.cells #[.int .i64 d.rep, .int .i64 d.ctr] 30) := by rw [hW1, ← hs0]; exact alloc_new _ _
  have hx0_1 : W1.heap[w.heap.size]? = _ := (hst1.block _ (lt_of_heap hx0_0)).trans hx0_0
  have HC : Hid (∀ wz, Below W1.heap.size W1 wz → ((wz.cell? ⟨w.heap.size, 0, none⟩ = some (.slice o1 n1 k1)) ∧ (wz.cell? ⟨w.heap.size, 1, none⟩ = some (.slice o2 n2 k2)) ∧ (wz.cell? ⟨w.heap.size, 2, none⟩ = some (.slice o3 n3 k3))) ∧ ((wz.cell? ⟨w.heap.size + 1, 0, none⟩ = some (.int .i64 d.rep)) ∧ (wz.cell? ⟨w.heap.size + 1, 1, none⟩ = some (.int .i64 d.ctr)))) := Lib.hid (fun wz hz => by
    have z0 := (hz.block _ (lt_of_heap hx0_1)).trans hx0_1
    have z1 := (hz.block _ (lt_of_heap hx1_1)).trans hx1_1
    exact ⟨⟨by rw [cell0 z0 0]; rfl, by rw [cell0 z0 1]; rfl, by rw [cell0 z0 2]; rfl⟩, ⟨by rw [cell0 z1 0]; rfl, by rw [cell0 z1 1]; rfl⟩⟩)
  have HK0 : Hid (∀ wz, Below W1.heap.size W1 wz → wz.heap[w.heap.size]? = some (.cells #[.slice o1 n1 k1, .slice o2 n2 k2, .slice o3 n3 k3] 28)) := Lib.hid (fun wz hz => (hz.block _ (lt_of_heap hx0_1)).trans hx0_1)
  have HK1 : Hid (∀ wz, Below W1.heap.size W1 wz → wz.heap[w.heap.size + 1]? = some (.cells #[.int .i64 d.rep, .int .i64 d.ctr] 30)) := Lib.hid (fun wz hz => (hz.block _ (lt_of_heap hx1_1)).trans hx1_1)
  have HB := Lib.hid hbb1
  have HS : Hid (W1.heap.size = w.heap.size + 1 + 1) := Lib.hid hs1
  have HW : Hid (W1 = (w.alloc (.cells #[.slice o1 n1 k1, .slice o2 n2 k2, .slice o3 n3 k3] 28)).alloc (.cells #[.int .i64 d.rep, .int .i64 d.ctr] 30)) := Lib.hid (by rw [hW1, hW0])
  have HAc := Lib.hid (hc.below hbb1)
  have HGL := Lib.hid (hG.below hbb1)
  have HB0 : Hid (Below W1.heap.size W1 W1) := Lib.hid (Below.refl _ _)
  clear hW0 hs0 hst0 hW1 hs1 hst1 hx0_0 hx0_1 hx1_1 hbb0 hbb1 hc hG hn1 hn2 hn3
  obtain ⟨⟨c0_0_0, c0_0_1, c0_0_2⟩, ⟨c0_1_0, c0_1_1⟩⟩ := HC.out W1 (Below.refl _ _)
  unfold dotV
  go_enter Tryz.func8, Tryz.ntmps8
  go_wp2_with fail
  rw [← HW.out]
  have HX := Lib.hid (l12light_any c _ _ _ W1 (HAc.out.below HB0.out))
  obtain ⟨r1, hr1⟩ : ∃ r, r = lightC c := ⟨_, rfl⟩
  rw [← hr1] at HX
  have HRr1 := Lib.hid hr1
  clear hr1
  refine HX.out.mono ?_
  rintro e w1 ⟨rfl, hb⟩
  clear HX
  have HB1 := Lib.hid (HB0.out.trans (hb.mono HB0.out.size))
  clear c0_0_0 c0_0_1 c0_0_2 c0_1_0 c0_1_1
  obtain ⟨⟨c1_0_0, c1_0_1, c1_0_2⟩, ⟨c1_1_0, c1_1_1⟩⟩ := HC.out w1 HB1.out
  clear hb
  cases r1 with
  | false =>
    have HX := Lib.hid (l12known_any w1 (HGL.out.below HB1.out))
    go_wp2_with fail
    refine HX.out.mono ?_
    rintro e wk ⟨rfl, hbk⟩
    clear HX
    have HBK := Lib.hid (HB1.out.trans (hbk.mono HB1.out.size))
    clear hbk
    go_wp2_with fail
    go_ret
    exact ⟨rfl, HB.out.trans (HBK.out.mono HB.out.size)⟩
  | true =>
    have HLD := Hd (light_dots HRr1.out.symm)
    have HLc := Hd (lightC_CL HRr1.out.symm)
    clear HRr1
    by_cases h100 : 100 < nm.size
    ·have a0 : (100 : Int) < (nm.size : Int) := by omega
     clear h100
     have HX := Lib.hid (l12known_any w1 (HGL.out.below HB1.out))
     go_wp2_with fail
     refine HX.out.mono ?_
     rintro e wk ⟨rfl, hbk⟩
     clear HX
     have HBK := Lib.hid (HB1.out.trans (hbk.mono HB1.out.size))
     clear hbk
     go_wp2_with fail
     go_ret
     exact ⟨rfl, HB.out.trans (HBK.out.mono HB.out.size)⟩
    have a0 : ¬ ((100 : Int) < (nm.size : Int)) := by omega
    have HSN0 : Hid (nm.size ≤ maxLen) := Hd (by unfold maxLen; omega)
    clear h100
    have hk : what % 4 = 0 ∨ what % 4 = 1 ∨ what % 4 = 2 ∨ what % 4 = 3 := by omega
    have HK4 := Hd hk
    obtain ⟨X, hX⟩ : ∃ X, X = chgC (what % 4) c d nm q := ⟨_, rfl⟩
    obtain ⟨E, hE⟩ : ∃ E, E = chgE (what % 4) c d nm q := ⟨_, rfl⟩
    obtain ⟨WB, HWB, HBB, HSB, HKB⟩ := box1 w1 #[.slice none 0 0, .slice none 0 0, .slice none 0 0] 28
    have HF0 : Hid (what % 4 = 0 → X = putC c d nm q false ∧ E = putCE c d nm q false) := Hd (fun hm => by rw [hX, hE, hm]; exact ⟨rfl, rfl⟩)
    have HA0 : Hid (what % 4 = 0 → Calls Tryz.prog 28 _ WB (CtrPost X E WB)) := Hd (fun hm => by
      rw [(HF0.out hm).1, (HF0.out hm).2]
      exact deltaAdd_any c d nm q _ _ _ WB ((HAc.out.below HB1.out).below HBB.out) (HLc.out.sz (by omega)).1 (by have := HLD.out; omega) HSN0.out ((HGL.out.below HB1.out).below HBB.out))
    have HF1 : Hid (what % 4 = 1 → X = putC c d nm q true ∧ E = putCE c d nm q true) := Hd (fun hm => by rw [hX, hE, hm]; exact ⟨rfl, rfl⟩)
    have HA1 : Hid (what % 4 = 1 → Calls Tryz.prog 29 _ WB (CtrPost X E WB)) := Hd (fun hm => by
      rw [(HF1.out hm).1, (HF1.out hm).2]
      exact deltaSet_any c d nm q _ _ _ WB ((HAc.out.below HB1.out).below HBB.out) (HLc.out.sz (by omega)).1 (by have := HLD.out; omega) HSN0.out ((HGL.out.below HB1.out).below HBB.out))
    have HF2 : Hid (what % 4 = 2 → X = remC c nm ∧ E = remCE c nm) := Hd (fun hm => by rw [hX, hE, hm]; exact ⟨rfl, rfl⟩)
    have HA2 : Hid (what % 4 = 2 → Calls Tryz.prog 31 _ WB (CtrPost X E WB)) := Hd (fun hm => by
      rw [(HF2.out hm).1, (HF2.out hm).2]
      exact deltaRemove_any c nm _ _ _ WB ((HAc.out.below HB1.out).below HBB.out) (HLc.out.sz (by omega)).1 (by have := HLD.out; omega) HSN0.out ((HGL.out.below HB1.out).below HBB.out))
    have HF3 : Hid (what % 4 = 3 → X = clrC c ∧ E = clrCE c) := Hd (fun hm => by rw [hX, hE, hm]; exact ⟨rfl, rfl⟩)
    have HA3 : Hid (what % 4 = 3 → Calls Tryz.prog 32 _ WB (CtrPost X E WB)) := Hd (fun hm => by
      rw [(HF3.out hm).1, (HF3.out hm).2]
      exact deltaClear_any c  _ _ _ WB ((HAc.out.below HB1.out).below HBB.out) (HLc.out.sz (by omega)).1 (by have := HLD.out; omega) ((HGL.out.below HB1.out).below HBB.out))
    unfold dotV at HA0 HA1
    have HZX : Hid (E ≠ 0 → X = zeroC) := Hd (fun h => by rw [hX]; exact chg_zero HK4.out (by rw [← hE]; exact h))
    have HOK : Hid (E = 0 → validC c = true ∧ validC X = true ∧ CL 201 X) := Hd (fun h => by rw [hX]; exact chg_ok HK4.out (by rw [← hE]; exact h) HLD.out)
    clear hX hE
    rcases hk with hm | hm | hm | hm
    all_goals
     have HB2 := Lib.hid (HB1.out.trans (HBB.out.mono HB1.out.size))
     clear c1_0_0 c1_0_1 c1_0_2 c1_1_0 c1_1_1
     obtain ⟨⟨c2_0_0, c2_0_1, c2_0_2⟩, ⟨c2_1_0, c2_1_1⟩⟩ := HC.out WB HB2.out
     go_wp2_with (go_loud (rw [← HWB.out]))
     first
     | refine (HA0.out hm).mono ?_
     | refine (HA1.out hm).mono ?_
     | refine (HA2.out hm).mono ?_
     | refine (HA3.out hm).mono ?_
     rintro e vB ⟨y1, y2, y3, rfl, hRA, hb⟩
     obtain ⟨pB1, mB1, lB1, pB2, mB2, lB2, pB3, mB3, lB3, rfl, rfl, rfl, hm1, hm2, hm3⟩ := opn4 hRA
     clear HA0 HA1 HA2 HA3
     have hzz := HKB.out vB hb
     obtain ⟨WX, hWX⟩ : ∃ x, x = set3c vB (w1.heap.size) (.slice pB1 mB1 lB1) (.slice pB2 mB2 lB2) (.slice pB3 mB3 lB3) := ⟨_, rfl⟩
     have hbX : Below w1.heap.size w1 WX := by rw [hWX]; exact set3c_below _ _ _ (btr HBB.out hb) (Nat.le_refl _)
     have hxX : WX.heap[w1.heap.size]? = some (.cells #[.slice pB1 mB1 lB1, .slice pB2 mB2 lB2, .slice pB3 mB3 lB3] 28) := by rw [hWX]; exact set3c_same _ _ _ hzz
     have hAX : CartA WX (.slice pB1 mB1 lB1) (.slice pB2 mB2 lB2) (.slice pB3 mB3 lB3) X := by rw [hWX]; exact ⟨set3c_dots hRA.1 hzz, set3c_dots hRA.2.1 hzz, set3c_items hRA.2.2 hzz⟩
     obtain ⟨y0, y1, y2⟩ := cel3 hzz
     have g0 := froz0 hzz 0
     have g1 := froz0 hzz 1
     have g2 := froz0 hzz 2
     have HAB := Hd hAX
     have HCB := Hd (fun wz (hz : Below WX.heap.size WX wz) => cel3 ((hz.block _ (lt_of_heap hxX)).trans hxX))
     have HBX := Hd hbX
     have HWX := Hd hWX
     clear hRA hb hzz hWX hbX hxX hAX hm1 hm2 hm3
     go_upto_region 13 with fail
     rw [← set3c_eq, ← HWX.out]
     clear y0 y1 y2 g0 g1 g2 HWX
     have HB3 := Lib.hid (HB1.out.trans (HBX.out.mono HB1.out.size))
     clear c2_0_0 c2_0_1 c2_0_2 c2_1_0 c2_1_1
     obtain ⟨⟨c3_0_0, c3_0_1, c3_0_2⟩, ⟨c3_1_0, c3_1_1⟩⟩ := HC.out WX HB3.out
     have HDB3 : Hid (Below WX.heap.size WX WX) := Hd brf
     obtain ⟨eB3_0, eB3_1, eB3_2⟩ := HCB.out WX brf
     by_cases hE0 : E = 0
     rotate_left
     ·have hne : (E != 0) = true := by simpa using hE0
      have HXZ := Hd (HZX.out hE0)
      have HZE : Hid (emptyC X = true) := Hd (by rw [HXZ.out]; rfl)
      clear hE0 HZX HOK HXZ
      have HX := Lib.hid (deltaEmpty_any X _ _ _ WX (HAB.out.below HDB3.out))
      rw [HZE.out] at HX
      go_wp2_with fail
      refine HX.out.mono ?_
      rintro e w4 ⟨rfl, hb⟩
      clear HX
      have HB4 := Lib.hid (HB3.out.trans (hb.mono HB3.out.size))
      clear c3_0_0 c3_0_1 c3_0_2 c3_1_0 c3_1_1
      obtain ⟨⟨c4_0_0, c4_0_1, c4_0_2⟩, ⟨c4_1_0, c4_1_1⟩⟩ := HC.out w4 HB4.out
      have HDB4 := Lib.hid (HDB3.out.trans (hb.mono HDB3.out.size))
      clear eB3_0 eB3_1 eB3_2
      obtain ⟨eB4_0, eB4_1, eB4_2⟩ := HCB.out w4 HDB4.out
      clear hb
      have HX := Lib.hid (l12known_any w4 (HGL.out.below HB4.out))
      go_wp2_with fail
      refine HX.out.mono ?_
      rintro e wk ⟨rfl, hbk⟩
      clear HX
      have HBK := Lib.hid (HB4.out.trans (hbk.mono HB4.out.size))
      clear hbk
      go_wp2_with fail
      go_ret
      exact ⟨rfl, HB.out.trans (HBK.out.mono HB.out.size)⟩
     have hne : (E != 0) = false := by simpa using hE0
     obtain ⟨hvc, hvx, hcx⟩ := HOK.out hE0
     have hjt := joinR_true hvc hvx
     have hvy := join_valid hvc hvx
     have hjt2 := joinR_true hvy hvx
     rw [join_twice hvc hvx] at hjt2
     have hcy := refJoin_CL hvc hvx HLc.out hcx
     obtain ⟨Y, hY⟩ : ∃ Y, Y = refJoin c X := ⟨_, rfl⟩
     rw [← hY] at hjt hvy hjt2 hcy
     have HVC := Hd hvc
     have HVX := Hd hvx
     have HJ := Hd hjt
     have HJ2 := Hd hjt2
     have HVY := Hd hvy
     have HSX := Hd (hcx.sz (by omega))
     have HSY := Hd (hcy.sz (by omega))
     have HYE := Hd hY
     have HE0 := Hd hE0
     clear hvc hvx hjt hvy hjt2 hcx hcy hY hE0 HZX HOK
     have HX := Lib.hid (joinJoin_any c X _ _ _ _ _ _ WX (HAc.out.below HB3.out) (HAB.out.below HDB3.out) (HLc.out.sz (by omega)) HSX.out (HGL.out.below HB3.out))
     rw [HJ.out.1, HJ.out.2] at HX
     go_wp2_with fail
     refine HX.out.mono ?_
     rintro e vY ⟨y1, y2, y3, rfl, hown, hb⟩
     clear HX
     have hRA := hown.cart HVY.out
     obtain ⟨pY1, mY1, lY1, pY2, mY2, lY2, pY3, mY3, lY3, rfl, rfl, rfl, hm1, hm2, hm3⟩ := opn4 hRA
     obtain ⟨WY, HWY, HBY0, HSWY, HCY⟩ := box1 vY #[.slice pY1 mY1 lY1, .slice pY2 mY2 lY2, .slice pY3 mY3 lY3] 28
     have HXY := Hd (HCY.out WY brf)
     have HDBY := Hd (btr hb HBY0.out)
     have HDVY := Hd hb.size
     have HCY := Hd (fun wz hz => cel3 (HCY.out wz hz))
     have HAY := Hd (hRA.below HBY0.out)
     have HMY := Hd hm3
     have HB4 := Lib.hid (HB3.out.trans ((btr hb HBY0.out).mono HB3.out.size))
     have HDB4 := Lib.hid (HDB3.out.trans ((btr hb HBY0.out).mono HDB3.out.size))
     have HDY4 : Hid (Below WY.heap.size WY WY) := Lib.hid (Below.refl _ _)
     clear hown hRA hb HBY0 hm1 hm2 hm3
     clear c3_0_0 c3_0_1 c3_0_2 c3_1_0 c3_1_1
     obtain ⟨⟨c4_0_0, c4_0_1, c4_0_2⟩, ⟨c4_1_0, c4_1_1⟩⟩ := HC.out WY HB4.out
     clear eB3_0 eB3_1 eB3_2
     obtain ⟨eB4_0, eB4_1, eB4_2⟩ := HCB.out WY HDB4.out
     obtain ⟨eY4_0, eY4_1, eY4_2⟩ := HCY.out WY HDY4.out
     have HX := Lib.hid (joinJoin_any Y X _ _ _ _ _ _ WY (HAY.out.below HDY4.out) (HAB.out.below HDB4.out) HSY.out HSX.out (HGL.out.below HB4.out))
     rw [HJ2.out.1, HJ2.out.2] at HX
     go_wp2_with (go_loud (rw [← HWY.out]))
     refine HX.out.mono ?_
     rintro e vZ ⟨y1, y2, y3, rfl, hown, hb⟩
     clear HX
     have hRA := hown.cart HVY.out
     obtain ⟨pZ1, mZ1, lZ1, pZ2, mZ2, lZ2, pZ3, mZ3, lZ3, rfl, rfl, rfl, hm1, hm2, hm3⟩ := opn4 hRA
     obtain ⟨WZ, HWZ, HBZ0, HSWZ, HCZ⟩ := box1 vZ #[.slice pZ1 mZ1 lZ1, .slice pZ2 mZ2 lZ2, .slice pZ3 mZ3 lZ3] 28
     have HXZ := Hd (HCZ.out WZ brf)
     have HDBZ := Hd (btr hb HBZ0.out)
     have HDVZ := Hd hb.size
     have HCZ := Hd (fun wz hz => cel3 (HCZ.out wz hz))
     have HAZ := Hd (hRA.below HBZ0.out)
     have HMZ := Hd hm3
     have HB5 := Lib.hid (HB4.out.trans ((btr hb HBZ0.out).mono HB4.out.size))
     have HDB5 := Lib.hid (HDB4.out.trans ((btr hb HBZ0.out).mono HDB4.out.size))
     have HDY5 := Lib.hid (HDY4.out.trans ((btr hb HBZ0.out).mono HDY4.out.size))
     have HDZ5 : Hid (Below WZ.heap.size WZ WZ) := Lib.hid (Below.refl _ _)
     clear hown hRA hb HBZ0 hm1 hm2 hm3
     clear c4_0_0 c4_0_1 c4_0_2 c4_1_0 c4_1_1
     obtain ⟨⟨c5_0_0, c5_0_1, c5_0_2⟩, ⟨c5_1_0, c5_1_1⟩⟩ := HC.out WZ HB5.out
     clear eB4_0 eB4_1 eB4_2
     obtain ⟨eB5_0, eB5_1, eB5_2⟩ := HCB.out WZ HDB5.out
     clear eY4_0 eY4_1 eY4_2
     obtain ⟨eY5_0, eY5_1, eY5_2⟩ := HCY.out WZ HDY5.out
     obtain ⟨eZ5_0, eZ5_1, eZ5_2⟩ := HCZ.out WZ HDZ5.out
     have HX := Lib.hid (cartValid_any c _ _ _ WZ (HAc.out.below HB5.out) (HLc.out.sz (by omega)).1 (HGL.out.below HB5.out))
     rw [HVC.out] at HX
     go_wp2_with (go_loud (rw [← HWZ.out]))
     refine HX.out.mono ?_
     rintro e w6 ⟨rfl, hb⟩
     clear HX
     have HB6 := Lib.hid (HB5.out.trans (hb.mono HB5.out.size))
     clear c5_0_0 c5_0_1 c5_0_2 c5_1_0 c5_1_1
     obtain ⟨⟨c6_0_0, c6_0_1, c6_0_2⟩, ⟨c6_1_0, c6_1_1⟩⟩ := HC.out w6 HB6.out
     have HDB6 := Lib.hid (HDB5.out.trans (hb.mono HDB5.out.size))
     clear eB5_0 eB5_1 eB5_2
     obtain ⟨eB6_0, eB6_1, eB6_2⟩ := HCB.out w6 HDB6.out
     have HDY6 := Lib.hid (HDY5.out.trans (hb.mono HDY5.out.size))
     clear eY5_0 eY5_1 eY5_2
     obtain ⟨eY6_0, eY6_1, eY6_2⟩ := HCY.out w6 HDY6.out
     have HDZ6 := Lib.hid (HDZ5.out.trans (hb.mono HDZ5.out.size))
     clear eZ5_0 eZ5_1 eZ5_2
     obtain ⟨eZ6_0, eZ6_1, eZ6_2⟩ := HCZ.out w6 HDZ6.out
     clear hb
     have HX := Lib.hid (cartValid_any X _ _ _ w6 (HAB.out.below HDB6.out) HSX.out.1 (HGL.out.below HB6.out))
     rw [HVX.out] at HX
     go_wp2_with fail
     refine HX.out.mono ?_
     rintro e w7 ⟨rfl, hb⟩
     clear HX
     have HB7 := Lib.hid (HB6.out.trans (hb.mono HB6.out.size))
     clear c6_0_0 c6_0_1 c6_0_2 c6_1_0 c6_1_1
     obtain ⟨⟨c7_0_0, c7_0_1, c7_0_2⟩, ⟨c7_1_0, c7_1_1⟩⟩ := HC.out w7 HB7.out
     have HDB7 := Lib.hid (HDB6.out.trans (hb.mono HDB6.out.size))
     clear eB6_0 eB6_1 eB6_2
     obtain ⟨eB7_0, eB7_1, eB7_2⟩ := HCB.out w7 HDB7.out
     have HDY7 := Lib.hid (HDY6.out.trans (hb.mono HDY6.out.size))
     clear eY6_0 eY6_1 eY6_2
     obtain ⟨eY7_0, eY7_1, eY7_2⟩ := HCY.out w7 HDY7.out
     have HDZ7 := Lib.hid (HDZ6.out.trans (hb.mono HDZ6.out.size))
     clear eZ6_0 eZ6_1 eZ6_2
     obtain ⟨eZ7_0, eZ7_1, eZ7_2⟩ := HCZ.out w7 HDZ7.out
     clear hb
     have HX := Lib.hid (r10Equal_any Y Y _ _ _ _ _ _ w7 (HAY.out.below HDY7.out) (HAZ.out.below HDZ7.out))
     rw [decide_eq_true (rfl : Y = Y)] at HX
     go_wp2_with fail
     refine HX.out.mono ?_
     rintro e w8 ⟨rfl, hb⟩
     clear HX
     have HB8 := Lib.hid (HB7.out.trans (hb.mono HB7.out.size))
     clear c7_0_0 c7_0_1 c7_0_2 c7_1_0 c7_1_1
     obtain ⟨⟨c8_0_0, c8_0_1, c8_0_2⟩, ⟨c8_1_0, c8_1_1⟩⟩ := HC.out w8 HB8.out
     have HDB8 := Lib.hid (HDB7.out.trans (hb.mono HDB7.out.size))
     clear eB7_0 eB7_1 eB7_2
     obtain ⟨eB8_0, eB8_1, eB8_2⟩ := HCB.out w8 HDB8.out
     have HDY8 := Lib.hid (HDY7.out.trans (hb.mono HDY7.out.size))
     clear eY7_0 eY7_1 eY7_2
     obtain ⟨eY8_0, eY8_1, eY8_2⟩ := HCY.out w8 HDY8.out
     have HDZ8 := Lib.hid (HDZ7.out.trans (hb.mono HDZ7.out.size))
     clear eZ7_0 eZ7_1 eZ7_2
     obtain ⟨eZ8_0, eZ8_1, eZ8_2⟩ := HCZ.out w8 HDZ8.out
     clear hb
     have HCR := Hd (fun wz (hz : Below w8.heap.size w8 wz) => HC.out wz (HB8.out.trans (hz.mono HB8.out.size)))
     go_upto_region 19 with fail
     refine NQ.to ?_
     refine wp_region_held_drew (S := (fun wz => Below w8.heap.size w8 wz)) (by kernel_rfl) (bdr) (fun hS => ?_)
     refine tkR (n := 4) [0, 1, 2, 3] rfl (by decide +kernel) hS ?_
     iterate 4 ((try simp only [Act.put, s1, s2, s3, s4, s5, s6]); refine ⟨_, ?_, rfl, Or.inl ⟨by kernel_rfl, fun w hSw => ok_of fun z hz => ?_⟩, ?_⟩; rotate_left; · (obtain ⟨⟨f0, f1, f2⟩, f3, f4⟩ := HCR.out _ hSw; go_simp; exact hz))
     refine RunOK.done ?_
     try simp only [Act.put, s1, s2, s3, s4, s5, s6]
     refine rd1 4 (by decide +kernel) rfl (fun K hK => ?_)
     go_simp
     refine Shut.out hK _ _ (btr (bdr : Below w8.heap.size w8 w8.drew) bal) (fun hS2 => ?_); clear hK K hS; have hS := hS2; clear hS2
     try simp only [Act.put, s1, s2, s3, s4, s5, s6]
     refine rd1 5 (by decide +kernel) rfl (fun K hK => ?_)
     go_simp
     refine Shut.out hK _ _ (btr (bdr : Below w8.heap.size w8 w8.drew) bal) (fun hS2 => ?_); clear hK K hS; have hS := hS2; clear hS2
     try simp only [Act.put, s1, s2, s3, s4, s5, s6]
     refine tkR (n := 1) [6] rfl (by decide +kernel) hS ?_
     iterate 1 ((try simp only [Act.put, s1, s2, s3, s4, s5, s6]); refine ⟨_, ?_, rfl, Or.inl ⟨by kernel_rfl, fun w hSw => ok_of fun z hz => ?_⟩, ?_⟩; rotate_left; · (obtain ⟨⟨f0, f1, f2⟩, f3, f4⟩ := HCR.out _ hSw; go_simp; exact hz))
     refine RunOK.done ?_
     try simp only [Act.put, s1, s2, s3, s4, s5, s6]
     refine wpAnyH_done (by kernel_rfl) ?_ _
     try simp only [Act.put, s1, s2, s3, s4, s5, s6]
     simp only [NQ]
     obtain ⟨WL, HWL, HBK0, HSK, HKK⟩ := box1 w8 #[.slice o1 n1 k1, .slice o2 n2 k2] 25
     obtain ⟨WK, hWK⟩ : ∃ x, x = WL.drew := ⟨_, rfl⟩
     have hbl : Below WL.heap.size WL WK := by rw [hWK]; exact bdr
     have hb := btr HBK0.out hbl
     have hxk := HKK.out WK hbl
     clear hS HCR
     rw [← HWL.out, ← hWK]
     clear hWK HWL
     have HB9 := Lib.hid (HB8.out.trans (hb.mono HB8.out.size))
     clear c8_0_0 c8_0_1 c8_0_2 c8_1_0 c8_1_1
     obtain ⟨⟨c9_0_0, c9_0_1, c9_0_2⟩, ⟨c9_1_0, c9_1_1⟩⟩ := HC.out WK HB9.out
     have HDB9 := Lib.hid (HDB8.out.trans (hb.mono HDB8.out.size))
     clear eB8_0 eB8_1 eB8_2
     obtain ⟨eB9_0, eB9_1, eB9_2⟩ := HCB.out WK HDB9.out
     have HDY9 := Lib.hid (HDY8.out.trans (hb.mono HDY8.out.size))
     clear eY8_0 eY8_1 eY8_2
     obtain ⟨eY9_0, eY9_1, eY9_2⟩ := HCY.out WK HDY9.out
     have HDZ9 := Lib.hid (HDZ8.out.trans (hb.mono HDZ8.out.size))
     clear eZ8_0 eZ8_1 eZ8_2
     obtain ⟨eZ9_0, eZ9_1, eZ9_2⟩ := HCZ.out WK HDZ9.out
     have HXK := Hd hxk
     have HCK := Hd (fun wz (hz : Below WK.heap.size WK wz) => cel2 ((hz.block _ (lt_of_heap HXK.out)).trans HXK.out))
     have HDK9 : Hid (Below WK.heap.size WK WK) := Hd brf
     obtain ⟨eK9_0, eK9_1⟩ := HCK.out WK brf
     have HBKL := Hd hb
     have HBK := Hd HBK0.out.size
     clear hb hbl hxk HKK HSK HBK0
    rotate_left 2
    ·skip
     have hce : remCE c nm = 0 := by rw [← (HF2.out hm).2]; exact HE0.out
     obtain ⟨e1, -, hth, -, hjn, -⟩ := rem_holds hce
     have hy : Y = ⟨c.vec, c.cloud, dropN c.items nm⟩ := by rw [HYE.out, (HF2.out hm).1, e1]; exact hjn
     have HI : Hid (Y.items = dropN c.items nm) := Hd (by rw [hy])
     have HVE : Hid ((decide (Y.vec = c.vec) && decide (Y.cloud = c.cloud)) = true ∧ True) := Hd ⟨by rw [hy]; simp, trivial⟩
     have HRE : Hid (remE c.items nm = 0) := Hd (by unfold remE; rw [(validC_parts HVC.out).2.1, if_pos rfl]; exact if_pos hth)
     clear hce e1 hth hjn hy
     have HX := itemsRemove_any c.items nm _ WK (HAc.out.below HB9.out).2.2 (HLc.out.sz (by omega)).1 (HGL.out.below HB9.out)
     unfold RemPost at HX
     rw [HRE.out] at HX
     have HX := Hd HX
     go_wp2_with fail
     refine HX.out.mono ?_
     rintro e wr ⟨v9, rfl, hb, -, hyes⟩
     obtain ⟨ps, hps, hfr⟩ := hyes (by first | rfl | trivial)
     have har := hfr.arr
     rw [hps] at har
     obtain ⟨ol, kl, rfl⟩ := har.slice
     have HL := Hd har
     clear HX hyes hps hfr har
     have HB10 := Lib.hid (HB9.out.trans (hb.mono HB9.out.size))
     clear c9_0_0 c9_0_1 c9_0_2 c9_1_0 c9_1_1
     obtain ⟨⟨c10_0_0, c10_0_1, c10_0_2⟩, ⟨c10_1_0, c10_1_1⟩⟩ := HC.out wr HB10.out
     have HDB10 := Lib.hid (HDB9.out.trans (hb.mono HDB9.out.size))
     clear eB9_0 eB9_1 eB9_2
     obtain ⟨eB10_0, eB10_1, eB10_2⟩ := HCB.out wr HDB10.out
     have HDY10 := Lib.hid (HDY9.out.trans (hb.mono HDY9.out.size))
     clear eY9_0 eY9_1 eY9_2
     obtain ⟨eY10_0, eY10_1, eY10_2⟩ := HCY.out wr HDY10.out
     have HDZ10 := Lib.hid (HDZ9.out.trans (hb.mono HDZ9.out.size))
     clear eZ9_0 eZ9_1 eZ9_2
     obtain ⟨eZ10_0, eZ10_1, eZ10_2⟩ := HCZ.out wr HDZ10.out
     have HDK10 := Lib.hid (HDK9.out.trans (hb.mono HDK9.out.size))
     clear eK9_0 eK9_1
     obtain ⟨eK10_0, eK10_1⟩ := HCK.out wr HDK10.out
     have HBR : Hid (Below wr.heap.size wr wr) := Hd brf
     clear hb
     have HX := Lib.hid (itemsEqual_any Y.items (dropN c.items nm) _ _ wr (HAY.out.below HDY10.out).2.2 HL.out)
     rw [HI.out, decide_eq_true rfl] at HX
     go_wp2_with fail
     refine HX.out.mono ?_
     rintro e w11 ⟨rfl, hb⟩
     clear HX
     have HB11 := Lib.hid (HB10.out.trans (hb.mono HB10.out.size))
     clear c10_0_0 c10_0_1 c10_0_2 c10_1_0 c10_1_1
     obtain ⟨⟨c11_0_0, c11_0_1, c11_0_2⟩, ⟨c11_1_0, c11_1_1⟩⟩ := HC.out w11 HB11.out
     have HDB11 := Lib.hid (HDB10.out.trans (hb.mono HDB10.out.size))
     clear eB10_0 eB10_1 eB10_2
     obtain ⟨eB11_0, eB11_1, eB11_2⟩ := HCB.out w11 HDB11.out
     have HDY11 := Lib.hid (HDY10.out.trans (hb.mono HDY10.out.size))
     clear eY10_0 eY10_1 eY10_2
     obtain ⟨eY11_0, eY11_1, eY11_2⟩ := HCY.out w11 HDY11.out
     have HDZ11 := Lib.hid (HDZ10.out.trans (hb.mono HDZ10.out.size))
     clear eZ10_0 eZ10_1 eZ10_2
     obtain ⟨eZ11_0, eZ11_1, eZ11_2⟩ := HCZ.out w11 HDZ11.out
     have HDK11 := Lib.hid (HDK10.out.trans (hb.mono HDK10.out.size))
     clear eK10_0 eK10_1
     obtain ⟨eK11_0, eK11_1⟩ := HCK.out w11 HDK11.out
     clear hb
     have HX := Lib.hid (r3Equal_any Y.vec Y.cloud c.vec c.cloud _ _ _ _ w11 (HAY.out.below HDY11.out).1 (HAY.out.below HDY11.out).2.1 (HAc.out.below HB11.out).1 (HAc.out.below HB11.out).2.1)
     rw [HVE.out.1] at HX
     go_wp2_with fail
     refine HX.out.mono ?_
     rintro e w12 ⟨rfl, hb⟩
     clear HX
     have HB12 := Lib.hid (HB11.out.trans (hb.mono HB11.out.size))
     clear c11_0_0 c11_0_1 c11_0_2 c11_1_0 c11_1_1
     obtain ⟨⟨c12_0_0, c12_0_1, c12_0_2⟩, ⟨c12_1_0, c12_1_1⟩⟩ := HC.out w12 HB12.out
     have HDB12 := Lib.hid (HDB11.out.trans (hb.mono HDB11.out.size))
     clear eB11_0 eB11_1 eB11_2
     obtain ⟨eB12_0, eB12_1, eB12_2⟩ := HCB.out w12 HDB12.out
     have HDY12 := Lib.hid (HDY11.out.trans (hb.mono HDY11.out.size))
     clear eY11_0 eY11_1 eY11_2
     obtain ⟨eY12_0, eY12_1, eY12_2⟩ := HCY.out w12 HDY12.out
     have HDZ12 := Lib.hid (HDZ11.out.trans (hb.mono HDZ11.out.size))
     clear eZ11_0 eZ11_1 eZ11_2
     obtain ⟨eZ12_0, eZ12_1, eZ12_2⟩ := HCZ.out w12 HDZ12.out
     have HDK12 := Lib.hid (HDK11.out.trans (hb.mono HDK11.out.size))
     clear eK11_0 eK11_1
     obtain ⟨eK12_0, eK12_1⟩ := HCK.out w12 HDK12.out
     clear hb
     have HX := Lib.hid (l12known_any w12 (HGL.out.below HB12.out))
     go_wp2_with fail
     refine HX.out.mono ?_
     rintro e wk ⟨rfl, hbk⟩
     clear HX
     have HBK := Lib.hid (HB12.out.trans (hbk.mono HB12.out.size))
     clear hbk
     go_wp2_with fail
     go_ret
     exact ⟨rfl, HB.out.trans (HBK.out.mono HB.out.size)⟩
    ·skip
     have hce : clrCE c = 0 := by rw [← (HF3.out hm).2]; exact HE0.out
     obtain ⟨e1, -, -, hjn⟩ := clr_holds hce
     have hy : Y = ⟨c.vec, c.cloud, []⟩ := by rw [HYE.out, (HF3.out hm).1, e1]; exact hjn
     have HI : Hid (Y.items = []) := Hd (by rw [hy])
     have HVE : Hid ((decide (Y.vec = c.vec) && decide (Y.cloud = c.cloud)) = true) := Hd (by rw [hy]; simp)
     clear hce e1 hjn hy
     have HX := Lib.hid (itemsEqual_any Y.items [] _ (.slice none 0 0) WK (HAY.out.below HDY9.out).2.2 arr_nil)
     rw [HI.out, decide_eq_true rfl] at HX
     go_wp2_with fail
     refine HX.out.mono ?_
     rintro e w10 ⟨rfl, hb⟩
     clear HX
     have HB10 := Lib.hid (HB9.out.trans (hb.mono HB9.out.size))
     clear c9_0_0 c9_0_1 c9_0_2 c9_1_0 c9_1_1
     obtain ⟨⟨c10_0_0, c10_0_1, c10_0_2⟩, ⟨c10_1_0, c10_1_1⟩⟩ := HC.out w10 HB10.out
     have HDB10 := Lib.hid (HDB9.out.trans (hb.mono HDB9.out.size))
     clear eB9_0 eB9_1 eB9_2
     obtain ⟨eB10_0, eB10_1, eB10_2⟩ := HCB.out w10 HDB10.out
     have HDY10 := Lib.hid (HDY9.out.trans (hb.mono HDY9.out.size))
     clear eY9_0 eY9_1 eY9_2
     obtain ⟨eY10_0, eY10_1, eY10_2⟩ := HCY.out w10 HDY10.out
     have HDZ10 := Lib.hid (HDZ9.out.trans (hb.mono HDZ9.out.size))
     clear eZ9_0 eZ9_1 eZ9_2
     obtain ⟨eZ10_0, eZ10_1, eZ10_2⟩ := HCZ.out w10 HDZ10.out
     have HDK10 := Lib.hid (HDK9.out.trans (hb.mono HDK9.out.size))
     clear eK9_0 eK9_1
     obtain ⟨eK10_0, eK10_1⟩ := HCK.out w10 HDK10.out
     clear hb
     have HX := Lib.hid (r3Equal_any Y.vec Y.cloud c.vec c.cloud _ _ _ _ w10 (HAY.out.below HDY10.out).1 (HAY.out.below HDY10.out).2.1 (HAc.out.below HB10.out).1 (HAc.out.below HB10.out).2.1)
     rw [HVE.out] at HX
     go_wp2_with fail
     refine HX.out.mono ?_
     rintro e w11 ⟨rfl, hb⟩
     clear HX
     have HB11 := Lib.hid (HB10.out.trans (hb.mono HB10.out.size))
     clear c10_0_0 c10_0_1 c10_0_2 c10_1_0 c10_1_1
     obtain ⟨⟨c11_0_0, c11_0_1, c11_0_2⟩, ⟨c11_1_0, c11_1_1⟩⟩ := HC.out w11 HB11.out
     have HDB11 := Lib.hid (HDB10.out.trans (hb.mono HDB10.out.size))
     clear eB10_0 eB10_1 eB10_2
     obtain ⟨eB11_0, eB11_1, eB11_2⟩ := HCB.out w11 HDB11.out
     have HDY11 := Lib.hid (HDY10.out.trans (hb.mono HDY10.out.size))
     clear eY10_0 eY10_1 eY10_2
     obtain ⟨eY11_0, eY11_1, eY11_2⟩ := HCY.out w11 HDY11.out
     have HDZ11 := Lib.hid (HDZ10.out.trans (hb.mono HDZ10.out.size))
     clear eZ10_0 eZ10_1 eZ10_2
     obtain ⟨eZ11_0, eZ11_1, eZ11_2⟩ := HCZ.out w11 HDZ11.out
     have HDK11 := Lib.hid (HDK10.out.trans (hb.mono HDK10.out.size))
     clear eK10_0 eK10_1
     obtain ⟨eK11_0, eK11_1⟩ := HCK.out w11 HDK11.out
     clear hb
     have HX := Lib.hid (l12known_any w11 (HGL.out.below HB11.out))
     go_wp2_with fail
     refine HX.out.mono ?_
     rintro e wk ⟨rfl, hbk⟩
     clear HX
     have HBK := Lib.hid (HB11.out.trans (hbk.mono HB11.out.size))
     clear hbk
     go_wp2_with fail
     go_ret
     exact ⟨rfl, HB.out.trans (HBK.out.mono HB.out.size)⟩
    all_goals
     obtain ⟨set, hce, hxs⟩ : ∃ set, putCE c d nm q set = 0 ∧ X = putC c d nm q set := by
       first
       | exact ⟨false, by rw [← (HF0.out hm).2]; exact HE0.out, (HF0.out hm).1⟩
       | exact ⟨true, by rw [← (HF1.out hm).2]; exact HE0.out, (HF1.out hm).1⟩
     obtain ⟨e1, -, hfr, -, hnb, hvm, hjn, hvi, hq1, hq2, hth, hfx, hnf⟩ := put_holds hce
     have hxp : X = putOf c d nm q := hxs.trans e1
     rw [← hxp, ← HYE.out] at hjn hq1 hq2 hth hfx hnf
     have HI : Hid (Y.items = putI c.items ⟨nm, [newM c d q]⟩) := Hd (by rw [hjn])
     have HVE : Hid ((decide (Y.vec = (addX (c.vec, c.cloud) [d]).1) && decide (Y.cloud = (addX (c.vec, c.cloud) [d]).2)) = true) := Hd (by rw [hjn]; simp)
     have HQ := Hd (And.intro hq1 hq2)
     have HTH := Hd hth
     have HFX := Hd hfx
     have HFR := Hd hfr
     have HNF := Hd hnf
     have HPE : Hid (putE c.items ⟨nm, [newM c d q]⟩ = 0) := Hd (by unfold putE; rw [(validC_parts HVC.out).2.1, oneI_new hnb hvm, hvi]; rfl)
     have HMI := Hd (newM_MI HAc.out HVC.out hvm)
     have HDV := Hd (freshC_parts hfr).2.1
     have HUD : Hid ((∀ x ∈ (addX (c.vec, c.cloud) [d]).1, DI x) ∧ ∀ x ∈ (addX (c.vec, c.cloud) [d]).2, DI x) := Hd (by have := validC_DI HVY.out; rw [hjn] at this; exact this)
     clear hce hxs e1 hfr hnb hvm hjn hvi hq1 hq2 hth hfx hnf hxp
     obtain ⟨WD, HWD, HBD0, HSD, HKD⟩ := box1 WK #[.int .i64 d.rep, .int .i64 d.ctr] 30
     have HLD1 : Hid (Arr DotR 2 WD (.slice (some ⟨WK.heap.size, 0, none⟩) 1 1) [d]) := Hd (by rw [HWD.out]; exact lit_dots [d] (by unfold maxLen; simp) (fun x hx => by rw [List.mem_singleton.1 hx]; exact DI_valid HDV.out))
     have HX := Hd (ctxAdd_any c.vec c.cloud [d] _ _ _ WD ((HAc.out.below HB9.out).1.dots HBD0.out) ((HAc.out.below HB9.out).2.1.dots HBD0.out) HLD1.out (compactB_parts (validC_parts HVC.out).1).1 (by simp [HDV.out]) (by have := HLc.out.1; simp; omega))
     go_wp2_with (go_loud (rw [← HWD.out]))
     refine HX.out.mono ?_
     rintro e wa ⟨u1, u2, rfl, h1, h2, hb⟩
     have g1 := h1.dots HUD.out.1
     have g2 := h2.dots HUD.out.2
     obtain ⟨p1, q1, rfl⟩ := g1.slice
     obtain ⟨p2, q2, rfl⟩ := g2.slice
     have hbk := btr HDK9.out (btr HBD0.out hb)
     have hz := (hbk.block _ (lt_of_heap HXK.out)).trans HXK.out
     obtain ⟨W9, hW9⟩ : ∃ x, x = set2 wa w8.heap.size (.slice p1 (addX (c.vec, c.cloud) [d]).1.length q1) (.slice p2 (addX (c.vec, c.cloud) [d]).2.length q2) := ⟨_, rfl⟩
     have hb9 : Below w8.heap.size w8 W9 := by rw [hW9]; exact set2_below _ _ (btr HBKL.out hbk) (Nat.le_refl _)
     have hx9 : W9.heap[w8.heap.size]? = some (.cells #[.slice p1 (addX (c.vec, c.cloud) [d]).1.length q1, .slice p2 (addX (c.vec, c.cloud) [d]).2.length q2] 25) := by rw [hW9]; exact set2_same _ _ hz
     have k1 : Arr DotR 2 W9 (.slice p1 (addX (c.vec, c.cloud) [d]).1.length q1) (addX (c.vec, c.cloud) [d]).1 := by rw [hW9]; exact arr_set2 g1 hz
     have k2 : Arr DotR 2 W9 (.slice p2 (addX (c.vec, c.cloud) [d]).2.length q2) (addX (c.vec, c.cloud) [d]).2 := by rw [hW9]; exact arr_set2 g2 hz
     have HK1 := Hd (And.intro k1 k2)
     have HX9 := Hd hx9
     have HB9 := Hd hb9
     have HW9 := Hd hW9
     obtain ⟨y0, y1⟩ := cel2 hz
     have f0 := froz0 hz 0
     have f1 := froz0 hz 1
     generalize (addX (c.vec, c.cloud) [d]).1.length = L1 at *
     generalize (addX (c.vec, c.cloud) [d]).2.length = L2 at *
     clear HX h1 h2 g1 g2 k1 k2 hb hbk hz hW9 hb9 hx9
     go_upto_region 25 with fail
     rw [← set2_eq, ← HW9.out]
     clear y0 y1 f0 f1 HW9
     clear eK9_0 eK9_1
     have HB10 := Lib.hid (HB8.out.trans (HB9.out.mono HB8.out.size))
     clear c9_0_0 c9_0_1 c9_0_2 c9_1_0 c9_1_1
     obtain ⟨⟨c10_0_0, c10_0_1, c10_0_2⟩, ⟨c10_1_0, c10_1_1⟩⟩ := HC.out W9 HB10.out
     have HDB10 := Lib.hid (HDB8.out.trans (HB9.out.mono HDB8.out.size))
     clear eB9_0 eB9_1 eB9_2
     obtain ⟨eB10_0, eB10_1, eB10_2⟩ := HCB.out W9 HDB10.out
     have HDY10 := Lib.hid (HDY8.out.trans (HB9.out.mono HDY8.out.size))
     clear eY9_0 eY9_1 eY9_2
     obtain ⟨eY10_0, eY10_1, eY10_2⟩ := HCY.out W9 HDY10.out
     have HDZ10 := Lib.hid (HDZ8.out.trans (HB9.out.mono HDZ8.out.size))
     clear eZ9_0 eZ9_1 eZ9_2
     obtain ⟨eZ10_0, eZ10_1, eZ10_2⟩ := HCZ.out W9 HDZ10.out
     have HCK2 := Hd (fun wz (hz : Below W9.heap.size W9 wz) => cel2 ((hz.block _ (lt_of_heap HX9.out)).trans HX9.out))
     have HDK10 : Hid (Below W9.heap.size W9 W9) := Hd brf
     obtain ⟨eK10_0, eK10_1⟩ := HCK2.out W9 brf
     have HX := Lib.hid (cartQty_any Y nm _ _ _ W9 (HAY.out.below HDY10.out) HSY.out.1 (HGL.out.below HB10.out))
     rw [HQ.out.1, HQ.out.2] at HX
     go_wp2_with fail
     refine HX.out.mono ?_
     rintro e w11 ⟨rfl, hb⟩
     clear HX
     have HB11 := Lib.hid (HB10.out.trans (hb.mono HB10.out.size))
     clear c10_0_0 c10_0_1 c10_0_2 c10_1_0 c10_1_1
     obtain ⟨⟨c11_0_0, c11_0_1, c11_0_2⟩, ⟨c11_1_0, c11_1_1⟩⟩ := HC.out w11 HB11.out
     have HDB11 := Lib.hid (HDB10.out.trans (hb.mono HDB10.out.size))
     clear eB10_0 eB10_1 eB10_2
     obtain ⟨eB11_0, eB11_1, eB11_2⟩ := HCB.out w11 HDB11.out
     have HDY11 := Lib.hid (HDY10.out.trans (hb.mono HDY10.out.size))
     clear eY10_0 eY10_1 eY10_2
     obtain ⟨eY11_0, eY11_1, eY11_2⟩ := HCY.out w11 HDY11.out
     have HDZ11 := Lib.hid (HDZ10.out.trans (hb.mono HDZ10.out.size))
     clear eZ10_0 eZ10_1 eZ10_2
     obtain ⟨eZ11_0, eZ11_1, eZ11_2⟩ := HCZ.out w11 HDZ11.out
     have HDK11 := Lib.hid (HDK10.out.trans (hb.mono HDK10.out.size))
     clear eK10_0 eK10_1
     obtain ⟨eK11_0, eK11_1⟩ := HCK2.out w11 HDK11.out
     clear hb
     have HX := Hd (itemsFind_any nm Y.items _ w11 (HAY.out.below HDY11.out).2.2 HSY.out.1)
     go_wp2_with fail
     refine HX.out.mono ?_
     intro e wf hp
     rcases find_cases hp with ⟨ht, -, -⟩ | ⟨-, mo, mc, rfl, hrow, hb⟩
     ·rw [HTH.out] at ht
      cases ht
     rw [HFX.out] at hrow
     simp only [HFX.out]
     have hmr := Arr.of_marks hrow (fun x hx => by rw [List.mem_singleton.1 hx]; exact HMI.out)
     obtain ⟨WI, HWI, HBI0, HSI, HKI⟩ := box1 wf #[.string nm, .slice mo 1 mc] 50
     have HMR := Hd (hmr.marks HBI0.out)
     have hb := btr hb HBI0.out
     clear HX hp hrow hmr
     have HB12 := Lib.hid (HB11.out.trans (hb.mono HB11.out.size))
     clear c11_0_0 c11_0_1 c11_0_2 c11_1_0 c11_1_1
     obtain ⟨⟨c12_0_0, c12_0_1, c12_0_2⟩, ⟨c12_1_0, c12_1_1⟩⟩ := HC.out WI HB12.out
     have HDB12 := Lib.hid (HDB11.out.trans (hb.mono HDB11.out.size))
     clear eB11_0 eB11_1 eB11_2
     obtain ⟨eB12_0, eB12_1, eB12_2⟩ := HCB.out WI HDB12.out
     have HDY12 := Lib.hid (HDY11.out.trans (hb.mono HDY11.out.size))
     clear eY11_0 eY11_1 eY11_2
     obtain ⟨eY12_0, eY12_1, eY12_2⟩ := HCY.out WI HDY12.out
     have HDZ12 := Lib.hid (HDZ11.out.trans (hb.mono HDZ11.out.size))
     clear eZ11_0 eZ11_1 eZ11_2
     obtain ⟨eZ12_0, eZ12_1, eZ12_2⟩ := HCZ.out WI HDZ12.out
     have HDK12 := Lib.hid (HDK11.out.trans (hb.mono HDK11.out.size))
     clear eK11_0 eK11_1
     obtain ⟨eK12_0, eK12_1⟩ := HCK2.out WI HDK12.out
     have HCI := Hd (fun wz (hz : Below WI.heap.size WI wz) => cel2 (HKI.out wz hz))
     have HDI12 : Hid (Below WI.heap.size WI WI) := Hd brf
     obtain ⟨eI12_0, eI12_1⟩ := HCI.out WI brf
     clear hb
     obtain ⟨bm, om, rfl, hbm, m0, m1⟩ := mark_cells HMR.out
     have HMC : Hid (∀ wz, Below WI.heap.size WI wz → wz.cell? ⟨bm, om, none⟩ = some (.int .i64 d.rep) ∧ wz.cell? ⟨bm, om + 1, none⟩ = some (.int .i64 d.ctr)) := Hd (fun wz hz => ⟨by rw [hz.cell (p := ⟨_, _, _⟩) hbm]; exact m0, by rw [hz.cell (p := ⟨_, _, _⟩) hbm]; exact m1⟩)
     clear hbm m0 m1
     have HCR := Hd (fun wz (hz : Below WI.heap.size WI wz) => And.intro (HC.out wz (HB12.out.trans (hz.mono HB12.out.size))) (And.intro (HCY.out wz (btr HDY12.out hz)) (And.intro (HCI.out wz hz) (HMC.out wz hz))))
     have HA1 := Hd (fun wz (hz : Below WI.heap.size WI wz) => (HAc.out.below HB12.out).below hz)
     have HY1 := Hd (fun wz (hz : Below WI.heap.size WI wz) => (HAY.out.below HDY12.out).below hz)
     have HGR := Hd (fun wz (hz : Below WI.heap.size WI wz) => (HGL.out.below HB12.out).below hz)
     have hnq : ∀ wz : World, Sem.run Tryz.prog (binOp .neq 30 (.agg #[.int .i64 d.rep, .int .i64 d.ctr]) (.agg #[.int .i64 d.rep, .int .i64 d.ctr])) wz = .ok (.bool (!decide (d = d))) wz := fun wz => neqDot d d wz
     have hgd : ∀ (op : BinOp) (a b : Operand) (wz : World), Sem.run Tryz.prog (eqGuard op 30 a b (.agg #[.int .i64 d.rep, .int .i64 d.ctr]) (.agg #[.int .i64 d.rep, .int .i64 d.ctr])) wz = .ok () wz := fun op a b wz => guardDot op a b d d wz
     rw [decide_eq_true (rfl : d = d)] at hnq
     go_upto_region 27 with fail
     rw [← HWI.out]
     refine NQ.to ?_
     refine wp_region_held_drew (S := (fun wz => Below WI.heap.size WI wz)) (by kernel_rfl) (bdr) (fun hS => ?_)
     refine tkR (n := 33) [0, 1, 2, 3, 4, 5, 6, 7, 8, 9, 10, 11, 12, 13, 14, 15, 16, 17, 18, 19, 20, 21, 22, 23, 24, 25, 26, 27, 28, 29, 30, 31, 32] rfl (by decide +kernel) hS ?_
     iterate 33 ((try simp only [Act.put, s1, s2, s3, s4, s5, s6]); refine ⟨_, ?_, rfl, Or.inl ⟨by kernel_rfl, fun w hSw => ok_of fun z hz => ?_⟩, ?_⟩; rotate_left; · (obtain ⟨⟨⟨f0, f1, f2⟩, f3, f4⟩, ⟨f5, f6, f7⟩, ⟨f8, f9⟩, f10, f11⟩ := HCR.out _ hSw; go_simp; exact hz))
     refine RunOK.done ?_
     try simp only [Act.put, s1, s2, s3, s4, s5, s6]
     refine rd1 33 (by decide +kernel) rfl (fun K hK => ?_)
     go_simp
     go_at_call 22
     have HEE := deltaFresh_any c d _ _ _ _ (HA1.out _ (bdr : Below WI.heap.size WI WI.drew)) (HLc.out.sz (by omega)).1 (HGR.out _ (bdr : Below WI.heap.size WI WI.drew))
     unfold dotV at HEE
     rw [HFR.out] at HEE
     refine HEE.mono ?_
     rintro e z1 ⟨rfl, hz1⟩
     clear HEE
     have hz1 := btr (bdr : Below WI.heap.size WI WI.drew) hz1
     go_simp
     refine Shut.out hK _ _ (hz1) (fun hS2 => ?_); clear hK K hS; have hS := hS2; clear hS2
     try simp only [Act.put, s1, s2, s3, s4, s5, s6]
     refine tkR (n := 5) [34, 35, 36, 37, 38] rfl (by decide +kernel) hS ?_
     iterate 5 ((try simp only [Act.put, s1, s2, s3, s4, s5, s6]); refine ⟨_, ?_, rfl, Or.inl ⟨by kernel_rfl, fun w hSw => ok_of fun z hz => ?_⟩, ?_⟩; rotate_left; · (obtain ⟨⟨⟨f0, f1, f2⟩, f3, f4⟩, ⟨f5, f6, f7⟩, ⟨f8, f9⟩, f10, f11⟩ := HCR.out _ hSw; go_simp; exact hz))
     refine RunOK.done ?_
     try simp only [Act.put, s1, s2, s3, s4, s5, s6]
     refine rd1 39 (by decide +kernel) rfl (fun K hK => ?_)
     go_simp
     go_at_call 22
     have HEE := deltaFresh_any Y d _ _ _ _ (HY1.out _ hz1) HSY.out.1 (HGR.out _ hz1)
     unfold dotV at HEE
     rw [HNF.out] at HEE
     refine HEE.mono ?_
     rintro e z2 ⟨rfl, hz2⟩
     clear HEE
     have hz2 := btr hz1 hz2
     go_simp
     refine Shut.out hK _ _ (hz2) (fun hS2 => ?_); clear hK K hS; have hS := hS2; clear hS2
     try simp only [Act.put, s1, s2, s3, s4, s5, s6]
     refine tkR (n := 1) [40] rfl (by decide +kernel) hS ?_
     iterate 1 ((try simp only [Act.put, s1, s2, s3, s4, s5, s6]); refine ⟨_, ?_, rfl, Or.inl ⟨by kernel_rfl, fun w hSw => ok_of fun z hz => ?_⟩, ?_⟩; rotate_left; · (obtain ⟨⟨⟨f0, f1, f2⟩, f3, f4⟩, ⟨f5, f6, f7⟩, ⟨f8, f9⟩, f10, f11⟩ := HCR.out _ hSw; go_simp; exact hz))
     refine RunOK.done ?_
     try simp only [Act.put, s1, s2, s3, s4, s5, s6]
     refine wpAnyH_done (by kernel_rfl) ?_ _
     try simp only [Act.put, s1, s2, s3, s4, s5, s6]
     simp only [NQ]
     clear hS hz1 hnq hgd
     have HB13 := Lib.hid (HB12.out.trans (hz2.mono HB12.out.size))
     clear c12_0_0 c12_0_1 c12_0_2 c12_1_0 c12_1_1
     obtain ⟨⟨c13_0_0, c13_0_1, c13_0_2⟩, ⟨c13_1_0, c13_1_1⟩⟩ := HC.out z2 HB13.out
     have HDB13 := Lib.hid (HDB12.out.trans (hz2.mono HDB12.out.size))
     clear eB12_0 eB12_1 eB12_2
     obtain ⟨eB13_0, eB13_1, eB13_2⟩ := HCB.out z2 HDB13.out
     have HDY13 := Lib.hid (HDY12.out.trans (hz2.mono HDY12.out.size))
     clear eY12_0 eY12_1 eY12_2
     obtain ⟨eY13_0, eY13_1, eY13_2⟩ := HCY.out z2 HDY13.out
     have HDZ13 := Lib.hid (HDZ12.out.trans (hz2.mono HDZ12.out.size))
     clear eZ12_0 eZ12_1 eZ12_2
     obtain ⟨eZ13_0, eZ13_1, eZ13_2⟩ := HCZ.out z2 HDZ13.out
     have HDK13 := Lib.hid (HDK12.out.trans (hz2.mono HDK12.out.size))
     clear eK12_0 eK12_1
     obtain ⟨eK13_0, eK13_1⟩ := HCK2.out z2 HDK13.out
     have HDI13 := Lib.hid (HDI12.out.trans (hz2.mono HDI12.out.size))
     clear eI12_0 eI12_1
     obtain ⟨eI13_0, eI13_1⟩ := HCI.out z2 HDI13.out
     clear hz2 HCR HA1 HY1 HGR
     have HX := itemsPut_any c.items ⟨nm, [newM c d q]⟩ _ _ z2 (HAc.out.below HB13.out).2.2 (HMR.out.marks HDI13.out) HSN0.out (HLc.out.sz (by omega)).1 ⟨by have := HLc.out.2.1; omega, by simp⟩ (HGL.out.below HB13.out)
     unfold PutPost at HX
     rw [HPE.out] at HX
     have HX := Hd HX
     go_wp2_with fail
     refine HX.out.mono ?_
     rintro e wr ⟨v9, rfl, hb, -, hyes⟩
     obtain ⟨ps, hps, hfr⟩ := hyes (by first | rfl | trivial)
     have har := hfr.arr
     rw [hps] at har
     obtain ⟨ol, kl, rfl⟩ := har.slice
     have HL := Hd har
     clear HX hyes hps hfr har
     have HB14 := Lib.hid (HB13.out.trans (hb.mono HB13.out.size))
     clear c13_0_0 c13_0_1 c13_0_2 c13_1_0 c13_1_1
     obtain ⟨⟨c14_0_0, c14_0_1, c14_0_2⟩, ⟨c14_1_0, c14_1_1⟩⟩ := HC.out wr HB14.out
     have HDB14 := Lib.hid (HDB13.out.trans (hb.mono HDB13.out.size))
     clear eB13_0 eB13_1 eB13_2
     obtain ⟨eB14_0, eB14_1, eB14_2⟩ := HCB.out wr HDB14.out
     have HDY14 := Lib.hid (HDY13.out.trans (hb.mono HDY13.out.size))
     clear eY13_0 eY13_1 eY13_2
     obtain ⟨eY14_0, eY14_1, eY14_2⟩ := HCY.out wr HDY14.out
     have HDZ14 := Lib.hid (HDZ13.out.trans (hb.mono HDZ13.out.size))
     clear eZ13_0 eZ13_1 eZ13_2
     obtain ⟨eZ14_0, eZ14_1, eZ14_2⟩ := HCZ.out wr HDZ14.out
     have HDK14 := Lib.hid (HDK13.out.trans (hb.mono HDK13.out.size))
     clear eK13_0 eK13_1
     obtain ⟨eK14_0, eK14_1⟩ := HCK2.out wr HDK14.out
     have HDI14 := Lib.hid (HDI13.out.trans (hb.mono HDI13.out.size))
     clear eI13_0 eI13_1
     obtain ⟨eI14_0, eI14_1⟩ := HCI.out wr HDI14.out
     clear hb
     have HX := Lib.hid (itemsEqual_any Y.items (putI c.items ⟨nm, [newM c d q]⟩) _ _ wr (HAY.out.below HDY14.out).2.2 HL.out)
     rw [HI.out, decide_eq_true rfl] at HX
     go_wp2_with fail
     refine HX.out.mono ?_
     rintro e w15 ⟨rfl, hb⟩
     clear HX
     have HB15 := Lib.hid (HB14.out.trans (hb.mono HB14.out.size))
     clear c14_0_0 c14_0_1 c14_0_2 c14_1_0 c14_1_1
     obtain ⟨⟨c15_0_0, c15_0_1, c15_0_2⟩, ⟨c15_1_0, c15_1_1⟩⟩ := HC.out w15 HB15.out
     have HDB15 := Lib.hid (HDB14.out.trans (hb.mono HDB14.out.size))
     clear eB14_0 eB14_1 eB14_2
     obtain ⟨eB15_0, eB15_1, eB15_2⟩ := HCB.out w15 HDB15.out
     have HDY15 := Lib.hid (HDY14.out.trans (hb.mono HDY14.out.size))
     clear eY14_0 eY14_1 eY14_2
     obtain ⟨eY15_0, eY15_1, eY15_2⟩ := HCY.out w15 HDY15.out
     have HDZ15 := Lib.hid (HDZ14.out.trans (hb.mono HDZ14.out.size))
     clear eZ14_0 eZ14_1 eZ14_2
     obtain ⟨eZ15_0, eZ15_1, eZ15_2⟩ := HCZ.out w15 HDZ15.out
     have HDK15 := Lib.hid (HDK14.out.trans (hb.mono HDK14.out.size))
     clear eK14_0 eK14_1
     obtain ⟨eK15_0, eK15_1⟩ := HCK2.out w15 HDK15.out
     have HDI15 := Lib.hid (HDI14.out.trans (hb.mono HDI14.out.size))
     clear eI14_0 eI14_1
     obtain ⟨eI15_0, eI15_1⟩ := HCI.out w15 HDI15.out
     clear hb
     have HX := Lib.hid (r3Equal_any Y.vec Y.cloud (addX (c.vec, c.cloud) [d]).1 (addX (c.vec, c.cloud) [d]).2 _ _ _ _ w15 (HAY.out.below HDY15.out).1 (HAY.out.below HDY15.out).2.1 (HK1.out.1.dots HDK15.out) (HK1.out.2.dots HDK15.out))
     rw [HVE.out] at HX
     go_wp2_with fail
     refine HX.out.mono ?_
     rintro e w16 ⟨rfl, hb⟩
     clear HX
     have HB16 := Lib.hid (HB15.out.trans (hb.mono HB15.out.size))
     clear c15_0_0 c15_0_1 c15_0_2 c15_1_0 c15_1_1
     obtain ⟨⟨c16_0_0, c16_0_1, c16_0_2⟩, ⟨c16_1_0, c16_1_1⟩⟩ := HC.out w16 HB16.out
     have HDB16 := Lib.hid (HDB15.out.trans (hb.mono HDB15.out.size))
     clear eB15_0 eB15_1 eB15_2
     obtain ⟨eB16_0, eB16_1, eB16_2⟩ := HCB.out w16 HDB16.out
     have HDY16 := Lib.hid (HDY15.out.trans (hb.mono HDY15.out.size))
     clear eY15_0 eY15_1 eY15_2
     obtain ⟨eY16_0, eY16_1, eY16_2⟩ := HCY.out w16 HDY16.out
     have HDZ16 := Lib.hid (HDZ15.out.trans (hb.mono HDZ15.out.size))
     clear eZ15_0 eZ15_1 eZ15_2
     obtain ⟨eZ16_0, eZ16_1, eZ16_2⟩ := HCZ.out w16 HDZ16.out
     have HDK16 := Lib.hid (HDK15.out.trans (hb.mono HDK15.out.size))
     clear eK15_0 eK15_1
     obtain ⟨eK16_0, eK16_1⟩ := HCK2.out w16 HDK16.out
     have HDI16 := Lib.hid (HDI15.out.trans (hb.mono HDI15.out.size))
     clear eI15_0 eI15_1
     obtain ⟨eI16_0, eI16_1⟩ := HCI.out w16 HDI16.out
     clear hb
     have HX := Lib.hid (l12known_any w16 (HGL.out.below HB16.out))
     go_wp2_with fail
     refine HX.out.mono ?_
     rintro e wk ⟨rfl, hbk⟩
     clear HX
     have HBK := Lib.hid (HB16.out.trans (hbk.mono HB16.out.size))
     clear hbk
     go_wp2_with fail
     go_ret
     exact ⟨rfl, HB.out.trans (HBK.out.mono HB.out.size)⟩
end Go.Proofs.YtfnfbcaoihhbpaaGreatDoor
