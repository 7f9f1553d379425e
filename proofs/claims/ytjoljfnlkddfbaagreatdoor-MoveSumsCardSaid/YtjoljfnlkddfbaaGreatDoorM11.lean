/- MoveSums inside. -/
import Derived.Test.YtjoljfnlkddfbaaGreatDoorM10
set_option linter.unusedSimpArgs false
set_option linter.unusedVariables false
set_option maxRecDepth 100000
set_option maxHeartbeats 16000000
namespace Go.Proofs.YtjoljfnlkddfbaaGreatDoor
open Go.RowKit Go.Maps Go.Sort Go.Shelf
/-- How great a small cart is. -/
theorem small_sz {c : CartD} (h : smallC c = true) : Lt c.items ∧ (allDots c.items).length ≤ 9000 ∧ c.items.length ≤ 20 ∧ (∀ x ∈ c.items, x.marks.length ≤ 20) ∧ c.vec.length + c.cloud.length ≤ 80 := by
 obtain ⟨h1, h2, h3, h4⟩ := smallC_parts h
 have hm : ∀ x ∈ c.items, x.marks.length ≤ 20 := fun x hx => (h4 x hx).1
 have := allDots_mul (n := 20) c.items hm
 have h5 := Nat.mul_le_mul_right 20 h3
 exact ⟨⟨by omega, fun x hx => by have := hm x hx; omega⟩, by omega, h3, hm, by omega⟩
theorem sums_bad {c : CartD} {nm : ByteArray} {q : Int} (h : (validC c && nameB nm) = false) : ((mSum c nm q == 0) && (mSumE c nm q == 2)) = true := by
 unfold mSum mSumE
 simp [h]
theorem sums_qty {c : CartD} {nm : ByteArray} {q : Int} (hv : validC c = true) (hn : nameB nm = true) (h : q < 1 ∨ 2147483647 < q ∨ 2147483647 < qtyC c nm + q) : ((mSum c nm q == 0) && (mSumE c nm q == 14)) = true := by
 have e : (validQ q && validQ (qtyC c nm + q)) = false := by
  rw [← Bool.not_eq_true, Bool.and_eq_true, validQ_iff, validQ_iff]
  omega
 unfold mSum mSumE
 simp [hv, hn, e]
theorem sums_ok {c : CartD} {nm : ByteArray} {q : Int} (hv : validC c = true) (hn : nameB nm = true) (h1 : ¬ q < 1) (h2 : ¬ 2147483647 < q) (h3 : ¬ 2147483647 < qtyC c nm + q) : ((mSum c nm q == qtyC c nm + q) && (mSumE c nm q == 0)) = true := by
 have hb := qtyC_bound c nm
 have e1 : validQ q = true := (validQ_iff _).2 (by omega)
 have e2 : validQ (qtyC c nm + q) = true := (validQ_iff _).2 (by omega)
 unfold mSum mSumE
 simp [hv, hn, e1, e2]
theorem manies_bad {a b : CartD} (h : (validC a && validC b) = false) : ((mMany a b == 0) && (mManyE a b == 2)) = true := by
 unfold mMany mManyE
 simp [h]
theorem manies_ok {a b : CartD} (ha : validC a = true) (hb : validC b = true) : ((mMany a b == (manyN a b : Int)) && (mManyE a b == 0)) = true := by
 unfold mMany mManyE
 simp [ha, hb]
set_option linter.unusedSimpArgs false in
set_option linter.unusedVariables false in
set_option maxRecDepth 100000 in
set_option maxHeartbeats 16000000 in
theorem l22Sums_any (f : CartD) (xf1 xf2 xf3 : Value) (t : CartD) (xt1 xt2 xt3 : Value) (nm : ByteArray) (q : Int) (w : World) (hf : CartA w xf1 xf2 xf3 f) (ht : CartA w xt1 xt2 xt3 t) (hG : GlobIs w) :
    Calls Tryz.prog 3 #[.agg #[xf1, xf2, xf3], .agg #[xt1, xt2, xt3], .string nm, .int .i64 q] w fun e w' => e = .returned (.bool true) ∧ Below w.heap.size w w' := by
  obtain ⟨o1, n1, k1, o2, n2, k2, o3, n3, k3, rfl, rfl, rfl, hn1, hn2, hn3⟩ := opn4 hf
  obtain ⟨o4, n4, k4, o5, n5, k5, o6, n6, k6, rfl, rfl, rfl, hn4, hn5, hn6⟩ := opn4 ht
  obtain ⟨W0, hW0⟩ : ∃ x, x = w.alloc (.cells #[.slice o1 n1 k1, .slice o2 n2 k2, .slice o3 n3 k3] 28) := ⟨_, rfl⟩
  have hs0 : W0.heap.size = w.heap.size + 1 := by rw [hW0, alloc_size]
  have hst0 : Below w.heap.size w W0 := by rw [hW0]; exact (Below.refl _ _).alloc (Nat.le_refl _) _
  have hbb0 : Below w.heap.size w W0 := hst0
  have hx0_0 : W0.heap[w.heap.size]? = some (.cells #[.slice o1 n1 k1, .slice o2 n2 k2, .slice o3 n3 k3] 28) := by rw [hW0]; exact alloc_new _ _
  obtain ⟨W1, hW1⟩ : ∃ x, x = W0.alloc (.cells #[.slice o4 n4 k4, .slice o5 n5 k5, .slice o6 n6 k6] 28) := ⟨_, rfl⟩
  have hs1 : W1.heap.size = w.heap.size + 1 + 1 := by rw [hW1, alloc_size, hs0]
  have hst1 : Below W0.heap.size W0 W1 := by rw [hW1]; exact (Below.refl _ _).alloc (Nat.le_refl _) _
  have hbb1 : Below w.heap.size w W1 := hbb0.trans (hst1.mono hbb0.size)
  have hx1_1 : W1.heap[w.heap.size + 1]? = some (.cells #[.slice o4 n4 k4, .slice o5 n5 k5, .slice o6 n6 k6] 28) := by rw [hW1, ← hs0]; exact alloc_new _ _
  have hx0_1 : W1.heap[w.heap.size]? = _ := (hst1.block _ (lt_of_heap hx0_0)).trans hx0_0
  have HC : Hid (∀ wz, Below W1.heap.size W1 wz → ((wz.cell? ⟨w.heap.size, 0, none⟩ = some (.slice o1 n1 k1)) ∧ (wz.cell? ⟨w.heap.size, 1, none⟩ = some (.slice o2 n2 k2)) ∧ (wz.cell? ⟨w.heap.size, 2, none⟩ = some (.slice o3 n3 k3))) ∧ ((wz.cell? ⟨w.heap.size + 1, 0, none⟩ = some (.slice o4 n4 k4)) ∧ (wz.cell? ⟨w.heap.size + 1, 1, none⟩ = some (.slice o5 n5 k5)) ∧ (wz.cell? ⟨w.heap.size + 1, 2, none⟩ = some (.slice o6 n6 k6)))) := Lib.hid (fun wz hz => by
    have z0 := (hz.block _ (lt_of_heap hx0_1)).trans hx0_1
    have z1 := (hz.block _ (lt_of_heap hx1_1)).trans hx1_1
    exact ⟨⟨by rw [cell0 z0 0]; rfl, by rw [cell0 z0 1]; rfl, by rw [cell0 z0 2]; rfl⟩, ⟨by rw [cell0 z1 0]; rfl, by rw [cell0 z1 1]; rfl, by rw [cell0 z1 2]; rfl⟩⟩)
  have HK0 : Hid (∀ wz, Below W1.heap.size W1 wz → wz.heap[w.heap.size]? = some (.cells #[.slice o1 n1 k1, .slice o2 n2 k2, .slice o3 n3 k3] 28)) := Lib.hid (fun wz hz => (hz.block _ (lt_of_heap hx0_1)).trans hx0_1)
  have HK1 : Hid (∀ wz, Below W1.heap.size W1 wz → wz.heap[w.heap.size + 1]? = some (.cells #[.slice o4 n4 k4, .slice o5 n5 k5, .slice o6 n6 k6] 28)) := Lib.hid (fun wz hz => (hz.block _ (lt_of_heap hx1_1)).trans hx1_1)
  have HB := Lib.hid hbb1
  have HS : Hid (W1.heap.size = w.heap.size + 1 + 1) := Lib.hid hs1
  have HW : Hid (W1 = (w.alloc (.cells #[.slice o1 n1 k1, .slice o2 n2 k2, .slice o3 n3 k3] 28)).alloc (.cells #[.slice o4 n4 k4, .slice o5 n5 k5, .slice o6 n6 k6] 28)) := Lib.hid (by rw [hW1, hW0])
  have HAf := Lib.hid (hf.below hbb1)
  have HAt := Lib.hid (ht.below hbb1)
  have HGL := Lib.hid (hG.below hbb1)
  have HB0 : Hid (Below W1.heap.size W1 W1) := Lib.hid (Below.refl _ _)
  clear hW0 hs0 hst0 hW1 hs1 hst1 hx0_0 hx0_1 hx1_1 hbb0 hbb1 hf ht hG hn1 hn2 hn3 hn4 hn5 hn6
  obtain ⟨⟨c0_0_0, c0_0_1, c0_0_2⟩, ⟨c0_1_0, c0_1_1, c0_1_2⟩⟩ := HC.out W1 (Below.refl _ _)
  go_enter Tryz.func3, Tryz.ntmps3
  go_wp2_with fail
  rw [← HW.out]
  have HX := Lib.hid (r14Small_any f _ _ _ W1 (HAf.out.below HB0.out))
  obtain ⟨r1, hr1⟩ : ∃ r, r = smallC f := ⟨_, rfl⟩
  rw [← hr1] at HX
  have HRr1 := Lib.hid hr1
  clear hr1
  refine HX.out.mono ?_
  rintro e w1 ⟨rfl, hb⟩
  clear HX
  have HB1 := Lib.hid (HB0.out.trans (hb.mono HB0.out.size))
  clear c0_0_0 c0_0_1 c0_0_2 c0_1_0 c0_1_1 c0_1_2
  obtain ⟨⟨c1_0_0, c1_0_1, c1_0_2⟩, ⟨c1_1_0, c1_1_1, c1_1_2⟩⟩ := HC.out w1 HB1.out
  clear hb
  cases r1 with
  | false =>
    have HX := Lib.hid (l22known_any w1 (HGL.out.below HB1.out))
    go_wp2_with fail
    refine HX.out.mono ?_
    rintro e wk ⟨rfl, hbk⟩
    clear HX
    have HBK := Lib.hid (HB1.out.trans (hbk.mono HB1.out.size))
    clear hbk
    go_wp2_with fail
    go_ret
    exact ⟨rfl, HB.out.trans (HBK.out.mono HB.out.size)⟩
  | true =>
    have HSF := Hd (small_sz HRr1.out.symm)
    have HS1 := Hd HRr1.out.symm
    clear HRr1
    have HX := Lib.hid (r14Small_any t _ _ _ w1 (HAt.out.below HB1.out))
    obtain ⟨r2, hr2⟩ : ∃ r, r = smallC t := ⟨_, rfl⟩
    rw [← hr2] at HX
    have HRr2 := Lib.hid hr2
    clear hr2
    go_wp2_with fail
    refine HX.out.mono ?_
    rintro e w2 ⟨rfl, hb⟩
    clear HX
    have HB2 := Lib.hid (HB1.out.trans (hb.mono HB1.out.size))
    clear c1_0_0 c1_0_1 c1_0_2 c1_1_0 c1_1_1 c1_1_2
    obtain ⟨⟨c2_0_0, c2_0_1, c2_0_2⟩, ⟨c2_1_0, c2_1_1, c2_1_2⟩⟩ := HC.out w2 HB2.out
    clear hb
    cases r2 with
    | false =>
      have HX := Lib.hid (l22known_any w2 (HGL.out.below HB2.out))
      go_wp2_with fail
      refine HX.out.mono ?_
      rintro e wk ⟨rfl, hbk⟩
      clear HX
      have HBK := Lib.hid (HB2.out.trans (hbk.mono HB2.out.size))
      clear hbk
      go_wp2_with fail
      go_ret
      exact ⟨rfl, HB.out.trans (HBK.out.mono HB.out.size)⟩
    | true =>
      have HST := Hd (small_sz HRr2.out.symm)
      have HS2 := Hd HRr2.out.symm
      clear HRr2
      by_cases h100 : 100 < nm.size
      ·have a0 : (100 : Int) < (nm.size : Int) := by omega
       clear h100
       have HX := Lib.hid (l22known_any w2 (HGL.out.below HB2.out))
       go_wp2_with fail
       refine HX.out.mono ?_
       rintro e wk ⟨rfl, hbk⟩
       clear HX
       have HBK := Lib.hid (HB2.out.trans (hbk.mono HB2.out.size))
       clear hbk
       go_wp2_with fail
       go_ret
       exact ⟨rfl, HB.out.trans (HBK.out.mono HB.out.size)⟩
      have a0 : ¬ ((100 : Int) < (nm.size : Int)) := by omega
      have HSN : Hid (nm.size ≤ maxLen) := Hd (by unfold maxLen; omega)
      clear h100
      have HX := Lib.hid (cartValid_any f _ _ _ w2 (HAf.out.below HB2.out) HSF.out.1 (HGL.out.below HB2.out))
      obtain ⟨r3, hr3⟩ : ∃ r, r = validC f := ⟨_, rfl⟩
      rw [← hr3] at HX
      have HRr3 := Lib.hid hr3
      clear hr3
      go_wp2_with fail
      refine HX.out.mono ?_
      rintro e w3 ⟨rfl, hb⟩
      clear HX
      have HB3 := Lib.hid (HB2.out.trans (hb.mono HB2.out.size))
      clear c2_0_0 c2_0_1 c2_0_2 c2_1_0 c2_1_1 c2_1_2
      obtain ⟨⟨c3_0_0, c3_0_1, c3_0_2⟩, ⟨c3_1_0, c3_1_1, c3_1_2⟩⟩ := HC.out w3 HB3.out
      clear hb
      cases r3 with
      | false =>
        have HVF : Hid (validC f = false) := Hd HRr3.out.symm
        clear HRr3
        have HX := Lib.hid (l22manies_any f t 0 2 _ _ _ _ _ _ w3 (HAf.out.below HB3.out) (HAt.out.below HB3.out) HSF.out.1 HST.out.1 (HGL.out.below HB3.out))
        rw [manies_bad (by rw [HVF.out]; rfl)] at HX
        go_wp2_with fail
        refine HX.out.mono ?_
        rintro e w4 ⟨rfl, hb⟩
        clear HX
        have HB4 := Lib.hid (HB3.out.trans (hb.mono HB3.out.size))
        clear c3_0_0 c3_0_1 c3_0_2 c3_1_0 c3_1_1 c3_1_2
        obtain ⟨⟨c4_0_0, c4_0_1, c4_0_2⟩, ⟨c4_1_0, c4_1_1, c4_1_2⟩⟩ := HC.out w4 HB4.out
        clear hb
        have HX := Lib.hid (cartValid_any f _ _ _ w4 (HAf.out.below HB4.out) HSF.out.1 (HGL.out.below HB4.out))
        rw [HVF.out] at HX
        go_wp2_with fail
        refine HX.out.mono ?_
        rintro e w5 ⟨rfl, hb⟩
        clear HX
        have HB5 := Lib.hid (HB4.out.trans (hb.mono HB4.out.size))
        clear c4_0_0 c4_0_1 c4_0_2 c4_1_0 c4_1_1 c4_1_2
        obtain ⟨⟨c5_0_0, c5_0_1, c5_0_2⟩, ⟨c5_1_0, c5_1_1, c5_1_2⟩⟩ := HC.out w5 HB5.out
        clear hb
        have HX := Lib.hid (l22sums_any f nm q 0 2 _ _ _ w5 (HAf.out.below HB5.out) HSF.out.1 HSN.out (HGL.out.below HB5.out))
        rw [sums_bad (by rw [HVF.out]; rfl)] at HX
        go_wp2_with fail
        refine HX.out.mono ?_
        rintro e w6 ⟨rfl, hb⟩
        clear HX
        have HB6 := Lib.hid (HB5.out.trans (hb.mono HB5.out.size))
        clear c5_0_0 c5_0_1 c5_0_2 c5_1_0 c5_1_1 c5_1_2
        obtain ⟨⟨c6_0_0, c6_0_1, c6_0_2⟩, ⟨c6_1_0, c6_1_1, c6_1_2⟩⟩ := HC.out w6 HB6.out
        clear hb
        have HX := Lib.hid (l22known_any w6 (HGL.out.below HB6.out))
        go_wp2_with fail
        refine HX.out.mono ?_
        rintro e wk ⟨rfl, hbk⟩
        clear HX
        have HBK := Lib.hid (HB6.out.trans (hbk.mono HB6.out.size))
        clear hbk
        go_wp2_with fail
        go_ret
        exact ⟨rfl, HB.out.trans (HBK.out.mono HB.out.size)⟩
      | true =>
        have HVF : Hid (validC f = true) := Hd HRr3.out.symm
        clear HRr3
        have HX := Lib.hid (cartValid_any t _ _ _ w3 (HAt.out.below HB3.out) HST.out.1 (HGL.out.below HB3.out))
        obtain ⟨r4, hr4⟩ : ∃ r, r = validC t := ⟨_, rfl⟩
        rw [← hr4] at HX
        have HRr4 := Lib.hid hr4
        clear hr4
        go_wp2_with fail
        refine HX.out.mono ?_
        rintro e w4 ⟨rfl, hb⟩
        clear HX
        have HB4 := Lib.hid (HB3.out.trans (hb.mono HB3.out.size))
        clear c3_0_0 c3_0_1 c3_0_2 c3_1_0 c3_1_1 c3_1_2
        obtain ⟨⟨c4_0_0, c4_0_1, c4_0_2⟩, ⟨c4_1_0, c4_1_1, c4_1_2⟩⟩ := HC.out w4 HB4.out
        clear hb
        cases r4 with
        | false =>
          have HVT : Hid (validC t = false) := Hd HRr4.out.symm
          clear HRr4
          have HX := Lib.hid (l22manies_any f t 0 2 _ _ _ _ _ _ w4 (HAf.out.below HB4.out) (HAt.out.below HB4.out) HSF.out.1 HST.out.1 (HGL.out.below HB4.out))
          rw [manies_bad (by rw [HVT.out, Bool.and_false])] at HX
          go_wp2_with fail
          refine HX.out.mono ?_
          rintro e w5 ⟨rfl, hb⟩
          clear HX
          have HB5 := Lib.hid (HB4.out.trans (hb.mono HB4.out.size))
          clear c4_0_0 c4_0_1 c4_0_2 c4_1_0 c4_1_1 c4_1_2
          obtain ⟨⟨c5_0_0, c5_0_1, c5_0_2⟩, ⟨c5_1_0, c5_1_1, c5_1_2⟩⟩ := HC.out w5 HB5.out
          clear hb
          have HX := Lib.hid (cartValid_any f _ _ _ w5 (HAf.out.below HB5.out) HSF.out.1 (HGL.out.below HB5.out))
          rw [HVF.out] at HX
          go_wp2_with fail
          refine HX.out.mono ?_
          rintro e w6 ⟨rfl, hb⟩
          clear HX
          have HB6 := Lib.hid (HB5.out.trans (hb.mono HB5.out.size))
          clear c5_0_0 c5_0_1 c5_0_2 c5_1_0 c5_1_1 c5_1_2
          obtain ⟨⟨c6_0_0, c6_0_1, c6_0_2⟩, ⟨c6_1_0, c6_1_1, c6_1_2⟩⟩ := HC.out w6 HB6.out
          clear hb
          have HX := Lib.hid (namesItem_any nm w6 HSN.out (HGL.out.below HB6.out))
          obtain ⟨rn6, hrn6⟩ : ∃ r, r = nameB nm := ⟨_, rfl⟩
          rw [← hrn6] at HX
          have HRrn6 := Lib.hid hrn6
          clear hrn6
          go_wp2_with fail
          refine HX.out.mono ?_
          rintro e w7 ⟨rfl, hb⟩
          clear HX
          have HB7 := Lib.hid (HB6.out.trans (hb.mono HB6.out.size))
          clear c6_0_0 c6_0_1 c6_0_2 c6_1_0 c6_1_1 c6_1_2
          obtain ⟨⟨c7_0_0, c7_0_1, c7_0_2⟩, ⟨c7_1_0, c7_1_1, c7_1_2⟩⟩ := HC.out w7 HB7.out
          clear hb
          cases rn6 with
          | false =>
            have HX := Lib.hid (l22sums_any f nm q 0 2 _ _ _ w7 (HAf.out.below HB7.out) HSF.out.1 HSN.out (HGL.out.below HB7.out))
            rw [sums_bad (by rw [← HRrn6.out]; simp)] at HX
            go_wp2_with fail
            refine HX.out.mono ?_
            rintro e w8 ⟨rfl, hb⟩
            clear HX
            have HB8 := Lib.hid (HB7.out.trans (hb.mono HB7.out.size))
            clear c7_0_0 c7_0_1 c7_0_2 c7_1_0 c7_1_1 c7_1_2
            obtain ⟨⟨c8_0_0, c8_0_1, c8_0_2⟩, ⟨c8_1_0, c8_1_1, c8_1_2⟩⟩ := HC.out w8 HB8.out
            clear hb
            have HX := Lib.hid (l22known_any w8 (HGL.out.below HB8.out))
            go_wp2_with fail
            refine HX.out.mono ?_
            rintro e wk ⟨rfl, hbk⟩
            clear HX
            have HBK := Lib.hid (HB8.out.trans (hbk.mono HB8.out.size))
            clear hbk
            go_wp2_with fail
            go_ret
            exact ⟨rfl, HB.out.trans (HBK.out.mono HB.out.size)⟩
          | true =>
            have HNB : Hid (nameB nm = true) := Hd HRrn6.out.symm
            clear HRrn6
            by_cases q1 : q < 1
            ·have HE := Hd (sums_qty (q := q) HVF.out HNB.out (Or.inl q1))
             have HX := Lib.hid (l22sums_any f nm q 0 14 _ _ _ w7 (HAf.out.below HB7.out) HSF.out.1 HSN.out (HGL.out.below HB7.out))
             rw [HE.out] at HX
             go_wp2_with fail
             refine HX.out.mono ?_
             rintro e w8 ⟨rfl, hb⟩
             clear HX
             have HB8 := Lib.hid (HB7.out.trans (hb.mono HB7.out.size))
             clear c7_0_0 c7_0_1 c7_0_2 c7_1_0 c7_1_1 c7_1_2
             obtain ⟨⟨c8_0_0, c8_0_1, c8_0_2⟩, ⟨c8_1_0, c8_1_1, c8_1_2⟩⟩ := HC.out w8 HB8.out
             clear hb
             have HX := Lib.hid (l22known_any w8 (HGL.out.below HB8.out))
             go_wp2_with fail
             refine HX.out.mono ?_
             rintro e wk ⟨rfl, hbk⟩
             clear HX
             have HBK := Lib.hid (HB8.out.trans (hbk.mono HB8.out.size))
             clear hbk
             go_wp2_with fail
             go_ret
             exact ⟨rfl, HB.out.trans (HBK.out.mono HB.out.size)⟩
            by_cases q2 : 2147483647 < q
            ·have HE := Hd (sums_qty (q := q) HVF.out HNB.out (Or.inr (Or.inl q2)))
             have HX := Lib.hid (l22sums_any f nm q 0 14 _ _ _ w7 (HAf.out.below HB7.out) HSF.out.1 HSN.out (HGL.out.below HB7.out))
             rw [HE.out] at HX
             go_wp2_with fail
             refine HX.out.mono ?_
             rintro e w8 ⟨rfl, hb⟩
             clear HX
             have HB8 := Lib.hid (HB7.out.trans (hb.mono HB7.out.size))
             clear c7_0_0 c7_0_1 c7_0_2 c7_1_0 c7_1_1 c7_1_2
             obtain ⟨⟨c8_0_0, c8_0_1, c8_0_2⟩, ⟨c8_1_0, c8_1_1, c8_1_2⟩⟩ := HC.out w8 HB8.out
             clear hb
             have HX := Lib.hid (l22known_any w8 (HGL.out.below HB8.out))
             go_wp2_with fail
             refine HX.out.mono ?_
             rintro e wk ⟨rfl, hbk⟩
             clear HX
             have HBK := Lib.hid (HB8.out.trans (hbk.mono HB8.out.size))
             clear hbk
             go_wp2_with fail
             go_ret
             exact ⟨rfl, HB.out.trans (HBK.out.mono HB.out.size)⟩
            have HQB := qtyC_bound f nm
            have hqw : IntKind.i64.wrap (qtyC f nm + q) = qtyC f nm + q := by rw [IntKind.wrap_i64]; omega
            clear HQB
            have HX := Lib.hid (r22Qty_any f nm _ _ _ w7 (HAf.out.below HB7.out) HVF.out)
            go_wp2_with fail
            refine HX.out.mono ?_
            rintro e w8 ⟨rfl, hb⟩
            clear HX
            have HB8 := Lib.hid (HB7.out.trans (hb.mono HB7.out.size))
            clear c7_0_0 c7_0_1 c7_0_2 c7_1_0 c7_1_1 c7_1_2
            obtain ⟨⟨c8_0_0, c8_0_1, c8_0_2⟩, ⟨c8_1_0, c8_1_1, c8_1_2⟩⟩ := HC.out w8 HB8.out
            clear hb
            by_cases q3 : 2147483647 < qtyC f nm + q
            ·have HE := Hd (sums_qty (q := q) HVF.out HNB.out (Or.inr (Or.inr q3)))
             have HX := Lib.hid (l22sums_any f nm q 0 14 _ _ _ w8 (HAf.out.below HB8.out) HSF.out.1 HSN.out (HGL.out.below HB8.out))
             rw [HE.out] at HX
             go_wp2_with fail
             refine HX.out.mono ?_
             rintro e w9 ⟨rfl, hb⟩
             clear HX
             have HB9 := Lib.hid (HB8.out.trans (hb.mono HB8.out.size))
             clear c8_0_0 c8_0_1 c8_0_2 c8_1_0 c8_1_1 c8_1_2
             obtain ⟨⟨c9_0_0, c9_0_1, c9_0_2⟩, ⟨c9_1_0, c9_1_1, c9_1_2⟩⟩ := HC.out w9 HB9.out
             clear hb
             have HX := Lib.hid (l22known_any w9 (HGL.out.below HB9.out))
             go_wp2_with fail
             refine HX.out.mono ?_
             rintro e wk ⟨rfl, hbk⟩
             clear HX
             have HBK := Lib.hid (HB9.out.trans (hbk.mono HB9.out.size))
             clear hbk
             go_wp2_with fail
             go_ret
             exact ⟨rfl, HB.out.trans (HBK.out.mono HB.out.size)⟩
            have HE := Hd (sums_ok (q := q) HVF.out HNB.out (by omega) (by omega) (by omega))
            have HA1 := Hd (fun wz (hz : Below w8.heap.size w8 wz) => (HAf.out.below HB8.out).below hz)
            have HGR := Hd (fun wz (hz : Below w8.heap.size w8 wz) => (HGL.out.below HB8.out).below hz)
            have HCR := Hd (fun wz (hz : Below w8.heap.size w8 wz) => HC.out wz (HB8.out.trans (hz.mono HB8.out.size)))
            go_upto_region 12 with fail
            refine NQ.to ?_
            refine wp_region_held_drew (S := (fun wz => Below w8.heap.size w8 wz)) (by kernel_rfl) (bdr) (fun hS => ?_)
            refine tkR (n := 6) [0, 1, 2, 3, 4, 6] rfl (by decide +kernel) hS ?_
            iterate 6 ((try simp only [Act.put, s1, s2, s3, s4, s5, s6]); refine ⟨_, ?_, rfl, Or.inl ⟨by kernel_rfl, fun w hSw => ok_of fun z hz => ?_⟩, ?_⟩; rotate_left; · (obtain ⟨⟨f0, f1, f2⟩, f3, f4, f5⟩ := HCR.out _ hSw; go_simp; exact hz))
            refine RunOK.done ?_
            try simp only [Act.put, s1, s2, s3, s4, s5, s6]
            refine rd1 5 (by decide +kernel) rfl (fun K hK => ?_)
            go_simp
            go_at_call 15
            have HEE := r22Qty_any f nm _ _ _ _ (HA1.out _ (show Below w8.heap.size w8 w8.drew from bdr)) HVF.out
            refine HEE.mono ?_
            rintro e x1 ⟨rfl, hx1⟩
            clear HEE
            have hx1 := btr (show Below w8.heap.size w8 w8.drew from bdr) hx1
            go_simp
            refine Shut.out hK _ _ (hx1) (fun hS2 => ?_); clear hK K hS; have hS := hS2; clear hS2
            try simp only [Act.put, s1, s2, s3, s4, s5, s6]
            refine tkR (n := 1) [7] rfl (by decide +kernel) hS ?_
            iterate 1 ((try simp only [Act.put, s1, s2, s3, s4, s5, s6]); refine ⟨_, ?_, rfl, Or.inl ⟨by kernel_rfl, fun w hSw => ok_of fun z hz => ?_⟩, ?_⟩; rotate_left; · (obtain ⟨⟨f0, f1, f2⟩, f3, f4, f5⟩ := HCR.out _ hSw; go_simp; exact hz))
            refine RunOK.done ?_
            try simp only [Act.put, s1, s2, s3, s4, s5, s6]
            refine rd1 8 (by decide +kernel) rfl (fun K hK => ?_)
            go_simp
            go_at_call 14
            have HEE := l22sums_any f nm q (qtyC f nm + q) 0 _ _ _ _ (HA1.out _ hx1) HSF.out.1 HSN.out (HGR.out _ hx1)
            rw [HE.out] at HEE
            refine HEE.mono ?_
            rintro e x2 ⟨rfl, hx2⟩
            clear HEE
            have hx2 := btr hx1 hx2
            go_simp
            refine Shut.out hK _ _ (hx2) (fun hS2 => ?_); clear hK K hS; have hS := hS2; clear hS2
            try simp only [Act.put, s1, s2, s3, s4, s5, s6]
            refine tkR (n := 1) [9] rfl (by decide +kernel) hS ?_
            iterate 1 ((try simp only [Act.put, s1, s2, s3, s4, s5, s6]); refine ⟨_, ?_, rfl, Or.inl ⟨by kernel_rfl, fun w hSw => ok_of fun z hz => ?_⟩, ?_⟩; rotate_left; · (obtain ⟨⟨f0, f1, f2⟩, f3, f4, f5⟩ := HCR.out _ hSw; go_simp; exact hz))
            refine RunOK.done ?_
            try simp only [Act.put, s1, s2, s3, s4, s5, s6]
            refine rd1 10 (by decide +kernel) rfl (fun K hK => ?_)
            go_simp
            go_at_call 9
            have HEE := l22known_any _ (HGR.out _ hx2)
            refine HEE.mono ?_
            rintro e x3 ⟨rfl, hx3⟩
            clear HEE
            have hx3 := btr hx2 hx3
            go_simp
            refine Shut.out hK _ _ (hx3) (fun hS2 => ?_); clear hK K hS; have hS := hS2; clear hS2
            try simp only [Act.put, s1, s2, s3, s4, s5, s6]
            refine tkR (n := 2) [11, 12] rfl (by decide +kernel) hS ?_
            iterate 2 ((try simp only [Act.put, s1, s2, s3, s4, s5, s6]); refine ⟨_, ?_, rfl, Or.inl ⟨by kernel_rfl, fun w hSw => ok_of fun z hz => ?_⟩, ?_⟩; rotate_left; · (obtain ⟨⟨f0, f1, f2⟩, f3, f4, f5⟩ := HCR.out _ hSw; go_simp; exact hz))
            refine RunOK.done ?_
            try simp only [Act.put, s1, s2, s3, s4, s5, s6]
            refine wpAnyH_done (by kernel_rfl) ?_ _
            try simp only [Act.put, s1, s2, s3, s4, s5, s6]
            simp only [NQ]
            have HFI := Hd (HB.out.trans ((HB8.out.trans (hx3.mono HB8.out.size)).mono HB.out.size))
            clear hS hx1 hx2 hx3
            go_wp2_with fail
            go_ret
            exact ⟨rfl, HFI.out⟩
        | true =>
          have HVT : Hid (validC t = true) := Hd HRr4.out.symm
          clear HRr4
          have HF6 := Hd (fun wz (hz : Below w4.heap.size w4 wz) => (HAf.out.below HB4.out).below hz)
          have HT6 := Hd (fun wz (hz : Below w4.heap.size w4 wz) => (HAt.out.below HB4.out).below hz)
          have HG6 := Hd (fun wz (hz : Below w4.heap.size w4 wz) => (HGL.out.below HB4.out).below hz)
          have HC6 := Hd (fun wz (hz : Below w4.heap.size w4 wz) => HC.out wz (HB4.out.trans (hz.mono HB4.out.size)))
          go_upto_region 6 with fail
          refine NQ.to ?_
          refine wp_region_held_drew (S := (fun wz => Below w4.heap.size w4 wz)) (by kernel_rfl) (bdr) (fun hS => ?_)
          refine tkR (n := 4) [0, 1, 2, 3] rfl (by decide +kernel) hS ?_
          iterate 4 ((try simp only [Act.put, s1, s2, s3, s4, s5, s6]); refine ⟨_, ?_, rfl, Or.inl ⟨by kernel_rfl, fun w hSw => ok_of fun z hz => ?_⟩, ?_⟩; rotate_left; · (obtain ⟨⟨f0, f1, f2⟩, f3, f4, f5⟩ := HC6.out _ hSw; go_simp; exact hz))
          refine RunOK.done ?_
          try simp only [Act.put, s1, s2, s3, s4, s5, s6]
          refine rd1 4 (by decide +kernel) rfl (fun K hK => ?_)
          go_simp
          go_at_call 12
          have HEE := r22Many_any f t _ _ _ _ _ _ _ (HF6.out _ (show Below w4.heap.size w4 w4.drew from bdr)) (HT6.out _ (show Below w4.heap.size w4 w4.drew from bdr)) HVF.out HVT.out (by have := HSF.out.2.2.1; omega) (by have := HST.out.2.2.1; omega)
          refine HEE.mono ?_
          rintro e y1 ⟨rfl, hy1⟩
          clear HEE
          have hy1 := btr (show Below w4.heap.size w4 w4.drew from bdr) hy1
          go_simp
          refine Shut.out hK _ _ (hy1) (fun hS2 => ?_); clear hK K hS; have hS := hS2; clear hS2
          try simp only [Act.put, s1, s2, s3, s4, s5, s6]
          refine rd1 5 (by decide +kernel) rfl (fun K hK => ?_)
          go_simp
          go_at_call 11
          have HEE := l22manies_any f t (manyN f t) 0 _ _ _ _ _ _ _ (HF6.out _ hy1) (HT6.out _ hy1) HSF.out.1 HST.out.1 (HG6.out _ hy1)
          rw [manies_ok HVF.out HVT.out] at HEE
          refine HEE.mono ?_
          rintro e y2 ⟨rfl, hy2⟩
          clear HEE
          have hy2 := btr hy1 hy2
          go_simp
          refine Shut.out hK _ _ (hy2) (fun hS2 => ?_); clear hK K hS; have hS := hS2; clear hS2
          try simp only [Act.put, s1, s2, s3, s4, s5, s6]
          refine tkR (n := 1) [6] rfl (by decide +kernel) hS ?_
          iterate 1 ((try simp only [Act.put, s1, s2, s3, s4, s5, s6]); refine ⟨_, ?_, rfl, Or.inl ⟨by kernel_rfl, fun w hSw => ok_of fun z hz => ?_⟩, ?_⟩; rotate_left; · (obtain ⟨⟨f0, f1, f2⟩, f3, f4, f5⟩ := HC6.out _ hSw; go_simp; exact hz))
          refine RunOK.done ?_
          try simp only [Act.put, s1, s2, s3, s4, s5, s6]
          refine wpAnyH_done (by kernel_rfl) ?_ _
          try simp only [Act.put, s1, s2, s3, s4, s5, s6]
          simp only [NQ]
          have hb := hy2
          clear hS hy1 hy2 HF6 HT6 HG6 HC6
          have HB5 := Lib.hid (HB4.out.trans (hb.mono HB4.out.size))
          clear c4_0_0 c4_0_1 c4_0_2 c4_1_0 c4_1_1 c4_1_2
          obtain ⟨⟨c5_0_0, c5_0_1, c5_0_2⟩, ⟨c5_1_0, c5_1_1, c5_1_2⟩⟩ := HC.out y2 HB5.out
          clear hb
          have HX := Lib.hid (cartValid_any f _ _ _ y2 (HAf.out.below HB5.out) HSF.out.1 (HGL.out.below HB5.out))
          rw [HVF.out] at HX
          go_wp2_with fail
          refine HX.out.mono ?_
          rintro e w6 ⟨rfl, hb⟩
          clear HX
          have HB6 := Lib.hid (HB5.out.trans (hb.mono HB5.out.size))
          clear c5_0_0 c5_0_1 c5_0_2 c5_1_0 c5_1_1 c5_1_2
          obtain ⟨⟨c6_0_0, c6_0_1, c6_0_2⟩, ⟨c6_1_0, c6_1_1, c6_1_2⟩⟩ := HC.out w6 HB6.out
          clear hb
          have HX := Lib.hid (namesItem_any nm w6 HSN.out (HGL.out.below HB6.out))
          obtain ⟨rn6, hrn6⟩ : ∃ r, r = nameB nm := ⟨_, rfl⟩
          rw [← hrn6] at HX
          have HRrn6 := Lib.hid hrn6
          clear hrn6
          go_wp2_with fail
          refine HX.out.mono ?_
          rintro e w7 ⟨rfl, hb⟩
          clear HX
          have HB7 := Lib.hid (HB6.out.trans (hb.mono HB6.out.size))
          clear c6_0_0 c6_0_1 c6_0_2 c6_1_0 c6_1_1 c6_1_2
          obtain ⟨⟨c7_0_0, c7_0_1, c7_0_2⟩, ⟨c7_1_0, c7_1_1, c7_1_2⟩⟩ := HC.out w7 HB7.out
          clear hb
          cases rn6 with
          | false =>
            have HX := Lib.hid (l22sums_any f nm q 0 2 _ _ _ w7 (HAf.out.below HB7.out) HSF.out.1 HSN.out (HGL.out.below HB7.out))
            rw [sums_bad (by rw [← HRrn6.out]; simp)] at HX
            go_wp2_with fail
            refine HX.out.mono ?_
            rintro e w8 ⟨rfl, hb⟩
            clear HX
            have HB8 := Lib.hid (HB7.out.trans (hb.mono HB7.out.size))
            clear c7_0_0 c7_0_1 c7_0_2 c7_1_0 c7_1_1 c7_1_2
            obtain ⟨⟨c8_0_0, c8_0_1, c8_0_2⟩, ⟨c8_1_0, c8_1_1, c8_1_2⟩⟩ := HC.out w8 HB8.out
            clear hb
            have HX := Lib.hid (l22known_any w8 (HGL.out.below HB8.out))
            go_wp2_with fail
            refine HX.out.mono ?_
            rintro e wk ⟨rfl, hbk⟩
            clear HX
            have HBK := Lib.hid (HB8.out.trans (hbk.mono HB8.out.size))
            clear hbk
            go_wp2_with fail
            go_ret
            exact ⟨rfl, HB.out.trans (HBK.out.mono HB.out.size)⟩
          | true =>
            have HNB : Hid (nameB nm = true) := Hd HRrn6.out.symm
            clear HRrn6
            by_cases q1 : q < 1
            ·have HE := Hd (sums_qty (q := q) HVF.out HNB.out (Or.inl q1))
             have HX := Lib.hid (l22sums_any f nm q 0 14 _ _ _ w7 (HAf.out.below HB7.out) HSF.out.1 HSN.out (HGL.out.below HB7.out))
             rw [HE.out] at HX
             go_wp2_with fail
             refine HX.out.mono ?_
             rintro e w8 ⟨rfl, hb⟩
             clear HX
             have HB8 := Lib.hid (HB7.out.trans (hb.mono HB7.out.size))
             clear c7_0_0 c7_0_1 c7_0_2 c7_1_0 c7_1_1 c7_1_2
             obtain ⟨⟨c8_0_0, c8_0_1, c8_0_2⟩, ⟨c8_1_0, c8_1_1, c8_1_2⟩⟩ := HC.out w8 HB8.out
             clear hb
             have HX := Lib.hid (l22known_any w8 (HGL.out.below HB8.out))
             go_wp2_with fail
             refine HX.out.mono ?_
             rintro e wk ⟨rfl, hbk⟩
             clear HX
             have HBK := Lib.hid (HB8.out.trans (hbk.mono HB8.out.size))
             clear hbk
             go_wp2_with fail
             go_ret
             exact ⟨rfl, HB.out.trans (HBK.out.mono HB.out.size)⟩
            by_cases q2 : 2147483647 < q
            ·have HE := Hd (sums_qty (q := q) HVF.out HNB.out (Or.inr (Or.inl q2)))
             have HX := Lib.hid (l22sums_any f nm q 0 14 _ _ _ w7 (HAf.out.below HB7.out) HSF.out.1 HSN.out (HGL.out.below HB7.out))
             rw [HE.out] at HX
             go_wp2_with fail
             refine HX.out.mono ?_
             rintro e w8 ⟨rfl, hb⟩
             clear HX
             have HB8 := Lib.hid (HB7.out.trans (hb.mono HB7.out.size))
             clear c7_0_0 c7_0_1 c7_0_2 c7_1_0 c7_1_1 c7_1_2
             obtain ⟨⟨c8_0_0, c8_0_1, c8_0_2⟩, ⟨c8_1_0, c8_1_1, c8_1_2⟩⟩ := HC.out w8 HB8.out
             clear hb
             have HX := Lib.hid (l22known_any w8 (HGL.out.below HB8.out))
             go_wp2_with fail
             refine HX.out.mono ?_
             rintro e wk ⟨rfl, hbk⟩
             clear HX
             have HBK := Lib.hid (HB8.out.trans (hbk.mono HB8.out.size))
             clear hbk
             go_wp2_with fail
             go_ret
             exact ⟨rfl, HB.out.trans (HBK.out.mono HB.out.size)⟩
            have HQB := qtyC_bound f nm
            have hqw : IntKind.i64.wrap (qtyC f nm + q) = qtyC f nm + q := by rw [IntKind.wrap_i64]; omega
            clear HQB
            have HX := Lib.hid (r22Qty_any f nm _ _ _ w7 (HAf.out.below HB7.out) HVF.out)
            go_wp2_with fail
            refine HX.out.mono ?_
            rintro e w8 ⟨rfl, hb⟩
            clear HX
            have HB8 := Lib.hid (HB7.out.trans (hb.mono HB7.out.size))
            clear c7_0_0 c7_0_1 c7_0_2 c7_1_0 c7_1_1 c7_1_2
            obtain ⟨⟨c8_0_0, c8_0_1, c8_0_2⟩, ⟨c8_1_0, c8_1_1, c8_1_2⟩⟩ := HC.out w8 HB8.out
            clear hb
            by_cases q3 : 2147483647 < qtyC f nm + q
            ·have HE := Hd (sums_qty (q := q) HVF.out HNB.out (Or.inr (Or.inr q3)))
             have HX := Lib.hid (l22sums_any f nm q 0 14 _ _ _ w8 (HAf.out.below HB8.out) HSF.out.1 HSN.out (HGL.out.below HB8.out))
             rw [HE.out] at HX
             go_wp2_with fail
             refine HX.out.mono ?_
             rintro e w9 ⟨rfl, hb⟩
             clear HX
             have HB9 := Lib.hid (HB8.out.trans (hb.mono HB8.out.size))
             clear c8_0_0 c8_0_1 c8_0_2 c8_1_0 c8_1_1 c8_1_2
             obtain ⟨⟨c9_0_0, c9_0_1, c9_0_2⟩, ⟨c9_1_0, c9_1_1, c9_1_2⟩⟩ := HC.out w9 HB9.out
             clear hb
             have HX := Lib.hid (l22known_any w9 (HGL.out.below HB9.out))
             go_wp2_with fail
             refine HX.out.mono ?_
             rintro e wk ⟨rfl, hbk⟩
             clear HX
             have HBK := Lib.hid (HB9.out.trans (hbk.mono HB9.out.size))
             clear hbk
             go_wp2_with fail
             go_ret
             exact ⟨rfl, HB.out.trans (HBK.out.mono HB.out.size)⟩
            have HE := Hd (sums_ok (q := q) HVF.out HNB.out (by omega) (by omega) (by omega))
            have HA1 := Hd (fun wz (hz : Below w8.heap.size w8 wz) => (HAf.out.below HB8.out).below hz)
            have HGR := Hd (fun wz (hz : Below w8.heap.size w8 wz) => (HGL.out.below HB8.out).below hz)
            have HCR := Hd (fun wz (hz : Below w8.heap.size w8 wz) => HC.out wz (HB8.out.trans (hz.mono HB8.out.size)))
            go_upto_region 12 with fail
            refine NQ.to ?_
            refine wp_region_held_drew (S := (fun wz => Below w8.heap.size w8 wz)) (by kernel_rfl) (bdr) (fun hS => ?_)
            refine tkR (n := 6) [0, 1, 2, 3, 4, 6] rfl (by decide +kernel) hS ?_
            iterate 6 ((try simp only [Act.put, s1, s2, s3, s4, s5, s6]); refine ⟨_, ?_, rfl, Or.inl ⟨by kernel_rfl, fun w hSw => ok_of fun z hz => ?_⟩, ?_⟩; rotate_left; · (obtain ⟨⟨f0, f1, f2⟩, f3, f4, f5⟩ := HCR.out _ hSw; go_simp; exact hz))
            refine RunOK.done ?_
            try simp only [Act.put, s1, s2, s3, s4, s5, s6]
            refine rd1 5 (by decide +kernel) rfl (fun K hK => ?_)
            go_simp
            go_at_call 15
            have HEE := r22Qty_any f nm _ _ _ _ (HA1.out _ (show Below w8.heap.size w8 w8.drew from bdr)) HVF.out
            refine HEE.mono ?_
            rintro e x1 ⟨rfl, hx1⟩
            clear HEE
            have hx1 := btr (show Below w8.heap.size w8 w8.drew from bdr) hx1
            go_simp
            refine Shut.out hK _ _ (hx1) (fun hS2 => ?_); clear hK K hS; have hS := hS2; clear hS2
            try simp only [Act.put, s1, s2, s3, s4, s5, s6]
            refine tkR (n := 1) [7] rfl (by decide +kernel) hS ?_
            iterate 1 ((try simp only [Act.put, s1, s2, s3, s4, s5, s6]); refine ⟨_, ?_, rfl, Or.inl ⟨by kernel_rfl, fun w hSw => ok_of fun z hz => ?_⟩, ?_⟩; rotate_left; · (obtain ⟨⟨f0, f1, f2⟩, f3, f4, f5⟩ := HCR.out _ hSw; go_simp; exact hz))
            refine RunOK.done ?_
            try simp only [Act.put, s1, s2, s3, s4, s5, s6]
            refine rd1 8 (by decide +kernel) rfl (fun K hK => ?_)
            go_simp
            go_at_call 14
            have HEE := l22sums_any f nm q (qtyC f nm + q) 0 _ _ _ _ (HA1.out _ hx1) HSF.out.1 HSN.out (HGR.out _ hx1)
            rw [HE.out] at HEE
            refine HEE.mono ?_
            rintro e x2 ⟨rfl, hx2⟩
            clear HEE
            have hx2 := btr hx1 hx2
            go_simp
            refine Shut.out hK _ _ (hx2) (fun hS2 => ?_); clear hK K hS; have hS := hS2; clear hS2
            try simp only [Act.put, s1, s2, s3, s4, s5, s6]
            refine tkR (n := 1) [9] rfl (by decide +kernel) hS ?_
            iterate 1 ((try simp only [Act.put, s1, s2, s3, s4, s5, s6]); refine ⟨_, ?_, rfl, Or.inl ⟨by kernel_rfl, fun w hSw => ok_of fun z hz => ?_⟩, ?_⟩; rotate_left; · (obtain ⟨⟨f0, f1, f2⟩, f3, f4, f5⟩ := HCR.out _ hSw; go_simp; exact hz))
            refine RunOK.done ?_
            try simp only [Act.put, s1, s2, s3, s4, s5, s6]
            refine rd1 10 (by decide +kernel) rfl (fun K hK => ?_)
            go_simp
            go_at_call 9
            have HEE := l22known_any _ (HGR.out _ hx2)
            refine HEE.mono ?_
            rintro e x3 ⟨rfl, hx3⟩
            clear HEE
            have hx3 := btr hx2 hx3
            go_simp
            refine Shut.out hK _ _ (hx3) (fun hS2 => ?_); clear hK K hS; have hS := hS2; clear hS2
            try simp only [Act.put, s1, s2, s3, s4, s5, s6]
            refine tkR (n := 2) [11, 12] rfl (by decide +kernel) hS ?_
            iterate 2 ((try simp only [Act.put, s1, s2, s3, s4, s5, s6]); refine ⟨_, ?_, rfl, Or.inl ⟨by kernel_rfl, fun w hSw => ok_of fun z hz => ?_⟩, ?_⟩; rotate_left; · (obtain ⟨⟨f0, f1, f2⟩, f3, f4, f5⟩ := HCR.out _ hSw; go_simp; exact hz))
            refine RunOK.done ?_
            try simp only [Act.put, s1, s2, s3, s4, s5, s6]
            refine wpAnyH_done (by kernel_rfl) ?_ _
            try simp only [Act.put, s1, s2, s3, s4, s5, s6]
            simp only [NQ]
            have HFI := Hd (HB.out.trans ((HB8.out.trans (hx3.mono HB8.out.size)).mono HB.out.size))
            clear hS hx1 hx2 hx3
            go_wp2_with fail
            go_ret
            exact ⟨rfl, HFI.out⟩
end Go.Proofs.YtjoljfnlkddfbaaGreatDoor
