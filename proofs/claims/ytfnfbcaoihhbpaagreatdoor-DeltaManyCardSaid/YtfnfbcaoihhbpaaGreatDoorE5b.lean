/- Stage 12: the law's known, whole. -/
import Derived.Test.YtfnfbcaoihhbpaaGreatDoorE5
set_option linter.unusedSimpArgs false
set_option linter.unusedVariables false
set_option maxRecDepth 100000
set_option maxHeartbeats 16000000
namespace Go.Proofs.YtfnfbcaoihhbpaaGreatDoor
open Go.RowKit Go.Maps Go.Sort Go.Shelf
theorem light_dots {c : CartD} (h : lightC c = true) : (allDots c.items).length ≤ 200 := by
 obtain ⟨-, -, h3, h4⟩ := lightC_parts h
 have h5 := allDots_mul (n := 10) c.items (fun x hx => (h4 x hx).2)
 have := Nat.mul_le_mul_right 10 h3
 omega
set_option linter.unusedSimpArgs false in
set_option linter.unusedVariables false in
theorem l12known_any (w : World) (hG : GlobIs w) : Calls Tryz.prog 10 #[] w fun e w' => e = .returned (.bool true) ∧ Below w.heap.size w w' := by
  obtain ⟨W0, HW0, HB0, HS0, HK0⟩ := box1 w #[.slice none 0 0, .slice none 0 0, .slice none 0 0] 28
  have HGL := Hd (hG.below HB0.out)
  clear hG
  go_enter Tryz.func10, Tryz.ntmps10
  go_wp2_with fail
  rw [← HW0.out]
  
  have HEE := l12at_any (1) (2) (W0)
  refine HEE.mono ?_
  rintro e q1 ⟨rfl, h0⟩
  clear HEE
  have hq1 := btr (Below.refl _ _ : Below W0.heap.size W0 W0) h0
  clear h0
  go_wp2_with fail
  have HEE := l12at_any (2) (1) (q1)
  refine HEE.mono ?_
  rintro e q2 ⟨rfl, h0⟩
  clear HEE
  have hq2 := btr hq1 h0
  clear h0
  have h0 : Below q2.heap.size q2 (q2.alloc (.cells #[.int .i64 (1), .int .i64 (2), .int .i64 (2), .int .i64 (1)] 30)) := bal
  have hq3 := btr hq2 h0
  have d1 : Arr DotR 2 (q2.alloc (.cells #[.int .i64 (1), .int .i64 (2), .int .i64 (2), .int .i64 (1)] 30)) (.slice (some ⟨q2.heap.size, 0, none⟩) 2 2) [⟨1, 2⟩, ⟨2, 1⟩] := lit_dots [⟨1, 2⟩, ⟨2, 1⟩] (by unfold maxLen; simp) (di_all (by decide))
  clear h0
  go_wp2_with fail
  have HEE := l12con_any 2 2 rfl [⟨1, 2⟩, ⟨2, 1⟩] _ _ _ _ d1 (by decide)
  refine HEE.mono ?_
  rintro e q4 ⟨vc, rfl, ⟨c1_a, c1_b, c1_c, c1_d, c1_e, c1_f, rfl, ca, cb⟩, h0⟩
  clear HEE
  have hq4 := btr hq3 h0
  clear d1
  have ca : Arr DotR 2 _ _ ([⟨1, 2⟩, ⟨2, 1⟩] : List DotD) := ca
  have cb : Arr DotR 2 _ _ ([] : List DotD) := cb
  clear h0
  go_wp2_with fail
  have HEE := l12mark_any (2) (1) (7) (4) (q4)
  refine HEE.mono ?_
  rintro e q5 ⟨rfl, h0⟩
  clear HEE
  have hq5 := btr hq4 h0
  have ca := ca.dots h0
  have cb := cb.dots h0
  clear h0
  have h0 : Below q5.heap.size q5 (q5.alloc (.cells #[.int .i64 (2), .int .i64 (1), .int .i64 (7), .int .u64 (4)] 55)) := bal
  have hq6 := btr hq5 h0
  have ca := ca.dots h0
  have cb := cb.dots h0
  have m1 : Arr MarkR 4 (q5.alloc (.cells #[.int .i64 (2), .int .i64 (1), .int .i64 (7), .int .u64 (4)] 55)) (.slice (some ⟨q5.heap.size, 0, none⟩) 1 1) [⟨⟨2, 1⟩, 7, 4⟩] := lit_marks [⟨⟨2, 1⟩, 7, 4⟩] (by unfold maxLen; simp) (mi_all (by decide))
  clear h0
  go_wp2_with fail
  have HEE := l12item_any ⟨#[78, 117, 116]⟩ (some ⟨q5.heap.size, 0, none⟩) 1 1 ((q5.alloc (.cells #[.int .i64 (2), .int .i64 (1), .int .i64 (7), .int .u64 (4)] 55)))
  refine HEE.mono ?_
  rintro e q7 ⟨rfl, h0⟩
  clear HEE
  have hq7 := btr hq6 h0
  have ca := ca.dots h0
  have cb := cb.dots h0
  have m1 := m1.marks h0
  clear h0
  go_wp2_with fail
  have HEE := l12mark_any (1) (1) (5) (3) (q7)
  refine HEE.mono ?_
  rintro e q8 ⟨rfl, h0⟩
  clear HEE
  have hq8 := btr hq7 h0
  have ca := ca.dots h0
  have cb := cb.dots h0
  have m1 := m1.marks h0
  clear h0
  go_wp2_with fail
  have HEE := l12mark_any (1) (2) (2) (9) (q8)
  refine HEE.mono ?_
  rintro e q9 ⟨rfl, h0⟩
  clear HEE
  have hq9 := btr hq8 h0
  have ca := ca.dots h0
  have cb := cb.dots h0
  have m1 := m1.marks h0
  clear h0
  have h0 : Below q9.heap.size q9 (q9.alloc (.cells #[.int .i64 (1), .int .i64 (1), .int .i64 (5), .int .u64 (3), .int .i64 (1), .int .i64 (2), .int .i64 (2), .int .u64 (9)] 55)) := bal
  have hq10 := btr hq9 h0
  have ca := ca.dots h0
  have cb := cb.dots h0
  have m1 := m1.marks h0
  have m2 : Arr MarkR 4 (q9.alloc (.cells #[.int .i64 (1), .int .i64 (1), .int .i64 (5), .int .u64 (3), .int .i64 (1), .int .i64 (2), .int .i64 (2), .int .u64 (9)] 55)) (.slice (some ⟨q9.heap.size, 0, none⟩) 2 2) [⟨⟨1, 1⟩, 5, 3⟩, ⟨⟨1, 2⟩, 2, 9⟩] := lit_marks [⟨⟨1, 1⟩, 5, 3⟩, ⟨⟨1, 2⟩, 2, 9⟩] (by unfold maxLen; simp) (mi_all (by decide))
  clear h0
  go_wp2_with fail
  have HEE := l12item_any ⟨#[84, 101, 97]⟩ (some ⟨q9.heap.size, 0, none⟩) 2 2 ((q9.alloc (.cells #[.int .i64 (1), .int .i64 (1), .int .i64 (5), .int .u64 (3), .int .i64 (1), .int .i64 (2), .int .i64 (2), .int .u64 (9)] 55)))
  refine HEE.mono ?_
  rintro e q11 ⟨rfl, h0⟩
  clear HEE
  have hq11 := btr hq10 h0
  have ca := ca.dots h0
  have cb := cb.dots h0
  have m1 := m1.marks h0
  have m2 := m2.marks h0
  clear h0
  have h0 : Below q11.heap.size q11 (q11.alloc (.cells #[.string tNut, .slice (some ⟨q5.heap.size, 0, none⟩) 1 1, .string tTea, .slice (some ⟨q9.heap.size, 0, none⟩) 2 2] 50)) := bal
  have hq12 := btr hq11 h0
  have ca := ca.dots h0
  have cb := cb.dots h0
  have its : Arr ItemR 2 (q11.alloc (.cells #[.string tNut, .slice (some ⟨q5.heap.size, 0, none⟩) 1 1, .string tTea, .slice (some ⟨q9.heap.size, 0, none⟩) 2 2] 50)) (.slice (some ⟨q11.heap.size, 0, none⟩) 2 2) [⟨tNut, [⟨⟨2, 1⟩, 7, 4⟩]⟩, ⟨tTea, [⟨⟨1, 1⟩, 5, 3⟩, ⟨⟨1, 2⟩, 2, 9⟩]⟩] := lit_items [⟨⟨tNut, [⟨⟨2, 1⟩, 7, 4⟩]⟩, some ⟨q5.heap.size, 0, none⟩, 1⟩, ⟨⟨tTea, [⟨⟨1, 1⟩, 5, 3⟩, ⟨⟨1, 2⟩, 2, 9⟩]⟩, some ⟨q9.heap.size, 0, none⟩, 2⟩] (by unfold maxLen; simp) (by
    intro p hp
    simp only [List.mem_cons, List.not_mem_nil, or_false] at hp
    rcases hp with rfl | rfl
    ·exact ⟨show ByteArray.size tNut ≤ maxLen by decide, m1⟩
    ·exact ⟨show ByteArray.size tTea ≤ maxLen by decide, m2⟩)
  clear h0
  obtain ⟨WC, HWC, HBC, HSC, HKC⟩ := box1 (q11.alloc (.cells #[.string tNut, .slice (some ⟨q5.heap.size, 0, none⟩) 1 1, .string tTea, .slice (some ⟨q9.heap.size, 0, none⟩) 2 2] 50)) #[.slice c1_a c1_b c1_c, .slice c1_d c1_e c1_f, .slice (some ⟨q11.heap.size, 0, none⟩) 2 2] 28
  have HCZ : Hid (CartC WC ((q11.alloc (.cells #[.string tNut, .slice (some ⟨q5.heap.size, 0, none⟩) 1 1, .string tTea, .slice (some ⟨q9.heap.size, 0, none⟩) 2 2] 50))).heap.size cZ) := Hd ⟨_, _, _, _, _, _, _, _, _, HKC.out WC brf, (show CartA (q11.alloc (.cells #[.string tNut, .slice (some ⟨q5.heap.size, 0, none⟩) 1 1, .string tTea, .slice (some ⟨q9.heap.size, 0, none⟩) 2 2] 50)) _ _ _ cZ from ⟨ca, cb, its⟩).below HBC.out⟩
  have hb0 := btr hq12 HBC.out
  have HZ0 : Hid (CartC W0 w.heap.size zeroC) := Hd ⟨_, _, _, _, _, _, _, _, _, HK0.out W0 brf, ⟨arr_nil, arr_nil, arr_nil⟩⟩
  have HBA := Hd hb0
  clear ca cb its hb0
  go_upto_region 3 with fail
  unfold tNut tTea at HWC
  rw [← HWC.out]
  clear HWC
  simp only [alloc_size] at HCZ
  have HBX := Hd (fun wz (h : Below W0.heap.size W0 wz) => btr HB0.out h)
  generalize hb2 : q11.heap.size + 1 = b2 at *
  clear hb2
  refine NQ.to (l12k3 WC w.heap.size b2 _ _ _ _ _ _ _ _ _ _ _ _ _ _ (HGL.out.below HBA.out) (HZ0.out.below HBA.out) HCZ.out _ ?_)
  intros
  rename_i w3 hb3
  have HB3 := Hd (btr HBA.out hb3)
  have HC3 := Hd (HCZ.out.below hb3)
  clear hb3
  go_upto_region 5 with fail
  refine NQ.to (l12k5 w3 w.heap.size b2 _ _ _ _ _ _ _ _ _ _ _ _ _ _ _ _ _ _ _ _ _ _ _ _ _ _ _ _ _ _ _ _ _ _ _ _ _ _ _ _ (HGL.out.below HB3.out) (HZ0.out.below HB3.out) HC3.out _ ?_)
  intros
  rename_i w5 hb5
  have HB5 := Hd (btr HB3.out hb5)
  have HC5 := Hd (HC3.out.below hb5)
  clear hb5
  go_upto_region 7 with fail
  refine NQ.to (l12k7 w5 w.heap.size b2 _ _ _ _ _ _ _ _ _ _ _ _ _ _ _ _ _ _ _ _ _ _ _ _ _ _ _ _ _ _ _ _ _ _ _ _ _ _ _ _ _ _ _ _ _ _ _ _ _ _ _ _ _ _ _ _ _ _ _ _ _ _ _ _ _ _ _ _ _ _ _ _ _ _ _ _ _ (HGL.out.below HB5.out) (HZ0.out.below HB5.out) HC5.out _ ?_)
  intros
  rename_i w7 hb7
  have HB7 := Hd (btr HB5.out hb7)
  have HC7 := Hd (HC5.out.below hb7)
  clear hb7
  obtain ⟨o1, n1, c1, o2, n2, c2, o3, n3, c3, g1, a1⟩ := HZ0.out.below HB7.out
  obtain ⟨x0, x1, x2⟩ := cel3 g1
  have HX := Hd (deltaClear_any zeroC _ _ _ w7 a1 zC_sz.1 zC_sz.2 (HGL.out.below HB7.out))
  have hk1 : clrC zeroC = zeroC ∧ clrCE zeroC = 0 := by
    have := dk6
    rw [Bool.and_eq_true] at this
    exact ⟨of_decide_eq_true this.1, eq_of_beq this.2⟩
  rw [hk1.1, hk1.2] at HX
  clear hk1 a1
  go_wp2_with fail
  refine HX.out.mono ?_
  rintro e w8 ⟨y1, y2, y3, rfl, hca, hb8⟩
  obtain ⟨p1, m1, l1, p2, m2, l2, p3, m3, l3, rfl, rfl, rfl, hm1, hm2, hm3⟩ := opn4 hca
  obtain ⟨WD, HWD, HBD, HSD, HKD⟩ := box1 w8 #[.slice p1 m1 l1, .slice p2 m2 l2, .slice p3 m3 l3] 28
  have hb9 := btr hb8 HBD.out
  have HCD : Hid (CartC WD w8.heap.size zeroC) := Hd ⟨_, _, _, _, _, _, _, _, _, HKD.out WD brf, hca.below HBD.out⟩
  have HB9 := Hd (btr HB7.out hb9)
  have HC9 := Hd (HC7.out.below hb9)
  clear HX hca hb8 hb9 hm1 hm2 hm3 x0 x1 x2 g1
  go_upto_region 10 with fail
  rw [← HWD.out]
  generalize w8.heap.size = b3 at *
  refine NQ.to (l12k10 WD w.heap.size b2 b3 _ _ _ _ _ _ _ _ _ _ _ _ _ _ _ _ _ _ _ _ _ _ _ _ _ _ _ _ _ _ _ _ _ _ _ _ _ _ _ _ _ _ _ _ _ _ _ _ _ _ _ _ _ _ _ _ _ _ _ _ _ _ _ _ _ _ _ _ _ _ _ _ _ _ _ _ _ _ _ _ _ _ _ _ _ _ _ _ _ _ _ _ _ _ _ _ _ _ _ _ _ _ _ _ _ _ _ _ _ _ _ _ _ _ _ _ _ _ _ _ _ (HGL.out.below HB9.out) (HZ0.out.below HB9.out) HC9.out HCD.out _ ?_)
  intros
  rename_i w10 hb10
  have HF := Hd (HBX.out _ (btr HB9.out hb10))
  clear hb10
  go_wp2_with fail
  go_ret
  exact ⟨rfl, HF.out⟩
end Go.Proofs.YtfnfbcaoihhbpaaGreatDoor
