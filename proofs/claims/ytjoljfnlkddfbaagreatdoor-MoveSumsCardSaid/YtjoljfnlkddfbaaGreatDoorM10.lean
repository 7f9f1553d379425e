/- Law 22: known, whole. -/
import Derived.Test.YtjoljfnlkddfbaaGreatDoorM9
set_option linter.unusedSimpArgs false
set_option linter.unusedVariables false
set_option maxRecDepth 100000
set_option maxHeartbeats 16000000
namespace Go.Proofs.YtjoljfnlkddfbaaGreatDoor
open Go.RowKit Go.Maps Go.Sort Go.Shelf
set_option linter.unusedSimpArgs false in
set_option linter.unusedVariables false in
theorem l22known_any (w : World) (hG : GlobIs w) : Calls Tryz.prog 9 #[] w fun e w' => e = .returned (.bool true) ∧ Below w.heap.size w w' := by
  have HGL := Hd hG
  clear hG
  go_enter Tryz.func9, Tryz.ntmps9
  go_wp2_with fail
  have HEE := l22dot_any (1) (2) (w)
  refine HEE.mono ?_
  rintro e q1 ⟨rfl, h0⟩
  clear HEE
  have hq1 := btr (Below.refl _ _ : Below w.heap.size w w) h0
  clear h0
  go_wp2_with fail
  have HEE := l22seen_any ⟨1, 2⟩ (q1) (DI_valid (by decide))
  refine HEE.mono ?_
  rintro e q2 ⟨gca, rfl, ca, h0⟩
  clear HEE
  have hq2 := btr hq1 h0
  clear h0
  go_wp2_with fail
  have HEE := l22dot_any (1) (2) (q2)
  refine HEE.mono ?_
  rintro e q3 ⟨rfl, h0⟩
  clear HEE
  have hq3 := btr hq2 h0
  have ca := ca.dots h0
  clear h0
  go_wp2_with fail
  have HEE := l22item_any ⟨#[79, 105, 108]⟩ ⟨1, 2⟩ 2 2 (q3) (mi22 (by decide) (by decide))
  refine HEE.mono ?_
  rintro e q4 ⟨gmA, rfl, mA, h0⟩
  clear HEE
  have hq4 := btr hq3 h0
  have ca := ca.dots h0
  clear h0
  go_wp2_with fail
  have HEE := l22dot_any (1) (1) (q4)
  refine HEE.mono ?_
  rintro e q5 ⟨rfl, h0⟩
  clear HEE
  have hq5 := btr hq4 h0
  have ca := ca.dots h0
  have mA := mA.marks h0
  clear h0
  go_wp2_with fail
  have HEE := l22item_any ⟨#[84, 101, 97]⟩ ⟨1, 1⟩ 3 1 (q5) (mi22 (by decide) (by decide))
  refine HEE.mono ?_
  rintro e q6 ⟨gmB, rfl, mB, h0⟩
  clear HEE
  have hq6 := btr hq5 h0
  have ca := ca.dots h0
  have mA := mA.marks h0
  clear h0
  have h0 : Below q6.heap.size q6 (q6.alloc (.cells #[.string tOil, .slice (some ⟨gmA, 0, none⟩) 1 1, .string tTea, .slice (some ⟨gmB, 0, none⟩) 1 1] 55)) := bal
  have hq7 := btr hq6 h0
  have ca := ca.dots h0
  have iA : Arr ItemR 2 (q6.alloc (.cells #[.string tOil, .slice (some ⟨gmA, 0, none⟩) 1 1, .string tTea, .slice (some ⟨gmB, 0, none⟩) 1 1] 55)) (.slice (some ⟨q6.heap.size, 0, none⟩) 2 2) [⟨tOil, [⟨⟨1, 2⟩, 2, 2⟩]⟩, ⟨tTea, [⟨⟨1, 1⟩, 3, 1⟩]⟩] := lit_items [⟨⟨tOil, [⟨⟨1, 2⟩, 2, 2⟩]⟩, some ⟨gmA, 0, none⟩, 1⟩, ⟨⟨tTea, [⟨⟨1, 1⟩, 3, 1⟩]⟩, some ⟨gmB, 0, none⟩, 1⟩] (by unfold maxLen; simp) (by
    intro p hp
    simp only [List.mem_cons, List.not_mem_nil, or_false] at hp
    rcases hp with rfl | rfl
    ·exact ⟨show ByteArray.size tOil ≤ maxLen by decide, mA⟩
    ·exact ⟨show ByteArray.size tTea ≤ maxLen by decide, mB⟩)
  clear h0
  obtain ⟨WA, HWA, HBA, HSA, HKA⟩ := box1 (q6.alloc (.cells #[.string tOil, .slice (some ⟨gmA, 0, none⟩) 1 1, .string tTea, .slice (some ⟨gmB, 0, none⟩) 1 1] 55)) #[.slice (some ⟨gca, 0, none⟩) 1 1, .slice none 0 0, .slice (some ⟨q6.heap.size, 0, none⟩) 2 2] 28
  have HCA : Hid (CartC WA ((q6.alloc (.cells #[.string tOil, .slice (some ⟨gmA, 0, none⟩) 1 1, .string tTea, .slice (some ⟨gmB, 0, none⟩) 1 1] 55))).heap.size wA) := Hd ⟨_, _, _, _, _, _, _, _, _, HKA.out WA brf, (show CartA (q6.alloc (.cells #[.string tOil, .slice (some ⟨gmA, 0, none⟩) 1 1, .string tTea, .slice (some ⟨gmB, 0, none⟩) 1 1] 55)) _ _ _ wA from ⟨ca, arr_nil, iA⟩).below HBA.out⟩
  have hb0 := btr hq7 HBA.out
  have HXA := Hd hb0
  clear hb0 ca iA HBA HSA HKA
  go_upto_region 2 with fail
  unfold tOil tTea at HWA
  rw [← HWA.out]
  clear HWA
  simp only [alloc_size] at HCA
  generalize hb1 : q6.heap.size + 1 = b1 at *
  clear hb1
  go_wp2_with fail
  have HEE := l22dot_any (2) (1) (WA)
  refine HEE.mono ?_
  rintro e q41 ⟨rfl, h0⟩
  clear HEE
  have hq41 := btr (Below.refl _ _ : Below WA.heap.size WA WA) h0
  clear h0
  go_wp2_with fail
  have HEE := l22seen_any ⟨2, 1⟩ (q41) (DI_valid (by decide))
  refine HEE.mono ?_
  rintro e q42 ⟨gcb, rfl, cb, h0⟩
  clear HEE
  have hq42 := btr hq41 h0
  clear h0
  go_wp2_with fail
  have HEE := l22dot_any (2) (1) (q42)
  refine HEE.mono ?_
  rintro e q43 ⟨rfl, h0⟩
  clear HEE
  have hq43 := btr hq42 h0
  have cb := cb.dots h0
  clear h0
  go_wp2_with fail
  have HEE := l22item_any ⟨#[84, 101, 97]⟩ ⟨2, 1⟩ 4 5 (q43) (mi22 (by decide) (by decide))
  refine HEE.mono ?_
  rintro e q44 ⟨gmC, rfl, mC, h0⟩
  clear HEE
  have hq44 := btr hq43 h0
  have cb := cb.dots h0
  clear h0
  have h0 : Below q44.heap.size q44 (q44.alloc (.cells #[.string tTea, .slice (some ⟨gmC, 0, none⟩) 1 1] 55)) := bal
  have hq45 := btr hq44 h0
  have cb := cb.dots h0
  have iB : Arr ItemR 2 (q44.alloc (.cells #[.string tTea, .slice (some ⟨gmC, 0, none⟩) 1 1] 55)) (.slice (some ⟨q44.heap.size, 0, none⟩) 1 1) [⟨tTea, [⟨⟨2, 1⟩, 4, 5⟩]⟩] := lit_items [⟨⟨tTea, [⟨⟨2, 1⟩, 4, 5⟩]⟩, some ⟨gmC, 0, none⟩, 1⟩] (by unfold maxLen; simp) (by
    intro p hp
    simp only [List.mem_cons, List.not_mem_nil, or_false] at hp
    rcases hp with rfl
    ·exact ⟨show ByteArray.size tTea ≤ maxLen by decide, mC⟩)
  clear h0
  obtain ⟨WB, HWB, HBB, HSB, HKB⟩ := box1 (q44.alloc (.cells #[.string tTea, .slice (some ⟨gmC, 0, none⟩) 1 1] 55)) #[.slice (some ⟨gcb, 0, none⟩) 1 1, .slice none 0 0, .slice (some ⟨q44.heap.size, 0, none⟩) 1 1] 28
  have HCB : Hid (CartC WB ((q44.alloc (.cells #[.string tTea, .slice (some ⟨gmC, 0, none⟩) 1 1] 55))).heap.size wB) := Hd ⟨_, _, _, _, _, _, _, _, _, HKB.out WB brf, (show CartA (q44.alloc (.cells #[.string tTea, .slice (some ⟨gmC, 0, none⟩) 1 1] 55)) _ _ _ wB from ⟨cb, arr_nil, iB⟩).below HBB.out⟩
  have hb0 := btr hq45 HBB.out
  have HXB := Hd hb0
  clear hb0 cb iB HBB HSB HKB
  go_upto_region 3 with fail
  unfold tTea at HWB
  rw [← HWB.out]
  clear HWB
  simp only [alloc_size] at HCB
  generalize hb2 : q44.heap.size + 1 = b2 at *
  clear hb2
  obtain ⟨WE, HWE, HBE, HSE, HKE⟩ := box1 WB #[.slice none 0 0, .slice none 0 0, .slice none 0 0] 28
  have HCE : Hid (CartC WE WB.heap.size zeroC) := Hd ⟨_, _, _, _, _, _, _, _, _, HKE.out WE brf, ⟨arr_nil, arr_nil, arr_nil⟩⟩
  have HA5 := Hd (HCA.out.below (btr HXB.out HBE.out))
  have HB5 := Hd (HCB.out.below HBE.out)
  have HBW := Hd (btr HXA.out (btr HXB.out HBE.out))
  go_upto_region 4 with fail
  rw [← HWE.out]
  clear HWE
  generalize WB.heap.size = b3 at *
  refine NQ.to (l22k4 WE b1 b2 b3 _ _ _ _ _ _ _ _ _ _ _ _ _ _ _  (HGL.out.below HBW.out) HA5.out HB5.out HCE.out _ ?_)
  intros
  rename_i w4 hb4
  have HB4 := Hd hb4
  clear hb4
  go_upto_region 6 with fail
  refine NQ.to (l22k6 w4 b1 b2 b3 _ _ _ _ _ _ _ _ _ _ _ _ _ _ _ _ _ _ _ _ _ _ _ _ _ _ _ _ _  (HGL.out.below (btr HBW.out HB4.out)) (HA5.out.below HB4.out) (HB5.out.below HB4.out) (HCE.out.below HB4.out) _ ?_)
  intros
  rename_i w6 hb6
  have HB6 := Hd (btr HB4.out hb6)
  clear hb6
  go_upto_region 8 with fail
  refine NQ.to (l22k8 w6 b1 b2 b3 _ _ _ _ _ _ _ _ _ _ _ _ _ _ _ _ _ _ _ _ _ _ _ _ _ _ _ _ _ _ _ _ _ _ _ _ _ _ _ _ _ _ _ _ _ _ _  (HGL.out.below (btr HBW.out HB6.out)) (HA5.out.below HB6.out) (HB5.out.below HB6.out) (HCE.out.below HB6.out) _ ?_)
  intros
  rename_i w8 hb8
  have HF := Hd (btr HBW.out (btr HB6.out hb8))
  clear hb8
  go_wp2_with fail
  go_ret
  exact ⟨rfl, HF.out⟩
end Go.Proofs.YtjoljfnlkddfbaaGreatDoor
