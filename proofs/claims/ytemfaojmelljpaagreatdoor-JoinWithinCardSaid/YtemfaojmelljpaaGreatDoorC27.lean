/- JoinWithin inside. -/
import Derived.Test.YtemfaojmelljpaaGreatDoorC25
import Derived.Test.YtemfaojmelljpaaGreatDoorLawP
import Derived.Test.YtemfaojmelljpaaGreatDoorR11m
import Derived.Test.YtemfaojmelljpaaGreatDoorR11g
set_option linter.unusedSimpArgs false
set_option linter.unusedVariables false
set_option maxRecDepth 100000
set_option maxHeartbeats 16000000
namespace Go.Proofs.YtemfaojmelljpaaGreatDoor
open Go.RowKit Go.Maps Go.Sort Go.Shelf

theorem bad_plain {a b : CartD} (h : validC a = false ∨ validC b = false) : ((withinB a b == false) && (joinE a b == 2)) = true ∧ ((fitsB a b == false) && (joinE a b == 2)) = true := by
 unfold withinB fitsB joinE
 rcases h with h | h <;> rw [h] <;> simp
theorem within_plain {a b : CartD} (ha : validC a = true) (hb : validC b = true) :
  ((withinB a b == decide (refJoin a b = b)) && (joinE a b == 0)) = true ∧ ((withinB b a == decide (refJoin b a = a)) && (joinE b a == 0)) = true ∧ ((fitsB a b == fitsR a b) && (joinE a b == 0)) = true ∧ ((fitsB b a == fitsR a b) && (joinE b a == 0)) = true := by
 rw [withinB_true ha hb, withinB_true hb ha, (joinR_true ha hb).2, (joinR_true hb ha).2, fitsR_eq ha hb];have e : fitsP b a = fitsP a b := by
  rw [Bool.eq_iff_iff, fitsP_iff hb ha, fitsP_iff ha hb];exact ⟨FitsIs.symm, FitsIs.symm⟩
 unfold fitsB;rw [ha, hb, e]
 simp
theorem l11Within_any (a b : CartD) (xa1 xa2 xa3 xb1 xb2 xb3 : Value) (w : World) (ha : CartA w xa1 xa2 xa3 a) (hb : CartA w xb1 xb2 xb3 b) (hG : GlobIs w) :
  Calls Tryz.prog 5 #[.agg #[xa1, xa2, xa3], .agg #[xb1, xb2, xb3]] w fun e w' => e = .returned (.bool true) ∧ Below w.heap.size w w' := by
 obtain ⟨o1, n1, k1, o2, n2, k2, o3, n3, k3, rfl, rfl, rfl, hn1, hn2, hn3⟩ := opn ha;obtain ⟨o4, n4, k4, o5, n5, k5, o6, n6, k6, rfl, rfl, rfl, hn4, hn5, hn6⟩ := opn hb;obtain ⟨W1, HW, HB, HS, HK0, HK1⟩ := box2 w #[.slice o1 n1 k1, .slice o2 n2 k2, .slice o3 n3 k3] 28 #[.slice o4 n4 k4, .slice o5 n5 k5, .slice o6 n6 k6] 28;have HC := Hd (fun wz (hz : Below W1.heap.size W1 wz) => And.intro (cel3 (HK0.out wz hz)) (cel3 (HK1.out wz hz)))
 have hbb1 := HB.out;have HAa := Hd (ha.below hbb1);have HAb := Hd (hb.below hbb1);have HGL := Hd (hG.below hbb1);have HB0 : Hid (Below W1.heap.size W1 W1) := Hd brf;clear hbb1 ha hb hG hn1 hn2 hn3 hn4 hn5 hn6;obtain ⟨⟨c0_0_0, c0_0_1, c0_0_2⟩, ⟨c0_1_0, c0_1_1, c0_1_2⟩⟩ := HC.out W1 brf
 go_enter Tryz.func5, Tryz.ntmps5
 go_wp2_with fail
 rw [← HW.out];have HX := Hd (l11light_any a _ _ _ W1 (HAa.out.below HB0.out));obtain ⟨r1, hr1⟩ : ∃ r, r = lightC a := ⟨_, rfl⟩;rw [← hr1] at HX;have HRr1 := Hd hr1;clear hr1;refine HX.out.mono ?_;rintro e w1 ⟨rfl, hb⟩;clear HX;have HB1 := Hd (btr HB0.out hb);clear c0_0_0 c0_0_1 c0_0_2 c0_1_0 c0_1_1 c0_1_2;obtain ⟨⟨c1_0_0, c1_0_1, c1_0_2⟩, ⟨c1_1_0, c1_1_1, c1_1_2⟩⟩ := HC.out w1 HB1.out;clear hb
 cases r1 with
 | false =>
  have HX := Hd (l11known_any w1 (HGL.out.below HB1.out))
  go_wp2_with fail
  refine HX.out.mono ?_;rintro e wk ⟨rfl, hbk⟩;clear HX;have HBK := Hd (btr HB1.out hbk);clear hbk
  go_wp2_with fail
  go_ret
  exact ⟨rfl, HB.out.trans (HBK.out.mono HB.out.size)⟩
 | true =>
  have HLa := Hd (lightC_CL HRr1.out.symm);clear HRr1;have HX := Hd (l11light_any b _ _ _ w1 (HAb.out.below HB1.out));obtain ⟨r2, hr2⟩ : ∃ r, r = lightC b := ⟨_, rfl⟩;rw [← hr2] at HX;have HRr2 := Hd hr2;clear hr2
  go_wp2_with fail
  refine HX.out.mono ?_;rintro e w2 ⟨rfl, hb⟩;clear HX;have HB2 := Hd (btr HB1.out hb);clear c1_0_0 c1_0_1 c1_0_2 c1_1_0 c1_1_1 c1_1_2;obtain ⟨⟨c2_0_0, c2_0_1, c2_0_2⟩, ⟨c2_1_0, c2_1_1, c2_1_2⟩⟩ := HC.out w2 HB2.out;clear hb
  cases r2 with
  | false =>
   have HX := Hd (l11known_any w2 (HGL.out.below HB2.out))
   go_wp2_with fail
   refine HX.out.mono ?_;rintro e wk ⟨rfl, hbk⟩;clear HX;have HBK := Hd (btr HB2.out hbk);clear hbk
   go_wp2_with fail
   go_ret
   exact ⟨rfl, HB.out.trans (HBK.out.mono HB.out.size)⟩
  | true =>
   have HLb := Hd (lightC_CL HRr2.out.symm);clear HRr2;have HX := Hd (r10Valid_any a _ _ _ w2 (HAa.out.below HB2.out) (HLa.out.sz (by omega)).1)
   obtain ⟨v1, hv1⟩ : ∃ r, r = validC a := ⟨_, rfl⟩;rw [← hv1] at HX;have HRv1 := Hd hv1;clear hv1
   go_wp2_with fail
   refine HX.out.mono ?_;rintro e w3 ⟨rfl, hb⟩;clear HX;have HB3 := Hd (btr HB2.out hb);clear c2_0_0 c2_0_1 c2_0_2 c2_1_0 c2_1_1 c2_1_2;obtain ⟨⟨c3_0_0, c3_0_1, c3_0_2⟩, ⟨c3_1_0, c3_1_1, c3_1_2⟩⟩ := HC.out w3 HB3.out;clear hb
   cases v1 with
   | false =>
    have HBAD := Hd (bad_plain (a := a) (b := b) (by first | exact Or.inl HRv1.out.symm | exact Or.inr HRv2.out.symm))
    have HX := Hd (l11within_any a b false 2 _ _ _ _ _ _ w3 (HAa.out.below HB3.out) (HAb.out.below HB3.out) (HLa.out.sz (by omega)) (HLb.out.sz (by omega)) (HGL.out.below HB3.out))
    rw [HBAD.out.1] at HX
    go_wp2_with fail
    refine HX.out.mono ?_;rintro e w4 ⟨rfl, hb⟩;clear HX;have HB4 := Hd (btr HB3.out hb);clear c3_0_0 c3_0_1 c3_0_2 c3_1_0 c3_1_1 c3_1_2;obtain ⟨⟨c4_0_0, c4_0_1, c4_0_2⟩, ⟨c4_1_0, c4_1_1, c4_1_2⟩⟩ := HC.out w4 HB4.out;clear hb;have HX := Hd (l11fits_any a b false 2 _ _ _ _ _ _ w4 (HAa.out.below HB4.out) (HAb.out.below HB4.out) (HLa.out.sz (by omega)) (HLb.out.sz (by omega)) (HGL.out.below HB4.out))
    rw [HBAD.out.2] at HX
    go_wp2_with fail
    refine HX.out.mono ?_;rintro e w5 ⟨rfl, hb⟩;clear HX;have HB5 := Hd (btr HB4.out hb);clear c4_0_0 c4_0_1 c4_0_2 c4_1_0 c4_1_1 c4_1_2;obtain ⟨⟨c5_0_0, c5_0_1, c5_0_2⟩, ⟨c5_1_0, c5_1_1, c5_1_2⟩⟩ := HC.out w5 HB5.out;clear hb;have HX := Hd (l11known_any w5 (HGL.out.below HB5.out))
    go_wp2_with fail
    refine HX.out.mono ?_;rintro e wk ⟨rfl, hbk⟩;clear HX;have HBK := Hd (btr HB5.out hbk);clear hbk
    go_wp2_with fail
    go_ret
    exact ⟨rfl, HB.out.trans (HBK.out.mono HB.out.size)⟩
   | true =>
    have HX := Hd (r10Valid_any b _ _ _ w3 (HAb.out.below HB3.out) (HLb.out.sz (by omega)).1)
    obtain ⟨v2, hv2⟩ : ∃ r, r = validC b := ⟨_, rfl⟩;rw [← hv2] at HX;have HRv2 := Hd hv2;clear hv2
    go_wp2_with fail
    refine HX.out.mono ?_;rintro e w4 ⟨rfl, hb⟩;clear HX;have HB4 := Hd (btr HB3.out hb);clear c3_0_0 c3_0_1 c3_0_2 c3_1_0 c3_1_1 c3_1_2;obtain ⟨⟨c4_0_0, c4_0_1, c4_0_2⟩, ⟨c4_1_0, c4_1_1, c4_1_2⟩⟩ := HC.out w4 HB4.out;clear hb
    cases v2 with
    | false =>
     have HBAD := Hd (bad_plain (a := a) (b := b) (by first | exact Or.inl HRv1.out.symm | exact Or.inr HRv2.out.symm))
     have HX := Hd (l11within_any a b false 2 _ _ _ _ _ _ w4 (HAa.out.below HB4.out) (HAb.out.below HB4.out) (HLa.out.sz (by omega)) (HLb.out.sz (by omega)) (HGL.out.below HB4.out))
     rw [HBAD.out.1] at HX
     go_wp2_with fail
     refine HX.out.mono ?_;rintro e w5 ⟨rfl, hb⟩;clear HX;have HB5 := Hd (btr HB4.out hb);clear c4_0_0 c4_0_1 c4_0_2 c4_1_0 c4_1_1 c4_1_2;obtain ⟨⟨c5_0_0, c5_0_1, c5_0_2⟩, ⟨c5_1_0, c5_1_1, c5_1_2⟩⟩ := HC.out w5 HB5.out;clear hb;have HX := Hd (l11fits_any a b false 2 _ _ _ _ _ _ w5 (HAa.out.below HB5.out) (HAb.out.below HB5.out) (HLa.out.sz (by omega)) (HLb.out.sz (by omega)) (HGL.out.below HB5.out))
     rw [HBAD.out.2] at HX
     go_wp2_with fail
     refine HX.out.mono ?_;rintro e w6 ⟨rfl, hb⟩;clear HX;have HB6 := Hd (btr HB5.out hb);clear c5_0_0 c5_0_1 c5_0_2 c5_1_0 c5_1_1 c5_1_2;obtain ⟨⟨c6_0_0, c6_0_1, c6_0_2⟩, ⟨c6_1_0, c6_1_1, c6_1_2⟩⟩ := HC.out w6 HB6.out;clear hb;have HX := Hd (l11known_any w6 (HGL.out.below HB6.out))
     go_wp2_with fail
     refine HX.out.mono ?_;rintro e wk ⟨rfl, hbk⟩;clear HX;have HBK := Hd (btr HB6.out hbk);clear hbk
     go_wp2_with fail
     go_ret
     exact ⟨rfl, HB.out.trans (HBK.out.mono HB.out.size)⟩
    | true =>
     have HVa := Hd HRv1.out.symm;have HVb := Hd HRv2.out.symm;clear HRv1 HRv2;have HP := Hd (within_plain HVa.out HVb.out);obtain ⟨p, hp⟩ : ∃ p, p = decide (refJoin a b = b) := ⟨_, rfl⟩;obtain ⟨q, hq⟩ : ∃ q, q = decide (refJoin b a = a) := ⟨_, rfl⟩;obtain ⟨f, hf⟩ : ∃ f, f = fitsR a b := ⟨_, rfl⟩;rw [← hp, ← hq, ← hf] at HP;have HX1 : Hid (∀ wz, Below w4.heap.size w4 wz → Calls Tryz.prog 21 #[.agg #[.slice o1 n1 k1, .slice o2 n2 k2, .slice o3 n3 k3], .agg #[.slice o4 n4 k4, .slice o5 n5 k5, .slice o6 n6 k6]] wz fun e w' => e = .returned (.bool p) ∧ Below wz.heap.size wz w') := Hd (fun wz hz => by rw [hp]; exact r11Within_any a b _ _ _ _ _ _ wz (HAa.out.below (btr HB4.out hz)) (HAb.out.below (btr HB4.out hz)) HVa.out HVb.out (HLa.out.sz (by omega)) (HLb.out.sz (by omega)))
     have HX2 : Hid (∀ wz, Below w4.heap.size w4 wz → Calls Tryz.prog 19 #[.agg #[.slice o1 n1 k1, .slice o2 n2 k2, .slice o3 n3 k3], .agg #[.slice o4 n4 k4, .slice o5 n5 k5, .slice o6 n6 k6], .bool p, .int .i64 0] wz fun e w' => e = .returned (.bool true) ∧ Below wz.heap.size wz w') := Hd (fun wz hz => by have := l11within_any a b p 0 _ _ _ _ _ _ wz (HAa.out.below (btr HB4.out hz)) (HAb.out.below (btr HB4.out hz)) (HLa.out.sz (by omega)) (HLb.out.sz (by omega)) (HGL.out.below (btr HB4.out hz)); rw [HP.out.1] at this; exact this)
     have HX3 : Hid (∀ wz, Below w4.heap.size w4 wz → Calls Tryz.prog 21 #[.agg #[.slice o4 n4 k4, .slice o5 n5 k5, .slice o6 n6 k6], .agg #[.slice o1 n1 k1, .slice o2 n2 k2, .slice o3 n3 k3]] wz fun e w' => e = .returned (.bool q) ∧ Below wz.heap.size wz w') := Hd (fun wz hz => by rw [hq]; exact r11Within_any b a _ _ _ _ _ _ wz (HAb.out.below (btr HB4.out hz)) (HAa.out.below (btr HB4.out hz)) HVb.out HVa.out (HLb.out.sz (by omega)) (HLa.out.sz (by omega)))
     have HX4 : Hid (∀ wz, Below w4.heap.size w4 wz → Calls Tryz.prog 19 #[.agg #[.slice o4 n4 k4, .slice o5 n5 k5, .slice o6 n6 k6], .agg #[.slice o1 n1 k1, .slice o2 n2 k2, .slice o3 n3 k3], .bool q, .int .i64 0] wz fun e w' => e = .returned (.bool true) ∧ Below wz.heap.size wz w') := Hd (fun wz hz => by have := l11within_any b a q 0 _ _ _ _ _ _ wz (HAb.out.below (btr HB4.out hz)) (HAa.out.below (btr HB4.out hz)) (HLb.out.sz (by omega)) (HLa.out.sz (by omega)) (HGL.out.below (btr HB4.out hz)); rw [HP.out.2.1] at this; exact this)
     have HX5 : Hid (∀ wz, Below w4.heap.size w4 wz → Calls Tryz.prog 22 #[.agg #[.slice o1 n1 k1, .slice o2 n2 k2, .slice o3 n3 k3], .agg #[.slice o4 n4 k4, .slice o5 n5 k5, .slice o6 n6 k6]] wz fun e w' => e = .returned (.bool f) ∧ Below wz.heap.size wz w') := Hd (fun wz hz => by rw [hf]; exact r11Fits_any a b _ _ _ _ _ _ wz (HAa.out.below (btr HB4.out hz)) (HAb.out.below (btr HB4.out hz)) (HLa.out.sz (by omega)).1 (HLb.out.sz (by omega)).1)
     have HX6 : Hid (∀ wz, Below w4.heap.size w4 wz → Calls Tryz.prog 20 #[.agg #[.slice o1 n1 k1, .slice o2 n2 k2, .slice o3 n3 k3], .agg #[.slice o4 n4 k4, .slice o5 n5 k5, .slice o6 n6 k6], .bool f, .int .i64 0] wz fun e w' => e = .returned (.bool true) ∧ Below wz.heap.size wz w') := Hd (fun wz hz => by have := l11fits_any a b f 0 _ _ _ _ _ _ wz (HAa.out.below (btr HB4.out hz)) (HAb.out.below (btr HB4.out hz)) (HLa.out.sz (by omega)) (HLb.out.sz (by omega)) (HGL.out.below (btr HB4.out hz)); rw [HP.out.2.2.1] at this; exact this)
     have HX8 : Hid (∀ wz, Below w4.heap.size w4 wz → Calls Tryz.prog 20 #[.agg #[.slice o4 n4 k4, .slice o5 n5 k5, .slice o6 n6 k6], .agg #[.slice o1 n1 k1, .slice o2 n2 k2, .slice o3 n3 k3], .bool f, .int .i64 0] wz fun e w' => e = .returned (.bool true) ∧ Below wz.heap.size wz w') := Hd (fun wz hz => by have := l11fits_any b a f 0 _ _ _ _ _ _ wz (HAb.out.below (btr HB4.out hz)) (HAa.out.below (btr HB4.out hz)) (HLb.out.sz (by omega)) (HLa.out.sz (by omega)) (HGL.out.below (btr HB4.out hz)); rw [HP.out.2.2.2] at this; exact this)
     have HX9 : Hid (∀ wz, Below w4.heap.size w4 wz → Calls Tryz.prog 9 #[] wz fun e w' => e = .returned (.bool true) ∧ Below wz.heap.size wz w') := Hd (fun wz hz => l11known_any wz (HGL.out.below (btr HB4.out hz)))
     have HCW : Hid (∀ wz, Below w4.heap.size w4 wz → _) := Hd (fun wz hz => HC.out wz (btr HB4.out hz))
     clear HP hp hq hf c4_0_0 c4_0_1 c4_0_2 c4_1_0 c4_1_1 c4_1_2
     go_upto_region 5 with fail
     refine NQ.to ?_;refine wp_region_held_drew (S := (fun wz => Below w4.heap.size w4 wz)) (by kernel_rfl) (bdr) (fun hS => ?_)
     refine tkR (n := 4) [0, 1, 2, 3] rfl (by decide +kernel) hS ?_
     iterate 4 ((try simp only [Act.put, s1, s2, s3, s4, s5, s6]); refine ⟨_, ?_, rfl, Or.inl ⟨by kernel_rfl, fun w hSw => ok_of fun z hz => ?_⟩, ?_⟩; rotate_left; · (obtain ⟨⟨f0, f1, f2⟩, f3, f4, f5⟩ := HCW.out _ hSw; go_simp; exact hz))
     refine RunOK.done ?_
     try simp only [Act.put, s1, s2, s3, s4, s5, s6]
     refine rd1 4 (by decide +kernel) rfl (fun K hK => ?_)
     go_simp
     go_at_call 21
     refine (HX1.out _ bdr).mono ?_;rintro e wx0 ⟨rfl, hbn0⟩;have hbx0 := Below.trans (show Below w4.heap.size w4 _ from bdr) (hbn0.mono (show Below w4.heap.size w4 _ from bdr).size)
     go_simp;refine Shut.out hK _ _ (hbx0) (fun hS2 => ?_); clear hK K hS; have hS := hS2; clear hS2
     try simp only [Act.put, s1, s2, s3, s4, s5, s6]
     refine rd1 5 (by decide +kernel) rfl (fun K hK => ?_)
     go_simp
     go_at_call 19
     refine (HX2.out _ hbx0).mono ?_;rintro e wx1 ⟨rfl, hbn1⟩;have hbx1 := Below.trans (show Below w4.heap.size w4 _ from hbx0) (hbn1.mono (show Below w4.heap.size w4 _ from hbx0).size)
     go_simp;refine Shut.out hK _ _ (hbx1) (fun hS2 => ?_); clear hK K hS; have hS := hS2; clear hS2
     refine tkR (n := 5) [6, 7, 8, 9, 10] rfl (by decide +kernel) hS ?_
     iterate 5 ((try simp only [Act.put, s1, s2, s3, s4, s5, s6]); refine ⟨_, ?_, rfl, Or.inl ⟨by kernel_rfl, fun w hSw => ok_of fun z hz => ?_⟩, ?_⟩; rotate_left; · (obtain ⟨⟨f0, f1, f2⟩, f3, f4, f5⟩ := HCW.out _ hSw; go_simp; exact hz))
     refine RunOK.done ?_
     try simp only [Act.put, s1, s2, s3, s4, s5, s6]
     refine rd1 11 (by decide +kernel) rfl (fun K hK => ?_)
     go_simp
     go_at_call 21
     refine (HX3.out _ hbx1).mono ?_;rintro e wx2 ⟨rfl, hbn2⟩;have hbx2 := Below.trans (show Below w4.heap.size w4 _ from hbx1) (hbn2.mono (show Below w4.heap.size w4 _ from hbx1).size)
     go_simp;refine Shut.out hK _ _ (hbx2) (fun hS2 => ?_); clear hK K hS; have hS := hS2; clear hS2
     try simp only [Act.put, s1, s2, s3, s4, s5, s6]
     refine rd1 12 (by decide +kernel) rfl (fun K hK => ?_)
     go_simp
     go_at_call 19
     refine (HX4.out _ hbx2).mono ?_;rintro e wx3 ⟨rfl, hbn3⟩;have hbx3 := Below.trans (show Below w4.heap.size w4 _ from hbx2) (hbn3.mono (show Below w4.heap.size w4 _ from hbx2).size)
     go_simp;refine Shut.out hK _ _ (hbx3) (fun hS2 => ?_); clear hK K hS; have hS := hS2; clear hS2
     refine tkR (n := 6) [13, 14, 15, 16, 17, 18] rfl (by decide +kernel) hS ?_
     iterate 6 ((try simp only [Act.put, s1, s2, s3, s4, s5, s6]); refine ⟨_, ?_, rfl, Or.inl ⟨by kernel_rfl, fun w hSw => ok_of fun z hz => ?_⟩, ?_⟩; rotate_left; · (obtain ⟨⟨f0, f1, f2⟩, f3, f4, f5⟩ := HCW.out _ hSw; go_simp; exact hz))
     refine RunOK.done ?_
     try simp only [Act.put, s1, s2, s3, s4, s5, s6]
     refine rd1 19 (by decide +kernel) rfl (fun K hK => ?_)
     go_simp
     go_at_call 22
     refine (HX5.out _ hbx3).mono ?_;rintro e wx4 ⟨rfl, hbn4⟩;have hbx4 := Below.trans (show Below w4.heap.size w4 _ from hbx3) (hbn4.mono (show Below w4.heap.size w4 _ from hbx3).size)
     go_simp;refine Shut.out hK _ _ (hbx4) (fun hS2 => ?_); clear hK K hS; have hS := hS2; clear hS2
     try simp only [Act.put, s1, s2, s3, s4, s5, s6]
     refine rd1 20 (by decide +kernel) rfl (fun K hK => ?_)
     go_simp
     go_at_call 20
     refine (HX6.out _ hbx4).mono ?_;rintro e wx5 ⟨rfl, hbn5⟩;have hbx5 := Below.trans (show Below w4.heap.size w4 _ from hbx4) (hbn5.mono (show Below w4.heap.size w4 _ from hbx4).size)
     go_simp;refine Shut.out hK _ _ (hbx5) (fun hS2 => ?_); clear hK K hS; have hS := hS2; clear hS2
     refine tkR (n := 6) [21, 22, 23, 24, 25, 26] rfl (by decide +kernel) hS ?_
     iterate 6 ((try simp only [Act.put, s1, s2, s3, s4, s5, s6]); refine ⟨_, ?_, rfl, Or.inl ⟨by kernel_rfl, fun w hSw => ok_of fun z hz => ?_⟩, ?_⟩; rotate_left; · (obtain ⟨⟨f0, f1, f2⟩, f3, f4, f5⟩ := HCW.out _ hSw; go_simp; exact hz))
     refine RunOK.done ?_
     try simp only [Act.put, s1, s2, s3, s4, s5, s6]
     refine rd1 27 (by decide +kernel) rfl (fun K hK => ?_)
     go_simp
     go_at_call 22
     refine (HX5.out _ hbx5).mono ?_;rintro e wx6 ⟨rfl, hbn6⟩;have hbx6 := Below.trans (show Below w4.heap.size w4 _ from hbx5) (hbn6.mono (show Below w4.heap.size w4 _ from hbx5).size)
     go_simp;refine Shut.out hK _ _ (hbx6) (fun hS2 => ?_); clear hK K hS; have hS := hS2; clear hS2
     try simp only [Act.put, s1, s2, s3, s4, s5, s6]
     refine rd1 28 (by decide +kernel) rfl (fun K hK => ?_)
     go_simp
     go_at_call 20
     refine (HX8.out _ hbx6).mono ?_;rintro e wx7 ⟨rfl, hbn7⟩;have hbx7 := Below.trans (show Below w4.heap.size w4 _ from hbx6) (hbn7.mono (show Below w4.heap.size w4 _ from hbx6).size)
     go_simp;refine Shut.out hK _ _ (hbx7) (fun hS2 => ?_); clear hK K hS; have hS := hS2; clear hS2
     refine tkR (n := 2) [29, 30] rfl (by decide +kernel) hS ?_
     iterate 2 ((try simp only [Act.put, s1, s2, s3, s4, s5, s6]); refine ⟨_, ?_, rfl, Or.inl ⟨by kernel_rfl, fun w hSw => ok_of fun z hz => ?_⟩, ?_⟩; rotate_left; · (go_simp; exact hz))
     refine RunOK.done ?_
     try simp only [Act.put, s1, s2, s3, s4, s5, s6]
     refine rd1 31 (by decide +kernel) rfl (fun K hK => ?_)
     go_simp
     go_at_call 9
     refine (HX9.out _ hbx7).mono ?_;rintro e wx8 ⟨rfl, hbn8⟩;have hbx8 := Below.trans (show Below w4.heap.size w4 _ from hbx7) (hbn8.mono (show Below w4.heap.size w4 _ from hbx7).size)
     go_simp;refine Shut.out hK _ _ (hbx8) (fun hS2 => ?_); clear hK K hS; have hS := hS2; clear hS2
     refine tkR (n := 2) [32, 33] rfl (by decide +kernel) hS ?_
     iterate 2 ((try simp only [Act.put, s1, s2, s3, s4, s5, s6]); refine ⟨_, ?_, rfl, Or.inl ⟨by kernel_rfl, fun w hSw => ok_of fun z hz => ?_⟩, ?_⟩; rotate_left; · (go_simp; exact hz))
     refine RunOK.done ?_
     try simp only [Act.put, s1, s2, s3, s4, s5, s6]
     refine wpAnyH_done (by kernel_rfl) ?_ _
     try simp only [Act.put, s1, s2, s3, s4, s5, s6]
     simp only [NQ]
     go_wp2_with fail
     go_ret
     exact ⟨rfl, HB.out.trans ((btr HB4.out hbx8).mono HB.out.size)⟩
end Go.Proofs.YtemfaojmelljpaaGreatDoor
