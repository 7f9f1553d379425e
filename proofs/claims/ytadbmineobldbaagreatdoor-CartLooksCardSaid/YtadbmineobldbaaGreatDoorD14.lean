/- CartLooks inside. -/
import Derived.Test.YtadbmineobldbaaGreatDoorD9m
import Derived.Test.YtadbmineobldbaaGreatDoorD10
set_option linter.unusedSimpArgs false
set_option linter.unusedVariables false
set_option maxRecDepth 100000
set_option maxHeartbeats 16000000
namespace Go.Proofs.YtadbmineobldbaaGreatDoor
open Go.RowKit Go.Maps Go.Sort Go.Shelf
theorem bad_looks {c : CartD} (h : validC c = false) (nm : ByteArray) : (qtyC c nm = 0 ∧ qtyCE c nm = 2) ∧ namesV c = [] ∧ unitsC c = 0 ∧ dotsC c nm = [] ∧ (timeC c = 0 ∧ timeCE c = 2) := by
 unfold qtyC qtyCE namesV unitsC dotsC timeC timeCE
 simp [h]
set_option linter.unusedSimpArgs false in
set_option linter.unusedVariables false in
set_option maxRecDepth 100000 in
set_option maxHeartbeats 16000000 in
theorem l10Looks_any (c : CartD) (xc1 xc2 xc3 : Value) (nm : ByteArray) (w : World) (hc : CartA w xc1 xc2 xc3 c) (hG : GlobIs w) :
    Calls Tryz.prog 4 #[.agg #[xc1, xc2, xc3], .string nm] w fun e w' => e = .returned (.bool true) ∧ Below w.heap.size w w' := by
  obtain ⟨o1, k1, rfl⟩ := hc.1.slice;obtain ⟨o2, k2, rfl⟩ := hc.2.1.slice;obtain ⟨o3, k3, rfl⟩ := hc.2.2.slice;obtain ⟨n1, hn1⟩ : ∃ n, n = c.vec.length := ⟨_, rfl⟩;obtain ⟨n2, hn2⟩ : ∃ n, n = c.cloud.length := ⟨_, rfl⟩;obtain ⟨n3, hn3⟩ : ∃ n, n = c.items.length := ⟨_, rfl⟩;rw [← hn1, ← hn2, ← hn3] at hc;rw [← hn1, ← hn2, ← hn3];obtain ⟨W0, hW0⟩ : ∃ x, x = w.alloc (.cells #[.slice o1 n1 k1, .slice o2 n2 k2, .slice o3 n3 k3] 28) := ⟨_, rfl⟩;have hs0 : W0.heap.size = w.heap.size + 1 := by rw [hW0, alloc_size]
  have hst0 : Below w.heap.size w W0 := by rw [hW0]; exact (Below.refl _ _).alloc (Nat.le_refl _) _
  have hbb0 : Below w.heap.size w W0 := hst0;have hx0_0 : W0.heap[w.heap.size]? = some (.cells #[.slice o1 n1 k1, .slice o2 n2 k2, .slice o3 n3 k3] 28) := by rw [hW0]; exact alloc_new _ _
  have HC : Hid (∀ wz, Below W0.heap.size W0 wz → (wz.cell? ⟨w.heap.size, 0, none⟩ = some (.slice o1 n1 k1)) ∧ (wz.cell? ⟨w.heap.size, 1, none⟩ = some (.slice o2 n2 k2)) ∧ (wz.cell? ⟨w.heap.size, 2, none⟩ = some (.slice o3 n3 k3))) := Lib.hid (fun wz hz => by
    have z0 := (hz.block _ (lt_of_heap hx0_0)).trans hx0_0;exact ⟨by rw [cell0 z0 0]; rfl, by rw [cell0 z0 1]; rfl, by rw [cell0 z0 2]; rfl⟩)
  have HK0 : Hid (∀ wz, Below W0.heap.size W0 wz → wz.heap[w.heap.size]? = some (.cells #[.slice o1 n1 k1, .slice o2 n2 k2, .slice o3 n3 k3] 28)) := Lib.hid (fun wz hz => (hz.block _ (lt_of_heap hx0_0)).trans hx0_0)
  have HB := Lib.hid hbb0;have HS : Hid (W0.heap.size = w.heap.size + 1) := Lib.hid hs0;have HW : Hid (W0 = w.alloc (.cells #[.slice o1 n1 k1, .slice o2 n2 k2, .slice o3 n3 k3] 28)) := Lib.hid (by rw [hW0])
  have HAc := Lib.hid (hc.below hbb0);have HGL := Lib.hid (hG.below hbb0);have HB0 : Hid (Below W0.heap.size W0 W0) := Lib.hid (Below.refl _ _);clear hW0 hs0 hst0 hx0_0 hbb0 hc hG hn1 hn2 hn3;obtain ⟨c0_0_0, c0_0_1, c0_0_2⟩ := HC.out W0 (Below.refl _ _)
  go_enter Tryz.func4, Tryz.ntmps4
  go_wp2_with fail
  rw [← HW.out];have HX := Lib.hid (l10light_any c _ _ _ W0 (HAc.out.below HB0.out));obtain ⟨r1, hr1⟩ : ∃ r, r = lightC c := ⟨_, rfl⟩;rw [← hr1] at HX;have HRr1 := Lib.hid hr1;clear hr1;refine HX.out.mono ?_;rintro e w1 ⟨rfl, hb⟩;clear HX;have HB1 := Lib.hid (HB0.out.trans (hb.mono HB0.out.size));clear c0_0_0 c0_0_1 c0_0_2;obtain ⟨c1_0_0, c1_0_1, c1_0_2⟩ := HC.out w1 HB1.out;clear hb
  cases r1 with
  | false =>
    have HX := Lib.hid (l10known_any w1 (HGL.out.below HB1.out))
    go_wp2_with fail
    refine HX.out.mono ?_;rintro e wk ⟨rfl, hbk⟩;clear HX;have HBK := Lib.hid (HB1.out.trans (hbk.mono HB1.out.size));clear hbk
    go_wp2_with fail
    go_ret
    exact ⟨rfl, HB.out.trans (HBK.out.mono HB.out.size)⟩
  | true =>
    have HLc := Hd (lightC_CL HRr1.out.symm);clear HRr1
    by_cases h100 : 100 < nm.size
    ·have a0 : (100 : Int) < (nm.size : Int) := by omega
     clear h100;have HX := Lib.hid (l10known_any w1 (HGL.out.below HB1.out))
     go_wp2_with fail
     refine HX.out.mono ?_;rintro e wk ⟨rfl, hbk⟩;clear HX;have HBK := Lib.hid (HB1.out.trans (hbk.mono HB1.out.size));clear hbk
     go_wp2_with fail
     go_ret
     exact ⟨rfl, HB.out.trans (HBK.out.mono HB.out.size)⟩
    have a0 : ¬ ((100 : Int) < (nm.size : Int)) := by omega
    clear h100;have HX := Lib.hid (r10Valid_any c _ _ _ w1 (HAc.out.below HB1.out) (HLc.out.sz (by omega)).1)
    obtain ⟨rv, hrv⟩ : ∃ r, r = validC c := ⟨_, rfl⟩;rw [← hrv] at HX;have HRrv := Lib.hid hrv;clear hrv
    go_wp2_with fail
    refine HX.out.mono ?_;rintro e w2 ⟨rfl, hb⟩;clear HX;have HB2 := Lib.hid (HB1.out.trans (hb.mono HB1.out.size));clear c1_0_0 c1_0_1 c1_0_2;obtain ⟨c2_0_0, c2_0_1, c2_0_2⟩ := HC.out w2 HB2.out;clear hb
    cases rv with
    | false =>
      have HV := Hd (bad_looks HRrv.out.symm nm);have HV0 := Hd (bad_looks HRrv.out.symm ⟨#[]⟩);clear HRrv;have HX := Lib.hid (kHas c nm 0 2 _ _ _ w2 (HAc.out.below HB2.out) (HLc.out.sz (by omega)).1 (HGL.out.below HB2.out) HV.out.1)
      go_wp2_with fail
      refine HX.out.mono ?_;rintro e w3 ⟨rfl, hb⟩;clear HX;have HB3 := Lib.hid (HB2.out.trans (hb.mono HB2.out.size));clear c2_0_0 c2_0_1 c2_0_2;obtain ⟨c3_0_0, c3_0_1, c3_0_2⟩ := HC.out w3 HB3.out;clear hb;have HX := Lib.hid (cartNames_any c _ _ _ w3 (HAc.out.below HB3.out) (HLc.out.sz (by omega)).1 (HGL.out.below HB3.out))
      rw [HV.out.2.1] at HX
      go_wp2_with fail
      refine HX.out.mono ?_;rintro e w4 ⟨vr, rfl, hrow, hb⟩;clear HX;obtain ⟨oo, cc, rfl⟩ := hrow.slice;clear hrow;have HB4 := Lib.hid (HB3.out.trans (hb.mono HB3.out.size));clear c3_0_0 c3_0_1 c3_0_2;obtain ⟨c4_0_0, c4_0_1, c4_0_2⟩ := HC.out w4 HB4.out;clear hb;have HX := Lib.hid (cartUnits_any c _ _ _ w4 (HAc.out.below HB4.out) (HLc.out.sz (by omega)).1 (HGL.out.below HB4.out))
      rw [HV.out.2.2.1] at HX
      go_wp2_with fail
      refine HX.out.mono ?_;rintro e w5 ⟨rfl, hb⟩;clear HX;have HB5 := Lib.hid (HB4.out.trans (hb.mono HB4.out.size));clear c4_0_0 c4_0_1 c4_0_2;obtain ⟨c5_0_0, c5_0_1, c5_0_2⟩ := HC.out w5 HB5.out;clear hb;have HX := Lib.hid (cartDots_any c nm _ _ _ w5 (HAc.out.below HB5.out) (HLc.out.sz (by omega)).1 (HGL.out.below HB5.out))
      rw [HV.out.2.2.2.1] at HX
      go_wp2_with fail
      refine HX.out.mono ?_;rintro e w6 ⟨vr, rfl, hrow, hb⟩;clear HX;obtain ⟨oo, cc, rfl⟩ := hrow.slice;clear hrow;have HB6 := Lib.hid (HB5.out.trans (hb.mono HB5.out.size));clear c5_0_0 c5_0_1 c5_0_2;obtain ⟨c6_0_0, c6_0_1, c6_0_2⟩ := HC.out w6 HB6.out;clear hb;have HX := Lib.hid (cartDots_any c ⟨#[]⟩ _ _ _ w6 (HAc.out.below HB6.out) (HLc.out.sz (by omega)).1 (HGL.out.below HB6.out))
      rw [HV0.out.2.2.2.1] at HX
      go_wp2_with fail
      refine HX.out.mono ?_;rintro e w7 ⟨vr, rfl, hrow, hb⟩;clear HX;obtain ⟨oo, cc, rfl⟩ := hrow.slice;clear hrow;have HB7 := Lib.hid (HB6.out.trans (hb.mono HB6.out.size));clear c6_0_0 c6_0_1 c6_0_2;obtain ⟨c7_0_0, c7_0_1, c7_0_2⟩ := HC.out w7 HB7.out;clear hb;have HX := Lib.hid (kTime c 0 2 _ _ _ w7 (HAc.out.below HB7.out) (HLc.out.sz (by omega)).1 (HGL.out.below HB7.out) HV.out.2.2.2.2)
      go_wp2_with fail
      refine HX.out.mono ?_;rintro e w8 ⟨rfl, hb⟩;clear HX;have HB8 := Lib.hid (HB7.out.trans (hb.mono HB7.out.size));clear c7_0_0 c7_0_1 c7_0_2;obtain ⟨c8_0_0, c8_0_1, c8_0_2⟩ := HC.out w8 HB8.out;clear hb;have HX := Lib.hid (l10known_any w8 (HGL.out.below HB8.out))
      go_wp2_with fail
      refine HX.out.mono ?_;rintro e wk ⟨rfl, hbk⟩;clear HX;have HBK := Lib.hid (HB8.out.trans (hbk.mono HB8.out.size));clear hbk
      go_wp2_with fail
      go_ret
      exact ⟨rfl, HB.out.trans (HBK.out.mono HB.out.size)⟩
    | true =>
      have HV := Hd HRrv.out.symm;clear HRrv;have HX := Lib.hid (r10Qty_any c nm _ _ _ w2 (HAc.out.below HB2.out) HV.out)
      go_wp2_with fail
      refine HX.out.mono ?_;rintro e w3 ⟨rfl, hb⟩;clear HX;have HB3 := Lib.hid (HB2.out.trans (hb.mono HB2.out.size));clear c2_0_0 c2_0_1 c2_0_2;obtain ⟨c3_0_0, c3_0_1, c3_0_2⟩ := HC.out w3 HB3.out;clear hb;have HX := Lib.hid (r10Time_any c _ _ _ w3 (HAc.out.below HB3.out) (HLc.out.sz (by omega)).1 HV.out)
      go_wp2_with fail
      refine HX.out.mono ?_;rintro e w4 ⟨rfl, hb⟩;clear HX;have HB4 := Lib.hid (HB3.out.trans (hb.mono HB3.out.size));clear c3_0_0 c3_0_1 c3_0_2;obtain ⟨c4_0_0, c4_0_1, c4_0_2⟩ := HC.out w4 HB4.out;clear hb;have HA1 := Hd (fun wz (hz : Below w4.heap.size w4 wz) => (HAc.out.below HB4.out).below hz)
      have HGR := Hd (fun wz (hz : Below w4.heap.size w4 wz) => (HGL.out.below HB4.out).below hz)
      have HCR := Hd (fun wz (hz : Below w4.heap.size w4 wz) => HC.out wz (HB4.out.trans (hz.mono HB4.out.size)))
      have HNM : Hid (namesV c = namesC c) := Hd (by unfold namesV; rw [HV.out]; rfl)
      have hit : c.items.length ≤ 80 := HLc.out.2.1;have HIT := Hd hit;clear hit
      go_upto_region 7 with fail
      refine NQ.to ?_;refine wp_region_held_drew (S := (fun wz => Below w4.heap.size w4 wz)) (by kernel_rfl) (bdr) (fun hS => ?_)
      try simp only [Act.put, s1, s2, s3, List.getElem_toArray, List.getElem_cons_succ, List.getElem_cons_zero]
      refine tkN (i := 0) (v := ?v1) rfl (by decide +kernel) (Or.inl ⟨by kernel_rfl, fun w hSw => ok_of fun z hz => ?h1⟩) hS ?_; (case h1 => (obtain ⟨f0, f1, f2⟩ := HCR.out _ hSw; go_simp; exact hz))
      try simp only [Act.put, s1, s2, s3, List.getElem_toArray, List.getElem_cons_succ, List.getElem_cons_zero]
      refine tkN (i := 1) (v := ?v2) rfl (by decide +kernel) (Or.inl ⟨by kernel_rfl, fun w hSw => ok_of fun z hz => ?h2⟩) hS ?_; (case h2 => (go_simp; exact hz))
      try simp only [Act.put, s1, s2, s3, List.getElem_toArray, List.getElem_cons_succ, List.getElem_cons_zero]
      refine tkN (i := 2) (v := ?v3) rfl (by decide +kernel) (Or.inl ⟨by kernel_rfl, fun w hSw => ok_of fun z hz => ?h3⟩) hS ?_; (case h3 => (go_simp; exact hz))
      try simp only [Act.put, s1, s2, s3, List.getElem_toArray, List.getElem_cons_succ, List.getElem_cons_zero]
      refine tkN (i := 3) (v := ?v4) rfl (by decide +kernel) (Or.inl ⟨by kernel_rfl, fun w hSw => ok_of fun z hz => ?h4⟩) hS ?_; (case h4 => (go_simp; exact hz))
      try simp only [Act.put, s1, s2, s3, List.getElem_toArray, List.getElem_cons_succ, List.getElem_cons_zero]
      refine wpAnyH_ready (rs := [4]) (by decide +kernel) (by simp) ?_
      refine (AllReadyH.cons rfl (fun K hK => ?_) AllReadyH.nil)
      go_simp
      go_at_call 17
      refine (kHas c nm _ _ _ _ _ _ (HA1.out _ (show Below w4.heap.size w4 w4.drew from bdr)) (HLc.out.sz (by omega)).1 (HGR.out _ (show Below w4.heap.size w4 w4.drew from bdr)) ⟨rfl, rfl⟩).mono ?_
      rintro e x1 ⟨rfl, hx1⟩;have hx1 := btr (show Below w4.heap.size w4 w4.drew from bdr) hx1
      go_simp;refine Shut.out hK _ _ (hx1) (fun hS2 => ?_)
      clear hK K hS;have hS := hS2;clear hS2
      try simp only [Act.put, s1, s2, s3, List.getElem_toArray, List.getElem_cons_succ, List.getElem_cons_zero]
      refine tkN (i := 5) (v := ?v5) rfl (by decide +kernel) (Or.inl ⟨by kernel_rfl, fun w hSw => ok_of fun z hz => ?h5⟩) hS ?_; (case h5 => (go_simp; exact hz))
      try simp only [Act.put, s1, s2, s3, List.getElem_toArray, List.getElem_cons_succ, List.getElem_cons_zero]
      refine tkN (i := 6) (v := ?v6) rfl (by decide +kernel) (Or.inl ⟨by kernel_rfl, fun w hSw => ok_of fun z hz => ?h6⟩) hS ?_; (case h6 => (go_simp; exact hz))
      try simp only [Act.put, s1, s2, s3, List.getElem_toArray, List.getElem_cons_succ, List.getElem_cons_zero]
      refine tkN (i := 7) (v := ?v7) rfl (by decide +kernel) (Or.inl ⟨by kernel_rfl, fun w hSw => ok_of fun z hz => ?h7⟩) hS ?_; (case h7 => (obtain ⟨f0, f1, f2⟩ := HCR.out _ hSw; go_simp; exact hz))
      try simp only [Act.put, s1, s2, s3, List.getElem_toArray, List.getElem_cons_succ, List.getElem_cons_zero]
      refine tkN (i := 8) (v := ?v8) rfl (by decide +kernel) (Or.inl ⟨by kernel_rfl, fun w hSw => ok_of fun z hz => ?h8⟩) hS ?_; (case h8 => (go_simp; exact hz))
      try simp only [Act.put, s1, s2, s3, List.getElem_toArray, List.getElem_cons_succ, List.getElem_cons_zero]
      refine tkN (i := 9) (v := ?v9) rfl (by decide +kernel) (Or.inl ⟨by kernel_rfl, fun w hSw => ok_of fun z hz => ?h9⟩) hS ?_; (case h9 => (go_simp; exact hz))
      try simp only [Act.put, s1, s2, s3, List.getElem_toArray, List.getElem_cons_succ, List.getElem_cons_zero]
      refine wpAnyH_ready (rs := [10]) (by decide +kernel) (by simp) ?_
      refine (AllReadyH.cons rfl (fun K hK => ?_) AllReadyH.nil)
      go_simp
      go_at_call 21
      refine (kTime c _ _ _ _ _ x1 (HA1.out _ hx1) (HLc.out.sz (by omega)).1 (HGR.out _ hx1) ⟨rfl, rfl⟩).mono ?_
      rintro e x2 ⟨rfl, hx2⟩;have hx2 := btr hx1 hx2;go_simp;refine Shut.out hK _ _ (hx2) (fun hS2 => ?_)
      clear hK K hS;have hS := hS2;clear hS2
      try simp only [Act.put, s1, s2, s3, List.getElem_toArray, List.getElem_cons_succ, List.getElem_cons_zero]
      refine tkN (i := 11) (v := ?v10) rfl (by decide +kernel) (Or.inl ⟨by kernel_rfl, fun w hSw => ok_of fun z hz => ?h10⟩) hS ?_; (case h10 => (go_simp; exact hz))
      try simp only [Act.put, s1, s2, s3, List.getElem_toArray, List.getElem_cons_succ, List.getElem_cons_zero]
      refine tkN (i := 12) (v := ?v11) rfl (by decide +kernel) (Or.inl ⟨by kernel_rfl, fun w hSw => ok_of fun z hz => ?h11⟩) hS ?_; (case h11 => (go_simp; exact hz))
      try simp only [Act.put, s1, s2, s3, List.getElem_toArray, List.getElem_cons_succ, List.getElem_cons_zero]
      refine tkN (i := 13) (v := ?v12) rfl (by decide +kernel) (Or.inl ⟨by kernel_rfl, fun w hSw => ok_of fun z hz => ?h12⟩) hS ?_; (case h12 => (go_simp; exact hz))
      try simp only [Act.put, s1, s2, s3, List.getElem_toArray, List.getElem_cons_succ, List.getElem_cons_zero]
      refine tkN (i := 14) (v := ?v13) rfl (by decide +kernel) (Or.inl ⟨by kernel_rfl, fun w hSw => ok_of fun z hz => ?h13⟩) hS ?_; (case h13 => (obtain ⟨f0, f1, f2⟩ := HCR.out _ hSw; go_simp; exact hz))
      try simp only [Act.put, s1, s2, s3, List.getElem_toArray, List.getElem_cons_succ, List.getElem_cons_zero]
      refine tkN (i := 16) (v := ?v14) rfl (by decide +kernel) (Or.inl ⟨by kernel_rfl, fun w hSw => ok_of fun z hz => ?h14⟩) hS ?_; (case h14 => (obtain ⟨f0, f1, f2⟩ := HCR.out _ hSw; go_simp; exact hz))
      try simp only [Act.put, s1, s2, s3, List.getElem_toArray, List.getElem_cons_succ, List.getElem_cons_zero]
      refine wpAnyH_ready (rs := [15]) (by decide +kernel) (by simp) ?_
      refine (AllReadyH.cons rfl (fun K hK => ?_) AllReadyH.nil)
      go_simp
      go_at_call 18
      refine (cartNames_any c _ _ _ x2 (HA1.out _ hx2) (HLc.out.sz (by omega)).1 (HGR.out _ hx2)).mono ?_
      rintro e x3 ⟨vn, rfl, hrn, hx3⟩;have hx3 := btr hx2 hx3;have hsn := StrS.of_row hrn;rw [HNM.out] at hsn hrn;obtain ⟨on, cn, rfl⟩ := hrn.slice;clear hrn;go_simp;refine Shut.out hK _ _ (hx3) (fun hS2 => ?_)
      clear hK K hS;have hS := hS2;clear hS2
      try simp only [Act.put, s1, s2, s3, List.getElem_toArray, List.getElem_cons_succ, List.getElem_cons_zero]
      refine wpAnyH_ready (rs := [17]) (by decide +kernel) (by simp) ?_
      refine (AllReadyH.cons rfl (fun K hK => ?_) AllReadyH.nil)
      go_simp
      go_at_call 25
      refine (r10Names_any c _ _ _ x3 (HA1.out _ hx3) (by have := HIT.out; omega)).mono ?_
      rintro e x4 ⟨vm, rfl, hrm, h4⟩;have hx4 := btr hx3 h4;have hsn := hsn.below h4;have hsm := StrS.of_row hrm;obtain ⟨om, cm, rfl⟩ := hrm.slice;clear hrm h4;go_simp;refine Shut.out hK _ _ (hx4) (fun hS2 => ?_)
      clear hK K hS;have hS := hS2;clear hS2
      try simp only [Act.put, s1, s2, s3, List.getElem_toArray, List.getElem_cons_succ, List.getElem_cons_zero]
      refine wpAnyH_ready (rs := [18]) (by decide +kernel) (by simp) ?_
      refine (AllReadyH.cons rfl (fun K hK => ?_) AllReadyH.nil)
      go_simp
      go_at_call 24
      have HEE := r7Same_any _ _ _ _ x4 hsn hsm;rw [decide_eq_true rfl] at HEE;refine HEE.mono ?_;rintro e x5 ⟨rfl, hx5⟩;have hx5 := btr hx4 hx5;clear HEE hsn hsm;go_simp;refine Shut.out hK _ _ (hx5) (fun hS2 => ?_)
      clear hK K hS;have hS := hS2;clear hS2
      try simp only [Act.put, s1, s2, s3, List.getElem_toArray, List.getElem_cons_succ, List.getElem_cons_zero]
      refine tkN (i := 19) (v := ?v15) rfl (by decide +kernel) (Or.inl ⟨by kernel_rfl, fun w hSw => ok_of fun z hz => ?h15⟩) hS ?_; (case h15 => (go_simp; exact hz))
      try simp only [Act.put, s1, s2, s3, List.getElem_toArray, List.getElem_cons_succ, List.getElem_cons_zero]
      refine tkN (i := 20) (v := ?v16) rfl (by decide +kernel) (Or.inl ⟨by kernel_rfl, fun w hSw => ok_of fun z hz => ?h16⟩) hS ?_; (case h16 => (go_simp; exact hz))
      try simp only [Act.put, s1, s2, s3, List.getElem_toArray, List.getElem_cons_succ, List.getElem_cons_zero]
      refine tkN (i := 21) (v := ?v17) rfl (by decide +kernel) (Or.inl ⟨by kernel_rfl, fun w hSw => ok_of fun z hz => ?h17⟩) hS ?_; (case h17 => (go_simp; exact hz))
      try simp only [Act.put, s1, s2, s3, List.getElem_toArray, List.getElem_cons_succ, List.getElem_cons_zero]
      refine tkN (i := 22) (v := ?v18) rfl (by decide +kernel) (Or.inl ⟨by kernel_rfl, fun w hSw => ok_of fun z hz => ?h18⟩) hS ?_; (case h18 => (obtain ⟨f0, f1, f2⟩ := HCR.out _ hSw; go_simp; exact hz))
      try simp only [Act.put, s1, s2, s3, List.getElem_toArray, List.getElem_cons_succ, List.getElem_cons_zero]
      refine tkN (i := 24) (v := ?v19) rfl (by decide +kernel) (Or.inl ⟨by kernel_rfl, fun w hSw => ok_of fun z hz => ?h19⟩) hS ?_; (case h19 => (obtain ⟨f0, f1, f2⟩ := HCR.out _ hSw; go_simp; exact hz))
      try simp only [Act.put, s1, s2, s3, List.getElem_toArray, List.getElem_cons_succ, List.getElem_cons_zero]
      refine wpAnyH_ready (rs := [23]) (by decide +kernel) (by simp) ?_
      refine (AllReadyH.cons rfl (fun K hK => ?_) AllReadyH.nil)
      go_simp
      go_at_call 19
      refine (cartUnits_any c _ _ _ x5 (HA1.out _ hx5) (HLc.out.sz (by omega)).1 (HGR.out _ hx5)).mono ?_
      rintro e x6 ⟨rfl, hx6⟩;have hx6 := btr hx5 hx6;go_simp;refine Shut.out hK _ _ (hx6) (fun hS2 => ?_)
      clear hK K hS;have hS := hS2;clear hS2
      try simp only [Act.put, s1, s2, s3, List.getElem_toArray, List.getElem_cons_succ, List.getElem_cons_zero]
      refine wpAnyH_ready (rs := [25]) (by decide +kernel) (by simp) ?_
      refine (AllReadyH.cons rfl (fun K hK => ?_) AllReadyH.nil)
      go_simp
      go_at_call 26
      refine (r10Units_any c _ _ _ x6 (HA1.out _ hx6) (HLc.out.sz (by omega)).1 HV.out).mono ?_
      rintro e x7 ⟨rfl, hx7⟩;have hx7 := btr hx6 hx7;go_simp;refine Shut.out hK _ _ (hx7) (fun hS2 => ?_)
      clear hK K hS;have hS := hS2;clear hS2
      try simp only [Act.put, s1, s2, s3, List.getElem_toArray, List.getElem_cons_succ, List.getElem_cons_zero]
      refine tkN (i := 26) (v := ?v20) rfl (by decide +kernel) (Or.inl ⟨by kernel_rfl, fun w hSw => ok_of fun z hz => ?h20⟩) hS ?_; (case h20 => (go_simp; exact hz))
      try simp only [Act.put, s1, s2, s3, List.getElem_toArray, List.getElem_cons_succ, List.getElem_cons_zero]
      refine tkN (i := 27) (v := ?v21) rfl (by decide +kernel) (Or.inl ⟨by kernel_rfl, fun w hSw => ok_of fun z hz => ?h21⟩) hS ?_; (case h21 => (go_simp; exact hz))
      try simp only [Act.put, s1, s2, s3, List.getElem_toArray, List.getElem_cons_succ, List.getElem_cons_zero]
      refine wpAnyH_done (by kernel_rfl) ?_ _
      try simp only [Act.put, s1, s2, s3, List.getElem_toArray, List.getElem_cons_succ, List.getElem_cons_zero]
      simp only [NQ];clear hS hx1 hx2 hx3 hx4 hx5 hx6;have HB5 := Lib.hid (HB4.out.trans (hx7.mono HB4.out.size));clear c4_0_0 c4_0_1 c4_0_2;obtain ⟨c5_0_0, c5_0_1, c5_0_2⟩ := HC.out x7 HB5.out;clear hx7 HA1 HGR HCR HNM;have HA1 := Hd (fun wz (hz : Below x7.heap.size x7 wz) => (HAc.out.below HB5.out).below hz)
      have HGR := Hd (fun wz (hz : Below x7.heap.size x7 wz) => (HGL.out.below HB5.out).below hz)
      have HCR := Hd (fun wz (hz : Below x7.heap.size x7 wz) => HC.out wz (HB5.out.trans (hz.mono HB5.out.size)))
      go_upto_region 9 with fail
      refine NQ.to ?_;refine wp_region_held_drew (S := (fun wz => Below x7.heap.size x7 wz)) (by kernel_rfl) (bdr) (fun hS => ?_)
      try simp only [Act.put, s1, s2, s3, List.getElem_toArray, List.getElem_cons_succ, List.getElem_cons_zero]
      refine tkN (i := 0) (v := ?v22) rfl (by decide +kernel) (Or.inl ⟨by kernel_rfl, fun w hSw => ok_of fun z hz => ?h22⟩) hS ?_; (case h22 => (obtain ⟨f0, f1, f2⟩ := HCR.out _ hSw; go_simp; exact hz))
      try simp only [Act.put, s1, s2, s3, List.getElem_toArray, List.getElem_cons_succ, List.getElem_cons_zero]
      refine tkN (i := 1) (v := ?v23) rfl (by decide +kernel) (Or.inl ⟨by kernel_rfl, fun w hSw => ok_of fun z hz => ?h23⟩) hS ?_; (case h23 => (go_simp; exact hz))
      try simp only [Act.put, s1, s2, s3, List.getElem_toArray, List.getElem_cons_succ, List.getElem_cons_zero]
      refine tkN (i := 3) (v := ?v24) rfl (by decide +kernel) (Or.inl ⟨by kernel_rfl, fun w hSw => ok_of fun z hz => ?h24⟩) hS ?_; (case h24 => (obtain ⟨f0, f1, f2⟩ := HCR.out _ hSw; go_simp; exact hz))
      try simp only [Act.put, s1, s2, s3, List.getElem_toArray, List.getElem_cons_succ, List.getElem_cons_zero]
      refine tkN (i := 4) (v := ?v25) rfl (by decide +kernel) (Or.inl ⟨by kernel_rfl, fun w hSw => ok_of fun z hz => ?h25⟩) hS ?_; (case h25 => (go_simp; exact hz))
      try simp only [Act.put, s1, s2, s3, List.getElem_toArray, List.getElem_cons_succ, List.getElem_cons_zero]
      refine wpAnyH_ready (rs := [2]) (by decide +kernel) (by simp) ?_
      refine (AllReadyH.cons rfl (fun K hK => ?_) AllReadyH.nil)
      go_simp
      go_at_call 20
      refine (cartDots_any c nm _ _ _ _ (HA1.out _ (show Below x7.heap.size x7 x7.drew from bdr)) (HLc.out.sz (by omega)).1 (HGR.out _ (show Below x7.heap.size x7 x7.drew from bdr))).mono ?_
      rintro e y1 ⟨vd, rfl, hrd, hy1⟩;have hy1 := btr (show Below x7.heap.size x7 x7.drew from bdr) hy1
      have hd1 := hrd.dots (dotsC_DI (HA1.out _ hy1) nm);obtain ⟨od1, cd1, rfl⟩ := hrd.slice;clear hrd;go_simp;refine Shut.out hK _ _ (hy1) (fun hS2 => ?_)
      clear hK K hS;have hS := hS2;clear hS2
      try simp only [Act.put, s1, s2, s3, List.getElem_toArray, List.getElem_cons_succ, List.getElem_cons_zero]
      refine wpAnyH_ready (rs := [5]) (by decide +kernel) (by simp) ?_
      refine (AllReadyH.cons rfl (fun K hK => ?_) AllReadyH.nil)
      go_simp
      go_at_call 28
      refine (r10Dots_any c nm _ _ _ _ (HA1.out _ hy1) (HLc.out.sz (by omega)).1 HV.out).mono ?_
      rintro e y2 ⟨vd, rfl, hd2, h0⟩;have hy2 := btr hy1 h0;have hd1 := hd1.dots h0;obtain ⟨od2, cd2, rfl⟩ := hd2.slice;clear h0;go_simp;refine Shut.out hK _ _ (hy2) (fun hS2 => ?_)
      clear hK K hS;have hS := hS2;clear hS2
      try simp only [Act.put, s1, s2, s3, List.getElem_toArray, List.getElem_cons_succ, List.getElem_cons_zero]
      refine wpAnyH_ready (rs := [6]) (by decide +kernel) (by simp) ?_
      refine (AllReadyH.cons rfl (fun K hK => ?_) AllReadyH.nil)
      go_simp
      go_at_call 27
      have HEE := r1Same_any _ _ _ _ _ hd1 hd2;rw [decide_eq_true rfl] at HEE;refine HEE.mono ?_;rintro e y3 ⟨rfl, hy3⟩;have hy3 := btr hy2 hy3;clear HEE hd1 hd2;go_simp;refine Shut.out hK _ _ (hy3) (fun hS2 => ?_)
      clear hK K hS;have hS := hS2;clear hS2
      try simp only [Act.put, s1, s2, s3, List.getElem_toArray, List.getElem_cons_succ, List.getElem_cons_zero]
      refine tkN (i := 7) (v := ?v26) rfl (by decide +kernel) (Or.inl ⟨by kernel_rfl, fun w hSw => ok_of fun z hz => ?h26⟩) hS ?_; (case h26 => (go_simp; exact hz))
      try simp only [Act.put, s1, s2, s3, List.getElem_toArray, List.getElem_cons_succ, List.getElem_cons_zero]
      refine tkN (i := 8) (v := ?v27) rfl (by decide +kernel) (Or.inl ⟨by kernel_rfl, fun w hSw => ok_of fun z hz => ?h27⟩) hS ?_; (case h27 => (obtain ⟨f0, f1, f2⟩ := HCR.out _ hSw; go_simp; exact hz))
      try simp only [Act.put, s1, s2, s3, List.getElem_toArray, List.getElem_cons_succ, List.getElem_cons_zero]
      refine tkN (i := 10) (v := ?v28) rfl (by decide +kernel) (Or.inl ⟨by kernel_rfl, fun w hSw => ok_of fun z hz => ?h28⟩) hS ?_; (case h28 => (obtain ⟨f0, f1, f2⟩ := HCR.out _ hSw; go_simp; exact hz))
      try simp only [Act.put, s1, s2, s3, List.getElem_toArray, List.getElem_cons_succ, List.getElem_cons_zero]
      refine wpAnyH_ready (rs := [9]) (by decide +kernel) (by simp) ?_
      refine (AllReadyH.cons rfl (fun K hK => ?_) AllReadyH.nil)
      go_simp
      go_at_call 20
      refine (cartDots_any c ⟨#[]⟩ _ _ _ _ (HA1.out _ hy3) (HLc.out.sz (by omega)).1 (HGR.out _ hy3)).mono ?_
      rintro e y4 ⟨vd, rfl, hrd, hy4⟩;have hy4 := btr hy3 hy4;have hd1 := hrd.dots (dotsC_DI (HA1.out _ hy4) ⟨#[]⟩);obtain ⟨od4, cd4, rfl⟩ := hrd.slice;clear hrd;go_simp;refine Shut.out hK _ _ (hy4) (fun hS2 => ?_)
      clear hK K hS;have hS := hS2;clear hS2
      try simp only [Act.put, s1, s2, s3, List.getElem_toArray, List.getElem_cons_succ, List.getElem_cons_zero]
      refine wpAnyH_ready (rs := [11]) (by decide +kernel) (by simp) ?_
      refine (AllReadyH.cons rfl (fun K hK => ?_) AllReadyH.nil)
      go_simp
      go_at_call 28
      refine (r10Dots_any c ⟨#[]⟩ _ _ _ _ (HA1.out _ hy4) (HLc.out.sz (by omega)).1 HV.out).mono ?_
      rintro e y5 ⟨vd, rfl, hd2, h0⟩;have hy5 := btr hy4 h0;have hd1 := hd1.dots h0;obtain ⟨od5, cd5, rfl⟩ := hd2.slice;clear h0;go_simp;refine Shut.out hK _ _ (hy5) (fun hS2 => ?_)
      clear hK K hS;have hS := hS2;clear hS2
      try simp only [Act.put, s1, s2, s3, List.getElem_toArray, List.getElem_cons_succ, List.getElem_cons_zero]
      refine wpAnyH_ready (rs := [12]) (by decide +kernel) (by simp) ?_
      refine (AllReadyH.cons rfl (fun K hK => ?_) AllReadyH.nil)
      go_simp
      go_at_call 27
      have HEE := r1Same_any _ _ _ _ _ hd1 hd2;rw [decide_eq_true rfl] at HEE;refine HEE.mono ?_;rintro e y6 ⟨rfl, hy6⟩;have hy6 := btr hy5 hy6;clear HEE hd1 hd2;go_simp;refine Shut.out hK _ _ (hy6) (fun hS2 => ?_)
      clear hK K hS;have hS := hS2;clear hS2
      try simp only [Act.put, s1, s2, s3, List.getElem_toArray, List.getElem_cons_succ, List.getElem_cons_zero]
      refine tkN (i := 13) (v := ?v29) rfl (by decide +kernel) (Or.inl ⟨by kernel_rfl, fun w hSw => ok_of fun z hz => ?h29⟩) hS ?_; (case h29 => (go_simp; exact hz))
      try simp only [Act.put, s1, s2, s3, List.getElem_toArray, List.getElem_cons_succ, List.getElem_cons_zero]
      refine tkN (i := 14) (v := ?v30) rfl (by decide +kernel) (Or.inl ⟨by kernel_rfl, fun w hSw => ok_of fun z hz => ?h30⟩) hS ?_; (case h30 => (go_simp; exact hz))
      try simp only [Act.put, s1, s2, s3, List.getElem_toArray, List.getElem_cons_succ, List.getElem_cons_zero]
      refine wpAnyH_ready (rs := [15]) (by decide +kernel) (by simp) ?_
      refine (AllReadyH.cons rfl (fun K hK => ?_) AllReadyH.nil)
      go_simp
      go_at_call 9
      refine (l10known_any y6 (HGR.out _ hy6)).mono ?_;rintro e y7 ⟨rfl, hy7⟩;have hy7 := btr hy6 hy7;go_simp;refine Shut.out hK _ _ (hy7) (fun hS2 => ?_)
      clear hK K hS;have hS := hS2;clear hS2
      try simp only [Act.put, s1, s2, s3, List.getElem_toArray, List.getElem_cons_succ, List.getElem_cons_zero]
      refine tkN (i := 16) (v := ?v31) rfl (by decide +kernel) (Or.inl ⟨by kernel_rfl, fun w hSw => ok_of fun z hz => ?h31⟩) hS ?_; (case h31 => (go_simp; exact hz))
      try simp only [Act.put, s1, s2, s3, List.getElem_toArray, List.getElem_cons_succ, List.getElem_cons_zero]
      refine tkN (i := 17) (v := ?v32) rfl (by decide +kernel) (Or.inl ⟨by kernel_rfl, fun w hSw => ok_of fun z hz => ?h32⟩) hS ?_; (case h32 => (go_simp; exact hz))
      try simp only [Act.put, s1, s2, s3, List.getElem_toArray, List.getElem_cons_succ, List.getElem_cons_zero]
      refine wpAnyH_done (by kernel_rfl) ?_ _
      try simp only [Act.put, s1, s2, s3, List.getElem_toArray, List.getElem_cons_succ, List.getElem_cons_zero]
      simp only [NQ];have HFI := Hd (HB.out.trans ((HB5.out.trans (hy7.mono HB5.out.size)).mono HB.out.size));clear hS hy1 hy2 hy3 hy4 hy5 hy6 hy7
      go_wp2_with fail
      go_ret
      exact ⟨rfl, HFI.out⟩
end Go.Proofs.YtadbmineobldbaaGreatDoor
