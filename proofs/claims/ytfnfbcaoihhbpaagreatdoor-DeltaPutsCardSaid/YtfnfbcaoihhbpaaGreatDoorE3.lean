/- Stage 12: the reference's Remove, Clear, Empty. -/
import Derived.Test.YtfnfbcaoihhbpaaGreatDoorE2
set_option linter.unusedSimpArgs false
set_option linter.unusedVariables false
set_option maxRecDepth 100000
set_option maxHeartbeats 16000000
namespace Go.Proofs.YtfnfbcaoihhbpaaGreatDoor
open Go.RowKit Go.Maps Go.Sort Go.Shelf
theorem r12Remove_any (c : CartD) (nm : ByteArray) (v1 v2 v3 : Value) (w : World) (h : CartA w v1 v2 v3 c) (hl : Lt c.items) (hn : (allDots c.items).length ≤ 9000) (hs : nm.size ≤ maxLen) :
  Calls Tryz.prog 16 #[.agg #[v1, v2, v3], .string nm] w (CtrPost (remC c nm) (remCE c nm) w) := by
 obtain ⟨o1, n1, k1, o2, n2, k2, o3, n3, k3, rfl, rfl, rfl, hn1, hn2, hn3⟩ := opn4 h
 obtain ⟨W1, HW, HB, HS, HK0, HKR⟩ := box2 w #[.slice o1 n1 k1, .slice o2 n2 k2, .slice o3 n3 k3] 28 #[.slice none 0 0, .slice none 0 0, .slice none 0 0] 28
 have HC := Hd (fun wz (hz : Below W1.heap.size W1 wz) => cel3 (HK0.out wz hz))
 have HA := Hd (h.below HB.out)
 have HV := Hd (r10Valid_any c _ _ _ W1 HA.out hl)
 have HNI := Hd (fun wz => r7Item_any nm wz hs)
 have HFI : Hid (∀ wz, Below W1.heap.size W1 wz → Calls Tryz.prog 44 #[.slice o3 n3 k3, .string nm] wz (IdxAt (fun x => decide (x.name = nm)) c.items wz)) := Hd (fun wz hz => r9Find_any nm c.items _ wz (HA.out.below hz).2.2)
 have HD : Hid (∀ wz, Below W1.heap.size W1 wz → validC c = true → Calls Tryz.prog 47 #[.agg #[.slice o1 n1 k1, .slice o2 n2 k2, .slice o3 n3 k3], .string nm] wz fun e w' => ∃ v', e = .returned v' ∧ Arr DotR 2 w' v' (dotsC c nm) ∧ Below wz.heap.size wz w') := Hd (fun wz hz hv => r10Dots_any c nm _ _ _ wz (HA.out.below hz) hl hv)
 have HDL : Hid ((dotsC c nm).length ≤ 9000) := Hd (Nat.le_trans (dotsC_len c nm) hn)
 have HDV : Hid ((dotsC c nm).all validDotD = true) := Hd (dotsC_valid c nm)
 have HE0 : Hid ((validC c && nameB nm) = false → remCE c nm = 2) := Hd remCE_bad
 have HE1 : Hid (validC c = true → nameB nm = true → remCE c nm = if thereB c.items nm then 0 else 9) := Hd (fun h1 h2 => by unfold remCE; rw [h1, h2]; rfl)
 have HZR : Hid (∀ E, E ≠ 0 → remCE c nm = E → remC c nm = zeroC) := Hd (fun E h1 h2 => by unfold remC; rw [h2, if_neg h1])
 have HPR : Hid (remCE c nm = 0 → remC c nm = goneC (dotsC c nm)) := Hd (fun h => by unfold remC; rw [if_pos h])
 have HBW := Hd HB.out
 have hsz := HS.out
 obtain ⟨R, hR⟩ : ∃ R, R = remC c nm := ⟨_, rfl⟩
 obtain ⟨E, hE⟩ : ∃ E, E = remCE c nm := ⟨_, rfl⟩
 rw [← hR, ← hE]
 rw [← hR] at HZR HPR
 rw [← hE] at HE0 HE1 HZR HPR
 clear hR hE
 obtain ⟨r1, hr1⟩ : ∃ r, r = validC c := ⟨_, rfl⟩
 obtain ⟨r2, hr2⟩ : ∃ r, r = nameB nm := ⟨_, rfl⟩
 rw [← hr1] at HV HE0 HE1 HD
 rw [← hr2] at HNI HE0 HE1
 have hlen := h.2.2.len
 clear h hl hn hn1 hn2 hn3 hs HB HS hr1 hr2
 obtain ⟨c0, c1, c2⟩ := HC.out W1 brf
 go_enter Tryz.func16, Tryz.ntmps16
 go_wp2_with fail
 rw [← HW.out]
 go_wp2_with fail
 refine HV.out.mono ?_
 rintro e w2 ⟨rfl, hb2⟩
 have HB2 := Hd hb2
 clear hb2 HV c0 c1 c2
 cases r1 with
 | false =>
  have HE : Hid (E = 2) := Hd (HE0.out rfl)
  have HR : Hid (R = zeroC) := Hd (HZR.out 2 (by decide) HE.out)
  clear HE0 HE1 HZR HPR
  have HFB : Hid (Below w.heap.size w (set3c w2 (w.heap.size + 1) (.slice none 0 0) (.slice none 0 0) (.slice none 0 0))) := Hd (set3c_below _ _ _ (btr HBW.out HB2.out) (by omega))
  obtain ⟨y0, y1, y2⟩ := cel3 (HKR.out _ HB2.out)
  have g0 := froz0 (HKR.out _ HB2.out) 0
  have g1 := froz0 (HKR.out _ HB2.out) 1
  have g2 := froz0 (HKR.out _ HB2.out) 2
  go_wp2_with fail
  (try simp only [Exit.inBlock, Exit.then])
  refine bodyPost_ret (v := .tuple #[.agg #[.slice none 0 0, .slice none 0 0, .slice none 0 0], .int .i64 2]) ?_ rfl ⟨_, _, _, by rw [HE.out], by rw [HR.out]; exact cartA_zero _, HFB.out⟩
  rw [results_cell_tmp rfl]
  go_simp
 | true =>
  have HN2 := Hd (HNI.out w2)
  go_wp2_with fail
  refine HN2.out.mono ?_
  rintro e w3 ⟨rfl, rfl⟩
  clear HN2
  obtain ⟨c0, c1, c2⟩ := HC.out w3 HB2.out
  cases r2 with
  | false =>
   have HE : Hid (E = 2) := Hd (HE0.out rfl)
   have HR : Hid (R = zeroC) := Hd (HZR.out 2 (by decide) HE.out)
   clear HE0 HE1 HZR HPR
   have HFB : Hid (Below w.heap.size w (set3c w3 (w.heap.size + 1) (.slice none 0 0) (.slice none 0 0) (.slice none 0 0))) := Hd (set3c_below _ _ _ (btr HBW.out HB2.out) (by omega))
   obtain ⟨y0, y1, y2⟩ := cel3 (HKR.out _ HB2.out)
   have g0 := froz0 (HKR.out _ HB2.out) 0
   have g1 := froz0 (HKR.out _ HB2.out) 1
   have g2 := froz0 (HKR.out _ HB2.out) 2
   go_wp2_with fail
   (try simp only [Exit.inBlock, Exit.then])
   refine bodyPost_ret (v := .tuple #[.agg #[.slice none 0 0, .slice none 0 0, .slice none 0 0], .int .i64 2]) ?_ rfl ⟨_, _, _, by rw [HE.out], by rw [HR.out]; exact cartA_zero _, HFB.out⟩
   rw [results_cell_tmp rfl]
   go_simp
  | true =>
   have HN3 := Hd (HFI.out w3 HB2.out)
   go_wp2_with fail
   refine HN3.out.mono ?_
   rintro e w5 ⟨i, rfl, hix, hb5⟩
   have HB5 := Hd (btr HB2.out hb5)
   clear hb5 HN3 c0 c1 c2
   obtain ⟨c0, c1, c2⟩ := HC.out w5 HB5.out
   rcases hix with ⟨rfl, hno⟩ | ⟨k, hlt', rfl, hnm, htk⟩
   ·have hth : thereB c.items nm = false := hno
    have HE : Hid (E = 9) := Hd (by rw [HE1.out trivial trivial, hth]; rfl)
    have HR : Hid (R = zeroC) := Hd (HZR.out 9 (by decide) HE.out)
    clear HE0 HE1 HZR HPR hno hth
    have HFB : Hid (Below w.heap.size w (set3c w5 (w.heap.size + 1) (.slice none 0 0) (.slice none 0 0) (.slice none 0 0))) := Hd (set3c_below _ _ _ (btr HBW.out HB5.out) (by omega))
    obtain ⟨y0, y1, y2⟩ := cel3 (HKR.out _ HB5.out)
    have g0 := froz0 (HKR.out _ HB5.out) 0
    have g1 := froz0 (HKR.out _ HB5.out) 1
    have g2 := froz0 (HKR.out _ HB5.out) 2
    go_wp2_with fail
    (try simp only [Exit.inBlock, Exit.then])
    refine bodyPost_ret (v := .tuple #[.agg #[.slice none 0 0, .slice none 0 0, .slice none 0 0], .int .i64 9]) ?_ rfl ⟨_, _, _, by rw [HE.out], by rw [HR.out]; exact cartA_zero _, HFB.out⟩
    rw [results_cell_tmp rfl]
    go_simp
   ·have hth : thereB c.items nm = true := List.any_eq_true.2 ⟨_, List.getElem_mem hlt', hnm⟩
    have HE : Hid (E = 0) := Hd (by rw [HE1.out trivial trivial, hth]; rfl)
    have HR : Hid (R = goneC (dotsC c nm)) := Hd (HPR.out HE.out)
    have a0 : ¬ ((k : Int) < 0) := by omega
    clear HE0 HE1 HZR HPR hth hnm htk
    have HD5 := Hd (HD.out w5 HB5.out (by first | rfl | trivial))
    clear HD
    go_wp2_with fail
    refine HD5.out.mono ?_
    rintro e w6 ⟨v6, rfl, har, hb6⟩
    have HFG := Hd (r12Gone_any _ _ w6 har HDV.out (by have := HDL.out; omega))
    obtain ⟨o6, k6, rfl⟩ := har.slice
    have HB6 := Hd (btr HB5.out hb6)
    clear har hb6 c0 c1 c2 HD5
    go_wp2_with fail
    refine HFG.out.mono ?_
    rintro e w7 ⟨x1, x2, x3, rfl, hca, hb7⟩
    obtain ⟨p1, m1, l1, p2, m2, l2, p3, m3, l3, rfl, rfl, rfl, hm1, hm2, hm3⟩ := opn4 hca
    have hb7 := btr HB6.out hb7
    clear HFG
    have hzz := HKR.out _ hb7
    have HFB : Hid (Below w.heap.size w (set3c w7 (w.heap.size + 1) (.slice p1 m1 l1) (.slice p2 m2 l2) (.slice p3 m3 l3))) := Hd (set3c_below _ _ _ (btr HBW.out hb7) (by omega))
    have HCA : Hid (CartA (set3c w7 (w.heap.size + 1) (.slice p1 m1 l1) (.slice p2 m2 l2) (.slice p3 m3 l3)) (.slice p1 m1 l1) (.slice p2 m2 l2) (.slice p3 m3 l3) (goneC (dotsC c nm))) := Hd ⟨set3c_dots hca.1 hzz, set3c_dots hca.2.1 hzz, set3c_items hca.2.2 hzz⟩
    obtain ⟨y0, y1, y2⟩ := cel3 hzz
    have g0 := froz0 hzz 0
    have g1 := froz0 hzz 1
    have g2 := froz0 hzz 2
    clear hzz hca hm1 hm2 hm3
    go_wp2_with fail
    (try simp only [Exit.inBlock, Exit.then])
    refine bodyPost_ret (v := .tuple #[.agg #[.slice p1 m1 l1, .slice p2 m2 l2, .slice p3 m3 l3], .int .i64 0]) ?_ rfl ⟨_, _, _, by rw [HE.out], by rw [HR.out]; exact HCA.out, HFB.out⟩
    rw [results_cell_tmp rfl]
    go_simp
theorem r12Clear_any (c : CartD) (v1 v2 v3 : Value) (w : World) (h : CartA w v1 v2 v3 c) (hl : Lt c.items) (hn : (allDots c.items).length ≤ 9000) :
  Calls Tryz.prog 17 #[.agg #[v1, v2, v3]] w (CtrPost (clrC c) (clrCE c) w) := by
 obtain ⟨o1, n1, k1, o2, n2, k2, o3, n3, k3, rfl, rfl, rfl, hn1, hn2, hn3⟩ := opn4 h
 obtain ⟨W1, HW, HB, HS, HK0, HKR⟩ := box2 w #[.slice o1 n1 k1, .slice o2 n2 k2, .slice o3 n3 k3] 28 #[.slice none 0 0, .slice none 0 0, .slice none 0 0] 28
 have HC := Hd (fun wz (hz : Below W1.heap.size W1 wz) => cel3 (HK0.out wz hz))
 have HA := Hd (h.below HB.out)
 have HV := Hd (r10Valid_any c _ _ _ W1 HA.out hl)
 have HD : Hid (∀ wz, Below W1.heap.size W1 wz → validC c = true → Calls Tryz.prog 47 #[.agg #[.slice o1 n1 k1, .slice o2 n2 k2, .slice o3 n3 k3], .string ⟨#[]⟩] wz fun e w' => ∃ v', e = .returned v' ∧ Arr DotR 2 w' v' (dotsC c ⟨#[]⟩) ∧ Below wz.heap.size wz w') := Hd (fun wz hz hv => r10Dots_any c ⟨#[]⟩ _ _ _ wz (HA.out.below hz) hl hv)
 have HDL : Hid ((dotsC c ⟨#[]⟩).length ≤ 9000) := Hd (Nat.le_trans (dotsC_len c ⟨#[]⟩) hn)
 have HDV : Hid ((dotsC c ⟨#[]⟩).all validDotD = true) := Hd (dotsC_valid c ⟨#[]⟩)
 have HE0 : Hid (validC c = false → clrCE c = 2 ∧ clrC c = zeroC) := Hd (fun h => by unfold clrC clrCE; simp [h])
 have HE1 : Hid (validC c = true → clrCE c = 0 ∧ clrC c = goneC (dotsC c ⟨#[]⟩)) := Hd (fun h => by unfold clrC clrCE dotsC; rw [h]; exact ⟨rfl, rfl⟩)
 have HBW := Hd HB.out
 have hsz := HS.out
 obtain ⟨R, hR⟩ : ∃ R, R = clrC c := ⟨_, rfl⟩
 obtain ⟨E, hE⟩ : ∃ E, E = clrCE c := ⟨_, rfl⟩
 rw [← hR, ← hE]
 rw [← hR, ← hE] at HE0 HE1
 clear hR hE
 obtain ⟨r1, hr1⟩ : ∃ r, r = validC c := ⟨_, rfl⟩
 rw [← hr1] at HV HE0 HE1 HD
 clear h hl hn hn1 hn2 hn3 HB HS hr1
 obtain ⟨c0, c1, c2⟩ := HC.out W1 brf
 go_enter Tryz.func17, Tryz.ntmps17
 go_wp2_with fail
 rw [← HW.out]
 go_wp2_with fail
 refine HV.out.mono ?_
 rintro e w2 ⟨rfl, hb2⟩
 have HB2 := Hd hb2
 clear hb2 HV c0 c1 c2
 cases r1 with
 | false =>
  have HE : Hid (E = 2) := Hd (HE0.out rfl).1
  have HR : Hid (R = zeroC) := Hd (HE0.out rfl).2
  clear HE0 HE1
  have HFB : Hid (Below w.heap.size w (set3c w2 (w.heap.size + 1) (.slice none 0 0) (.slice none 0 0) (.slice none 0 0))) := Hd (set3c_below _ _ _ (btr HBW.out HB2.out) (by omega))
  obtain ⟨y0, y1, y2⟩ := cel3 (HKR.out _ HB2.out)
  have g0 := froz0 (HKR.out _ HB2.out) 0
  have g1 := froz0 (HKR.out _ HB2.out) 1
  have g2 := froz0 (HKR.out _ HB2.out) 2
  go_wp2_with fail
  (try simp only [Exit.inBlock, Exit.then])
  refine bodyPost_ret (v := .tuple #[.agg #[.slice none 0 0, .slice none 0 0, .slice none 0 0], .int .i64 2]) ?_ rfl ⟨_, _, _, by rw [HE.out], by rw [HR.out]; exact cartA_zero _, HFB.out⟩
  rw [results_cell_tmp rfl]
  go_simp
 | true =>
  have HE : Hid (E = 0) := Hd (HE1.out rfl).1
  have HR : Hid (R = goneC (dotsC c ⟨#[]⟩)) := Hd (HE1.out rfl).2
  clear HE0 HE1
  obtain ⟨c0, c1, c2⟩ := HC.out w2 HB2.out
  have HD5 := Hd (HD.out w2 HB2.out (by first | rfl | trivial))
  clear HD
  go_wp2_with fail
  refine HD5.out.mono ?_
  rintro e w6 ⟨v6, rfl, har, hb6⟩
  have HFG := Hd (r12Gone_any _ _ w6 har HDV.out (by have := HDL.out; omega))
  obtain ⟨o6, k6, rfl⟩ := har.slice
  have HB6 := Hd (btr HB2.out hb6)
  clear har hb6 c0 c1 c2 HD5
  go_wp2_with fail
  refine HFG.out.mono ?_
  rintro e w7 ⟨x1, x2, x3, rfl, hca, hb7⟩
  obtain ⟨p1, m1, l1, p2, m2, l2, p3, m3, l3, rfl, rfl, rfl, hm1, hm2, hm3⟩ := opn4 hca
  have hb7 := btr HB6.out hb7
  clear HFG
  have hzz := HKR.out _ hb7
  have HFB : Hid (Below w.heap.size w (set3c w7 (w.heap.size + 1) (.slice p1 m1 l1) (.slice p2 m2 l2) (.slice p3 m3 l3))) := Hd (set3c_below _ _ _ (btr HBW.out hb7) (by omega))
  have HCA : Hid (CartA (set3c w7 (w.heap.size + 1) (.slice p1 m1 l1) (.slice p2 m2 l2) (.slice p3 m3 l3)) (.slice p1 m1 l1) (.slice p2 m2 l2) (.slice p3 m3 l3) (goneC (dotsC c ⟨#[]⟩))) := Hd ⟨set3c_dots hca.1 hzz, set3c_dots hca.2.1 hzz, set3c_items hca.2.2 hzz⟩
  obtain ⟨y0, y1, y2⟩ := cel3 hzz
  have g0 := froz0 hzz 0
  have g1 := froz0 hzz 1
  have g2 := froz0 hzz 2
  clear hzz hca hm1 hm2 hm3
  go_wp2_with fail
  (try simp only [Exit.inBlock, Exit.then])
  refine bodyPost_ret (v := .tuple #[.agg #[.slice p1 m1 l1, .slice p2 m2 l2, .slice p3 m3 l3], .int .i64 0]) ?_ rfl ⟨_, _, _, by rw [HE.out], by rw [HR.out]; exact HCA.out, HFB.out⟩
  rw [results_cell_tmp rfl]
  go_simp
theorem r12Empty_any (c : CartD) (v1 v2 v3 : Value) (w : World) (h : CartA w v1 v2 v3 c) :
  Calls Tryz.prog 21 #[.agg #[v1, v2, v3]] w fun e w' => e = .returned (.bool (emptyC c)) ∧ Below w.heap.size w w' := by
 obtain ⟨o1, n1, k1, o2, n2, k2, o3, n3, k3, rfl, rfl, rfl, hn1, hn2, hn3⟩ := opn4 h
 obtain ⟨W1, HW, HB, HS, HK0⟩ := box1 w #[.slice o1 n1 k1, .slice o2 n2 k2, .slice o3 n3 k3] 28
 obtain ⟨c0, c1, c2⟩ := cel3 (HK0.out W1 brf)
 have HE : Hid (emptyC c = (decide (n1 = 0) && decide (n2 = 0) && decide (n3 = 0))) := Hd (by rw [emptyC_lens, hn1, hn2, hn3]; rfl)
 have HBW := Hd HB.out
 clear h hn1 hn2 hn3 HB HS HK0
 generalize emptyC c = r at *
 by_cases e1 : n1 = 0
 rotate_left
 ·have t1 : ((n1 : Int) == 0) = false := by simp [e1]
  have HE : Hid (r = false) := Hd (by rw [HE.out]; simp [e1])
  clear e1
  go_enter Tryz.func21, Tryz.ntmps21
  go_wp2_with fail
  rw [← HW.out]
  go_wp2_with fail
  go_ret
  exact ⟨by rw [HE.out]; rfl, HBW.out⟩
 have t1 : ((n1 : Int) == 0) = true := by simp [e1]
 by_cases e2 : n2 = 0
 rotate_left
 ·have t2 : ((n2 : Int) == 0) = false := by simp [e2]
  have HE : Hid (r = false) := Hd (by rw [HE.out]; simp [e2])
  clear e1 e2
  go_enter Tryz.func21, Tryz.ntmps21
  go_wp2_with fail
  rw [← HW.out]
  go_wp2_with fail
  go_ret
  exact ⟨by rw [HE.out]; rfl, HBW.out⟩
 have t2 : ((n2 : Int) == 0) = true := by simp [e2]
 obtain ⟨b, hb⟩ : ∃ b, b = ((n3 : Int) == 0) := ⟨_, rfl⟩
 have t3 : ((n3 : Int) == 0) = b := hb.symm
 have HE : Hid (r = b) := Hd (by
  rw [HE.out, hb]
  by_cases e3 : n3 = 0 <;> simp [e1, e2, e3])
 clear e1 e2 hb
 go_enter Tryz.func21, Tryz.ntmps21
 go_wp2_with fail
 rw [← HW.out]
 go_wp2_with fail
 go_ret
 exact ⟨by rw [HE.out]; rfl, HBW.out⟩
set_option linter.unusedSimpArgs false in
set_option linter.unusedVariables false in
set_option maxRecDepth 100000 in
set_option maxHeartbeats 16000000 in
theorem r12p13 (c : CartD) (d : DotD) (nm : ByteArray) (WL : World) (b5 b6 : Nat) (o1 o2 o3 : Option Addr) (n1 n2 n3 k1 k2 k3 : Nat) (a0 a1 a3 a4 a10 a11 a12 a13 a14 z16 z17 z18 z19 z20 z21 z22 z23 z24 z25 z26 z27 z28 z29 z30 z31 z32 z33 z34 z35 z36 z37 z38 z39 z40 z41 z42 z43 z44 z45 z46 z47 z48 z49 z50 z51 z52 z53 z54 z55 z56 z57 z58 z59 z60 z61 z62 : Value) (h5 : WL.heap[b5]? = some (.cells #[.slice o1 n1 k1, .slice o2 n2 k2, .slice o3 n3 k3] 28)) (h6 : WL.heap[b6]? = some (.cells #[.int .i64 d.rep, .int .i64 d.ctr] 30))
  (h : CartA WL (.slice o1 n1 k1) (.slice o2 n2 k2) (.slice o3 n3 k3) c) (hl : Lt c.items) (hn : (allDots c.items).length ≤ 9000) (hv : validC c = true) (hd : validDotD d = true) (R : Act → World → Prop)
  (hQ : ∀ (y63 y64 y65 y66 y67 y68 y69 : Value) (bo : Nat) (w : World) (p1 p2 p3 : Option Addr) (m1 m2 m3 l1 l2 l3 : Nat), Below WL.heap.size WL w → WL.heap.size ≤ bo → w.heap[bo]? = some (.cells #[.slice p1 m1 l1, .slice p2 m2 l2, .slice p3 m3 l3] 28) → CartA w (.slice p1 m1 l1) (.slice p2 m2 l2) (.slice p3 m3 l3) (goneC (d :: dotsC c nm)) → R { tmps := #[a0, a1, .string nm, a3, a4, .pointer (some ⟨b5, 0, none⟩), .pointer (some ⟨b6, 0, none⟩), undef, undef, undef, a10, a11, a12, a13, a14, .pointer (some ⟨bo, 0, none⟩), z16, z17, z18, z19, z20, z21, z22, z23, z24, z25, z26, z27, z28, z29, z30, z31, z32, z33, z34, z35, z36, z37, z38, z39, z40, z41, z42, z43, z44, z45, z46, z47, z48, z49, z50, z51, z52, z53, z54, z55, z56, z57, z58, z59, z60, z61, z62, y63, y64, y65, y66, y67, y68, y69, undef, undef, undef, undef, undef, undef, undef, undef, undef, undef], defers := [] } w) :
  (codeAt [1, 1, 1, 1, 1, 1, 1, 1, 0] (Tryz.f12.body.getD .skip)).wp Tryz.prog (NQ R) { tmps := #[a0, a1, .string nm, a3, a4, .pointer (some ⟨b5, 0, none⟩), .pointer (some ⟨b6, 0, none⟩), undef, undef, undef, a10, a11, a12, a13, a14, undef, z16, z17, z18, z19, z20, z21, z22, z23, z24, z25, z26, z27, z28, z29, z30, z31, z32, z33, z34, z35, z36, z37, z38, z39, z40, z41, z42, z43, z44, z45, z46, z47, z48, z49, z50, z51, z52, z53, z54, z55, z56, z57, z58, z59, z60, z61, z62, undef, undef, undef, undef, undef, undef, undef, undef, undef, undef, undef, undef, undef, undef, undef, undef, undef], defers := [] } WL := by
 have HCR := Hd (fun wz (hz : Below WL.heap.size WL wz) => And.intro (cel3 ((hz.block _ (lt_of_heap h5)).trans h5)) (cel2 ((hz.block _ (lt_of_heap h6)).trans h6)))
 have H5 := Hd h5
 have H6 := Hd h6
 have hb5 := lt_of_heap h5
 have hb6 := lt_of_heap h6
 have HST : Hid (∀ (wz : World) (b : Nat) (x y z : Value), Below WL.heap.size WL wz → WL.heap.size ≤ b → ((set3c wz b x y z).cell? ⟨b5, 0, none⟩ = some (.slice o1 n1 k1) ∧ (set3c wz b x y z).cell? ⟨b5, 1, none⟩ = some (.slice o2 n2 k2) ∧ (set3c wz b x y z).cell? ⟨b5, 2, none⟩ = some (.slice o3 n3 k3)) ∧ (set3c wz b x y z).cell? ⟨b6, 0, none⟩ = some (.int .i64 d.rep) ∧ (set3c wz b x y z).cell? ⟨b6, 1, none⟩ = some (.int .i64 d.ctr)) := Hd (fun wz b x y z hz hb => by
  rw [set3c_cell (by omega), set3c_cell (by omega), set3c_cell (by omega), set3c_cell (by omega), set3c_cell (by omega)]
  exact HCR.out wz hz)
 have HD := Hd (fun wz (hz : Below WL.heap.size WL wz) => r10Dots_any c nm _ _ _ wz (h.below hz) hl hv)
 have HDL : Hid ((dotsC c nm).length ≤ 9000) := Hd (Nat.le_trans (dotsC_len c nm) hn)
 have HAV : Hid (([d] ++ dotsC c nm).all validDotD = true) := Hd (by rw [List.all_append, dotsC_valid]; simp [hd])
 have HDD : Hid (∀ x ∈ [d] ++ dotsC c nm, DI x) := Hd (fun x hx => DI_valid (List.all_eq_true.1 HAV.out x hx))
 clear h5 h6 h hl hn hv hd
 have hq : Below WL.heap.size WL WL.drew := bdr
 simp only [codeAt, codeL, codeR, Tryz.f12, Option.getD_some]
 refine wp_region_held_drew (S := (fun wz => (wz.cell? ⟨b5, 0, none⟩ = some (.slice o1 n1 k1) ∧ wz.cell? ⟨b5, 1, none⟩ = some (.slice o2 n2 k2) ∧ wz.cell? ⟨b5, 2, none⟩ = some (.slice o3 n3 k3)) ∧ wz.cell? ⟨b6, 0, none⟩ = some (.int .i64 d.rep) ∧ wz.cell? ⟨b6, 1, none⟩ = some (.int .i64 d.ctr))) (by kernel_rfl) (HCR.out _ hq) (fun hS => ?_)
 try simp only [Act.put, s1, s2, s3, List.getElem_toArray, List.getElem_cons_succ, List.getElem_cons_zero]
 refine tkN (i := 0) (v := ?v1) rfl (by decide +kernel) (Or.inl ⟨by kernel_rfl, fun w hSw => ok_of fun z hz => ?h1⟩) hS ?_; (case h1 => (obtain ⟨⟨f0, f1, f2⟩, f3, f4⟩ := hSw; go_simp; exact hz))
 try simp only [Act.put, s1, s2, s3, List.getElem_toArray, List.getElem_cons_succ, List.getElem_cons_zero]
 refine tkN (i := 2) (v := ?v2) rfl (by decide +kernel) (Or.inl ⟨by kernel_rfl, fun w hSw => ok_of fun z hz => ?h2⟩) hS ?_; (case h2 => (obtain ⟨⟨f0, f1, f2⟩, f3, f4⟩ := hSw; go_simp; exact hz))
 try simp only [Act.put, s1, s2, s3, List.getElem_toArray, List.getElem_cons_succ, List.getElem_cons_zero]
 refine tkN (i := 3) (v := ?v3) rfl (by decide +kernel) (Or.inl ⟨by kernel_rfl, fun w hSw => ok_of fun z hz => ?h3⟩) hS ?_; (case h3 => (go_simp; exact hz))
 try simp only [Act.put, s1, s2, s3, List.getElem_toArray, List.getElem_cons_succ, List.getElem_cons_zero]
 refine wpAnyH_ready (rs := [1, 4, 7]) (by decide +kernel) (by simp) ?_
 refine (AllReadyH.cons rfl (fun K hK => ?_) (AllReadyH.cons rfl (fun K hK => ?_) (AllReadyH.cons rfl (fun K hK => ?_) AllReadyH.nil)))
 · go_simp
   have h0 : Below WL.drew.heap.size WL.drew (WL.drew.alloc (.cells #[.int .i64 d.rep, .int .i64 d.ctr] 30)) := bal
   have hr : EDot.Row WL.heap.size (WL.drew.alloc (.cells #[.int .i64 d.rep, .int .i64 d.ctr] 30)) (.slice (some ⟨WL.drew.heap.size, 0, none⟩) 1 1) [d] := (row_lit EDot [d] WL.drew (by unfold maxLen; simp)).mono hq.size
   have e9 : WL.drew.heap.size = WL.heap.size := rfl
   rw [e9] at hr
   clear e9
   have hq := btr hq h0
   clear h0
   refine Shut.out hK _ _ (HCR.out _ hq) (fun hS2 => ?_)
   clear hK K hS
   have hS := hS2
   clear hS2
   try simp only [Act.put, s1, s2, s3, List.getElem_toArray, List.getElem_cons_succ, List.getElem_cons_zero]
   refine wpAnyH_ready (rs := [4, 7]) (by decide +kernel) (by simp) ?_
   refine (AllReadyH.cons rfl (fun K hK => ?_) (AllReadyH.cons rfl (fun K hK => ?_) AllReadyH.nil))
   · go_simp
     go_at_call 47
     refine (HD.out (WL.drew.alloc (.cells #[.int .i64 d.rep, .int .i64 d.ctr] 30)) hq).mono ?_
     rintro e q4 ⟨v4, rfl, ho, h0⟩
     have hr := hr.below h0
     obtain ⟨oo, ko, rfl⟩ := ho.slice
     have hq := btr hq h0
     clear h0
     go_simp
     refine Shut.out hK _ _ (HCR.out _ hq) (fun hS2 => ?_)
     clear hK K hS
     have hS := hS2
     clear hS2
     try simp only [Act.put, s1, s2, s3, List.getElem_toArray, List.getElem_cons_succ, List.getElem_cons_zero]
     refine wpAnyH_ready (rs := [5, 7]) (by decide +kernel) (by simp) ?_
     refine (AllReadyH.cons rfl (fun K hK => ?_) (AllReadyH.cons rfl (fun K hK => ?_) AllReadyH.nil))
     · refine step_append_row rfl _ _ 22 rfl EDot WL.heap.size (.agg #[.int .i64 0, .int .i64 0]) 16 Tryz.underlying22 infoDot (by decide) (by decide) _ [d] rfl hr _ (dotsC c nm) rfl (Arr.toSrc (E := EDot) ho (fun _ _ h => h.1)) (by have := HDL.out; simp; omega) hq.size ?_
       intro v5 q5 hrow hgr
       have hq := hq.grown hgr hq.size (fun j hj => (hr.lt _ hj).1)
       have ha := hrow.dots HDD.out
       obtain ⟨oa, ka, rfl⟩ := ha.slice
       clear hrow hgr hr ho
       refine Shut.out hK _ _ (HCR.out _ hq) (fun hS2 => ?_)
       clear hK K hS
       have hS := hS2
       clear hS2
       try simp only [Act.put, s1, s2, s3, List.getElem_toArray, List.getElem_cons_succ, List.getElem_cons_zero]
       refine wpAnyH_ready (rs := [6, 7]) (by decide +kernel) (by simp) ?_
       refine (AllReadyH.cons rfl (fun K hK => ?_) (AllReadyH.cons rfl (fun K hK => ?_) AllReadyH.nil))
       · go_simp
         go_at_call 46
         refine (r12Gone_any _ _ _ ha HAV.out (by have := HDL.out; simp; omega)).mono ?_
         rintro e q6 ⟨x1, x2, x3, rfl, hca, h0⟩
         obtain ⟨p1, m1, l1, p2, m2, l2, p3, m3, l3, rfl, rfl, rfl, hm1, hm2, hm3⟩ := opn4 hca
         have hq := btr hq h0
         clear h0 ha hm1 hm2 hm3
         go_simp
         refine Shut.out hK _ _ (HCR.out _ hq) (fun hS2 => ?_)
         clear hK K hS
         have hS := hS2
         clear hS2
         try simp only [Act.put, s1, s2, s3, List.getElem_toArray, List.getElem_cons_succ, List.getElem_cons_zero]
         refine wpAnyH_ready (rs := [7]) (by decide +kernel) (by simp) ?_
         refine (AllReadyH.cons rfl (fun K hK => ?_) AllReadyH.nil)
         go_simp
         have h0 : Below q6.heap.size q6 (q6.alloc (.cells #[.slice none 0 0, .slice none 0 0, .slice none 0 0] 28)) := bal
         have hca0 := hca
         have hq0 := hq
         have hca := hca.below h0
         have hx : (q6.alloc (.cells #[.slice none 0 0, .slice none 0 0, .slice none 0 0] 28)).heap[q6.heap.size]? = some (.cells #[.slice none 0 0, .slice none 0 0, .slice none 0 0] 28) := alloc_new _ _
         have hbx : WL.heap.size ≤ q6.heap.size := hq.size
         have hq := btr hq h0
         clear h0
         refine Shut.out hK _ _ (HCR.out _ hq) (fun hS2 => ?_)
         clear hK K hS
         have hS := hS2
         clear hS2
         try simp only [Act.put, s1, s2, s3, List.getElem_toArray, List.getElem_cons_succ, List.getElem_cons_zero]
         refine wpAnyH_ready (rs := [8]) (by decide +kernel) (by simp) ?_
         refine (AllReadyH.cons rfl (fun K hK => ?_) AllReadyH.nil)
         have g0 := froz0 hx 0
         have g1 := froz0 hx 1
         have g2 := froz0 hx 2
         obtain ⟨e0, e1, e2⟩ := cel3 hx
         go_simp
         refine Shut.out hK _ _ (by first | (rw [← set3c_eq]; exact HST.out _ _ _ _ _ hq hbx) | exact HCR.out _ (btr hq0 bal)) (fun hS2 => ?_)
         clear hK K hS
         have hS := hS2
         clear hS2
         try simp only [Act.put, s1, s2, s3, List.getElem_toArray, List.getElem_cons_succ, List.getElem_cons_zero]
         refine wpAnyH_done (by kernel_rfl) ?_ _
         try simp only [Act.put, s1, s2, s3, List.getElem_toArray, List.getElem_cons_succ, List.getElem_cons_zero]
         simp only [NQ]
         first
         | exact hQ _ _ _ _ _ _ _ _ (set3c _ _ (.slice p1 m1 l1) (.slice p2 m2 l2) (.slice p3 m3 l3)) p1 p2 p3 m1 m2 m3 l1 l2 l3 (set3c_below _ _ _ hq hbx) hbx (set3c_same _ _ _ hx) ⟨set3c_dots hca.1 hx, set3c_dots hca.2.1 hx, set3c_items hca.2.2 hx⟩
         | exact hQ _ _ _ _ _ _ _ _ _ p1 p2 p3 m1 m2 m3 l1 l2 l3 (btr hq0 bal) hbx (alloc_new _ _) (hca0.below bal)
       · go_simp
         have h0 : Below q5.heap.size q5 (q5.alloc (.cells #[.slice none 0 0, .slice none 0 0, .slice none 0 0] 28)) := bal
         have ha := ha.dots h0
         have hx : (q5.alloc (.cells #[.slice none 0 0, .slice none 0 0, .slice none 0 0] 28)).heap[q5.heap.size]? = some (.cells #[.slice none 0 0, .slice none 0 0, .slice none 0 0] 28) := alloc_new _ _
         have hbx : WL.heap.size ≤ q5.heap.size := hq.size
         have hq := btr hq h0
         clear h0
         refine Shut.out hK _ _ (HCR.out _ hq) (fun hS2 => ?_)
         clear hK K hS
         have hS := hS2
         clear hS2
         try simp only [Act.put, s1, s2, s3, List.getElem_toArray, List.getElem_cons_succ, List.getElem_cons_zero]
         refine wpAnyH_ready (rs := [6]) (by decide +kernel) (by simp) ?_
         refine (AllReadyH.cons rfl (fun K hK => ?_) AllReadyH.nil)
         go_simp
         go_at_call 46
         refine (r12Gone_any _ _ _ ha HAV.out (by have := HDL.out; simp; omega)).mono ?_
         rintro e q6 ⟨x1, x2, x3, rfl, hca, h0⟩
         have hx := (h0.block _ (lt_of_heap hx)).trans hx
         obtain ⟨p1, m1, l1, p2, m2, l2, p3, m3, l3, rfl, rfl, rfl, hm1, hm2, hm3⟩ := opn4 hca
         have hq := btr hq h0
         clear h0 ha hm1 hm2 hm3
         go_simp
         refine Shut.out hK _ _ (HCR.out _ hq) (fun hS2 => ?_)
         clear hK K hS
         have hS := hS2
         clear hS2
         try simp only [Act.put, s1, s2, s3, List.getElem_toArray, List.getElem_cons_succ, List.getElem_cons_zero]
         refine wpAnyH_ready (rs := [8]) (by decide +kernel) (by simp) ?_
         refine (AllReadyH.cons rfl (fun K hK => ?_) AllReadyH.nil)
         have g0 := froz0 hx 0
         have g1 := froz0 hx 1
         have g2 := froz0 hx 2
         obtain ⟨e0, e1, e2⟩ := cel3 hx
         go_simp
         refine Shut.out hK _ _ (by first | (rw [← set3c_eq]; exact HST.out _ _ _ _ _ hq hbx) | exact HCR.out _ (btr hq0 bal)) (fun hS2 => ?_)
         clear hK K hS
         have hS := hS2
         clear hS2
         try simp only [Act.put, s1, s2, s3, List.getElem_toArray, List.getElem_cons_succ, List.getElem_cons_zero]
         refine wpAnyH_done (by kernel_rfl) ?_ _
         try simp only [Act.put, s1, s2, s3, List.getElem_toArray, List.getElem_cons_succ, List.getElem_cons_zero]
         simp only [NQ]
         first
         | exact hQ _ _ _ _ _ _ _ _ (set3c _ _ (.slice p1 m1 l1) (.slice p2 m2 l2) (.slice p3 m3 l3)) p1 p2 p3 m1 m2 m3 l1 l2 l3 (set3c_below _ _ _ hq hbx) hbx (set3c_same _ _ _ hx) ⟨set3c_dots hca.1 hx, set3c_dots hca.2.1 hx, set3c_items hca.2.2 hx⟩
         | exact hQ _ _ _ _ _ _ _ _ _ p1 p2 p3 m1 m2 m3 l1 l2 l3 (btr hq0 bal) hbx (alloc_new _ _) (hca0.below bal)
     · go_simp
       have h0 : Below q4.heap.size q4 (q4.alloc (.cells #[.slice none 0 0, .slice none 0 0, .slice none 0 0] 28)) := bal
       have hr := hr.below h0
       have ho := ho.dots h0
       have hx : (q4.alloc (.cells #[.slice none 0 0, .slice none 0 0, .slice none 0 0] 28)).heap[q4.heap.size]? = some (.cells #[.slice none 0 0, .slice none 0 0, .slice none 0 0] 28) := alloc_new _ _
       have hbx : WL.heap.size ≤ q4.heap.size := hq.size
       have hq := btr hq h0
       clear h0
       refine Shut.out hK _ _ (HCR.out _ hq) (fun hS2 => ?_)
       clear hK K hS
       have hS := hS2
       clear hS2
       try simp only [Act.put, s1, s2, s3, List.getElem_toArray, List.getElem_cons_succ, List.getElem_cons_zero]
       refine wpAnyH_ready (rs := [5]) (by decide +kernel) (by simp) ?_
       refine (AllReadyH.cons rfl (fun K hK => ?_) AllReadyH.nil)
       refine step_append_row rfl _ _ 22 rfl EDot WL.heap.size (.agg #[.int .i64 0, .int .i64 0]) 16 Tryz.underlying22 infoDot (by decide) (by decide) _ [d] rfl hr _ (dotsC c nm) rfl (Arr.toSrc (E := EDot) ho (fun _ _ h => h.1)) (by have := HDL.out; simp; omega) hq.size ?_
       intro v5 q5 hrow hgr
       have hx := (hgr.block _ (lt_of_heap hx) (fun e => erow_ne hr hx (by decide) _ e.symm rfl)).trans hx
       have hq := hq.grown hgr hq.size (fun j hj => (hr.lt _ hj).1)
       have ha := hrow.dots HDD.out
       obtain ⟨oa, ka, rfl⟩ := ha.slice
       clear hrow hgr hr ho
       refine Shut.out hK _ _ (HCR.out _ hq) (fun hS2 => ?_)
       clear hK K hS
       have hS := hS2
       clear hS2
       try simp only [Act.put, s1, s2, s3, List.getElem_toArray, List.getElem_cons_succ, List.getElem_cons_zero]
       refine wpAnyH_ready (rs := [6]) (by decide +kernel) (by simp) ?_
       refine (AllReadyH.cons rfl (fun K hK => ?_) AllReadyH.nil)
       go_simp
       go_at_call 46
       refine (r12Gone_any _ _ _ ha HAV.out (by have := HDL.out; simp; omega)).mono ?_
       rintro e q6 ⟨x1, x2, x3, rfl, hca, h0⟩
       have hx := (h0.block _ (lt_of_heap hx)).trans hx
       obtain ⟨p1, m1, l1, p2, m2, l2, p3, m3, l3, rfl, rfl, rfl, hm1, hm2, hm3⟩ := opn4 hca
       have hq := btr hq h0
       clear h0 ha hm1 hm2 hm3
       go_simp
       refine Shut.out hK _ _ (HCR.out _ hq) (fun hS2 => ?_)
       clear hK K hS
       have hS := hS2
       clear hS2
       try simp only [Act.put, s1, s2, s3, List.getElem_toArray, List.getElem_cons_succ, List.getElem_cons_zero]
       refine wpAnyH_ready (rs := [8]) (by decide +kernel) (by simp) ?_
       refine (AllReadyH.cons rfl (fun K hK => ?_) AllReadyH.nil)
       have g0 := froz0 hx 0
       have g1 := froz0 hx 1
       have g2 := froz0 hx 2
       obtain ⟨e0, e1, e2⟩ := cel3 hx
       go_simp
       refine Shut.out hK _ _ (by first | (rw [← set3c_eq]; exact HST.out _ _ _ _ _ hq hbx) | exact HCR.out _ (btr hq0 bal)) (fun hS2 => ?_)
       clear hK K hS
       have hS := hS2
       clear hS2
       try simp only [Act.put, s1, s2, s3, List.getElem_toArray, List.getElem_cons_succ, List.getElem_cons_zero]
       refine wpAnyH_done (by kernel_rfl) ?_ _
       try simp only [Act.put, s1, s2, s3, List.getElem_toArray, List.getElem_cons_succ, List.getElem_cons_zero]
       simp only [NQ]
       first
       | exact hQ _ _ _ _ _ _ _ _ (set3c _ _ (.slice p1 m1 l1) (.slice p2 m2 l2) (.slice p3 m3 l3)) p1 p2 p3 m1 m2 m3 l1 l2 l3 (set3c_below _ _ _ hq hbx) hbx (set3c_same _ _ _ hx) ⟨set3c_dots hca.1 hx, set3c_dots hca.2.1 hx, set3c_items hca.2.2 hx⟩
       | exact hQ _ _ _ _ _ _ _ _ _ p1 p2 p3 m1 m2 m3 l1 l2 l3 (btr hq0 bal) hbx (alloc_new _ _) (hca0.below bal)
   · go_simp
     have h0 : Below (WL.drew.alloc (.cells #[.int .i64 d.rep, .int .i64 d.ctr] 30)).heap.size (WL.drew.alloc (.cells #[.int .i64 d.rep, .int .i64 d.ctr] 30)) ((WL.drew.alloc (.cells #[.int .i64 d.rep, .int .i64 d.ctr] 30)).alloc (.cells #[.slice none 0 0, .slice none 0 0, .slice none 0 0] 28)) := bal
     have hr := hr.below h0
     have hx : ((WL.drew.alloc (.cells #[.int .i64 d.rep, .int .i64 d.ctr] 30)).alloc (.cells #[.slice none 0 0, .slice none 0 0, .slice none 0 0] 28)).heap[(WL.drew.alloc (.cells #[.int .i64 d.rep, .int .i64 d.ctr] 30)).heap.size]? = some (.cells #[.slice none 0 0, .slice none 0 0, .slice none 0 0] 28) := alloc_new _ _
     have hbx : WL.heap.size ≤ (WL.drew.alloc (.cells #[.int .i64 d.rep, .int .i64 d.ctr] 30)).heap.size := hq.size
     have e9 : (WL.drew.alloc (.cells #[.int .i64 d.rep, .int .i64 d.ctr] 30)).heap.size = WL.heap.size + 1 := by first | (rw [alloc_size]; done) | (rw [alloc_size]; rfl)
     rw [e9] at hx hbx
     clear e9
     have hq := btr hq h0
     clear h0
     refine Shut.out hK _ _ (HCR.out _ hq) (fun hS2 => ?_)
     clear hK K hS
     have hS := hS2
     clear hS2
     try simp only [Act.put, s1, s2, s3, List.getElem_toArray, List.getElem_cons_succ, List.getElem_cons_zero]
     refine wpAnyH_ready (rs := [4]) (by decide +kernel) (by simp) ?_
     refine (AllReadyH.cons rfl (fun K hK => ?_) AllReadyH.nil)
     go_simp
     go_at_call 47
     refine (HD.out ((WL.drew.alloc (.cells #[.int .i64 d.rep, .int .i64 d.ctr] 30)).alloc (.cells #[.slice none 0 0, .slice none 0 0, .slice none 0 0] 28)) hq).mono ?_
     rintro e q4 ⟨v4, rfl, ho, h0⟩
     have hr := hr.below h0
     have hx := (h0.block _ (lt_of_heap hx)).trans hx
     obtain ⟨oo, ko, rfl⟩ := ho.slice
     have hq := btr hq h0
     clear h0
     go_simp
     refine Shut.out hK _ _ (HCR.out _ hq) (fun hS2 => ?_)
     clear hK K hS
     have hS := hS2
     clear hS2
     try simp only [Act.put, s1, s2, s3, List.getElem_toArray, List.getElem_cons_succ, List.getElem_cons_zero]
     refine wpAnyH_ready (rs := [5]) (by decide +kernel) (by simp) ?_
     refine (AllReadyH.cons rfl (fun K hK => ?_) AllReadyH.nil)
     refine step_append_row rfl _ _ 22 rfl EDot WL.heap.size (.agg #[.int .i64 0, .int .i64 0]) 16 Tryz.underlying22 infoDot (by decide) (by decide) _ [d] rfl hr _ (dotsC c nm) rfl (Arr.toSrc (E := EDot) ho (fun _ _ h => h.1)) (by have := HDL.out; simp; omega) hq.size ?_
     intro v5 q5 hrow hgr
     have hx := (hgr.block _ (lt_of_heap hx) (fun e => erow_ne hr hx (by decide) _ e.symm rfl)).trans hx
     have hq := hq.grown hgr hq.size (fun j hj => (hr.lt _ hj).1)
     have ha := hrow.dots HDD.out
     obtain ⟨oa, ka, rfl⟩ := ha.slice
     clear hrow hgr hr ho
     refine Shut.out hK _ _ (HCR.out _ hq) (fun hS2 => ?_)
     clear hK K hS
     have hS := hS2
     clear hS2
     try simp only [Act.put, s1, s2, s3, List.getElem_toArray, List.getElem_cons_succ, List.getElem_cons_zero]
     refine wpAnyH_ready (rs := [6]) (by decide +kernel) (by simp) ?_
     refine (AllReadyH.cons rfl (fun K hK => ?_) AllReadyH.nil)
     go_simp
     go_at_call 46
     refine (r12Gone_any _ _ _ ha HAV.out (by have := HDL.out; simp; omega)).mono ?_
     rintro e q6 ⟨x1, x2, x3, rfl, hca, h0⟩
     have hx := (h0.block _ (lt_of_heap hx)).trans hx
     obtain ⟨p1, m1, l1, p2, m2, l2, p3, m3, l3, rfl, rfl, rfl, hm1, hm2, hm3⟩ := opn4 hca
     have hq := btr hq h0
     clear h0 ha hm1 hm2 hm3
     go_simp
     refine Shut.out hK _ _ (HCR.out _ hq) (fun hS2 => ?_)
     clear hK K hS
     have hS := hS2
     clear hS2
     try simp only [Act.put, s1, s2, s3, List.getElem_toArray, List.getElem_cons_succ, List.getElem_cons_zero]
     refine wpAnyH_ready (rs := [8]) (by decide +kernel) (by simp) ?_
     refine (AllReadyH.cons rfl (fun K hK => ?_) AllReadyH.nil)
     have g0 := froz0 hx 0
     have g1 := froz0 hx 1
     have g2 := froz0 hx 2
     obtain ⟨e0, e1, e2⟩ := cel3 hx
     go_simp
     refine Shut.out hK _ _ (by first | (rw [← set3c_eq]; exact HST.out _ _ _ _ _ hq hbx) | exact HCR.out _ (btr hq0 bal)) (fun hS2 => ?_)
     clear hK K hS
     have hS := hS2
     clear hS2
     try simp only [Act.put, s1, s2, s3, List.getElem_toArray, List.getElem_cons_succ, List.getElem_cons_zero]
     refine wpAnyH_done (by kernel_rfl) ?_ _
     try simp only [Act.put, s1, s2, s3, List.getElem_toArray, List.getElem_cons_succ, List.getElem_cons_zero]
     simp only [NQ]
     first
     | exact hQ _ _ _ _ _ _ _ _ (set3c _ _ (.slice p1 m1 l1) (.slice p2 m2 l2) (.slice p3 m3 l3)) p1 p2 p3 m1 m2 m3 l1 l2 l3 (set3c_below _ _ _ hq hbx) hbx (set3c_same _ _ _ hx) ⟨set3c_dots hca.1 hx, set3c_dots hca.2.1 hx, set3c_items hca.2.2 hx⟩
     | exact hQ _ _ _ _ _ _ _ _ _ p1 p2 p3 m1 m2 m3 l1 l2 l3 (btr hq0 bal) hbx (alloc_new _ _) (hca0.below bal)
 · go_simp
   go_at_call 47
   refine (HD.out WL.drew hq).mono ?_
   rintro e q4 ⟨v4, rfl, ho, h0⟩
   obtain ⟨oo, ko, rfl⟩ := ho.slice
   have hq := btr hq h0
   clear h0
   go_simp
   refine Shut.out hK _ _ (HCR.out _ hq) (fun hS2 => ?_)
   clear hK K hS
   have hS := hS2
   clear hS2
   try simp only [Act.put, s1, s2, s3, List.getElem_toArray, List.getElem_cons_succ, List.getElem_cons_zero]
   refine wpAnyH_ready (rs := [1, 7]) (by decide +kernel) (by simp) ?_
   refine (AllReadyH.cons rfl (fun K hK => ?_) (AllReadyH.cons rfl (fun K hK => ?_) AllReadyH.nil))
   · go_simp
     have h0 : Below q4.heap.size q4 (q4.alloc (.cells #[.int .i64 d.rep, .int .i64 d.ctr] 30)) := bal
     have ho := ho.dots h0
     have hr : EDot.Row WL.heap.size (q4.alloc (.cells #[.int .i64 d.rep, .int .i64 d.ctr] 30)) (.slice (some ⟨q4.heap.size, 0, none⟩) 1 1) [d] := (row_lit EDot [d] q4 (by unfold maxLen; simp)).mono hq.size
     have hq := btr hq h0
     clear h0
     refine Shut.out hK _ _ (HCR.out _ hq) (fun hS2 => ?_)
     clear hK K hS
     have hS := hS2
     clear hS2
     try simp only [Act.put, s1, s2, s3, List.getElem_toArray, List.getElem_cons_succ, List.getElem_cons_zero]
     refine wpAnyH_ready (rs := [5, 7]) (by decide +kernel) (by simp) ?_
     refine (AllReadyH.cons rfl (fun K hK => ?_) (AllReadyH.cons rfl (fun K hK => ?_) AllReadyH.nil))
     · refine step_append_row rfl _ _ 22 rfl EDot WL.heap.size (.agg #[.int .i64 0, .int .i64 0]) 16 Tryz.underlying22 infoDot (by decide) (by decide) _ [d] rfl hr _ (dotsC c nm) rfl (Arr.toSrc (E := EDot) ho (fun _ _ h => h.1)) (by have := HDL.out; simp; omega) hq.size ?_
       intro v5 q5 hrow hgr
       have hq := hq.grown hgr hq.size (fun j hj => (hr.lt _ hj).1)
       have ha := hrow.dots HDD.out
       obtain ⟨oa, ka, rfl⟩ := ha.slice
       clear hrow hgr hr ho
       refine Shut.out hK _ _ (HCR.out _ hq) (fun hS2 => ?_)
       clear hK K hS
       have hS := hS2
       clear hS2
       try simp only [Act.put, s1, s2, s3, List.getElem_toArray, List.getElem_cons_succ, List.getElem_cons_zero]
       refine wpAnyH_ready (rs := [6, 7]) (by decide +kernel) (by simp) ?_
       refine (AllReadyH.cons rfl (fun K hK => ?_) (AllReadyH.cons rfl (fun K hK => ?_) AllReadyH.nil))
       · go_simp
         go_at_call 46
         refine (r12Gone_any _ _ _ ha HAV.out (by have := HDL.out; simp; omega)).mono ?_
         rintro e q6 ⟨x1, x2, x3, rfl, hca, h0⟩
         obtain ⟨p1, m1, l1, p2, m2, l2, p3, m3, l3, rfl, rfl, rfl, hm1, hm2, hm3⟩ := opn4 hca
         have hq := btr hq h0
         clear h0 ha hm1 hm2 hm3
         go_simp
         refine Shut.out hK _ _ (HCR.out _ hq) (fun hS2 => ?_)
         clear hK K hS
         have hS := hS2
         clear hS2
         try simp only [Act.put, s1, s2, s3, List.getElem_toArray, List.getElem_cons_succ, List.getElem_cons_zero]
         refine wpAnyH_ready (rs := [7]) (by decide +kernel) (by simp) ?_
         refine (AllReadyH.cons rfl (fun K hK => ?_) AllReadyH.nil)
         go_simp
         have h0 : Below q6.heap.size q6 (q6.alloc (.cells #[.slice none 0 0, .slice none 0 0, .slice none 0 0] 28)) := bal
         have hca0 := hca
         have hq0 := hq
         have hca := hca.below h0
         have hx : (q6.alloc (.cells #[.slice none 0 0, .slice none 0 0, .slice none 0 0] 28)).heap[q6.heap.size]? = some (.cells #[.slice none 0 0, .slice none 0 0, .slice none 0 0] 28) := alloc_new _ _
         have hbx : WL.heap.size ≤ q6.heap.size := hq.size
         have hq := btr hq h0
         clear h0
         refine Shut.out hK _ _ (HCR.out _ hq) (fun hS2 => ?_)
         clear hK K hS
         have hS := hS2
         clear hS2
         try simp only [Act.put, s1, s2, s3, List.getElem_toArray, List.getElem_cons_succ, List.getElem_cons_zero]
         refine wpAnyH_ready (rs := [8]) (by decide +kernel) (by simp) ?_
         refine (AllReadyH.cons rfl (fun K hK => ?_) AllReadyH.nil)
         have g0 := froz0 hx 0
         have g1 := froz0 hx 1
         have g2 := froz0 hx 2
         obtain ⟨e0, e1, e2⟩ := cel3 hx
         go_simp
         refine Shut.out hK _ _ (by first | (rw [← set3c_eq]; exact HST.out _ _ _ _ _ hq hbx) | exact HCR.out _ (btr hq0 bal)) (fun hS2 => ?_)
         clear hK K hS
         have hS := hS2
         clear hS2
         try simp only [Act.put, s1, s2, s3, List.getElem_toArray, List.getElem_cons_succ, List.getElem_cons_zero]
         refine wpAnyH_done (by kernel_rfl) ?_ _
         try simp only [Act.put, s1, s2, s3, List.getElem_toArray, List.getElem_cons_succ, List.getElem_cons_zero]
         simp only [NQ]
         first
         | exact hQ _ _ _ _ _ _ _ _ (set3c _ _ (.slice p1 m1 l1) (.slice p2 m2 l2) (.slice p3 m3 l3)) p1 p2 p3 m1 m2 m3 l1 l2 l3 (set3c_below _ _ _ hq hbx) hbx (set3c_same _ _ _ hx) ⟨set3c_dots hca.1 hx, set3c_dots hca.2.1 hx, set3c_items hca.2.2 hx⟩
         | exact hQ _ _ _ _ _ _ _ _ _ p1 p2 p3 m1 m2 m3 l1 l2 l3 (btr hq0 bal) hbx (alloc_new _ _) (hca0.below bal)
       · go_simp
         have h0 : Below q5.heap.size q5 (q5.alloc (.cells #[.slice none 0 0, .slice none 0 0, .slice none 0 0] 28)) := bal
         have ha := ha.dots h0
         have hx : (q5.alloc (.cells #[.slice none 0 0, .slice none 0 0, .slice none 0 0] 28)).heap[q5.heap.size]? = some (.cells #[.slice none 0 0, .slice none 0 0, .slice none 0 0] 28) := alloc_new _ _
         have hbx : WL.heap.size ≤ q5.heap.size := hq.size
         have hq := btr hq h0
         clear h0
         refine Shut.out hK _ _ (HCR.out _ hq) (fun hS2 => ?_)
         clear hK K hS
         have hS := hS2
         clear hS2
         try simp only [Act.put, s1, s2, s3, List.getElem_toArray, List.getElem_cons_succ, List.getElem_cons_zero]
         refine wpAnyH_ready (rs := [6]) (by decide +kernel) (by simp) ?_
         refine (AllReadyH.cons rfl (fun K hK => ?_) AllReadyH.nil)
         go_simp
         go_at_call 46
         refine (r12Gone_any _ _ _ ha HAV.out (by have := HDL.out; simp; omega)).mono ?_
         rintro e q6 ⟨x1, x2, x3, rfl, hca, h0⟩
         have hx := (h0.block _ (lt_of_heap hx)).trans hx
         obtain ⟨p1, m1, l1, p2, m2, l2, p3, m3, l3, rfl, rfl, rfl, hm1, hm2, hm3⟩ := opn4 hca
         have hq := btr hq h0
         clear h0 ha hm1 hm2 hm3
         go_simp
         refine Shut.out hK _ _ (HCR.out _ hq) (fun hS2 => ?_)
         clear hK K hS
         have hS := hS2
         clear hS2
         try simp only [Act.put, s1, s2, s3, List.getElem_toArray, List.getElem_cons_succ, List.getElem_cons_zero]
         refine wpAnyH_ready (rs := [8]) (by decide +kernel) (by simp) ?_
         refine (AllReadyH.cons rfl (fun K hK => ?_) AllReadyH.nil)
         have g0 := froz0 hx 0
         have g1 := froz0 hx 1
         have g2 := froz0 hx 2
         obtain ⟨e0, e1, e2⟩ := cel3 hx
         go_simp
         refine Shut.out hK _ _ (by first | (rw [← set3c_eq]; exact HST.out _ _ _ _ _ hq hbx) | exact HCR.out _ (btr hq0 bal)) (fun hS2 => ?_)
         clear hK K hS
         have hS := hS2
         clear hS2
         try simp only [Act.put, s1, s2, s3, List.getElem_toArray, List.getElem_cons_succ, List.getElem_cons_zero]
         refine wpAnyH_done (by kernel_rfl) ?_ _
         try simp only [Act.put, s1, s2, s3, List.getElem_toArray, List.getElem_cons_succ, List.getElem_cons_zero]
         simp only [NQ]
         first
         | exact hQ _ _ _ _ _ _ _ _ (set3c _ _ (.slice p1 m1 l1) (.slice p2 m2 l2) (.slice p3 m3 l3)) p1 p2 p3 m1 m2 m3 l1 l2 l3 (set3c_below _ _ _ hq hbx) hbx (set3c_same _ _ _ hx) ⟨set3c_dots hca.1 hx, set3c_dots hca.2.1 hx, set3c_items hca.2.2 hx⟩
         | exact hQ _ _ _ _ _ _ _ _ _ p1 p2 p3 m1 m2 m3 l1 l2 l3 (btr hq0 bal) hbx (alloc_new _ _) (hca0.below bal)
     · go_simp
       have h0 : Below (q4.alloc (.cells #[.int .i64 d.rep, .int .i64 d.ctr] 30)).heap.size (q4.alloc (.cells #[.int .i64 d.rep, .int .i64 d.ctr] 30)) ((q4.alloc (.cells #[.int .i64 d.rep, .int .i64 d.ctr] 30)).alloc (.cells #[.slice none 0 0, .slice none 0 0, .slice none 0 0] 28)) := bal
       have hr := hr.below h0
       have ho := ho.dots h0
       have hx : ((q4.alloc (.cells #[.int .i64 d.rep, .int .i64 d.ctr] 30)).alloc (.cells #[.slice none 0 0, .slice none 0 0, .slice none 0 0] 28)).heap[(q4.alloc (.cells #[.int .i64 d.rep, .int .i64 d.ctr] 30)).heap.size]? = some (.cells #[.slice none 0 0, .slice none 0 0, .slice none 0 0] 28) := alloc_new _ _
       have hbx : WL.heap.size ≤ (q4.alloc (.cells #[.int .i64 d.rep, .int .i64 d.ctr] 30)).heap.size := hq.size
       have e9 : (q4.alloc (.cells #[.int .i64 d.rep, .int .i64 d.ctr] 30)).heap.size = q4.heap.size + 1 := by first | (rw [alloc_size]; done) | (rw [alloc_size]; rfl)
       rw [e9] at hx hbx
       clear e9
       have hq := btr hq h0
       clear h0
       refine Shut.out hK _ _ (HCR.out _ hq) (fun hS2 => ?_)
       clear hK K hS
       have hS := hS2
       clear hS2
       try simp only [Act.put, s1, s2, s3, List.getElem_toArray, List.getElem_cons_succ, List.getElem_cons_zero]
       refine wpAnyH_ready (rs := [5]) (by decide +kernel) (by simp) ?_
       refine (AllReadyH.cons rfl (fun K hK => ?_) AllReadyH.nil)
       refine step_append_row rfl _ _ 22 rfl EDot WL.heap.size (.agg #[.int .i64 0, .int .i64 0]) 16 Tryz.underlying22 infoDot (by decide) (by decide) _ [d] rfl hr _ (dotsC c nm) rfl (Arr.toSrc (E := EDot) ho (fun _ _ h => h.1)) (by have := HDL.out; simp; omega) hq.size ?_
       intro v5 q5 hrow hgr
       have hx := (hgr.block _ (lt_of_heap hx) (fun e => erow_ne hr hx (by decide) _ e.symm rfl)).trans hx
       have hq := hq.grown hgr hq.size (fun j hj => (hr.lt _ hj).1)
       have ha := hrow.dots HDD.out
       obtain ⟨oa, ka, rfl⟩ := ha.slice
       clear hrow hgr hr ho
       refine Shut.out hK _ _ (HCR.out _ hq) (fun hS2 => ?_)
       clear hK K hS
       have hS := hS2
       clear hS2
       try simp only [Act.put, s1, s2, s3, List.getElem_toArray, List.getElem_cons_succ, List.getElem_cons_zero]
       refine wpAnyH_ready (rs := [6]) (by decide +kernel) (by simp) ?_
       refine (AllReadyH.cons rfl (fun K hK => ?_) AllReadyH.nil)
       go_simp
       go_at_call 46
       refine (r12Gone_any _ _ _ ha HAV.out (by have := HDL.out; simp; omega)).mono ?_
       rintro e q6 ⟨x1, x2, x3, rfl, hca, h0⟩
       have hx := (h0.block _ (lt_of_heap hx)).trans hx
       obtain ⟨p1, m1, l1, p2, m2, l2, p3, m3, l3, rfl, rfl, rfl, hm1, hm2, hm3⟩ := opn4 hca
       have hq := btr hq h0
       clear h0 ha hm1 hm2 hm3
       go_simp
       refine Shut.out hK _ _ (HCR.out _ hq) (fun hS2 => ?_)
       clear hK K hS
       have hS := hS2
       clear hS2
       try simp only [Act.put, s1, s2, s3, List.getElem_toArray, List.getElem_cons_succ, List.getElem_cons_zero]
       refine wpAnyH_ready (rs := [8]) (by decide +kernel) (by simp) ?_
       refine (AllReadyH.cons rfl (fun K hK => ?_) AllReadyH.nil)
       have g0 := froz0 hx 0
       have g1 := froz0 hx 1
       have g2 := froz0 hx 2
       obtain ⟨e0, e1, e2⟩ := cel3 hx
       go_simp
       refine Shut.out hK _ _ (by first | (rw [← set3c_eq]; exact HST.out _ _ _ _ _ hq hbx) | exact HCR.out _ (btr hq0 bal)) (fun hS2 => ?_)
       clear hK K hS
       have hS := hS2
       clear hS2
       try simp only [Act.put, s1, s2, s3, List.getElem_toArray, List.getElem_cons_succ, List.getElem_cons_zero]
       refine wpAnyH_done (by kernel_rfl) ?_ _
       try simp only [Act.put, s1, s2, s3, List.getElem_toArray, List.getElem_cons_succ, List.getElem_cons_zero]
       simp only [NQ]
       first
       | exact hQ _ _ _ _ _ _ _ _ (set3c _ _ (.slice p1 m1 l1) (.slice p2 m2 l2) (.slice p3 m3 l3)) p1 p2 p3 m1 m2 m3 l1 l2 l3 (set3c_below _ _ _ hq hbx) hbx (set3c_same _ _ _ hx) ⟨set3c_dots hca.1 hx, set3c_dots hca.2.1 hx, set3c_items hca.2.2 hx⟩
       | exact hQ _ _ _ _ _ _ _ _ _ p1 p2 p3 m1 m2 m3 l1 l2 l3 (btr hq0 bal) hbx (alloc_new _ _) (hca0.below bal)
   · go_simp
     have h0 : Below q4.heap.size q4 (q4.alloc (.cells #[.slice none 0 0, .slice none 0 0, .slice none 0 0] 28)) := bal
     have ho := ho.dots h0
     have hx : (q4.alloc (.cells #[.slice none 0 0, .slice none 0 0, .slice none 0 0] 28)).heap[q4.heap.size]? = some (.cells #[.slice none 0 0, .slice none 0 0, .slice none 0 0] 28) := alloc_new _ _
     have hbx : WL.heap.size ≤ q4.heap.size := hq.size
     have hq := btr hq h0
     clear h0
     refine Shut.out hK _ _ (HCR.out _ hq) (fun hS2 => ?_)
     clear hK K hS
     have hS := hS2
     clear hS2
     try simp only [Act.put, s1, s2, s3, List.getElem_toArray, List.getElem_cons_succ, List.getElem_cons_zero]
     refine wpAnyH_ready (rs := [1]) (by decide +kernel) (by simp) ?_
     refine (AllReadyH.cons rfl (fun K hK => ?_) AllReadyH.nil)
     go_simp
     have h0 : Below (q4.alloc (.cells #[.slice none 0 0, .slice none 0 0, .slice none 0 0] 28)).heap.size (q4.alloc (.cells #[.slice none 0 0, .slice none 0 0, .slice none 0 0] 28)) ((q4.alloc (.cells #[.slice none 0 0, .slice none 0 0, .slice none 0 0] 28)).alloc (.cells #[.int .i64 d.rep, .int .i64 d.ctr] 30)) := bal
     have ho := ho.dots h0
     have hx := (h0.block _ (lt_of_heap hx)).trans hx
     have hr : EDot.Row WL.heap.size ((q4.alloc (.cells #[.slice none 0 0, .slice none 0 0, .slice none 0 0] 28)).alloc (.cells #[.int .i64 d.rep, .int .i64 d.ctr] 30)) (.slice (some ⟨(q4.alloc (.cells #[.slice none 0 0, .slice none 0 0, .slice none 0 0] 28)).heap.size, 0, none⟩) 1 1) [d] := (row_lit EDot [d] (q4.alloc (.cells #[.slice none 0 0, .slice none 0 0, .slice none 0 0] 28)) (by unfold maxLen; simp)).mono hq.size
     have e9 : (q4.alloc (.cells #[.slice none 0 0, .slice none 0 0, .slice none 0 0] 28)).heap.size = q4.heap.size + 1 := by first | (rw [alloc_size]; done) | (rw [alloc_size]; rfl)
     rw [e9] at hr
     clear e9
     have hq := btr hq h0
     clear h0
     refine Shut.out hK _ _ (HCR.out _ hq) (fun hS2 => ?_)
     clear hK K hS
     have hS := hS2
     clear hS2
     try simp only [Act.put, s1, s2, s3, List.getElem_toArray, List.getElem_cons_succ, List.getElem_cons_zero]
     refine wpAnyH_ready (rs := [5]) (by decide +kernel) (by simp) ?_
     refine (AllReadyH.cons rfl (fun K hK => ?_) AllReadyH.nil)
     refine step_append_row rfl _ _ 22 rfl EDot WL.heap.size (.agg #[.int .i64 0, .int .i64 0]) 16 Tryz.underlying22 infoDot (by decide) (by decide) _ [d] rfl hr _ (dotsC c nm) rfl (Arr.toSrc (E := EDot) ho (fun _ _ h => h.1)) (by have := HDL.out; simp; omega) hq.size ?_
     intro v5 q5 hrow hgr
     have hx := (hgr.block _ (lt_of_heap hx) (fun e => erow_ne hr hx (by decide) _ e.symm rfl)).trans hx
     have hq := hq.grown hgr hq.size (fun j hj => (hr.lt _ hj).1)
     have ha := hrow.dots HDD.out
     obtain ⟨oa, ka, rfl⟩ := ha.slice
     clear hrow hgr hr ho
     refine Shut.out hK _ _ (HCR.out _ hq) (fun hS2 => ?_)
     clear hK K hS
     have hS := hS2
     clear hS2
     try simp only [Act.put, s1, s2, s3, List.getElem_toArray, List.getElem_cons_succ, List.getElem_cons_zero]
     refine wpAnyH_ready (rs := [6]) (by decide +kernel) (by simp) ?_
     refine (AllReadyH.cons rfl (fun K hK => ?_) AllReadyH.nil)
     go_simp
     go_at_call 46
     refine (r12Gone_any _ _ _ ha HAV.out (by have := HDL.out; simp; omega)).mono ?_
     rintro e q6 ⟨x1, x2, x3, rfl, hca, h0⟩
     have hx := (h0.block _ (lt_of_heap hx)).trans hx
     obtain ⟨p1, m1, l1, p2, m2, l2, p3, m3, l3, rfl, rfl, rfl, hm1, hm2, hm3⟩ := opn4 hca
     have hq := btr hq h0
     clear h0 ha hm1 hm2 hm3
     go_simp
     refine Shut.out hK _ _ (HCR.out _ hq) (fun hS2 => ?_)
     clear hK K hS
     have hS := hS2
     clear hS2
     try simp only [Act.put, s1, s2, s3, List.getElem_toArray, List.getElem_cons_succ, List.getElem_cons_zero]
     refine wpAnyH_ready (rs := [8]) (by decide +kernel) (by simp) ?_
     refine (AllReadyH.cons rfl (fun K hK => ?_) AllReadyH.nil)
     have g0 := froz0 hx 0
     have g1 := froz0 hx 1
     have g2 := froz0 hx 2
     obtain ⟨e0, e1, e2⟩ := cel3 hx
     go_simp
     refine Shut.out hK _ _ (by first | (rw [← set3c_eq]; exact HST.out _ _ _ _ _ hq hbx) | exact HCR.out _ (btr hq0 bal)) (fun hS2 => ?_)
     clear hK K hS
     have hS := hS2
     clear hS2
     try simp only [Act.put, s1, s2, s3, List.getElem_toArray, List.getElem_cons_succ, List.getElem_cons_zero]
     refine wpAnyH_done (by kernel_rfl) ?_ _
     try simp only [Act.put, s1, s2, s3, List.getElem_toArray, List.getElem_cons_succ, List.getElem_cons_zero]
     simp only [NQ]
     first
     | exact hQ _ _ _ _ _ _ _ _ (set3c _ _ (.slice p1 m1 l1) (.slice p2 m2 l2) (.slice p3 m3 l3)) p1 p2 p3 m1 m2 m3 l1 l2 l3 (set3c_below _ _ _ hq hbx) hbx (set3c_same _ _ _ hx) ⟨set3c_dots hca.1 hx, set3c_dots hca.2.1 hx, set3c_items hca.2.2 hx⟩
     | exact hQ _ _ _ _ _ _ _ _ _ p1 p2 p3 m1 m2 m3 l1 l2 l3 (btr hq0 bal) hbx (alloc_new _ _) (hca0.below bal)
 · go_simp
   have h0 : Below WL.drew.heap.size WL.drew (WL.drew.alloc (.cells #[.slice none 0 0, .slice none 0 0, .slice none 0 0] 28)) := bal
   have hx : (WL.drew.alloc (.cells #[.slice none 0 0, .slice none 0 0, .slice none 0 0] 28)).heap[WL.drew.heap.size]? = some (.cells #[.slice none 0 0, .slice none 0 0, .slice none 0 0] 28) := alloc_new _ _
   have hbx : WL.heap.size ≤ WL.drew.heap.size := hq.size
   have e9 : WL.drew.heap.size = WL.heap.size := rfl
   rw [e9] at hx hbx
   clear e9
   have hq := btr hq h0
   clear h0
   refine Shut.out hK _ _ (HCR.out _ hq) (fun hS2 => ?_)
   clear hK K hS
   have hS := hS2
   clear hS2
   try simp only [Act.put, s1, s2, s3, List.getElem_toArray, List.getElem_cons_succ, List.getElem_cons_zero]
   refine wpAnyH_ready (rs := [1, 4]) (by decide +kernel) (by simp) ?_
   refine (AllReadyH.cons rfl (fun K hK => ?_) (AllReadyH.cons rfl (fun K hK => ?_) AllReadyH.nil))
   · go_simp
     have h0 : Below (WL.drew.alloc (.cells #[.slice none 0 0, .slice none 0 0, .slice none 0 0] 28)).heap.size (WL.drew.alloc (.cells #[.slice none 0 0, .slice none 0 0, .slice none 0 0] 28)) ((WL.drew.alloc (.cells #[.slice none 0 0, .slice none 0 0, .slice none 0 0] 28)).alloc (.cells #[.int .i64 d.rep, .int .i64 d.ctr] 30)) := bal
     have hx := (h0.block _ (lt_of_heap hx)).trans hx
     have hr : EDot.Row WL.heap.size ((WL.drew.alloc (.cells #[.slice none 0 0, .slice none 0 0, .slice none 0 0] 28)).alloc (.cells #[.int .i64 d.rep, .int .i64 d.ctr] 30)) (.slice (some ⟨(WL.drew.alloc (.cells #[.slice none 0 0, .slice none 0 0, .slice none 0 0] 28)).heap.size, 0, none⟩) 1 1) [d] := (row_lit EDot [d] (WL.drew.alloc (.cells #[.slice none 0 0, .slice none 0 0, .slice none 0 0] 28)) (by unfold maxLen; simp)).mono hq.size
     have e9 : (WL.drew.alloc (.cells #[.slice none 0 0, .slice none 0 0, .slice none 0 0] 28)).heap.size = WL.heap.size + 1 := by first | (rw [alloc_size]; done) | (rw [alloc_size]; rfl)
     rw [e9] at hr
     clear e9
     have hq := btr hq h0
     clear h0
     refine Shut.out hK _ _ (HCR.out _ hq) (fun hS2 => ?_)
     clear hK K hS
     have hS := hS2
     clear hS2
     try simp only [Act.put, s1, s2, s3, List.getElem_toArray, List.getElem_cons_succ, List.getElem_cons_zero]
     refine wpAnyH_ready (rs := [4]) (by decide +kernel) (by simp) ?_
     refine (AllReadyH.cons rfl (fun K hK => ?_) AllReadyH.nil)
     go_simp
     go_at_call 47
     refine (HD.out ((WL.drew.alloc (.cells #[.slice none 0 0, .slice none 0 0, .slice none 0 0] 28)).alloc (.cells #[.int .i64 d.rep, .int .i64 d.ctr] 30)) hq).mono ?_
     rintro e q4 ⟨v4, rfl, ho, h0⟩
     have hr := hr.below h0
     have hx := (h0.block _ (lt_of_heap hx)).trans hx
     obtain ⟨oo, ko, rfl⟩ := ho.slice
     have hq := btr hq h0
     clear h0
     go_simp
     refine Shut.out hK _ _ (HCR.out _ hq) (fun hS2 => ?_)
     clear hK K hS
     have hS := hS2
     clear hS2
     try simp only [Act.put, s1, s2, s3, List.getElem_toArray, List.getElem_cons_succ, List.getElem_cons_zero]
     refine wpAnyH_ready (rs := [5]) (by decide +kernel) (by simp) ?_
     refine (AllReadyH.cons rfl (fun K hK => ?_) AllReadyH.nil)
     refine step_append_row rfl _ _ 22 rfl EDot WL.heap.size (.agg #[.int .i64 0, .int .i64 0]) 16 Tryz.underlying22 infoDot (by decide) (by decide) _ [d] rfl hr _ (dotsC c nm) rfl (Arr.toSrc (E := EDot) ho (fun _ _ h => h.1)) (by have := HDL.out; simp; omega) hq.size ?_
     intro v5 q5 hrow hgr
     have hx := (hgr.block _ (lt_of_heap hx) (fun e => erow_ne hr hx (by decide) _ e.symm rfl)).trans hx
     have hq := hq.grown hgr hq.size (fun j hj => (hr.lt _ hj).1)
     have ha := hrow.dots HDD.out
     obtain ⟨oa, ka, rfl⟩ := ha.slice
     clear hrow hgr hr ho
     refine Shut.out hK _ _ (HCR.out _ hq) (fun hS2 => ?_)
     clear hK K hS
     have hS := hS2
     clear hS2
     try simp only [Act.put, s1, s2, s3, List.getElem_toArray, List.getElem_cons_succ, List.getElem_cons_zero]
     refine wpAnyH_ready (rs := [6]) (by decide +kernel) (by simp) ?_
     refine (AllReadyH.cons rfl (fun K hK => ?_) AllReadyH.nil)
     go_simp
     go_at_call 46
     refine (r12Gone_any _ _ _ ha HAV.out (by have := HDL.out; simp; omega)).mono ?_
     rintro e q6 ⟨x1, x2, x3, rfl, hca, h0⟩
     have hx := (h0.block _ (lt_of_heap hx)).trans hx
     obtain ⟨p1, m1, l1, p2, m2, l2, p3, m3, l3, rfl, rfl, rfl, hm1, hm2, hm3⟩ := opn4 hca
     have hq := btr hq h0
     clear h0 ha hm1 hm2 hm3
     go_simp
     refine Shut.out hK _ _ (HCR.out _ hq) (fun hS2 => ?_)
     clear hK K hS
     have hS := hS2
     clear hS2
     try simp only [Act.put, s1, s2, s3, List.getElem_toArray, List.getElem_cons_succ, List.getElem_cons_zero]
     refine wpAnyH_ready (rs := [8]) (by decide +kernel) (by simp) ?_
     refine (AllReadyH.cons rfl (fun K hK => ?_) AllReadyH.nil)
     have g0 := froz0 hx 0
     have g1 := froz0 hx 1
     have g2 := froz0 hx 2
     obtain ⟨e0, e1, e2⟩ := cel3 hx
     go_simp
     refine Shut.out hK _ _ (by first | (rw [← set3c_eq]; exact HST.out _ _ _ _ _ hq hbx) | exact HCR.out _ (btr hq0 bal)) (fun hS2 => ?_)
     clear hK K hS
     have hS := hS2
     clear hS2
     try simp only [Act.put, s1, s2, s3, List.getElem_toArray, List.getElem_cons_succ, List.getElem_cons_zero]
     refine wpAnyH_done (by kernel_rfl) ?_ _
     try simp only [Act.put, s1, s2, s3, List.getElem_toArray, List.getElem_cons_succ, List.getElem_cons_zero]
     simp only [NQ]
     first
     | exact hQ _ _ _ _ _ _ _ _ (set3c _ _ (.slice p1 m1 l1) (.slice p2 m2 l2) (.slice p3 m3 l3)) p1 p2 p3 m1 m2 m3 l1 l2 l3 (set3c_below _ _ _ hq hbx) hbx (set3c_same _ _ _ hx) ⟨set3c_dots hca.1 hx, set3c_dots hca.2.1 hx, set3c_items hca.2.2 hx⟩
     | exact hQ _ _ _ _ _ _ _ _ _ p1 p2 p3 m1 m2 m3 l1 l2 l3 (btr hq0 bal) hbx (alloc_new _ _) (hca0.below bal)
   · go_simp
     go_at_call 47
     refine (HD.out (WL.drew.alloc (.cells #[.slice none 0 0, .slice none 0 0, .slice none 0 0] 28)) hq).mono ?_
     rintro e q4 ⟨v4, rfl, ho, h0⟩
     have hx := (h0.block _ (lt_of_heap hx)).trans hx
     obtain ⟨oo, ko, rfl⟩ := ho.slice
     have hq := btr hq h0
     clear h0
     go_simp
     refine Shut.out hK _ _ (HCR.out _ hq) (fun hS2 => ?_)
     clear hK K hS
     have hS := hS2
     clear hS2
     try simp only [Act.put, s1, s2, s3, List.getElem_toArray, List.getElem_cons_succ, List.getElem_cons_zero]
     refine wpAnyH_ready (rs := [1]) (by decide +kernel) (by simp) ?_
     refine (AllReadyH.cons rfl (fun K hK => ?_) AllReadyH.nil)
     go_simp
     have h0 : Below q4.heap.size q4 (q4.alloc (.cells #[.int .i64 d.rep, .int .i64 d.ctr] 30)) := bal
     have ho := ho.dots h0
     have hx := (h0.block _ (lt_of_heap hx)).trans hx
     have hr : EDot.Row WL.heap.size (q4.alloc (.cells #[.int .i64 d.rep, .int .i64 d.ctr] 30)) (.slice (some ⟨q4.heap.size, 0, none⟩) 1 1) [d] := (row_lit EDot [d] q4 (by unfold maxLen; simp)).mono hq.size
     have hq := btr hq h0
     clear h0
     refine Shut.out hK _ _ (HCR.out _ hq) (fun hS2 => ?_)
     clear hK K hS
     have hS := hS2
     clear hS2
     try simp only [Act.put, s1, s2, s3, List.getElem_toArray, List.getElem_cons_succ, List.getElem_cons_zero]
     refine wpAnyH_ready (rs := [5]) (by decide +kernel) (by simp) ?_
     refine (AllReadyH.cons rfl (fun K hK => ?_) AllReadyH.nil)
     refine step_append_row rfl _ _ 22 rfl EDot WL.heap.size (.agg #[.int .i64 0, .int .i64 0]) 16 Tryz.underlying22 infoDot (by decide) (by decide) _ [d] rfl hr _ (dotsC c nm) rfl (Arr.toSrc (E := EDot) ho (fun _ _ h => h.1)) (by have := HDL.out; simp; omega) hq.size ?_
     intro v5 q5 hrow hgr
     have hx := (hgr.block _ (lt_of_heap hx) (fun e => erow_ne hr hx (by decide) _ e.symm rfl)).trans hx
     have hq := hq.grown hgr hq.size (fun j hj => (hr.lt _ hj).1)
     have ha := hrow.dots HDD.out
     obtain ⟨oa, ka, rfl⟩ := ha.slice
     clear hrow hgr hr ho
     refine Shut.out hK _ _ (HCR.out _ hq) (fun hS2 => ?_)
     clear hK K hS
     have hS := hS2
     clear hS2
     try simp only [Act.put, s1, s2, s3, List.getElem_toArray, List.getElem_cons_succ, List.getElem_cons_zero]
     refine wpAnyH_ready (rs := [6]) (by decide +kernel) (by simp) ?_
     refine (AllReadyH.cons rfl (fun K hK => ?_) AllReadyH.nil)
     go_simp
     go_at_call 46
     refine (r12Gone_any _ _ _ ha HAV.out (by have := HDL.out; simp; omega)).mono ?_
     rintro e q6 ⟨x1, x2, x3, rfl, hca, h0⟩
     have hx := (h0.block _ (lt_of_heap hx)).trans hx
     obtain ⟨p1, m1, l1, p2, m2, l2, p3, m3, l3, rfl, rfl, rfl, hm1, hm2, hm3⟩ := opn4 hca
     have hq := btr hq h0
     clear h0 ha hm1 hm2 hm3
     go_simp
     refine Shut.out hK _ _ (HCR.out _ hq) (fun hS2 => ?_)
     clear hK K hS
     have hS := hS2
     clear hS2
     try simp only [Act.put, s1, s2, s3, List.getElem_toArray, List.getElem_cons_succ, List.getElem_cons_zero]
     refine wpAnyH_ready (rs := [8]) (by decide +kernel) (by simp) ?_
     refine (AllReadyH.cons rfl (fun K hK => ?_) AllReadyH.nil)
     have g0 := froz0 hx 0
     have g1 := froz0 hx 1
     have g2 := froz0 hx 2
     obtain ⟨e0, e1, e2⟩ := cel3 hx
     go_simp
     refine Shut.out hK _ _ (by first | (rw [← set3c_eq]; exact HST.out _ _ _ _ _ hq hbx) | exact HCR.out _ (btr hq0 bal)) (fun hS2 => ?_)
     clear hK K hS
     have hS := hS2
     clear hS2
     try simp only [Act.put, s1, s2, s3, List.getElem_toArray, List.getElem_cons_succ, List.getElem_cons_zero]
     refine wpAnyH_done (by kernel_rfl) ?_ _
     try simp only [Act.put, s1, s2, s3, List.getElem_toArray, List.getElem_cons_succ, List.getElem_cons_zero]
     simp only [NQ]
     first
     | exact hQ _ _ _ _ _ _ _ _ (set3c _ _ (.slice p1 m1 l1) (.slice p2 m2 l2) (.slice p3 m3 l3)) p1 p2 p3 m1 m2 m3 l1 l2 l3 (set3c_below _ _ _ hq hbx) hbx (set3c_same _ _ _ hx) ⟨set3c_dots hca.1 hx, set3c_dots hca.2.1 hx, set3c_items hca.2.2 hx⟩
     | exact hQ _ _ _ _ _ _ _ _ _ p1 p2 p3 m1 m2 m3 l1 l2 l3 (btr hq0 bal) hbx (alloc_new _ _) (hca0.below bal)
theorem r12Put_any (c : CartD) (d : DotD) (nm : ByteArray) (q : Int) (set : Bool) (v1 v2 v3 : Value) (w : World) (h : CartA w v1 v2 v3 c) (hl : Lt c.items) (hn : (allDots c.items).length ≤ 9000) (hs : nm.size ≤ maxLen) :
  Calls Tryz.prog 12 #[.agg #[v1, v2, v3], dotV d, .string nm, .int .i64 q, .bool set] w (CtrPost (putC c d nm q set) (putCE c d nm q set) w) := by
 obtain ⟨o1, n1, k1, o2, n2, k2, o3, n3, k3, rfl, rfl, rfl, hn1, hn2, hn3⟩ := opn4 h
 obtain ⟨W1, HW, HB, HS, HK0, HK1, HKR⟩ := box3 w #[.slice o1 n1 k1, .slice o2 n2 k2, .slice o3 n3 k3] 28 #[.int .i64 d.rep, .int .i64 d.ctr] 30 #[.slice none 0 0, .slice none 0 0, .slice none 0 0] 28
 have HC := Hd (fun wz (hz : Below W1.heap.size W1 wz) => And.intro (cel3 (HK0.out wz hz)) (cel2 (HK1.out wz hz)))
 have HA := Hd (h.below HB.out)
 have HFR := Hd (r12Fresh_any c d _ _ _ W1 HA.out hl)
 have HNI := Hd (fun wz => r7Item_any nm wz hs)
 have HQV := Hd (fun wz => r8Valid_any q wz)
 have HFI : Hid (∀ wz, Below W1.heap.size W1 wz → Calls Tryz.prog 44 #[.slice o3 n3 k3, .string nm] wz (IdxAt (fun x => decide (x.name = nm)) c.items wz)) := Hd (fun wz hz => r9Find_any nm c.items _ wz (HA.out.below hz).2.2)
 have HTM : Hid (∀ wz, Below W1.heap.size W1 wz → validC c = true → Calls Tryz.prog 45 #[.agg #[.slice o1 n1 k1, .slice o2 n2 k2, .slice o3 n3 k3]] wz fun e w' => e = .returned (.tuple #[.int .u64 (timeC c), .int .i64 (timeCE c)]) ∧ Below wz.heap.size wz w') := Hd (fun wz hz hv => r10Time_any c _ _ _ wz (HA.out.below hz) hl hv)
 have HE0 : Hid ((freshC c d && nameB nm) = false → putCE c d nm q set = 2) := Hd putCE_bad
 have HE1 : Hid (freshC c d = true → nameB nm = true → validQ q = false → putCE c d nm q set = 14) := Hd putCE_qty
 have HE2 : Hid (freshC c d = true → nameB nm = true → validQ q = true → putCE c d nm q set = if set && !thereB c.items nm then 9 else if !set && !thereB c.items nm && decide (256 ≤ n3) then 13 else timeCE c) := Hd (fun h1 h2 h3 => by unfold putCE; rw [h1, h2, h3, hn3]; rfl)
 have HZR : Hid (∀ E, E ≠ 0 → putCE c d nm q set = E → putC c d nm q set = zeroC) := Hd (fun E h1 h2 => by unfold putC; rw [h2, if_neg h1])
 have HPR : Hid (putCE c d nm q set = 0 → putC c d nm q set = putOf c d nm q) := Hd (fun h => by unfold putC; rw [if_pos h])
 have HTR : Hid (freshC c d = true → validC c = true ∧ validDotD d = true) := Hd (fun h => ⟨(freshC_parts h).1, (freshC_parts h).2.1⟩)
 have HTT : Hid (freshC c d = true → validQ q = true → timeCE c = 0 → validMarkD (newM c d q) = true) := Hd (fun h hq ht => newM_valid h hq (fun e => by unfold timeCE at ht; rw [(freshC_parts h).1] at ht; simp [e] at ht))
 have HP13 := Hd (fun (WL : World) (hz : Below W1.heap.size W1 WL) a0 a1 a3 a4 a10 a11 a12 a13 a14 z16 z17 z18 z19 z20 z21 z22 z23 z24 z25 z26 z27 z28 z29 z30 z31 z32 z33 z34 z35 z36 z37 z38 z39 z40 z41 z42 z43 z44 z45 z46 z47 z48 z49 z50 z51 z52 z53 z54 z55 z56 z57 z58 z59 z60 z61 z62 hv hd R hQ => r12p13 c d nm WL w.heap.size (w.heap.size + 1) o1 o2 o3 n1 n2 n3 k1 k2 k3 a0 a1 a3 a4 a10 a11 a12 a13 a14 z16 z17 z18 z19 z20 z21 z22 z23 z24 z25 z26 z27 z28 z29 z30 z31 z32 z33 z34 z35 z36 z37 z38 z39 z40 z41 z42 z43 z44 z45 z46 z47 z48 z49 z50 z51 z52 z53 z54 z55 z56 z57 z58 z59 z60 z61 z62 (HK0.out WL hz) (HK1.out WL hz) (HA.out.below hz) hl hn hv hd R hQ)
 have HPO : Hid (putOf c d nm q = ⟨(goneC (d :: dotsC c nm)).vec, (goneC (d :: dotsC c nm)).cloud, [⟨nm, [newM c d q]⟩]⟩) := Hd rfl
 have HBW := Hd HB.out
 have hsz := HS.out
 have HSS : Hid (nm.size ≤ maxLen) := Hd hs
 obtain ⟨R, hR⟩ : ∃ R, R = putC c d nm q set := ⟨_, rfl⟩
 obtain ⟨E, hE⟩ : ∃ E, E = putCE c d nm q set := ⟨_, rfl⟩
 rw [← hR, ← hE]
 rw [← hR] at HZR HPR
 rw [← hE] at HE0 HE1 HE2 HZR HPR
 clear hR hE
 obtain ⟨r1, hr1⟩ : ∃ r, r = freshC c d := ⟨_, rfl⟩
 obtain ⟨r2, hr2⟩ : ∃ r, r = nameB nm := ⟨_, rfl⟩
 obtain ⟨r3, hr3⟩ : ∃ r, r = validQ q := ⟨_, rfl⟩
 rw [← hr1] at HFR HE0 HE1 HE2 HTR HTT
 rw [← hr2] at HNI HE0 HE1 HE2
 rw [← hr3] at HQV HE1 HE2 HTT
 obtain ⟨T, hT⟩ : ∃ T, T = timeC c := ⟨_, rfl⟩
 obtain ⟨F, hF⟩ : ∃ F, F = timeCE c := ⟨_, rfl⟩
 rw [← hT, ← hF] at HTM
 rw [← hF] at HE2 HTT
 have HNM : Hid (newM c d q = ⟨d, q, T⟩) := Hd (by unfold newM; rw [hT])
 clear h hl hn hn1 hn2 hn3 hs HB HS hT hF hr1 hr2 hr3
 unfold dotV at HFR ⊢
 obtain ⟨⟨c0, c1, c2⟩, c3, c4⟩ := HC.out W1 brf
 go_enter Tryz.func12, Tryz.ntmps12
 go_wp2_with fail
 rw [← HW.out]
 go_wp2_with fail
 refine HFR.out.mono ?_
 rintro e w2 ⟨rfl, hb2⟩
 have HB2 := Hd hb2
 clear hb2 HFR c0 c1 c2 c3 c4
 obtain ⟨⟨c0, c1, c2⟩, c3, c4⟩ := HC.out w2 HB2.out
 cases r1 with
 | false =>
  have HE : Hid (E = 2) := Hd (HE0.out rfl)
  have HR : Hid (R = zeroC) := Hd (HZR.out 2 (by decide) HE.out)
  clear HE0 HE1 HE2 HZR HPR HTR HTT HP13
  have HFB : Hid (Below w.heap.size w (set3c w2 (w.heap.size + 1 + 1) (.slice none 0 0) (.slice none 0 0) (.slice none 0 0))) := Hd (set3c_below _ _ _ (btr HBW.out HB2.out) (by omega))
  obtain ⟨y0, y1, y2⟩ := cel3 (HKR.out _ HB2.out)
  have g0 := froz0 (HKR.out _ HB2.out) 0
  have g1 := froz0 (HKR.out _ HB2.out) 1
  have g2 := froz0 (HKR.out _ HB2.out) 2
  go_wp2_with fail
  (try simp only [Exit.inBlock, Exit.then])
  refine bodyPost_ret (v := .tuple #[.agg #[.slice none 0 0, .slice none 0 0, .slice none 0 0], .int .i64 2]) ?_ rfl ⟨_, _, _, by rw [HE.out], by rw [HR.out]; exact cartA_zero _, HFB.out⟩
  rw [results_cell_tmp rfl]
  go_simp
 | true =>
  have HN2 := Hd (HNI.out w2)
  go_wp2_with fail
  refine HN2.out.mono ?_
  rintro e w3 ⟨rfl, rfl⟩
  clear HN2
  cases r2 with
  | false =>
   have HE : Hid (E = 2) := Hd (HE0.out rfl)
   have HR : Hid (R = zeroC) := Hd (HZR.out 2 (by decide) HE.out)
   clear HE0 HE1 HE2 HZR HPR HTR HTT HP13
   have HFB : Hid (Below w.heap.size w (set3c w3 (w.heap.size + 1 + 1) (.slice none 0 0) (.slice none 0 0) (.slice none 0 0))) := Hd (set3c_below _ _ _ (btr HBW.out HB2.out) (by omega))
   obtain ⟨y0, y1, y2⟩ := cel3 (HKR.out _ HB2.out)
   have g0 := froz0 (HKR.out _ HB2.out) 0
   have g1 := froz0 (HKR.out _ HB2.out) 1
   have g2 := froz0 (HKR.out _ HB2.out) 2
   go_wp2_with fail
   (try simp only [Exit.inBlock, Exit.then])
   refine bodyPost_ret (v := .tuple #[.agg #[.slice none 0 0, .slice none 0 0, .slice none 0 0], .int .i64 2]) ?_ rfl ⟨_, _, _, by rw [HE.out], by rw [HR.out]; exact cartA_zero _, HFB.out⟩
   rw [results_cell_tmp rfl]
   go_simp
  | true =>
   have HQ3 := Hd (HQV.out w3)
   go_wp2_with fail
   refine HQ3.out.mono ?_
   rintro e w4 ⟨rfl, rfl⟩
   clear HQ3
   cases r3 with
   | false =>
    have HE : Hid (E = 14) := Hd (HE1.out (by first | rfl | trivial) (by first | rfl | trivial) (by first | rfl | trivial))
    have HR : Hid (R = zeroC) := Hd (HZR.out 14 (by decide) HE.out)
    clear HE0 HE1 HE2 HZR HPR HTR HTT HP13
    have HFB : Hid (Below w.heap.size w (set3c w4 (w.heap.size + 1 + 1) (.slice none 0 0) (.slice none 0 0) (.slice none 0 0))) := Hd (set3c_below _ _ _ (btr HBW.out HB2.out) (by omega))
    obtain ⟨y0, y1, y2⟩ := cel3 (HKR.out _ HB2.out)
    have g0 := froz0 (HKR.out _ HB2.out) 0
    have g1 := froz0 (HKR.out _ HB2.out) 1
    have g2 := froz0 (HKR.out _ HB2.out) 2
    go_wp2_with fail
    (try simp only [Exit.inBlock, Exit.then])
    refine bodyPost_ret (v := .tuple #[.agg #[.slice none 0 0, .slice none 0 0, .slice none 0 0], .int .i64 14]) ?_ rfl ⟨_, _, _, by rw [HE.out], by rw [HR.out]; exact cartA_zero _, HFB.out⟩
    rw [results_cell_tmp rfl]
    go_simp
   | true =>
    have HE3 := Hd (HE2.out (by first | rfl | trivial) (by first | rfl | trivial) (by first | rfl | trivial))
    have HN3 := Hd (HFI.out w4 HB2.out)
    clear HE0 HE1 HE2
    go_wp2_with fail
    refine HN3.out.mono ?_
    rintro e w5 ⟨i, rfl, hix, hb5⟩
    have HB5 := Hd (btr HB2.out hb5)
    clear hb5 HN3 c0 c1 c2 c3 c4
    obtain ⟨⟨c0, c1, c2⟩, c3, c4⟩ := HC.out w5 HB5.out
    have hth : ∃ th, thereB c.items nm = th ∧ decide (0 ≤ i) = th := by
     rcases hix with ⟨rfl, hno⟩ | ⟨k, hlt', rfl, hnm, htk⟩
     ·exact ⟨false, hno, rfl⟩
     ·exact ⟨true, List.any_eq_true.2 ⟨_, List.getElem_mem hlt', hnm⟩, decide_eq_true (by omega)⟩
    obtain ⟨th, hth, hdi⟩ := hth
    rw [hth] at HE3
    have hcase : (set = true ∧ th = false ∧ Hid (E = 9)) ∨ (set = false ∧ th = false ∧ (256 : Int) ≤ (n3 : Int) ∧ Hid (E = 13)) ∨ (((set = true ∧ th = true) ∨ (set = false ∧ th = true) ∨ (set = false ∧ th = false ∧ ¬ ((256 : Int) ≤ (n3 : Int)))) ∧ Hid (E = F)) := by
     have h3 := HE3.out
     cases set <;> cases th <;> simp at h3 ⊢
     ·by_cases h6 : 256 ≤ n3
      ·rw [if_pos h6] at h3
       exact Or.inl ⟨by omega, Hd h3⟩
      ·rw [if_neg h6] at h3
       exact Or.inr ⟨by omega, Hd h3⟩
     ·exact Hd h3
     ·exact Hd h3
     ·exact Hd h3
    clear hix hth HE3
    rcases hcase with ⟨rfl, rfl, HE⟩ | ⟨rfl, rfl, h6, HE⟩ | ⟨hcase, HEF⟩
    ·have HR : Hid (R = zeroC) := Hd (HZR.out 9 (by decide) HE.out)
     clear HZR HPR HTR HTT HP13
     have HFB : Hid (Below w.heap.size w (set3c w5 (w.heap.size + 1 + 1) (.slice none 0 0) (.slice none 0 0) (.slice none 0 0))) := Hd (set3c_below _ _ _ (btr HBW.out HB5.out) (by omega))
     obtain ⟨y0, y1, y2⟩ := cel3 (HKR.out _ HB5.out)
     have g0 := froz0 (HKR.out _ HB5.out) 0
     have g1 := froz0 (HKR.out _ HB5.out) 1
     have g2 := froz0 (HKR.out _ HB5.out) 2
     go_wp2_with fail
     (try simp only [Exit.inBlock, Exit.then])
     refine bodyPost_ret (v := .tuple #[.agg #[.slice none 0 0, .slice none 0 0, .slice none 0 0], .int .i64 9]) ?_ rfl ⟨_, _, _, by rw [HE.out], by rw [HR.out]; exact cartA_zero _, HFB.out⟩
     rw [results_cell_tmp rfl]
     go_simp
    ·have HR : Hid (R = zeroC) := Hd (HZR.out 13 (by decide) HE.out)
     clear HZR HPR HTR HTT HP13
     have HFB : Hid (Below w.heap.size w (set3c w5 (w.heap.size + 1 + 1) (.slice none 0 0) (.slice none 0 0) (.slice none 0 0))) := Hd (set3c_below _ _ _ (btr HBW.out HB5.out) (by omega))
     obtain ⟨y0, y1, y2⟩ := cel3 (HKR.out _ HB5.out)
     have g0 := froz0 (HKR.out _ HB5.out) 0
     have g1 := froz0 (HKR.out _ HB5.out) 1
     have g2 := froz0 (HKR.out _ HB5.out) 2
     go_wp2_with fail
     (try simp only [Exit.inBlock, Exit.then])
     refine bodyPost_ret (v := .tuple #[.agg #[.slice none 0 0, .slice none 0 0, .slice none 0 0], .int .i64 13]) ?_ rfl ⟨_, _, _, by rw [HE.out], by rw [HR.out]; exact cartA_zero _, HFB.out⟩
     rw [results_cell_tmp rfl]
     go_simp
    have HT5 := Hd (HTM.out w5 HB5.out (HTR.out (by first | rfl | trivial)).1)
    rcases hcase with ⟨rfl, rfl⟩ | ⟨rfl, rfl⟩ | ⟨rfl, rfl, h6⟩
    all_goals
     go_wp2_with fail
     refine HT5.out.mono ?_
     rintro e w8 ⟨rfl, hb8⟩
     have HB8 := Hd (btr HB5.out hb8)
     clear hb8 HT5 c0 c1 c2 c3 c4
     obtain ⟨⟨c0, c1, c2⟩, c3, c4⟩ := HC.out w8 HB8.out
     by_cases hf0 : F = 0
     rotate_left
     ·have HE : Hid (E = F) := HEF
      have HR : Hid (R = zeroC) := Hd (HZR.out F hf0 HE.out)
      have hf1 : (F != 0) = true := by simpa using hf0
      clear HZR HPR HTR HTT HEF HP13
      have HFB : Hid (Below w.heap.size w (set3c w8 (w.heap.size + 1 + 1) (.slice none 0 0) (.slice none 0 0) (.slice none 0 0))) := Hd (set3c_below _ _ _ (btr HBW.out HB8.out) (by omega))
      obtain ⟨y0, y1, y2⟩ := cel3 (HKR.out _ HB8.out)
      have g0 := froz0 (HKR.out _ HB8.out) 0
      have g1 := froz0 (HKR.out _ HB8.out) 1
      have g2 := froz0 (HKR.out _ HB8.out) 2
      go_wp2_with fail
      (try simp only [Exit.inBlock, Exit.then])
      refine bodyPost_ret (v := .tuple #[.agg #[.slice none 0 0, .slice none 0 0, .slice none 0 0], .int .i64 F]) ?_ rfl ⟨_, _, _, by rw [HE.out], by rw [HR.out]; exact cartA_zero _, HFB.out⟩
      rw [results_cell_tmp rfl]
      go_simp
     have hf1 : (F != 0) = false := by simpa using hf0
     have HE : Hid (E = 0) := Hd (by rw [HEF.out, hf0])
     have HR : Hid (R = putOf c d nm q) := Hd (HPR.out HE.out)
     obtain ⟨hvc, hvd⟩ := HTR.out (by first | rfl | trivial)
     have HVM := Hd (HTT.out (by first | rfl | trivial) (by first | rfl | trivial) hf0)
     have HMI := Hd (newM_MI HA.out hvc HVM.out)
     clear HZR HPR HTR HTT HEF HNI HQV
     go_upto_region 13 with fail
     refine NQ.to (HP13.out w8 HB8.out _ _ _ _ _ _ _ _ _ _ _ _ _ _ _ _ _ _ _ _ _ _ _ _ _ _ _ _ _ _ _ _ _ _ _ _ _ _ _ _ _ _ _ _ _ _ _ _ _ _ _ _ _ _ _ _ hvc hvd _ ?_)
     intro y63 y64 y65 y66 y67 y68 y69 bo W12 p1 p2 p3 m1 m2 m3 l1 l2 l3 hb12 hbo hx12 hca
     have hb12 := btr HB8.out hb12
     have hbo1 : W1.heap.size ≤ bo := Nat.le_trans HB8.out.size hbo
     obtain ⟨k, hk⟩ : ∃ k, W12.heap.size = k := ⟨_, rfl⟩
     have hbk : bo < k := by rw [← hk]; exact lt_of_heap hx12
     obtain ⟨W14, HW14, HB14, HX14, HCA14⟩ := new_item W12 k bo nm (newM c d q) hk hx12 hca HMI.out HSS.out
     rw [HNM.out] at HW14
     have hb14 := HB14.out W1.heap.size W1 hbo1 hb12
     have HFB : Hid (Below w.heap.size w (set3c W14 (w.heap.size + 1 + 1) (.slice p1 m1 l1) (.slice p2 m2 l2) (.slice (some ⟨k + 1, 0, none⟩) 1 1))) := Hd (set3c_below _ _ _ (btr HBW.out hb14) (by omega))
     have hzz := HKR.out _ hb14
     have HCF : Hid (CartA (set3c W14 (w.heap.size + 1 + 1) (.slice p1 m1 l1) (.slice p2 m2 l2) (.slice (some ⟨k + 1, 0, none⟩) 1 1)) (.slice p1 m1 l1) (.slice p2 m2 l2) (.slice (some ⟨k + 1, 0, none⟩) 1 1) R) := Hd (by
      rw [HR.out, HPO.out]
      exact ⟨set3c_dots HCA14.out.1 hzz, set3c_dots HCA14.out.2.1 hzz, set3c_items HCA14.out.2.2 hzz⟩)
     clear c0 c1 c2 c3 c4
     obtain ⟨⟨c0, c1, c2⟩, c3, c4⟩ := HC.out W12 hb12
     obtain ⟨t0, t1, t2⟩ := cel3 hx12
     have u2 := froz0 hx12 2
     go_upto_region 15 with fail
     rw [← HW14.out]
     clear HW14 t0 t1 t2 u2 c0 c1 c2 c3 c4
     obtain ⟨t0, t1, t2⟩ := cel3 HX14.out
     obtain ⟨y0, y1, y2⟩ := cel3 hzz
     have g0 := froz0 hzz 0
     have g1 := froz0 hzz 1
     have g2 := froz0 hzz 2
     go_wp2_with fail
     (try simp only [Exit.inBlock, Exit.then])
     refine bodyPost_ret (v := .tuple #[.agg #[.slice p1 m1 l1, .slice p2 m2 l2, .slice (some ⟨k + 1, 0, none⟩) 1 1], .int .i64 0]) ?_ rfl ⟨_, _, _, by rw [HE.out], HCF.out, HFB.out⟩
     rw [results_cell_tmp rfl]
     go_simp
end Go.Proofs.YtfnfbcaoihhbpaaGreatDoor
