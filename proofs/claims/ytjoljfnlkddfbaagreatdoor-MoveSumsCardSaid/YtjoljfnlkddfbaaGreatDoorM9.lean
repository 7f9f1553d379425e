/- Law 22: known. -/
import Derived.Test.YtjoljfnlkddfbaaGreatDoorM8
set_option linter.unusedSimpArgs false
set_option linter.unusedVariables false
set_option maxRecDepth 100000
set_option maxHeartbeats 16000000
namespace Go.Proofs.YtjoljfnlkddfbaaGreatDoor
open Go.RowKit Go.Maps Go.Sort Go.Shelf

theorem dis22 {l : List DotD} (h : l.all validDotD = true) : ∀ d ∈ l, DI d := fun d hd => DI_valid (List.all_eq_true.1 h d hd)
theorem mi22 {d : DotD} {q t : Int} (h : validMarkD ⟨d, q, t⟩ = true) (ht : decide (t ≤ 1000) = true) : MI ⟨d, q, t⟩ := by
 obtain ⟨h1, h2, h3, h4⟩ := validMark_parts h
 have hd := DI_valid h1
 have ht := of_decide_eq_true ht
 have a1 : 1 ≤ q := h2
 have a2 : q ≤ 2147483647 := h3
 have a3 : 0 < t := h4
 exact ⟨hd.1, hd.2, ⟨show -9223372036854775808 ≤ q by omega, show q ≤ 9223372036854775807 by omega⟩, ⟨show 0 ≤ t by omega, show t ≤ 18446744073709551615 by omega⟩⟩
def CartC (w : World) (b : Nat) (c : CartD) : Prop := ∃ o1 n1 k1 o2 n2 k2 o3 n3 k3, w.heap[b]? = some (.cells #[.slice o1 n1 k1, .slice o2 n2 k2, .slice o3 n3 k3] 28) ∧ CartA w (.slice o1 n1 k1) (.slice o2 n2 k2) (.slice o3 n3 k3) c
theorem CartC.below {w w' : World} {b : Nat} {c : CartD} (h : CartC w b c) (hb : Below w.heap.size w w') : CartC w' b c := by
 obtain ⟨o1, n1, k1, o2, n2, k2, o3, n3, k3, g, a⟩ := h
 exact ⟨o1, n1, k1, o2, n2, k2, o3, n3, k3, (hb.block _ (lt_of_heap g)).trans g, a.below hb⟩
theorem wsz : (Lt wA.items ∧ (allDots wA.items).length ≤ 9000) ∧ (Lt wB.items ∧ (allDots wB.items).length ≤ 9000) ∧ SzL 1 wA wB :=
 have h1 : Lt wA.items ∧ (allDots wA.items).length ≤ 9000 := ⟨⟨by decide, by decide⟩, by decide⟩
 ⟨h1, ⟨⟨by decide, by decide⟩, by decide⟩, by decide, by decide, by decide, by decide, by decide, by decide, by decide, h1.1, h1.2⟩
set_option linter.unusedSimpArgs false in
theorem l22k4 (WL : World) (b1 b2 b3 : Nat) (z4 z5 z6 z7 z8 z9 z10 z11 z12 z13 z14 z15 z16 z17 z18 : Value) (hG : GlobIs WL) (h1 : CartC WL b1 wA) (h2 : CartC WL b2 wB) (h3 : CartC WL b3 zeroC) (R : Act → World → Prop) (hQ : ∀ (y19 y20 y21 y22 y23 y24 y25 y26 y27 y28 y29 y30 y31 : Value) (w : World), Below WL.heap.size WL w → R { tmps := #[.bool false, .pointer (some ⟨b1, 0, none⟩), .pointer (some ⟨b2, 0, none⟩), .pointer (some ⟨b3, 0, none⟩), z4, z5, z6, z7, z8, z9, z10, z11, z12, z13, z14, z15, z16, z17, z18, y19, y20, y21, y22, y23, y24, y25, y26, y27, y28, y29, y30, y31, .bool false, undef, undef, undef, undef, undef, undef, undef, undef, undef, undef, undef, undef, undef, undef, undef, undef, undef, undef, undef, undef, undef, undef, undef, undef, undef, undef, undef, undef, undef, undef, undef, undef, undef, undef, undef, undef, undef, undef, undef, undef, undef, undef, undef, undef, undef, undef, undef, undef, undef, undef, undef, undef, undef, undef], defers := [] } w) :
  (codeAt [1, 1, 1, 1, 0, 0] (Tryz.f9.body.getD .skip)).wp Tryz.prog (NQ R) { tmps := #[.bool false, .pointer (some ⟨b1, 0, none⟩), .pointer (some ⟨b2, 0, none⟩), .pointer (some ⟨b3, 0, none⟩), z4, z5, z6, z7, z8, z9, z10, z11, z12, z13, z14, z15, z16, z17, z18, undef, undef, undef, undef, undef, undef, undef, undef, undef, undef, undef, undef, undef, undef, undef, undef, undef, undef, undef, undef, undef, undef, undef, undef, undef, undef, undef, undef, undef, undef, undef, undef, undef, undef, undef, undef, undef, undef, undef, undef, undef, undef, undef, undef, undef, undef, undef, undef, undef, undef, undef, undef, undef, undef, undef, undef, undef, undef, undef, undef, undef, undef, undef, undef, undef, undef, undef, undef], defers := [] } WL := by
 obtain ⟨o1, n1, c1, o2, n2, c2, o3, n3, c3, g1, a1⟩ := h1
 obtain ⟨o4, n4, c4, o5, n5, c5, o6, n6, c6, g2, a2⟩ := h2
 obtain ⟨o7, n7, c7, o8, n8, c8, o9, n9, c9, g3, a3⟩ := h3
 have HCR := Hd (fun wz (hz : Below WL.heap.size WL wz) => And.intro (cel3 ((hz.block _ (lt_of_heap g1)).trans g1)) (And.intro (cel3 ((hz.block _ (lt_of_heap g2)).trans g2)) (cel3 ((hz.block _ (lt_of_heap g3)).trans g3))))
 have HA := Hd (fun wz (hz : Below WL.heap.size WL wz) => a1.below hz)
 have HB := Hd (fun wz (hz : Below WL.heap.size WL wz) => a2.below hz)
 have HZ := Hd (fun wz (hz : Below WL.heap.size WL wz) => a3.below hz)
 have HGL := Hd hG
 clear g1 g2 g3 a1 a2 a3 hG
 simp only [codeAt, codeL, codeR, Tryz.f9, Option.getD_some]
 refine wp_region_held_drew (S := (fun wz => Below WL.heap.size WL wz)) (by kernel_rfl) (bdr) (fun hS => ?_)
 refine tkR (n := 2) [0, 1] rfl (by decide +kernel) hS ?_
 iterate 2 ((try simp only [Act.put, s1, s2, s3, s4, s5, s6]); refine ⟨_, ?_, rfl, Or.inl ⟨by kernel_rfl, fun w hSw => ok_of fun z hz => ?_⟩, ?_⟩; rotate_left; · (obtain ⟨⟨f0, f1, f2⟩, ⟨f3, f4, f5⟩, f6, f7, f8⟩ := HCR.out _ hSw; go_simp; exact hz))
 refine RunOK.done ?_
 try simp only [Act.put, s1, s2, s3, s4, s5, s6]
 refine rd1 2 (by decide +kernel) rfl (fun K hK => ?_)
 go_simp
 go_at_call 26
 have HEE := l22dot_any (2) (2) (WL.drew)
 refine HEE.mono ?_
 rintro e q1 ⟨rfl, h0⟩
 clear HEE
 have hq1 := btr (bdr : Below WL.heap.size WL WL.drew) h0
 clear h0
 go_simp
 refine Shut.out hK _ _ (hq1) (fun hS2 => ?_); clear hK K hS; have hS := hS2; clear hS2
 try simp only [Act.put, s1, s2, s3, s4, s5, s6]
 refine rd1 3 (by decide +kernel) rfl (fun K hK => ?_)
 go_simp
 go_at_call 26
 have HEE := l22dot_any (1) (1) (q1)
 refine HEE.mono ?_
 rintro e q2 ⟨rfl, h0⟩
 clear HEE
 have hq2 := btr hq1 h0
 clear h0
 go_simp
 refine Shut.out hK _ _ (hq2) (fun hS2 => ?_); clear hK K hS; have hS := hS2; clear hS2
 try simp only [Act.put, s1, s2, s3, s4, s5, s6]
 refine rd1 4 (by decide +kernel) rfl (fun K hK => ?_)
 go_simp
 go_at_call 32
 have HEE := l22seen_any ⟨1, 1⟩ (q2) (DI_valid (by decide))
 refine HEE.mono ?_
 rintro e q3 ⟨gca, rfl, ca, h0⟩
 clear HEE
 have hq3 := btr hq2 h0
 clear h0
 go_simp
 refine Shut.out hK _ _ (hq3) (fun hS2 => ?_); clear hK K hS; have hS := hS2; clear hS2
 try simp only [Act.put, s1, s2, s3, s4, s5, s6]
 refine tkR (n := 1) [5] rfl (by decide +kernel) hS ?_
 iterate 1 ((try simp only [Act.put, s1, s2, s3, s4, s5, s6]); refine ⟨_, ?_, rfl, Or.inl ⟨by kernel_rfl, fun w hSw => ok_of fun z hz => ?_⟩, ?_⟩; rotate_left; · (obtain ⟨⟨f0, f1, f2⟩, ⟨f3, f4, f5⟩, f6, f7, f8⟩ := HCR.out _ hSw; go_simp; exact hz))
 refine RunOK.done ?_
 try simp only [Act.put, s1, s2, s3, s4, s5, s6]
 refine rd1 6 (by decide +kernel) rfl (fun K hK => ?_)
 go_simp
 go_at_call 26
 have HEE := l22dot_any (2) (2) (q3)
 refine HEE.mono ?_
 rintro e q4 ⟨rfl, h0⟩
 clear HEE
 have hq4 := btr hq3 h0
 have ca := ca.dots h0
 clear h0
 go_simp
 refine Shut.out hK _ _ (hq4) (fun hS2 => ?_); clear hK K hS; have hS := hS2; clear hS2
 try simp only [Act.put, s1, s2, s3, s4, s5, s6]
 refine rd1 7 (by decide +kernel) rfl (fun K hK => ?_)
 go_simp
 go_at_call 32
 have HEE := l22seen_any ⟨2, 2⟩ (q4) (DI_valid (by decide))
 refine HEE.mono ?_
 rintro e q5 ⟨gcb, rfl, cb, h0⟩
 clear HEE
 have hq5 := btr hq4 h0
 have ca := ca.dots h0
 clear h0
 go_simp
 refine Shut.out hK _ _ (hq5) (fun hS2 => ?_); clear hK K hS; have hS := hS2; clear hS2
 try simp only [Act.put, s1, s2, s3, s4, s5, s6]
 refine rd1 8 (by decide +kernel) rfl (fun K hK => ?_)
 go_simp
 go_at_call 26
 have HEE := l22dot_any (2) (2) (q5)
 refine HEE.mono ?_
 rintro e q6 ⟨rfl, h0⟩
 clear HEE
 have hq6 := btr hq5 h0
 have ca := ca.dots h0
 have cb := cb.dots h0
 clear h0
 go_simp
 refine Shut.out hK _ _ (hq6) (fun hS2 => ?_); clear hK K hS; have hS := hS2; clear hS2
 try simp only [Act.put, s1, s2, s3, s4, s5, s6]
 refine rd1 9 (by decide +kernel) rfl (fun K hK => ?_)
 go_simp
 go_at_call 33
 have HEE := l22item_any tTea ⟨2, 2⟩ 7 6 (q6) (mi22 (by decide) (by decide))
 refine HEE.mono ?_
 rintro e q7 ⟨gmA, rfl, mA, h0⟩
 clear HEE
 have hq7 := btr hq6 h0
 have ca := ca.dots h0
 have cb := cb.dots h0
 clear h0
 go_simp
 refine Shut.out hK _ _ (hq7) (fun hS2 => ?_); clear hK K hS; have hS := hS2; clear hS2
 try simp only [Act.put, s1, s2, s3, s4, s5, s6]
 refine rd1 10 (by decide +kernel) rfl (fun K hK => ?_)
 go_simp
 have h0 : Below q7.heap.size q7 (q7.alloc (.cells #[.string tTea, .slice (some ⟨gmA, 0, none⟩) 1 1] 55)) := bal
 have hq8 := btr hq7 h0
 have ca := ca.dots h0
 have cb := cb.dots h0
 have iA : Arr ItemR 2 (q7.alloc (.cells #[.string tTea, .slice (some ⟨gmA, 0, none⟩) 1 1] 55)) (.slice (some ⟨q7.heap.size, 0, none⟩) 1 1) [⟨tTea, [⟨⟨2, 2⟩, 7, 6⟩]⟩] := lit_items [⟨⟨tTea, [⟨⟨2, 2⟩, 7, 6⟩]⟩, some ⟨gmA, 0, none⟩, 1⟩] (by unfold maxLen; simp) (by
   intro p hp
   simp only [List.mem_cons, List.not_mem_nil, or_false] at hp
   rcases hp with rfl
   ·exact ⟨show ByteArray.size tTea ≤ maxLen by decide, mA⟩)
 clear h0
 refine Shut.out hK _ _ (hq8) (fun hS2 => ?_); clear hK K hS; have hS := hS2; clear hS2
 try simp only [Act.put, s1, s2, s3, s4, s5, s6]
 refine tkR (n := 1) [11] rfl (by decide +kernel) hS ?_
 iterate 1 ((try simp only [Act.put, s1, s2, s3, s4, s5, s6]); refine ⟨_, ?_, rfl, Or.inl ⟨by kernel_rfl, fun w hSw => ok_of fun z hz => ?_⟩, ?_⟩; rotate_left; · (obtain ⟨⟨f0, f1, f2⟩, ⟨f3, f4, f5⟩, f6, f7, f8⟩ := HCR.out _ hSw; go_simp; exact hz))
 refine RunOK.done ?_
 try simp only [Act.put, s1, s2, s3, s4, s5, s6]
 refine rd1 12 (by decide +kernel) rfl (fun K hK => ?_)
 go_simp
 go_at_call 18
 have HEE := l22wishes_any wA wB wA1 wB1 tTea ⟨2, 2⟩ (7) 0 _ _ _ _ _ _ _ _ _ _ _ _ _ (HA.out _ hq8) (HB.out _ hq8) ⟨ca, arr_nil, arr_nil⟩ ⟨cb, arr_nil, iA⟩ wsz.1.1 wsz.1.2 wsz.2.1.1 wsz.2.1.2 (by unfold maxLen; decide) (HGL.out.below hq8)
 rw [kw1] at HEE
 refine HEE.mono ?_
 rintro e q9 ⟨rfl, h0⟩
 clear HEE
 have hq9 := btr hq8 h0
 have ca := ca.dots h0
 have cb := cb.dots h0
 have iA := iA.items h0
 clear h0
 go_simp
 refine Shut.out hK _ _ (hq9) (fun hS2 => ?_); clear hK K hS; have hS := hS2; clear hS2
 try simp only [Act.put, s1, s2, s3, s4, s5, s6]
 refine tkR (n := 1) [13] rfl (by decide +kernel) hS ?_
 iterate 1 ((try simp only [Act.put, s1, s2, s3, s4, s5, s6]); refine ⟨_, ?_, rfl, Or.inl ⟨by kernel_rfl, fun w hSw => ok_of fun z hz => ?_⟩, ?_⟩; rotate_left; · (obtain ⟨⟨f0, f1, f2⟩, ⟨f3, f4, f5⟩, f6, f7, f8⟩ := HCR.out _ hSw; go_simp; exact hz))
 refine RunOK.done ?_
 try simp only [Act.put, s1, s2, s3, s4, s5, s6]
 refine wpAnyH_done (by kernel_rfl) ?_ _
 try simp only [Act.put, s1, s2, s3, s4, s5, s6]
 simp only [NQ]
 exact hQ _ _ _ _ _ _ _ _ _ _ _ _ _ _ hq9
set_option linter.unusedSimpArgs false in
theorem l22k6 (WL : World) (b1 b2 b3 : Nat) (z4 z5 z6 z7 z8 z9 z10 z11 z12 z13 z14 z15 z16 z17 z18 z19 z20 z21 z22 z23 z24 z25 z26 z27 z28 z29 z30 z31 z32 : Value) (hG : GlobIs WL) (h1 : CartC WL b1 wA) (h2 : CartC WL b2 wB) (h3 : CartC WL b3 zeroC) (R : Act → World → Prop) (hQ : ∀ (y33 y34 y35 y36 y37 y38 y39 y40 y41 y42 y43 y44 y45 y46 y47 y48 y49 : Value) (w : World), Below WL.heap.size WL w → R { tmps := #[.bool false, .pointer (some ⟨b1, 0, none⟩), .pointer (some ⟨b2, 0, none⟩), .pointer (some ⟨b3, 0, none⟩), z4, z5, z6, z7, z8, z9, z10, z11, z12, z13, z14, z15, z16, z17, z18, z19, z20, z21, z22, z23, z24, z25, z26, z27, z28, z29, z30, z31, z32, y33, y34, y35, y36, y37, y38, y39, y40, y41, y42, y43, y44, y45, y46, y47, y48, y49, .bool false, undef, undef, undef, undef, undef, undef, undef, undef, undef, undef, undef, undef, undef, undef, undef, undef, undef, undef, undef, undef, undef, undef, undef, undef, undef, undef, undef, undef, undef, undef, undef, undef, undef, undef, undef, undef], defers := [] } w) :
  (codeAt [1, 1, 1, 1, 1, 0, 0] (Tryz.f9.body.getD .skip)).wp Tryz.prog (NQ R) { tmps := #[.bool false, .pointer (some ⟨b1, 0, none⟩), .pointer (some ⟨b2, 0, none⟩), .pointer (some ⟨b3, 0, none⟩), z4, z5, z6, z7, z8, z9, z10, z11, z12, z13, z14, z15, z16, z17, z18, z19, z20, z21, z22, z23, z24, z25, z26, z27, z28, z29, z30, z31, z32, undef, undef, undef, undef, undef, undef, undef, undef, undef, undef, undef, undef, undef, undef, undef, undef, undef, undef, undef, undef, undef, undef, undef, undef, undef, undef, undef, undef, undef, undef, undef, undef, undef, undef, undef, undef, undef, undef, undef, undef, undef, undef, undef, undef, undef, undef, undef, undef, undef, undef, undef, undef, undef, undef], defers := [] } WL := by
 obtain ⟨o1, n1, c1, o2, n2, c2, o3, n3, c3, g1, a1⟩ := h1
 obtain ⟨o4, n4, c4, o5, n5, c5, o6, n6, c6, g2, a2⟩ := h2
 obtain ⟨o7, n7, c7, o8, n8, c8, o9, n9, c9, g3, a3⟩ := h3
 have HCR := Hd (fun wz (hz : Below WL.heap.size WL wz) => And.intro (cel3 ((hz.block _ (lt_of_heap g1)).trans g1)) (And.intro (cel3 ((hz.block _ (lt_of_heap g2)).trans g2)) (cel3 ((hz.block _ (lt_of_heap g3)).trans g3))))
 have HA := Hd (fun wz (hz : Below WL.heap.size WL wz) => a1.below hz)
 have HB := Hd (fun wz (hz : Below WL.heap.size WL wz) => a2.below hz)
 have HZ := Hd (fun wz (hz : Below WL.heap.size WL wz) => a3.below hz)
 have HGL := Hd hG
 clear g1 g2 g3 a1 a2 a3 hG
 simp only [codeAt, codeL, codeR, Tryz.f9, Option.getD_some]
 refine wp_region_held_drew (S := (fun wz => Below WL.heap.size WL wz)) (by kernel_rfl) (bdr) (fun hS => ?_)
 try simp only [Act.put, s1, s2, s3, List.getElem_toArray, List.getElem_cons_succ, List.getElem_cons_zero]
 refine tkN (i := 0) (v := ?v1) rfl (by decide +kernel) (Or.inl ⟨by kernel_rfl, fun w hSw => ok_of fun z hz => ?h1⟩) hS ?_; (case h1 => (obtain ⟨⟨f0, f1, f2⟩, ⟨f3, f4, f5⟩, f6, f7, f8⟩ := HCR.out _ hSw; go_simp; exact hz))
 try simp only [Act.put, s1, s2, s3, List.getElem_toArray, List.getElem_cons_succ, List.getElem_cons_zero]
 refine tkN (i := 1) (v := ?v2) rfl (by decide +kernel) (Or.inl ⟨by kernel_rfl, fun w hSw => ok_of fun z hz => ?h2⟩) hS ?_; (case h2 => (obtain ⟨⟨f0, f1, f2⟩, ⟨f3, f4, f5⟩, f6, f7, f8⟩ := HCR.out _ hSw; go_simp; exact hz))
 try simp only [Act.put, s1, s2, s3, List.getElem_toArray, List.getElem_cons_succ, List.getElem_cons_zero]
 refine wpAnyH_ready (rs := [2]) (by decide +kernel) (by simp) ?_
 refine (AllReadyH.cons rfl (fun K hK => ?_) AllReadyH.nil)
 go_simp
 go_at_call 26
 have HEE := l22dot_any (2) (2) (WL.drew)
 refine HEE.mono ?_
 rintro e q1 ⟨rfl, h0⟩
 clear HEE
 have hq1 := btr (bdr : Below WL.heap.size WL WL.drew) h0
 clear h0
 go_simp
 refine Shut.out hK _ _ (hq1) (fun hS2 => ?_)
 clear hK K hS
 have hS := hS2
 clear hS2
 try simp only [Act.put, s1, s2, s3, List.getElem_toArray, List.getElem_cons_succ, List.getElem_cons_zero]
 refine wpAnyH_ready (rs := [3]) (by decide +kernel) (by simp) ?_
 refine (AllReadyH.cons rfl (fun K hK => ?_) AllReadyH.nil)
 go_simp
 go_at_call 26
 have HEE := l22dot_any (2) (3) (q1)
 refine HEE.mono ?_
 rintro e q2 ⟨rfl, h0⟩
 clear HEE
 have hq2 := btr hq1 h0
 clear h0
 go_simp
 refine Shut.out hK _ _ (hq2) (fun hS2 => ?_)
 clear hK K hS
 have hS := hS2
 clear hS2
 try simp only [Act.put, s1, s2, s3, List.getElem_toArray, List.getElem_cons_succ, List.getElem_cons_zero]
 refine wpAnyH_ready (rs := [4, 5]) (by decide +kernel) (by simp) ?_
 refine (AllReadyH.cons rfl (fun K hK => ?_) (AllReadyH.cons rfl (fun K hK => ?_) AllReadyH.nil))
 · go_simp
   have h0 : Below q2.heap.size q2 (q2.alloc (.cells #[.int .i64 (2), .int .i64 (2), .int .i64 (2), .int .i64 (3)] 39)) := bal
   have hq3 := btr hq2 h0
   have dl : Arr DotR 2 (q2.alloc (.cells #[.int .i64 (2), .int .i64 (2), .int .i64 (2), .int .i64 (3)] 39)) (.slice (some ⟨q2.heap.size, 0, none⟩) 2 2) [⟨2, 2⟩, ⟨2, 3⟩] := lit_dots [⟨2, 2⟩, ⟨2, 3⟩] (by unfold maxLen; simp) (dis22 (by decide))
   clear h0
   refine Shut.out hK _ _ (hq3) (fun hS2 => ?_)
   clear hK K hS
   have hS := hS2
   clear hS2
   try simp only [Act.put, s1, s2, s3, List.getElem_toArray, List.getElem_cons_succ, List.getElem_cons_zero]
   refine wpAnyH_ready (rs := [5]) (by decide +kernel) (by simp) ?_
   refine (AllReadyH.cons rfl (fun K hK => ?_) AllReadyH.nil)
   go_simp
   go_at_call 26
   have HEE := l22dot_any (1) (2) ((q2.alloc (.cells #[.int .i64 (2), .int .i64 (2), .int .i64 (2), .int .i64 (3)] 39)))
   refine HEE.mono ?_
   rintro e q4 ⟨rfl, h0⟩
   clear HEE
   have hq4 := btr hq3 h0
   have dl := dl.dots h0
   clear h0
   go_simp
   refine Shut.out hK _ _ (hq4) (fun hS2 => ?_)
   clear hK K hS
   have hS := hS2
   clear hS2
   try simp only [Act.put, s1, s2, s3, List.getElem_toArray, List.getElem_cons_succ, List.getElem_cons_zero]
   refine wpAnyH_ready (rs := [6]) (by decide +kernel) (by simp) ?_
   refine (AllReadyH.cons rfl (fun K hK => ?_) AllReadyH.nil)
   go_simp
   go_at_call 32
   have HEE := l22seen_any ⟨1, 2⟩ (q4) (DI_valid (by decide))
   refine HEE.mono ?_
   rintro e q5 ⟨gca, rfl, ca, h0⟩
   clear HEE
   have hq5 := btr hq4 h0
   have dl := dl.dots h0
   clear h0
   go_simp
   refine Shut.out hK _ _ (hq5) (fun hS2 => ?_)
   clear hK K hS
   have hS := hS2
   clear hS2
   try simp only [Act.put, s1, s2, s3, List.getElem_toArray, List.getElem_cons_succ, List.getElem_cons_zero]
   refine tkN (i := 7) (v := ?v3) rfl (by decide +kernel) (Or.inl ⟨by kernel_rfl, fun w hSw => ok_of fun z hz => ?h3⟩) hS ?_; (case h3 => (go_simp; exact hz))
   try simp only [Act.put, s1, s2, s3, List.getElem_toArray, List.getElem_cons_succ, List.getElem_cons_zero]
   refine wpAnyH_ready (rs := [8]) (by decide +kernel) (by simp) ?_
   refine (AllReadyH.cons rfl (fun K hK => ?_) AllReadyH.nil)
   go_simp
   go_at_call 26
   have HEE := l22dot_any (2) (3) (q5)
   refine HEE.mono ?_
   rintro e q6 ⟨rfl, h0⟩
   clear HEE
   have hq6 := btr hq5 h0
   have dl := dl.dots h0
   have ca := ca.dots h0
   clear h0
   go_simp
   refine Shut.out hK _ _ (hq6) (fun hS2 => ?_)
   clear hK K hS
   have hS := hS2
   clear hS2
   try simp only [Act.put, s1, s2, s3, List.getElem_toArray, List.getElem_cons_succ, List.getElem_cons_zero]
   refine wpAnyH_ready (rs := [9]) (by decide +kernel) (by simp) ?_
   refine (AllReadyH.cons rfl (fun K hK => ?_) AllReadyH.nil)
   go_simp
   go_at_call 32
   have HEE := l22seen_any ⟨2, 3⟩ (q6) (DI_valid (by decide))
   refine HEE.mono ?_
   rintro e q7 ⟨gcb, rfl, cb, h0⟩
   clear HEE
   have hq7 := btr hq6 h0
   have dl := dl.dots h0
   have ca := ca.dots h0
   clear h0
   go_simp
   refine Shut.out hK _ _ (hq7) (fun hS2 => ?_)
   clear hK K hS
   have hS := hS2
   clear hS2
   try simp only [Act.put, s1, s2, s3, List.getElem_toArray, List.getElem_cons_succ, List.getElem_cons_zero]
   refine wpAnyH_ready (rs := [10]) (by decide +kernel) (by simp) ?_
   refine (AllReadyH.cons rfl (fun K hK => ?_) AllReadyH.nil)
   go_simp
   go_at_call 26
   have HEE := l22dot_any (2) (2) (q7)
   refine HEE.mono ?_
   rintro e q8 ⟨rfl, h0⟩
   clear HEE
   have hq8 := btr hq7 h0
   have dl := dl.dots h0
   have ca := ca.dots h0
   have cb := cb.dots h0
   clear h0
   go_simp
   refine Shut.out hK _ _ (hq8) (fun hS2 => ?_)
   clear hK K hS
   have hS := hS2
   clear hS2
   try simp only [Act.put, s1, s2, s3, List.getElem_toArray, List.getElem_cons_succ, List.getElem_cons_zero]
   refine wpAnyH_ready (rs := [11]) (by decide +kernel) (by simp) ?_
   refine (AllReadyH.cons rfl (fun K hK => ?_) AllReadyH.nil)
   go_simp
   go_at_call 33
   have HEE := l22item_any tOil ⟨2, 2⟩ 2 6 (q8) (mi22 (by decide) (by decide))
   refine HEE.mono ?_
   rintro e q9 ⟨gmA, rfl, mA, h0⟩
   clear HEE
   have hq9 := btr hq8 h0
   have dl := dl.dots h0
   have ca := ca.dots h0
   have cb := cb.dots h0
   clear h0
   go_simp
   refine Shut.out hK _ _ (hq9) (fun hS2 => ?_)
   clear hK K hS
   have hS := hS2
   clear hS2
   try simp only [Act.put, s1, s2, s3, List.getElem_toArray, List.getElem_cons_succ, List.getElem_cons_zero]
   refine wpAnyH_ready (rs := [12]) (by decide +kernel) (by simp) ?_
   refine (AllReadyH.cons rfl (fun K hK => ?_) AllReadyH.nil)
   go_simp
   go_at_call 26
   have HEE := l22dot_any (2) (3) (q9)
   refine HEE.mono ?_
   rintro e q10 ⟨rfl, h0⟩
   clear HEE
   have hq10 := btr hq9 h0
   have dl := dl.dots h0
   have ca := ca.dots h0
   have cb := cb.dots h0
   have mA := mA.marks h0
   clear h0
   go_simp
   refine Shut.out hK _ _ (hq10) (fun hS2 => ?_)
   clear hK K hS
   have hS := hS2
   clear hS2
   try simp only [Act.put, s1, s2, s3, List.getElem_toArray, List.getElem_cons_succ, List.getElem_cons_zero]
   refine wpAnyH_ready (rs := [13]) (by decide +kernel) (by simp) ?_
   refine (AllReadyH.cons rfl (fun K hK => ?_) AllReadyH.nil)
   go_simp
   go_at_call 33
   have HEE := l22item_any tTea ⟨2, 3⟩ 7 7 (q10) (mi22 (by decide) (by decide))
   refine HEE.mono ?_
   rintro e q11 ⟨gmB, rfl, mB, h0⟩
   clear HEE
   have hq11 := btr hq10 h0
   have dl := dl.dots h0
   have ca := ca.dots h0
   have cb := cb.dots h0
   have mA := mA.marks h0
   clear h0
   go_simp
   refine Shut.out hK _ _ (hq11) (fun hS2 => ?_)
   clear hK K hS
   have hS := hS2
   clear hS2
   try simp only [Act.put, s1, s2, s3, List.getElem_toArray, List.getElem_cons_succ, List.getElem_cons_zero]
   refine wpAnyH_ready (rs := [14]) (by decide +kernel) (by simp) ?_
   refine (AllReadyH.cons rfl (fun K hK => ?_) AllReadyH.nil)
   go_simp
   have h0 : Below q11.heap.size q11 (q11.alloc (.cells #[.string tOil, .slice (some ⟨gmA, 0, none⟩) 1 1, .string tTea, .slice (some ⟨gmB, 0, none⟩) 1 1] 55)) := bal
   have hq12 := btr hq11 h0
   have dl := dl.dots h0
   have ca := ca.dots h0
   have cb := cb.dots h0
   have iA : Arr ItemR 2 (q11.alloc (.cells #[.string tOil, .slice (some ⟨gmA, 0, none⟩) 1 1, .string tTea, .slice (some ⟨gmB, 0, none⟩) 1 1] 55)) (.slice (some ⟨q11.heap.size, 0, none⟩) 2 2) [⟨tOil, [⟨⟨2, 2⟩, 2, 6⟩]⟩, ⟨tTea, [⟨⟨2, 3⟩, 7, 7⟩]⟩] := lit_items [⟨⟨tOil, [⟨⟨2, 2⟩, 2, 6⟩]⟩, some ⟨gmA, 0, none⟩, 1⟩, ⟨⟨tTea, [⟨⟨2, 3⟩, 7, 7⟩]⟩, some ⟨gmB, 0, none⟩, 1⟩] (by unfold maxLen; simp) (by
     intro p hp
     simp only [List.mem_cons, List.not_mem_nil, or_false] at hp
     rcases hp with rfl | rfl
     ·exact ⟨show ByteArray.size tOil ≤ maxLen by decide, mA⟩
     ·exact ⟨show ByteArray.size tTea ≤ maxLen by decide, mB⟩)
   clear h0
   refine Shut.out hK _ _ (hq12) (fun hS2 => ?_)
   clear hK K hS
   have hS := hS2
   clear hS2
   try simp only [Act.put, s1, s2, s3, List.getElem_toArray, List.getElem_cons_succ, List.getElem_cons_zero]
   refine tkN (i := 15) (v := ?v4) rfl (by decide +kernel) (Or.inl ⟨by kernel_rfl, fun w hSw => ok_of fun z hz => ?h4⟩) hS ?_; (case h4 => (go_simp; exact hz))
   try simp only [Act.put, s1, s2, s3, List.getElem_toArray, List.getElem_cons_succ, List.getElem_cons_zero]
   refine wpAnyH_ready (rs := [16]) (by decide +kernel) (by simp) ?_
   refine (AllReadyH.cons rfl (fun K hK => ?_) AllReadyH.nil)
   go_simp
   go_at_call 23
   have HEE := l22logins_any 1 wA wB wA2 wB2 [⟨2, 2⟩, ⟨2, 3⟩] 0 _ _ _ _ _ _ _ _ _ _ _ _ _ _ (HA.out _ hq12) (HB.out _ hq12) dl ⟨ca, arr_nil, arr_nil⟩ ⟨cb, arr_nil, iA⟩ wsz.2.2 (HGL.out.below hq12)
   rw [kw2] at HEE
   refine HEE.mono ?_
   rintro e q13 ⟨rfl, h0⟩
   clear HEE
   have hq13 := btr hq12 h0
   have dl := dl.dots h0
   have ca := ca.dots h0
   have cb := cb.dots h0
   have iA := iA.items h0
   clear h0
   go_simp
   refine Shut.out hK _ _ (hq13) (fun hS2 => ?_)
   clear hK K hS
   have hS := hS2
   clear hS2
   try simp only [Act.put, s1, s2, s3, List.getElem_toArray, List.getElem_cons_succ, List.getElem_cons_zero]
   refine tkN (i := 17) (v := ?v5) rfl (by decide +kernel) (Or.inl ⟨by kernel_rfl, fun w hSw => ok_of fun z hz => ?h5⟩) hS ?_; (case h5 => (go_simp; exact hz))
   try simp only [Act.put, s1, s2, s3, List.getElem_toArray, List.getElem_cons_succ, List.getElem_cons_zero]
   refine wpAnyH_done (by kernel_rfl) ?_ _
   try simp only [Act.put, s1, s2, s3, List.getElem_toArray, List.getElem_cons_succ, List.getElem_cons_zero]
   simp only [NQ]
   exact hQ _ _ _ _ _ _ _ _ _ _ _ _ _ _ _ _ _ _ (by assumption)
 · go_simp
   go_at_call 26
   have HEE := l22dot_any (1) (2) (q2)
   refine HEE.mono ?_
   rintro e q3 ⟨rfl, h0⟩
   clear HEE
   have hq3 := btr hq2 h0
   clear h0
   go_simp
   refine Shut.out hK _ _ (hq3) (fun hS2 => ?_)
   clear hK K hS
   have hS := hS2
   clear hS2
   try simp only [Act.put, s1, s2, s3, List.getElem_toArray, List.getElem_cons_succ, List.getElem_cons_zero]
   refine wpAnyH_ready (rs := [4, 6]) (by decide +kernel) (by simp) ?_
   refine (AllReadyH.cons rfl (fun K hK => ?_) (AllReadyH.cons rfl (fun K hK => ?_) AllReadyH.nil))
   · go_simp
     have h0 : Below q3.heap.size q3 (q3.alloc (.cells #[.int .i64 (2), .int .i64 (2), .int .i64 (2), .int .i64 (3)] 39)) := bal
     have hq4 := btr hq3 h0
     have dl : Arr DotR 2 (q3.alloc (.cells #[.int .i64 (2), .int .i64 (2), .int .i64 (2), .int .i64 (3)] 39)) (.slice (some ⟨q3.heap.size, 0, none⟩) 2 2) [⟨2, 2⟩, ⟨2, 3⟩] := lit_dots [⟨2, 2⟩, ⟨2, 3⟩] (by unfold maxLen; simp) (dis22 (by decide))
     clear h0
     refine Shut.out hK _ _ (hq4) (fun hS2 => ?_)
     clear hK K hS
     have hS := hS2
     clear hS2
     try simp only [Act.put, s1, s2, s3, List.getElem_toArray, List.getElem_cons_succ, List.getElem_cons_zero]
     refine wpAnyH_ready (rs := [6]) (by decide +kernel) (by simp) ?_
     refine (AllReadyH.cons rfl (fun K hK => ?_) AllReadyH.nil)
     go_simp
     go_at_call 32
     have HEE := l22seen_any ⟨1, 2⟩ ((q3.alloc (.cells #[.int .i64 (2), .int .i64 (2), .int .i64 (2), .int .i64 (3)] 39))) (DI_valid (by decide))
     refine HEE.mono ?_
     rintro e q5 ⟨gca, rfl, ca, h0⟩
     clear HEE
     have hq5 := btr hq4 h0
     have dl := dl.dots h0
     clear h0
     go_simp
     refine Shut.out hK _ _ (hq5) (fun hS2 => ?_)
     clear hK K hS
     have hS := hS2
     clear hS2
     try simp only [Act.put, s1, s2, s3, List.getElem_toArray, List.getElem_cons_succ, List.getElem_cons_zero]
     refine tkN (i := 7) (v := ?v6) rfl (by decide +kernel) (Or.inl ⟨by kernel_rfl, fun w hSw => ok_of fun z hz => ?h6⟩) hS ?_; (case h6 => (go_simp; exact hz))
     try simp only [Act.put, s1, s2, s3, List.getElem_toArray, List.getElem_cons_succ, List.getElem_cons_zero]
     refine wpAnyH_ready (rs := [8]) (by decide +kernel) (by simp) ?_
     refine (AllReadyH.cons rfl (fun K hK => ?_) AllReadyH.nil)
     go_simp
     go_at_call 26
     have HEE := l22dot_any (2) (3) (q5)
     refine HEE.mono ?_
     rintro e q6 ⟨rfl, h0⟩
     clear HEE
     have hq6 := btr hq5 h0
     have dl := dl.dots h0
     have ca := ca.dots h0
     clear h0
     go_simp
     refine Shut.out hK _ _ (hq6) (fun hS2 => ?_)
     clear hK K hS
     have hS := hS2
     clear hS2
     try simp only [Act.put, s1, s2, s3, List.getElem_toArray, List.getElem_cons_succ, List.getElem_cons_zero]
     refine wpAnyH_ready (rs := [9]) (by decide +kernel) (by simp) ?_
     refine (AllReadyH.cons rfl (fun K hK => ?_) AllReadyH.nil)
     go_simp
     go_at_call 32
     have HEE := l22seen_any ⟨2, 3⟩ (q6) (DI_valid (by decide))
     refine HEE.mono ?_
     rintro e q7 ⟨gcb, rfl, cb, h0⟩
     clear HEE
     have hq7 := btr hq6 h0
     have dl := dl.dots h0
     have ca := ca.dots h0
     clear h0
     go_simp
     refine Shut.out hK _ _ (hq7) (fun hS2 => ?_)
     clear hK K hS
     have hS := hS2
     clear hS2
     try simp only [Act.put, s1, s2, s3, List.getElem_toArray, List.getElem_cons_succ, List.getElem_cons_zero]
     refine wpAnyH_ready (rs := [10]) (by decide +kernel) (by simp) ?_
     refine (AllReadyH.cons rfl (fun K hK => ?_) AllReadyH.nil)
     go_simp
     go_at_call 26
     have HEE := l22dot_any (2) (2) (q7)
     refine HEE.mono ?_
     rintro e q8 ⟨rfl, h0⟩
     clear HEE
     have hq8 := btr hq7 h0
     have dl := dl.dots h0
     have ca := ca.dots h0
     have cb := cb.dots h0
     clear h0
     go_simp
     refine Shut.out hK _ _ (hq8) (fun hS2 => ?_)
     clear hK K hS
     have hS := hS2
     clear hS2
     try simp only [Act.put, s1, s2, s3, List.getElem_toArray, List.getElem_cons_succ, List.getElem_cons_zero]
     refine wpAnyH_ready (rs := [11]) (by decide +kernel) (by simp) ?_
     refine (AllReadyH.cons rfl (fun K hK => ?_) AllReadyH.nil)
     go_simp
     go_at_call 33
     have HEE := l22item_any tOil ⟨2, 2⟩ 2 6 (q8) (mi22 (by decide) (by decide))
     refine HEE.mono ?_
     rintro e q9 ⟨gmA, rfl, mA, h0⟩
     clear HEE
     have hq9 := btr hq8 h0
     have dl := dl.dots h0
     have ca := ca.dots h0
     have cb := cb.dots h0
     clear h0
     go_simp
     refine Shut.out hK _ _ (hq9) (fun hS2 => ?_)
     clear hK K hS
     have hS := hS2
     clear hS2
     try simp only [Act.put, s1, s2, s3, List.getElem_toArray, List.getElem_cons_succ, List.getElem_cons_zero]
     refine wpAnyH_ready (rs := [12]) (by decide +kernel) (by simp) ?_
     refine (AllReadyH.cons rfl (fun K hK => ?_) AllReadyH.nil)
     go_simp
     go_at_call 26
     have HEE := l22dot_any (2) (3) (q9)
     refine HEE.mono ?_
     rintro e q10 ⟨rfl, h0⟩
     clear HEE
     have hq10 := btr hq9 h0
     have dl := dl.dots h0
     have ca := ca.dots h0
     have cb := cb.dots h0
     have mA := mA.marks h0
     clear h0
     go_simp
     refine Shut.out hK _ _ (hq10) (fun hS2 => ?_)
     clear hK K hS
     have hS := hS2
     clear hS2
     try simp only [Act.put, s1, s2, s3, List.getElem_toArray, List.getElem_cons_succ, List.getElem_cons_zero]
     refine wpAnyH_ready (rs := [13]) (by decide +kernel) (by simp) ?_
     refine (AllReadyH.cons rfl (fun K hK => ?_) AllReadyH.nil)
     go_simp
     go_at_call 33
     have HEE := l22item_any tTea ⟨2, 3⟩ 7 7 (q10) (mi22 (by decide) (by decide))
     refine HEE.mono ?_
     rintro e q11 ⟨gmB, rfl, mB, h0⟩
     clear HEE
     have hq11 := btr hq10 h0
     have dl := dl.dots h0
     have ca := ca.dots h0
     have cb := cb.dots h0
     have mA := mA.marks h0
     clear h0
     go_simp
     refine Shut.out hK _ _ (hq11) (fun hS2 => ?_)
     clear hK K hS
     have hS := hS2
     clear hS2
     try simp only [Act.put, s1, s2, s3, List.getElem_toArray, List.getElem_cons_succ, List.getElem_cons_zero]
     refine wpAnyH_ready (rs := [14]) (by decide +kernel) (by simp) ?_
     refine (AllReadyH.cons rfl (fun K hK => ?_) AllReadyH.nil)
     go_simp
     have h0 : Below q11.heap.size q11 (q11.alloc (.cells #[.string tOil, .slice (some ⟨gmA, 0, none⟩) 1 1, .string tTea, .slice (some ⟨gmB, 0, none⟩) 1 1] 55)) := bal
     have hq12 := btr hq11 h0
     have dl := dl.dots h0
     have ca := ca.dots h0
     have cb := cb.dots h0
     have iA : Arr ItemR 2 (q11.alloc (.cells #[.string tOil, .slice (some ⟨gmA, 0, none⟩) 1 1, .string tTea, .slice (some ⟨gmB, 0, none⟩) 1 1] 55)) (.slice (some ⟨q11.heap.size, 0, none⟩) 2 2) [⟨tOil, [⟨⟨2, 2⟩, 2, 6⟩]⟩, ⟨tTea, [⟨⟨2, 3⟩, 7, 7⟩]⟩] := lit_items [⟨⟨tOil, [⟨⟨2, 2⟩, 2, 6⟩]⟩, some ⟨gmA, 0, none⟩, 1⟩, ⟨⟨tTea, [⟨⟨2, 3⟩, 7, 7⟩]⟩, some ⟨gmB, 0, none⟩, 1⟩] (by unfold maxLen; simp) (by
       intro p hp
       simp only [List.mem_cons, List.not_mem_nil, or_false] at hp
       rcases hp with rfl | rfl
       ·exact ⟨show ByteArray.size tOil ≤ maxLen by decide, mA⟩
       ·exact ⟨show ByteArray.size tTea ≤ maxLen by decide, mB⟩)
     clear h0
     refine Shut.out hK _ _ (hq12) (fun hS2 => ?_)
     clear hK K hS
     have hS := hS2
     clear hS2
     try simp only [Act.put, s1, s2, s3, List.getElem_toArray, List.getElem_cons_succ, List.getElem_cons_zero]
     refine tkN (i := 15) (v := ?v7) rfl (by decide +kernel) (Or.inl ⟨by kernel_rfl, fun w hSw => ok_of fun z hz => ?h7⟩) hS ?_; (case h7 => (go_simp; exact hz))
     try simp only [Act.put, s1, s2, s3, List.getElem_toArray, List.getElem_cons_succ, List.getElem_cons_zero]
     refine wpAnyH_ready (rs := [16]) (by decide +kernel) (by simp) ?_
     refine (AllReadyH.cons rfl (fun K hK => ?_) AllReadyH.nil)
     go_simp
     go_at_call 23
     have HEE := l22logins_any 1 wA wB wA2 wB2 [⟨2, 2⟩, ⟨2, 3⟩] 0 _ _ _ _ _ _ _ _ _ _ _ _ _ _ (HA.out _ hq12) (HB.out _ hq12) dl ⟨ca, arr_nil, arr_nil⟩ ⟨cb, arr_nil, iA⟩ wsz.2.2 (HGL.out.below hq12)
     rw [kw2] at HEE
     refine HEE.mono ?_
     rintro e q13 ⟨rfl, h0⟩
     clear HEE
     have hq13 := btr hq12 h0
     have dl := dl.dots h0
     have ca := ca.dots h0
     have cb := cb.dots h0
     have iA := iA.items h0
     clear h0
     go_simp
     refine Shut.out hK _ _ (hq13) (fun hS2 => ?_)
     clear hK K hS
     have hS := hS2
     clear hS2
     try simp only [Act.put, s1, s2, s3, List.getElem_toArray, List.getElem_cons_succ, List.getElem_cons_zero]
     refine tkN (i := 17) (v := ?v8) rfl (by decide +kernel) (Or.inl ⟨by kernel_rfl, fun w hSw => ok_of fun z hz => ?h8⟩) hS ?_; (case h8 => (go_simp; exact hz))
     try simp only [Act.put, s1, s2, s3, List.getElem_toArray, List.getElem_cons_succ, List.getElem_cons_zero]
     refine wpAnyH_done (by kernel_rfl) ?_ _
     try simp only [Act.put, s1, s2, s3, List.getElem_toArray, List.getElem_cons_succ, List.getElem_cons_zero]
     simp only [NQ]
     exact hQ _ _ _ _ _ _ _ _ _ _ _ _ _ _ _ _ _ _ (by assumption)
   · go_simp
     go_at_call 32
     have HEE := l22seen_any ⟨1, 2⟩ (q3) (DI_valid (by decide))
     refine HEE.mono ?_
     rintro e q4 ⟨gca, rfl, ca, h0⟩
     clear HEE
     have hq4 := btr hq3 h0
     clear h0
     go_simp
     refine Shut.out hK _ _ (hq4) (fun hS2 => ?_)
     clear hK K hS
     have hS := hS2
     clear hS2
     try simp only [Act.put, s1, s2, s3, List.getElem_toArray, List.getElem_cons_succ, List.getElem_cons_zero]
     refine tkN (i := 7) (v := ?v9) rfl (by decide +kernel) (Or.inl ⟨by kernel_rfl, fun w hSw => ok_of fun z hz => ?h9⟩) hS ?_; (case h9 => (go_simp; exact hz))
     try simp only [Act.put, s1, s2, s3, List.getElem_toArray, List.getElem_cons_succ, List.getElem_cons_zero]
     refine wpAnyH_ready (rs := [4, 8]) (by decide +kernel) (by simp) ?_
     refine (AllReadyH.cons rfl (fun K hK => ?_) (AllReadyH.cons rfl (fun K hK => ?_) AllReadyH.nil))
     · go_simp
       have h0 : Below q4.heap.size q4 (q4.alloc (.cells #[.int .i64 (2), .int .i64 (2), .int .i64 (2), .int .i64 (3)] 39)) := bal
       have hq5 := btr hq4 h0
       have ca := ca.dots h0
       have dl : Arr DotR 2 (q4.alloc (.cells #[.int .i64 (2), .int .i64 (2), .int .i64 (2), .int .i64 (3)] 39)) (.slice (some ⟨q4.heap.size, 0, none⟩) 2 2) [⟨2, 2⟩, ⟨2, 3⟩] := lit_dots [⟨2, 2⟩, ⟨2, 3⟩] (by unfold maxLen; simp) (dis22 (by decide))
       clear h0
       refine Shut.out hK _ _ (hq5) (fun hS2 => ?_)
       clear hK K hS
       have hS := hS2
       clear hS2
       try simp only [Act.put, s1, s2, s3, List.getElem_toArray, List.getElem_cons_succ, List.getElem_cons_zero]
       refine wpAnyH_ready (rs := [8]) (by decide +kernel) (by simp) ?_
       refine (AllReadyH.cons rfl (fun K hK => ?_) AllReadyH.nil)
       go_simp
       go_at_call 26
       have HEE := l22dot_any (2) (3) ((q4.alloc (.cells #[.int .i64 (2), .int .i64 (2), .int .i64 (2), .int .i64 (3)] 39)))
       refine HEE.mono ?_
       rintro e q6 ⟨rfl, h0⟩
       clear HEE
       have hq6 := btr hq5 h0
       have ca := ca.dots h0
       have dl := dl.dots h0
       clear h0
       go_simp
       refine Shut.out hK _ _ (hq6) (fun hS2 => ?_)
       clear hK K hS
       have hS := hS2
       clear hS2
       try simp only [Act.put, s1, s2, s3, List.getElem_toArray, List.getElem_cons_succ, List.getElem_cons_zero]
       refine wpAnyH_ready (rs := [9]) (by decide +kernel) (by simp) ?_
       refine (AllReadyH.cons rfl (fun K hK => ?_) AllReadyH.nil)
       go_simp
       go_at_call 32
       have HEE := l22seen_any ⟨2, 3⟩ (q6) (DI_valid (by decide))
       refine HEE.mono ?_
       rintro e q7 ⟨gcb, rfl, cb, h0⟩
       clear HEE
       have hq7 := btr hq6 h0
       have ca := ca.dots h0
       have dl := dl.dots h0
       clear h0
       go_simp
       refine Shut.out hK _ _ (hq7) (fun hS2 => ?_)
       clear hK K hS
       have hS := hS2
       clear hS2
       try simp only [Act.put, s1, s2, s3, List.getElem_toArray, List.getElem_cons_succ, List.getElem_cons_zero]
       refine wpAnyH_ready (rs := [10]) (by decide +kernel) (by simp) ?_
       refine (AllReadyH.cons rfl (fun K hK => ?_) AllReadyH.nil)
       go_simp
       go_at_call 26
       have HEE := l22dot_any (2) (2) (q7)
       refine HEE.mono ?_
       rintro e q8 ⟨rfl, h0⟩
       clear HEE
       have hq8 := btr hq7 h0
       have ca := ca.dots h0
       have dl := dl.dots h0
       have cb := cb.dots h0
       clear h0
       go_simp
       refine Shut.out hK _ _ (hq8) (fun hS2 => ?_)
       clear hK K hS
       have hS := hS2
       clear hS2
       try simp only [Act.put, s1, s2, s3, List.getElem_toArray, List.getElem_cons_succ, List.getElem_cons_zero]
       refine wpAnyH_ready (rs := [11]) (by decide +kernel) (by simp) ?_
       refine (AllReadyH.cons rfl (fun K hK => ?_) AllReadyH.nil)
       go_simp
       go_at_call 33
       have HEE := l22item_any tOil ⟨2, 2⟩ 2 6 (q8) (mi22 (by decide) (by decide))
       refine HEE.mono ?_
       rintro e q9 ⟨gmA, rfl, mA, h0⟩
       clear HEE
       have hq9 := btr hq8 h0
       have ca := ca.dots h0
       have dl := dl.dots h0
       have cb := cb.dots h0
       clear h0
       go_simp
       refine Shut.out hK _ _ (hq9) (fun hS2 => ?_)
       clear hK K hS
       have hS := hS2
       clear hS2
       try simp only [Act.put, s1, s2, s3, List.getElem_toArray, List.getElem_cons_succ, List.getElem_cons_zero]
       refine wpAnyH_ready (rs := [12]) (by decide +kernel) (by simp) ?_
       refine (AllReadyH.cons rfl (fun K hK => ?_) AllReadyH.nil)
       go_simp
       go_at_call 26
       have HEE := l22dot_any (2) (3) (q9)
       refine HEE.mono ?_
       rintro e q10 ⟨rfl, h0⟩
       clear HEE
       have hq10 := btr hq9 h0
       have ca := ca.dots h0
       have dl := dl.dots h0
       have cb := cb.dots h0
       have mA := mA.marks h0
       clear h0
       go_simp
       refine Shut.out hK _ _ (hq10) (fun hS2 => ?_)
       clear hK K hS
       have hS := hS2
       clear hS2
       try simp only [Act.put, s1, s2, s3, List.getElem_toArray, List.getElem_cons_succ, List.getElem_cons_zero]
       refine wpAnyH_ready (rs := [13]) (by decide +kernel) (by simp) ?_
       refine (AllReadyH.cons rfl (fun K hK => ?_) AllReadyH.nil)
       go_simp
       go_at_call 33
       have HEE := l22item_any tTea ⟨2, 3⟩ 7 7 (q10) (mi22 (by decide) (by decide))
       refine HEE.mono ?_
       rintro e q11 ⟨gmB, rfl, mB, h0⟩
       clear HEE
       have hq11 := btr hq10 h0
       have ca := ca.dots h0
       have dl := dl.dots h0
       have cb := cb.dots h0
       have mA := mA.marks h0
       clear h0
       go_simp
       refine Shut.out hK _ _ (hq11) (fun hS2 => ?_)
       clear hK K hS
       have hS := hS2
       clear hS2
       try simp only [Act.put, s1, s2, s3, List.getElem_toArray, List.getElem_cons_succ, List.getElem_cons_zero]
       refine wpAnyH_ready (rs := [14]) (by decide +kernel) (by simp) ?_
       refine (AllReadyH.cons rfl (fun K hK => ?_) AllReadyH.nil)
       go_simp
       have h0 : Below q11.heap.size q11 (q11.alloc (.cells #[.string tOil, .slice (some ⟨gmA, 0, none⟩) 1 1, .string tTea, .slice (some ⟨gmB, 0, none⟩) 1 1] 55)) := bal
       have hq12 := btr hq11 h0
       have ca := ca.dots h0
       have dl := dl.dots h0
       have cb := cb.dots h0
       have iA : Arr ItemR 2 (q11.alloc (.cells #[.string tOil, .slice (some ⟨gmA, 0, none⟩) 1 1, .string tTea, .slice (some ⟨gmB, 0, none⟩) 1 1] 55)) (.slice (some ⟨q11.heap.size, 0, none⟩) 2 2) [⟨tOil, [⟨⟨2, 2⟩, 2, 6⟩]⟩, ⟨tTea, [⟨⟨2, 3⟩, 7, 7⟩]⟩] := lit_items [⟨⟨tOil, [⟨⟨2, 2⟩, 2, 6⟩]⟩, some ⟨gmA, 0, none⟩, 1⟩, ⟨⟨tTea, [⟨⟨2, 3⟩, 7, 7⟩]⟩, some ⟨gmB, 0, none⟩, 1⟩] (by unfold maxLen; simp) (by
         intro p hp
         simp only [List.mem_cons, List.not_mem_nil, or_false] at hp
         rcases hp with rfl | rfl
         ·exact ⟨show ByteArray.size tOil ≤ maxLen by decide, mA⟩
         ·exact ⟨show ByteArray.size tTea ≤ maxLen by decide, mB⟩)
       clear h0
       refine Shut.out hK _ _ (hq12) (fun hS2 => ?_)
       clear hK K hS
       have hS := hS2
       clear hS2
       try simp only [Act.put, s1, s2, s3, List.getElem_toArray, List.getElem_cons_succ, List.getElem_cons_zero]
       refine tkN (i := 15) (v := ?v10) rfl (by decide +kernel) (Or.inl ⟨by kernel_rfl, fun w hSw => ok_of fun z hz => ?h10⟩) hS ?_; (case h10 => (go_simp; exact hz))
       try simp only [Act.put, s1, s2, s3, List.getElem_toArray, List.getElem_cons_succ, List.getElem_cons_zero]
       refine wpAnyH_ready (rs := [16]) (by decide +kernel) (by simp) ?_
       refine (AllReadyH.cons rfl (fun K hK => ?_) AllReadyH.nil)
       go_simp
       go_at_call 23
       have HEE := l22logins_any 1 wA wB wA2 wB2 [⟨2, 2⟩, ⟨2, 3⟩] 0 _ _ _ _ _ _ _ _ _ _ _ _ _ _ (HA.out _ hq12) (HB.out _ hq12) dl ⟨ca, arr_nil, arr_nil⟩ ⟨cb, arr_nil, iA⟩ wsz.2.2 (HGL.out.below hq12)
       rw [kw2] at HEE
       refine HEE.mono ?_
       rintro e q13 ⟨rfl, h0⟩
       clear HEE
       have hq13 := btr hq12 h0
       have ca := ca.dots h0
       have dl := dl.dots h0
       have cb := cb.dots h0
       have iA := iA.items h0
       clear h0
       go_simp
       refine Shut.out hK _ _ (hq13) (fun hS2 => ?_)
       clear hK K hS
       have hS := hS2
       clear hS2
       try simp only [Act.put, s1, s2, s3, List.getElem_toArray, List.getElem_cons_succ, List.getElem_cons_zero]
       refine tkN (i := 17) (v := ?v11) rfl (by decide +kernel) (Or.inl ⟨by kernel_rfl, fun w hSw => ok_of fun z hz => ?h11⟩) hS ?_; (case h11 => (go_simp; exact hz))
       try simp only [Act.put, s1, s2, s3, List.getElem_toArray, List.getElem_cons_succ, List.getElem_cons_zero]
       refine wpAnyH_done (by kernel_rfl) ?_ _
       try simp only [Act.put, s1, s2, s3, List.getElem_toArray, List.getElem_cons_succ, List.getElem_cons_zero]
       simp only [NQ]
       exact hQ _ _ _ _ _ _ _ _ _ _ _ _ _ _ _ _ _ _ (by assumption)
     · go_simp
       go_at_call 26
       have HEE := l22dot_any (2) (3) (q4)
       refine HEE.mono ?_
       rintro e q5 ⟨rfl, h0⟩
       clear HEE
       have hq5 := btr hq4 h0
       have ca := ca.dots h0
       clear h0
       go_simp
       refine Shut.out hK _ _ (hq5) (fun hS2 => ?_)
       clear hK K hS
       have hS := hS2
       clear hS2
       try simp only [Act.put, s1, s2, s3, List.getElem_toArray, List.getElem_cons_succ, List.getElem_cons_zero]
       refine wpAnyH_ready (rs := [4, 9]) (by decide +kernel) (by simp) ?_
       refine (AllReadyH.cons rfl (fun K hK => ?_) (AllReadyH.cons rfl (fun K hK => ?_) AllReadyH.nil))
       · go_simp
         have h0 : Below q5.heap.size q5 (q5.alloc (.cells #[.int .i64 (2), .int .i64 (2), .int .i64 (2), .int .i64 (3)] 39)) := bal
         have hq6 := btr hq5 h0
         have ca := ca.dots h0
         have dl : Arr DotR 2 (q5.alloc (.cells #[.int .i64 (2), .int .i64 (2), .int .i64 (2), .int .i64 (3)] 39)) (.slice (some ⟨q5.heap.size, 0, none⟩) 2 2) [⟨2, 2⟩, ⟨2, 3⟩] := lit_dots [⟨2, 2⟩, ⟨2, 3⟩] (by unfold maxLen; simp) (dis22 (by decide))
         clear h0
         refine Shut.out hK _ _ (hq6) (fun hS2 => ?_)
         clear hK K hS
         have hS := hS2
         clear hS2
         try simp only [Act.put, s1, s2, s3, List.getElem_toArray, List.getElem_cons_succ, List.getElem_cons_zero]
         refine wpAnyH_ready (rs := [9]) (by decide +kernel) (by simp) ?_
         refine (AllReadyH.cons rfl (fun K hK => ?_) AllReadyH.nil)
         go_simp
         go_at_call 32
         have HEE := l22seen_any ⟨2, 3⟩ ((q5.alloc (.cells #[.int .i64 (2), .int .i64 (2), .int .i64 (2), .int .i64 (3)] 39))) (DI_valid (by decide))
         refine HEE.mono ?_
         rintro e q7 ⟨gcb, rfl, cb, h0⟩
         clear HEE
         have hq7 := btr hq6 h0
         have ca := ca.dots h0
         have dl := dl.dots h0
         clear h0
         go_simp
         refine Shut.out hK _ _ (hq7) (fun hS2 => ?_)
         clear hK K hS
         have hS := hS2
         clear hS2
         try simp only [Act.put, s1, s2, s3, List.getElem_toArray, List.getElem_cons_succ, List.getElem_cons_zero]
         refine wpAnyH_ready (rs := [10]) (by decide +kernel) (by simp) ?_
         refine (AllReadyH.cons rfl (fun K hK => ?_) AllReadyH.nil)
         go_simp
         go_at_call 26
         have HEE := l22dot_any (2) (2) (q7)
         refine HEE.mono ?_
         rintro e q8 ⟨rfl, h0⟩
         clear HEE
         have hq8 := btr hq7 h0
         have ca := ca.dots h0
         have dl := dl.dots h0
         have cb := cb.dots h0
         clear h0
         go_simp
         refine Shut.out hK _ _ (hq8) (fun hS2 => ?_)
         clear hK K hS
         have hS := hS2
         clear hS2
         try simp only [Act.put, s1, s2, s3, List.getElem_toArray, List.getElem_cons_succ, List.getElem_cons_zero]
         refine wpAnyH_ready (rs := [11]) (by decide +kernel) (by simp) ?_
         refine (AllReadyH.cons rfl (fun K hK => ?_) AllReadyH.nil)
         go_simp
         go_at_call 33
         have HEE := l22item_any tOil ⟨2, 2⟩ 2 6 (q8) (mi22 (by decide) (by decide))
         refine HEE.mono ?_
         rintro e q9 ⟨gmA, rfl, mA, h0⟩
         clear HEE
         have hq9 := btr hq8 h0
         have ca := ca.dots h0
         have dl := dl.dots h0
         have cb := cb.dots h0
         clear h0
         go_simp
         refine Shut.out hK _ _ (hq9) (fun hS2 => ?_)
         clear hK K hS
         have hS := hS2
         clear hS2
         try simp only [Act.put, s1, s2, s3, List.getElem_toArray, List.getElem_cons_succ, List.getElem_cons_zero]
         refine wpAnyH_ready (rs := [12]) (by decide +kernel) (by simp) ?_
         refine (AllReadyH.cons rfl (fun K hK => ?_) AllReadyH.nil)
         go_simp
         go_at_call 26
         have HEE := l22dot_any (2) (3) (q9)
         refine HEE.mono ?_
         rintro e q10 ⟨rfl, h0⟩
         clear HEE
         have hq10 := btr hq9 h0
         have ca := ca.dots h0
         have dl := dl.dots h0
         have cb := cb.dots h0
         have mA := mA.marks h0
         clear h0
         go_simp
         refine Shut.out hK _ _ (hq10) (fun hS2 => ?_)
         clear hK K hS
         have hS := hS2
         clear hS2
         try simp only [Act.put, s1, s2, s3, List.getElem_toArray, List.getElem_cons_succ, List.getElem_cons_zero]
         refine wpAnyH_ready (rs := [13]) (by decide +kernel) (by simp) ?_
         refine (AllReadyH.cons rfl (fun K hK => ?_) AllReadyH.nil)
         go_simp
         go_at_call 33
         have HEE := l22item_any tTea ⟨2, 3⟩ 7 7 (q10) (mi22 (by decide) (by decide))
         refine HEE.mono ?_
         rintro e q11 ⟨gmB, rfl, mB, h0⟩
         clear HEE
         have hq11 := btr hq10 h0
         have ca := ca.dots h0
         have dl := dl.dots h0
         have cb := cb.dots h0
         have mA := mA.marks h0
         clear h0
         go_simp
         refine Shut.out hK _ _ (hq11) (fun hS2 => ?_)
         clear hK K hS
         have hS := hS2
         clear hS2
         try simp only [Act.put, s1, s2, s3, List.getElem_toArray, List.getElem_cons_succ, List.getElem_cons_zero]
         refine wpAnyH_ready (rs := [14]) (by decide +kernel) (by simp) ?_
         refine (AllReadyH.cons rfl (fun K hK => ?_) AllReadyH.nil)
         go_simp
         have h0 : Below q11.heap.size q11 (q11.alloc (.cells #[.string tOil, .slice (some ⟨gmA, 0, none⟩) 1 1, .string tTea, .slice (some ⟨gmB, 0, none⟩) 1 1] 55)) := bal
         have hq12 := btr hq11 h0
         have ca := ca.dots h0
         have dl := dl.dots h0
         have cb := cb.dots h0
         have iA : Arr ItemR 2 (q11.alloc (.cells #[.string tOil, .slice (some ⟨gmA, 0, none⟩) 1 1, .string tTea, .slice (some ⟨gmB, 0, none⟩) 1 1] 55)) (.slice (some ⟨q11.heap.size, 0, none⟩) 2 2) [⟨tOil, [⟨⟨2, 2⟩, 2, 6⟩]⟩, ⟨tTea, [⟨⟨2, 3⟩, 7, 7⟩]⟩] := lit_items [⟨⟨tOil, [⟨⟨2, 2⟩, 2, 6⟩]⟩, some ⟨gmA, 0, none⟩, 1⟩, ⟨⟨tTea, [⟨⟨2, 3⟩, 7, 7⟩]⟩, some ⟨gmB, 0, none⟩, 1⟩] (by unfold maxLen; simp) (by
           intro p hp
           simp only [List.mem_cons, List.not_mem_nil, or_false] at hp
           rcases hp with rfl | rfl
           ·exact ⟨show ByteArray.size tOil ≤ maxLen by decide, mA⟩
           ·exact ⟨show ByteArray.size tTea ≤ maxLen by decide, mB⟩)
         clear h0
         refine Shut.out hK _ _ (hq12) (fun hS2 => ?_)
         clear hK K hS
         have hS := hS2
         clear hS2
         try simp only [Act.put, s1, s2, s3, List.getElem_toArray, List.getElem_cons_succ, List.getElem_cons_zero]
         refine tkN (i := 15) (v := ?v12) rfl (by decide +kernel) (Or.inl ⟨by kernel_rfl, fun w hSw => ok_of fun z hz => ?h12⟩) hS ?_; (case h12 => (go_simp; exact hz))
         try simp only [Act.put, s1, s2, s3, List.getElem_toArray, List.getElem_cons_succ, List.getElem_cons_zero]
         refine wpAnyH_ready (rs := [16]) (by decide +kernel) (by simp) ?_
         refine (AllReadyH.cons rfl (fun K hK => ?_) AllReadyH.nil)
         go_simp
         go_at_call 23
         have HEE := l22logins_any 1 wA wB wA2 wB2 [⟨2, 2⟩, ⟨2, 3⟩] 0 _ _ _ _ _ _ _ _ _ _ _ _ _ _ (HA.out _ hq12) (HB.out _ hq12) dl ⟨ca, arr_nil, arr_nil⟩ ⟨cb, arr_nil, iA⟩ wsz.2.2 (HGL.out.below hq12)
         rw [kw2] at HEE
         refine HEE.mono ?_
         rintro e q13 ⟨rfl, h0⟩
         clear HEE
         have hq13 := btr hq12 h0
         have ca := ca.dots h0
         have dl := dl.dots h0
         have cb := cb.dots h0
         have iA := iA.items h0
         clear h0
         go_simp
         refine Shut.out hK _ _ (hq13) (fun hS2 => ?_)
         clear hK K hS
         have hS := hS2
         clear hS2
         try simp only [Act.put, s1, s2, s3, List.getElem_toArray, List.getElem_cons_succ, List.getElem_cons_zero]
         refine tkN (i := 17) (v := ?v13) rfl (by decide +kernel) (Or.inl ⟨by kernel_rfl, fun w hSw => ok_of fun z hz => ?h13⟩) hS ?_; (case h13 => (go_simp; exact hz))
         try simp only [Act.put, s1, s2, s3, List.getElem_toArray, List.getElem_cons_succ, List.getElem_cons_zero]
         refine wpAnyH_done (by kernel_rfl) ?_ _
         try simp only [Act.put, s1, s2, s3, List.getElem_toArray, List.getElem_cons_succ, List.getElem_cons_zero]
         simp only [NQ]
         exact hQ _ _ _ _ _ _ _ _ _ _ _ _ _ _ _ _ _ _ (by assumption)
       · go_simp
         go_at_call 32
         have HEE := l22seen_any ⟨2, 3⟩ (q5) (DI_valid (by decide))
         refine HEE.mono ?_
         rintro e q6 ⟨gcb, rfl, cb, h0⟩
         clear HEE
         have hq6 := btr hq5 h0
         have ca := ca.dots h0
         clear h0
         go_simp
         refine Shut.out hK _ _ (hq6) (fun hS2 => ?_)
         clear hK K hS
         have hS := hS2
         clear hS2
         try simp only [Act.put, s1, s2, s3, List.getElem_toArray, List.getElem_cons_succ, List.getElem_cons_zero]
         refine wpAnyH_ready (rs := [4, 10]) (by decide +kernel) (by simp) ?_
         refine (AllReadyH.cons rfl (fun K hK => ?_) (AllReadyH.cons rfl (fun K hK => ?_) AllReadyH.nil))
         · go_simp
           have h0 : Below q6.heap.size q6 (q6.alloc (.cells #[.int .i64 (2), .int .i64 (2), .int .i64 (2), .int .i64 (3)] 39)) := bal
           have hq7 := btr hq6 h0
           have ca := ca.dots h0
           have cb := cb.dots h0
           have dl : Arr DotR 2 (q6.alloc (.cells #[.int .i64 (2), .int .i64 (2), .int .i64 (2), .int .i64 (3)] 39)) (.slice (some ⟨q6.heap.size, 0, none⟩) 2 2) [⟨2, 2⟩, ⟨2, 3⟩] := lit_dots [⟨2, 2⟩, ⟨2, 3⟩] (by unfold maxLen; simp) (dis22 (by decide))
           clear h0
           refine Shut.out hK _ _ (hq7) (fun hS2 => ?_)
           clear hK K hS
           have hS := hS2
           clear hS2
           try simp only [Act.put, s1, s2, s3, List.getElem_toArray, List.getElem_cons_succ, List.getElem_cons_zero]
           refine wpAnyH_ready (rs := [10]) (by decide +kernel) (by simp) ?_
           refine (AllReadyH.cons rfl (fun K hK => ?_) AllReadyH.nil)
           go_simp
           go_at_call 26
           have HEE := l22dot_any (2) (2) ((q6.alloc (.cells #[.int .i64 (2), .int .i64 (2), .int .i64 (2), .int .i64 (3)] 39)))
           refine HEE.mono ?_
           rintro e q8 ⟨rfl, h0⟩
           clear HEE
           have hq8 := btr hq7 h0
           have ca := ca.dots h0
           have cb := cb.dots h0
           have dl := dl.dots h0
           clear h0
           go_simp
           refine Shut.out hK _ _ (hq8) (fun hS2 => ?_)
           clear hK K hS
           have hS := hS2
           clear hS2
           try simp only [Act.put, s1, s2, s3, List.getElem_toArray, List.getElem_cons_succ, List.getElem_cons_zero]
           refine wpAnyH_ready (rs := [11]) (by decide +kernel) (by simp) ?_
           refine (AllReadyH.cons rfl (fun K hK => ?_) AllReadyH.nil)
           go_simp
           go_at_call 33
           have HEE := l22item_any tOil ⟨2, 2⟩ 2 6 (q8) (mi22 (by decide) (by decide))
           refine HEE.mono ?_
           rintro e q9 ⟨gmA, rfl, mA, h0⟩
           clear HEE
           have hq9 := btr hq8 h0
           have ca := ca.dots h0
           have cb := cb.dots h0
           have dl := dl.dots h0
           clear h0
           go_simp
           refine Shut.out hK _ _ (hq9) (fun hS2 => ?_)
           clear hK K hS
           have hS := hS2
           clear hS2
           try simp only [Act.put, s1, s2, s3, List.getElem_toArray, List.getElem_cons_succ, List.getElem_cons_zero]
           refine wpAnyH_ready (rs := [12]) (by decide +kernel) (by simp) ?_
           refine (AllReadyH.cons rfl (fun K hK => ?_) AllReadyH.nil)
           go_simp
           go_at_call 26
           have HEE := l22dot_any (2) (3) (q9)
           refine HEE.mono ?_
           rintro e q10 ⟨rfl, h0⟩
           clear HEE
           have hq10 := btr hq9 h0
           have ca := ca.dots h0
           have cb := cb.dots h0
           have dl := dl.dots h0
           have mA := mA.marks h0
           clear h0
           go_simp
           refine Shut.out hK _ _ (hq10) (fun hS2 => ?_)
           clear hK K hS
           have hS := hS2
           clear hS2
           try simp only [Act.put, s1, s2, s3, List.getElem_toArray, List.getElem_cons_succ, List.getElem_cons_zero]
           refine wpAnyH_ready (rs := [13]) (by decide +kernel) (by simp) ?_
           refine (AllReadyH.cons rfl (fun K hK => ?_) AllReadyH.nil)
           go_simp
           go_at_call 33
           have HEE := l22item_any tTea ⟨2, 3⟩ 7 7 (q10) (mi22 (by decide) (by decide))
           refine HEE.mono ?_
           rintro e q11 ⟨gmB, rfl, mB, h0⟩
           clear HEE
           have hq11 := btr hq10 h0
           have ca := ca.dots h0
           have cb := cb.dots h0
           have dl := dl.dots h0
           have mA := mA.marks h0
           clear h0
           go_simp
           refine Shut.out hK _ _ (hq11) (fun hS2 => ?_)
           clear hK K hS
           have hS := hS2
           clear hS2
           try simp only [Act.put, s1, s2, s3, List.getElem_toArray, List.getElem_cons_succ, List.getElem_cons_zero]
           refine wpAnyH_ready (rs := [14]) (by decide +kernel) (by simp) ?_
           refine (AllReadyH.cons rfl (fun K hK => ?_) AllReadyH.nil)
           go_simp
           have h0 : Below q11.heap.size q11 (q11.alloc (.cells #[.string tOil, .slice (some ⟨gmA, 0, none⟩) 1 1, .string tTea, .slice (some ⟨gmB, 0, none⟩) 1 1] 55)) := bal
           have hq12 := btr hq11 h0
           have ca := ca.dots h0
           have cb := cb.dots h0
           have dl := dl.dots h0
           have iA : Arr ItemR 2 (q11.alloc (.cells #[.string tOil, .slice (some ⟨gmA, 0, none⟩) 1 1, .string tTea, .slice (some ⟨gmB, 0, none⟩) 1 1] 55)) (.slice (some ⟨q11.heap.size, 0, none⟩) 2 2) [⟨tOil, [⟨⟨2, 2⟩, 2, 6⟩]⟩, ⟨tTea, [⟨⟨2, 3⟩, 7, 7⟩]⟩] := lit_items [⟨⟨tOil, [⟨⟨2, 2⟩, 2, 6⟩]⟩, some ⟨gmA, 0, none⟩, 1⟩, ⟨⟨tTea, [⟨⟨2, 3⟩, 7, 7⟩]⟩, some ⟨gmB, 0, none⟩, 1⟩] (by unfold maxLen; simp) (by
             intro p hp
             simp only [List.mem_cons, List.not_mem_nil, or_false] at hp
             rcases hp with rfl | rfl
             ·exact ⟨show ByteArray.size tOil ≤ maxLen by decide, mA⟩
             ·exact ⟨show ByteArray.size tTea ≤ maxLen by decide, mB⟩)
           clear h0
           refine Shut.out hK _ _ (hq12) (fun hS2 => ?_)
           clear hK K hS
           have hS := hS2
           clear hS2
           try simp only [Act.put, s1, s2, s3, List.getElem_toArray, List.getElem_cons_succ, List.getElem_cons_zero]
           refine tkN (i := 15) (v := ?v14) rfl (by decide +kernel) (Or.inl ⟨by kernel_rfl, fun w hSw => ok_of fun z hz => ?h14⟩) hS ?_; (case h14 => (go_simp; exact hz))
           try simp only [Act.put, s1, s2, s3, List.getElem_toArray, List.getElem_cons_succ, List.getElem_cons_zero]
           refine wpAnyH_ready (rs := [16]) (by decide +kernel) (by simp) ?_
           refine (AllReadyH.cons rfl (fun K hK => ?_) AllReadyH.nil)
           go_simp
           go_at_call 23
           have HEE := l22logins_any 1 wA wB wA2 wB2 [⟨2, 2⟩, ⟨2, 3⟩] 0 _ _ _ _ _ _ _ _ _ _ _ _ _ _ (HA.out _ hq12) (HB.out _ hq12) dl ⟨ca, arr_nil, arr_nil⟩ ⟨cb, arr_nil, iA⟩ wsz.2.2 (HGL.out.below hq12)
           rw [kw2] at HEE
           refine HEE.mono ?_
           rintro e q13 ⟨rfl, h0⟩
           clear HEE
           have hq13 := btr hq12 h0
           have ca := ca.dots h0
           have cb := cb.dots h0
           have dl := dl.dots h0
           have iA := iA.items h0
           clear h0
           go_simp
           refine Shut.out hK _ _ (hq13) (fun hS2 => ?_)
           clear hK K hS
           have hS := hS2
           clear hS2
           try simp only [Act.put, s1, s2, s3, List.getElem_toArray, List.getElem_cons_succ, List.getElem_cons_zero]
           refine tkN (i := 17) (v := ?v15) rfl (by decide +kernel) (Or.inl ⟨by kernel_rfl, fun w hSw => ok_of fun z hz => ?h15⟩) hS ?_; (case h15 => (go_simp; exact hz))
           try simp only [Act.put, s1, s2, s3, List.getElem_toArray, List.getElem_cons_succ, List.getElem_cons_zero]
           refine wpAnyH_done (by kernel_rfl) ?_ _
           try simp only [Act.put, s1, s2, s3, List.getElem_toArray, List.getElem_cons_succ, List.getElem_cons_zero]
           simp only [NQ]
           exact hQ _ _ _ _ _ _ _ _ _ _ _ _ _ _ _ _ _ _ (by assumption)
         · go_simp
           go_at_call 26
           have HEE := l22dot_any (2) (2) (q6)
           refine HEE.mono ?_
           rintro e q7 ⟨rfl, h0⟩
           clear HEE
           have hq7 := btr hq6 h0
           have ca := ca.dots h0
           have cb := cb.dots h0
           clear h0
           go_simp
           refine Shut.out hK _ _ (hq7) (fun hS2 => ?_)
           clear hK K hS
           have hS := hS2
           clear hS2
           try simp only [Act.put, s1, s2, s3, List.getElem_toArray, List.getElem_cons_succ, List.getElem_cons_zero]
           refine wpAnyH_ready (rs := [4, 11]) (by decide +kernel) (by simp) ?_
           refine (AllReadyH.cons rfl (fun K hK => ?_) (AllReadyH.cons rfl (fun K hK => ?_) AllReadyH.nil))
           · go_simp
             have h0 : Below q7.heap.size q7 (q7.alloc (.cells #[.int .i64 (2), .int .i64 (2), .int .i64 (2), .int .i64 (3)] 39)) := bal
             have hq8 := btr hq7 h0
             have ca := ca.dots h0
             have cb := cb.dots h0
             have dl : Arr DotR 2 (q7.alloc (.cells #[.int .i64 (2), .int .i64 (2), .int .i64 (2), .int .i64 (3)] 39)) (.slice (some ⟨q7.heap.size, 0, none⟩) 2 2) [⟨2, 2⟩, ⟨2, 3⟩] := lit_dots [⟨2, 2⟩, ⟨2, 3⟩] (by unfold maxLen; simp) (dis22 (by decide))
             clear h0
             refine Shut.out hK _ _ (hq8) (fun hS2 => ?_)
             clear hK K hS
             have hS := hS2
             clear hS2
             try simp only [Act.put, s1, s2, s3, List.getElem_toArray, List.getElem_cons_succ, List.getElem_cons_zero]
             refine wpAnyH_ready (rs := [11]) (by decide +kernel) (by simp) ?_
             refine (AllReadyH.cons rfl (fun K hK => ?_) AllReadyH.nil)
             go_simp
             go_at_call 33
             have HEE := l22item_any tOil ⟨2, 2⟩ 2 6 ((q7.alloc (.cells #[.int .i64 (2), .int .i64 (2), .int .i64 (2), .int .i64 (3)] 39))) (mi22 (by decide) (by decide))
             refine HEE.mono ?_
             rintro e q9 ⟨gmA, rfl, mA, h0⟩
             clear HEE
             have hq9 := btr hq8 h0
             have ca := ca.dots h0
             have cb := cb.dots h0
             have dl := dl.dots h0
             clear h0
             go_simp
             refine Shut.out hK _ _ (hq9) (fun hS2 => ?_)
             clear hK K hS
             have hS := hS2
             clear hS2
             try simp only [Act.put, s1, s2, s3, List.getElem_toArray, List.getElem_cons_succ, List.getElem_cons_zero]
             refine wpAnyH_ready (rs := [12]) (by decide +kernel) (by simp) ?_
             refine (AllReadyH.cons rfl (fun K hK => ?_) AllReadyH.nil)
             go_simp
             go_at_call 26
             have HEE := l22dot_any (2) (3) (q9)
             refine HEE.mono ?_
             rintro e q10 ⟨rfl, h0⟩
             clear HEE
             have hq10 := btr hq9 h0
             have ca := ca.dots h0
             have cb := cb.dots h0
             have dl := dl.dots h0
             have mA := mA.marks h0
             clear h0
             go_simp
             refine Shut.out hK _ _ (hq10) (fun hS2 => ?_)
             clear hK K hS
             have hS := hS2
             clear hS2
             try simp only [Act.put, s1, s2, s3, List.getElem_toArray, List.getElem_cons_succ, List.getElem_cons_zero]
             refine wpAnyH_ready (rs := [13]) (by decide +kernel) (by simp) ?_
             refine (AllReadyH.cons rfl (fun K hK => ?_) AllReadyH.nil)
             go_simp
             go_at_call 33
             have HEE := l22item_any tTea ⟨2, 3⟩ 7 7 (q10) (mi22 (by decide) (by decide))
             refine HEE.mono ?_
             rintro e q11 ⟨gmB, rfl, mB, h0⟩
             clear HEE
             have hq11 := btr hq10 h0
             have ca := ca.dots h0
             have cb := cb.dots h0
             have dl := dl.dots h0
             have mA := mA.marks h0
             clear h0
             go_simp
             refine Shut.out hK _ _ (hq11) (fun hS2 => ?_)
             clear hK K hS
             have hS := hS2
             clear hS2
             try simp only [Act.put, s1, s2, s3, List.getElem_toArray, List.getElem_cons_succ, List.getElem_cons_zero]
             refine wpAnyH_ready (rs := [14]) (by decide +kernel) (by simp) ?_
             refine (AllReadyH.cons rfl (fun K hK => ?_) AllReadyH.nil)
             go_simp
             have h0 : Below q11.heap.size q11 (q11.alloc (.cells #[.string tOil, .slice (some ⟨gmA, 0, none⟩) 1 1, .string tTea, .slice (some ⟨gmB, 0, none⟩) 1 1] 55)) := bal
             have hq12 := btr hq11 h0
             have ca := ca.dots h0
             have cb := cb.dots h0
             have dl := dl.dots h0
             have iA : Arr ItemR 2 (q11.alloc (.cells #[.string tOil, .slice (some ⟨gmA, 0, none⟩) 1 1, .string tTea, .slice (some ⟨gmB, 0, none⟩) 1 1] 55)) (.slice (some ⟨q11.heap.size, 0, none⟩) 2 2) [⟨tOil, [⟨⟨2, 2⟩, 2, 6⟩]⟩, ⟨tTea, [⟨⟨2, 3⟩, 7, 7⟩]⟩] := lit_items [⟨⟨tOil, [⟨⟨2, 2⟩, 2, 6⟩]⟩, some ⟨gmA, 0, none⟩, 1⟩, ⟨⟨tTea, [⟨⟨2, 3⟩, 7, 7⟩]⟩, some ⟨gmB, 0, none⟩, 1⟩] (by unfold maxLen; simp) (by
               intro p hp
               simp only [List.mem_cons, List.not_mem_nil, or_false] at hp
               rcases hp with rfl | rfl
               ·exact ⟨show ByteArray.size tOil ≤ maxLen by decide, mA⟩
               ·exact ⟨show ByteArray.size tTea ≤ maxLen by decide, mB⟩)
             clear h0
             refine Shut.out hK _ _ (hq12) (fun hS2 => ?_)
             clear hK K hS
             have hS := hS2
             clear hS2
             try simp only [Act.put, s1, s2, s3, List.getElem_toArray, List.getElem_cons_succ, List.getElem_cons_zero]
             refine tkN (i := 15) (v := ?v16) rfl (by decide +kernel) (Or.inl ⟨by kernel_rfl, fun w hSw => ok_of fun z hz => ?h16⟩) hS ?_; (case h16 => (go_simp; exact hz))
             try simp only [Act.put, s1, s2, s3, List.getElem_toArray, List.getElem_cons_succ, List.getElem_cons_zero]
             refine wpAnyH_ready (rs := [16]) (by decide +kernel) (by simp) ?_
             refine (AllReadyH.cons rfl (fun K hK => ?_) AllReadyH.nil)
             go_simp
             go_at_call 23
             have HEE := l22logins_any 1 wA wB wA2 wB2 [⟨2, 2⟩, ⟨2, 3⟩] 0 _ _ _ _ _ _ _ _ _ _ _ _ _ _ (HA.out _ hq12) (HB.out _ hq12) dl ⟨ca, arr_nil, arr_nil⟩ ⟨cb, arr_nil, iA⟩ wsz.2.2 (HGL.out.below hq12)
             rw [kw2] at HEE
             refine HEE.mono ?_
             rintro e q13 ⟨rfl, h0⟩
             clear HEE
             have hq13 := btr hq12 h0
             have ca := ca.dots h0
             have cb := cb.dots h0
             have dl := dl.dots h0
             have iA := iA.items h0
             clear h0
             go_simp
             refine Shut.out hK _ _ (hq13) (fun hS2 => ?_)
             clear hK K hS
             have hS := hS2
             clear hS2
             try simp only [Act.put, s1, s2, s3, List.getElem_toArray, List.getElem_cons_succ, List.getElem_cons_zero]
             refine tkN (i := 17) (v := ?v17) rfl (by decide +kernel) (Or.inl ⟨by kernel_rfl, fun w hSw => ok_of fun z hz => ?h17⟩) hS ?_; (case h17 => (go_simp; exact hz))
             try simp only [Act.put, s1, s2, s3, List.getElem_toArray, List.getElem_cons_succ, List.getElem_cons_zero]
             refine wpAnyH_done (by kernel_rfl) ?_ _
             try simp only [Act.put, s1, s2, s3, List.getElem_toArray, List.getElem_cons_succ, List.getElem_cons_zero]
             simp only [NQ]
             exact hQ _ _ _ _ _ _ _ _ _ _ _ _ _ _ _ _ _ _ (by assumption)
           · go_simp
             go_at_call 33
             have HEE := l22item_any tOil ⟨2, 2⟩ 2 6 (q7) (mi22 (by decide) (by decide))
             refine HEE.mono ?_
             rintro e q8 ⟨gmA, rfl, mA, h0⟩
             clear HEE
             have hq8 := btr hq7 h0
             have ca := ca.dots h0
             have cb := cb.dots h0
             clear h0
             go_simp
             refine Shut.out hK _ _ (hq8) (fun hS2 => ?_)
             clear hK K hS
             have hS := hS2
             clear hS2
             try simp only [Act.put, s1, s2, s3, List.getElem_toArray, List.getElem_cons_succ, List.getElem_cons_zero]
             refine wpAnyH_ready (rs := [4, 12]) (by decide +kernel) (by simp) ?_
             refine (AllReadyH.cons rfl (fun K hK => ?_) (AllReadyH.cons rfl (fun K hK => ?_) AllReadyH.nil))
             · go_simp
               have h0 : Below q8.heap.size q8 (q8.alloc (.cells #[.int .i64 (2), .int .i64 (2), .int .i64 (2), .int .i64 (3)] 39)) := bal
               have hq9 := btr hq8 h0
               have ca := ca.dots h0
               have cb := cb.dots h0
               have mA := mA.marks h0
               have dl : Arr DotR 2 (q8.alloc (.cells #[.int .i64 (2), .int .i64 (2), .int .i64 (2), .int .i64 (3)] 39)) (.slice (some ⟨q8.heap.size, 0, none⟩) 2 2) [⟨2, 2⟩, ⟨2, 3⟩] := lit_dots [⟨2, 2⟩, ⟨2, 3⟩] (by unfold maxLen; simp) (dis22 (by decide))
               clear h0
               refine Shut.out hK _ _ (hq9) (fun hS2 => ?_)
               clear hK K hS
               have hS := hS2
               clear hS2
               try simp only [Act.put, s1, s2, s3, List.getElem_toArray, List.getElem_cons_succ, List.getElem_cons_zero]
               refine wpAnyH_ready (rs := [12]) (by decide +kernel) (by simp) ?_
               refine (AllReadyH.cons rfl (fun K hK => ?_) AllReadyH.nil)
               go_simp
               go_at_call 26
               have HEE := l22dot_any (2) (3) ((q8.alloc (.cells #[.int .i64 (2), .int .i64 (2), .int .i64 (2), .int .i64 (3)] 39)))
               refine HEE.mono ?_
               rintro e q10 ⟨rfl, h0⟩
               clear HEE
               have hq10 := btr hq9 h0
               have ca := ca.dots h0
               have cb := cb.dots h0
               have mA := mA.marks h0
               have dl := dl.dots h0
               clear h0
               go_simp
               refine Shut.out hK _ _ (hq10) (fun hS2 => ?_)
               clear hK K hS
               have hS := hS2
               clear hS2
               try simp only [Act.put, s1, s2, s3, List.getElem_toArray, List.getElem_cons_succ, List.getElem_cons_zero]
               refine wpAnyH_ready (rs := [13]) (by decide +kernel) (by simp) ?_
               refine (AllReadyH.cons rfl (fun K hK => ?_) AllReadyH.nil)
               go_simp
               go_at_call 33
               have HEE := l22item_any tTea ⟨2, 3⟩ 7 7 (q10) (mi22 (by decide) (by decide))
               refine HEE.mono ?_
               rintro e q11 ⟨gmB, rfl, mB, h0⟩
               clear HEE
               have hq11 := btr hq10 h0
               have ca := ca.dots h0
               have cb := cb.dots h0
               have mA := mA.marks h0
               have dl := dl.dots h0
               clear h0
               go_simp
               refine Shut.out hK _ _ (hq11) (fun hS2 => ?_)
               clear hK K hS
               have hS := hS2
               clear hS2
               try simp only [Act.put, s1, s2, s3, List.getElem_toArray, List.getElem_cons_succ, List.getElem_cons_zero]
               refine wpAnyH_ready (rs := [14]) (by decide +kernel) (by simp) ?_
               refine (AllReadyH.cons rfl (fun K hK => ?_) AllReadyH.nil)
               go_simp
               have h0 : Below q11.heap.size q11 (q11.alloc (.cells #[.string tOil, .slice (some ⟨gmA, 0, none⟩) 1 1, .string tTea, .slice (some ⟨gmB, 0, none⟩) 1 1] 55)) := bal
               have hq12 := btr hq11 h0
               have ca := ca.dots h0
               have cb := cb.dots h0
               have dl := dl.dots h0
               have iA : Arr ItemR 2 (q11.alloc (.cells #[.string tOil, .slice (some ⟨gmA, 0, none⟩) 1 1, .string tTea, .slice (some ⟨gmB, 0, none⟩) 1 1] 55)) (.slice (some ⟨q11.heap.size, 0, none⟩) 2 2) [⟨tOil, [⟨⟨2, 2⟩, 2, 6⟩]⟩, ⟨tTea, [⟨⟨2, 3⟩, 7, 7⟩]⟩] := lit_items [⟨⟨tOil, [⟨⟨2, 2⟩, 2, 6⟩]⟩, some ⟨gmA, 0, none⟩, 1⟩, ⟨⟨tTea, [⟨⟨2, 3⟩, 7, 7⟩]⟩, some ⟨gmB, 0, none⟩, 1⟩] (by unfold maxLen; simp) (by
                 intro p hp
                 simp only [List.mem_cons, List.not_mem_nil, or_false] at hp
                 rcases hp with rfl | rfl
                 ·exact ⟨show ByteArray.size tOil ≤ maxLen by decide, mA⟩
                 ·exact ⟨show ByteArray.size tTea ≤ maxLen by decide, mB⟩)
               clear h0
               refine Shut.out hK _ _ (hq12) (fun hS2 => ?_)
               clear hK K hS
               have hS := hS2
               clear hS2
               try simp only [Act.put, s1, s2, s3, List.getElem_toArray, List.getElem_cons_succ, List.getElem_cons_zero]
               refine tkN (i := 15) (v := ?v18) rfl (by decide +kernel) (Or.inl ⟨by kernel_rfl, fun w hSw => ok_of fun z hz => ?h18⟩) hS ?_; (case h18 => (go_simp; exact hz))
               try simp only [Act.put, s1, s2, s3, List.getElem_toArray, List.getElem_cons_succ, List.getElem_cons_zero]
               refine wpAnyH_ready (rs := [16]) (by decide +kernel) (by simp) ?_
               refine (AllReadyH.cons rfl (fun K hK => ?_) AllReadyH.nil)
               go_simp
               go_at_call 23
               have HEE := l22logins_any 1 wA wB wA2 wB2 [⟨2, 2⟩, ⟨2, 3⟩] 0 _ _ _ _ _ _ _ _ _ _ _ _ _ _ (HA.out _ hq12) (HB.out _ hq12) dl ⟨ca, arr_nil, arr_nil⟩ ⟨cb, arr_nil, iA⟩ wsz.2.2 (HGL.out.below hq12)
               rw [kw2] at HEE
               refine HEE.mono ?_
               rintro e q13 ⟨rfl, h0⟩
               clear HEE
               have hq13 := btr hq12 h0
               have ca := ca.dots h0
               have cb := cb.dots h0
               have dl := dl.dots h0
               have iA := iA.items h0
               clear h0
               go_simp
               refine Shut.out hK _ _ (hq13) (fun hS2 => ?_)
               clear hK K hS
               have hS := hS2
               clear hS2
               try simp only [Act.put, s1, s2, s3, List.getElem_toArray, List.getElem_cons_succ, List.getElem_cons_zero]
               refine tkN (i := 17) (v := ?v19) rfl (by decide +kernel) (Or.inl ⟨by kernel_rfl, fun w hSw => ok_of fun z hz => ?h19⟩) hS ?_; (case h19 => (go_simp; exact hz))
               try simp only [Act.put, s1, s2, s3, List.getElem_toArray, List.getElem_cons_succ, List.getElem_cons_zero]
               refine wpAnyH_done (by kernel_rfl) ?_ _
               try simp only [Act.put, s1, s2, s3, List.getElem_toArray, List.getElem_cons_succ, List.getElem_cons_zero]
               simp only [NQ]
               exact hQ _ _ _ _ _ _ _ _ _ _ _ _ _ _ _ _ _ _ (by assumption)
             · go_simp
               go_at_call 26
               have HEE := l22dot_any (2) (3) (q8)
               refine HEE.mono ?_
               rintro e q9 ⟨rfl, h0⟩
               clear HEE
               have hq9 := btr hq8 h0
               have ca := ca.dots h0
               have cb := cb.dots h0
               have mA := mA.marks h0
               clear h0
               go_simp
               refine Shut.out hK _ _ (hq9) (fun hS2 => ?_)
               clear hK K hS
               have hS := hS2
               clear hS2
               try simp only [Act.put, s1, s2, s3, List.getElem_toArray, List.getElem_cons_succ, List.getElem_cons_zero]
               refine wpAnyH_ready (rs := [4, 13]) (by decide +kernel) (by simp) ?_
               refine (AllReadyH.cons rfl (fun K hK => ?_) (AllReadyH.cons rfl (fun K hK => ?_) AllReadyH.nil))
               · go_simp
                 have h0 : Below q9.heap.size q9 (q9.alloc (.cells #[.int .i64 (2), .int .i64 (2), .int .i64 (2), .int .i64 (3)] 39)) := bal
                 have hq10 := btr hq9 h0
                 have ca := ca.dots h0
                 have cb := cb.dots h0
                 have mA := mA.marks h0
                 have dl : Arr DotR 2 (q9.alloc (.cells #[.int .i64 (2), .int .i64 (2), .int .i64 (2), .int .i64 (3)] 39)) (.slice (some ⟨q9.heap.size, 0, none⟩) 2 2) [⟨2, 2⟩, ⟨2, 3⟩] := lit_dots [⟨2, 2⟩, ⟨2, 3⟩] (by unfold maxLen; simp) (dis22 (by decide))
                 clear h0
                 refine Shut.out hK _ _ (hq10) (fun hS2 => ?_)
                 clear hK K hS
                 have hS := hS2
                 clear hS2
                 try simp only [Act.put, s1, s2, s3, List.getElem_toArray, List.getElem_cons_succ, List.getElem_cons_zero]
                 refine wpAnyH_ready (rs := [13]) (by decide +kernel) (by simp) ?_
                 refine (AllReadyH.cons rfl (fun K hK => ?_) AllReadyH.nil)
                 go_simp
                 go_at_call 33
                 have HEE := l22item_any tTea ⟨2, 3⟩ 7 7 ((q9.alloc (.cells #[.int .i64 (2), .int .i64 (2), .int .i64 (2), .int .i64 (3)] 39))) (mi22 (by decide) (by decide))
                 refine HEE.mono ?_
                 rintro e q11 ⟨gmB, rfl, mB, h0⟩
                 clear HEE
                 have hq11 := btr hq10 h0
                 have ca := ca.dots h0
                 have cb := cb.dots h0
                 have mA := mA.marks h0
                 have dl := dl.dots h0
                 clear h0
                 go_simp
                 refine Shut.out hK _ _ (hq11) (fun hS2 => ?_)
                 clear hK K hS
                 have hS := hS2
                 clear hS2
                 try simp only [Act.put, s1, s2, s3, List.getElem_toArray, List.getElem_cons_succ, List.getElem_cons_zero]
                 refine wpAnyH_ready (rs := [14]) (by decide +kernel) (by simp) ?_
                 refine (AllReadyH.cons rfl (fun K hK => ?_) AllReadyH.nil)
                 go_simp
                 have h0 : Below q11.heap.size q11 (q11.alloc (.cells #[.string tOil, .slice (some ⟨gmA, 0, none⟩) 1 1, .string tTea, .slice (some ⟨gmB, 0, none⟩) 1 1] 55)) := bal
                 have hq12 := btr hq11 h0
                 have ca := ca.dots h0
                 have cb := cb.dots h0
                 have dl := dl.dots h0
                 have iA : Arr ItemR 2 (q11.alloc (.cells #[.string tOil, .slice (some ⟨gmA, 0, none⟩) 1 1, .string tTea, .slice (some ⟨gmB, 0, none⟩) 1 1] 55)) (.slice (some ⟨q11.heap.size, 0, none⟩) 2 2) [⟨tOil, [⟨⟨2, 2⟩, 2, 6⟩]⟩, ⟨tTea, [⟨⟨2, 3⟩, 7, 7⟩]⟩] := lit_items [⟨⟨tOil, [⟨⟨2, 2⟩, 2, 6⟩]⟩, some ⟨gmA, 0, none⟩, 1⟩, ⟨⟨tTea, [⟨⟨2, 3⟩, 7, 7⟩]⟩, some ⟨gmB, 0, none⟩, 1⟩] (by unfold maxLen; simp) (by
                   intro p hp
                   simp only [List.mem_cons, List.not_mem_nil, or_false] at hp
                   rcases hp with rfl | rfl
                   ·exact ⟨show ByteArray.size tOil ≤ maxLen by decide, mA⟩
                   ·exact ⟨show ByteArray.size tTea ≤ maxLen by decide, mB⟩)
                 clear h0
                 refine Shut.out hK _ _ (hq12) (fun hS2 => ?_)
                 clear hK K hS
                 have hS := hS2
                 clear hS2
                 try simp only [Act.put, s1, s2, s3, List.getElem_toArray, List.getElem_cons_succ, List.getElem_cons_zero]
                 refine tkN (i := 15) (v := ?v20) rfl (by decide +kernel) (Or.inl ⟨by kernel_rfl, fun w hSw => ok_of fun z hz => ?h20⟩) hS ?_; (case h20 => (go_simp; exact hz))
                 try simp only [Act.put, s1, s2, s3, List.getElem_toArray, List.getElem_cons_succ, List.getElem_cons_zero]
                 refine wpAnyH_ready (rs := [16]) (by decide +kernel) (by simp) ?_
                 refine (AllReadyH.cons rfl (fun K hK => ?_) AllReadyH.nil)
                 go_simp
                 go_at_call 23
                 have HEE := l22logins_any 1 wA wB wA2 wB2 [⟨2, 2⟩, ⟨2, 3⟩] 0 _ _ _ _ _ _ _ _ _ _ _ _ _ _ (HA.out _ hq12) (HB.out _ hq12) dl ⟨ca, arr_nil, arr_nil⟩ ⟨cb, arr_nil, iA⟩ wsz.2.2 (HGL.out.below hq12)
                 rw [kw2] at HEE
                 refine HEE.mono ?_
                 rintro e q13 ⟨rfl, h0⟩
                 clear HEE
                 have hq13 := btr hq12 h0
                 have ca := ca.dots h0
                 have cb := cb.dots h0
                 have dl := dl.dots h0
                 have iA := iA.items h0
                 clear h0
                 go_simp
                 refine Shut.out hK _ _ (hq13) (fun hS2 => ?_)
                 clear hK K hS
                 have hS := hS2
                 clear hS2
                 try simp only [Act.put, s1, s2, s3, List.getElem_toArray, List.getElem_cons_succ, List.getElem_cons_zero]
                 refine tkN (i := 17) (v := ?v21) rfl (by decide +kernel) (Or.inl ⟨by kernel_rfl, fun w hSw => ok_of fun z hz => ?h21⟩) hS ?_; (case h21 => (go_simp; exact hz))
                 try simp only [Act.put, s1, s2, s3, List.getElem_toArray, List.getElem_cons_succ, List.getElem_cons_zero]
                 refine wpAnyH_done (by kernel_rfl) ?_ _
                 try simp only [Act.put, s1, s2, s3, List.getElem_toArray, List.getElem_cons_succ, List.getElem_cons_zero]
                 simp only [NQ]
                 exact hQ _ _ _ _ _ _ _ _ _ _ _ _ _ _ _ _ _ _ (by assumption)
               · go_simp
                 go_at_call 33
                 have HEE := l22item_any tTea ⟨2, 3⟩ 7 7 (q9) (mi22 (by decide) (by decide))
                 refine HEE.mono ?_
                 rintro e q10 ⟨gmB, rfl, mB, h0⟩
                 clear HEE
                 have hq10 := btr hq9 h0
                 have ca := ca.dots h0
                 have cb := cb.dots h0
                 have mA := mA.marks h0
                 clear h0
                 go_simp
                 refine Shut.out hK _ _ (hq10) (fun hS2 => ?_)
                 clear hK K hS
                 have hS := hS2
                 clear hS2
                 try simp only [Act.put, s1, s2, s3, List.getElem_toArray, List.getElem_cons_succ, List.getElem_cons_zero]
                 refine wpAnyH_ready (rs := [4, 14]) (by decide +kernel) (by simp) ?_
                 refine (AllReadyH.cons rfl (fun K hK => ?_) (AllReadyH.cons rfl (fun K hK => ?_) AllReadyH.nil))
                 · go_simp
                   have h0 : Below q10.heap.size q10 (q10.alloc (.cells #[.int .i64 (2), .int .i64 (2), .int .i64 (2), .int .i64 (3)] 39)) := bal
                   have hq11 := btr hq10 h0
                   have ca := ca.dots h0
                   have cb := cb.dots h0
                   have mA := mA.marks h0
                   have mB := mB.marks h0
                   have dl : Arr DotR 2 (q10.alloc (.cells #[.int .i64 (2), .int .i64 (2), .int .i64 (2), .int .i64 (3)] 39)) (.slice (some ⟨q10.heap.size, 0, none⟩) 2 2) [⟨2, 2⟩, ⟨2, 3⟩] := lit_dots [⟨2, 2⟩, ⟨2, 3⟩] (by unfold maxLen; simp) (dis22 (by decide))
                   clear h0
                   refine Shut.out hK _ _ (hq11) (fun hS2 => ?_)
                   clear hK K hS
                   have hS := hS2
                   clear hS2
                   try simp only [Act.put, s1, s2, s3, List.getElem_toArray, List.getElem_cons_succ, List.getElem_cons_zero]
                   refine wpAnyH_ready (rs := [14]) (by decide +kernel) (by simp) ?_
                   refine (AllReadyH.cons rfl (fun K hK => ?_) AllReadyH.nil)
                   go_simp
                   have h0 : Below (q10.alloc (.cells #[.int .i64 (2), .int .i64 (2), .int .i64 (2), .int .i64 (3)] 39)).heap.size (q10.alloc (.cells #[.int .i64 (2), .int .i64 (2), .int .i64 (2), .int .i64 (3)] 39)) ((q10.alloc (.cells #[.int .i64 (2), .int .i64 (2), .int .i64 (2), .int .i64 (3)] 39)).alloc (.cells #[.string tOil, .slice (some ⟨gmA, 0, none⟩) 1 1, .string tTea, .slice (some ⟨gmB, 0, none⟩) 1 1] 55)) := bal
                   have hq12 := btr hq11 h0
                   have ca := ca.dots h0
                   have cb := cb.dots h0
                   have dl := dl.dots h0
                   have iA : Arr ItemR 2 ((q10.alloc (.cells #[.int .i64 (2), .int .i64 (2), .int .i64 (2), .int .i64 (3)] 39)).alloc (.cells #[.string tOil, .slice (some ⟨gmA, 0, none⟩) 1 1, .string tTea, .slice (some ⟨gmB, 0, none⟩) 1 1] 55)) (.slice (some ⟨(q10.alloc (.cells #[.int .i64 (2), .int .i64 (2), .int .i64 (2), .int .i64 (3)] 39)).heap.size, 0, none⟩) 2 2) [⟨tOil, [⟨⟨2, 2⟩, 2, 6⟩]⟩, ⟨tTea, [⟨⟨2, 3⟩, 7, 7⟩]⟩] := lit_items [⟨⟨tOil, [⟨⟨2, 2⟩, 2, 6⟩]⟩, some ⟨gmA, 0, none⟩, 1⟩, ⟨⟨tTea, [⟨⟨2, 3⟩, 7, 7⟩]⟩, some ⟨gmB, 0, none⟩, 1⟩] (by unfold maxLen; simp) (by
                     intro p hp
                     simp only [List.mem_cons, List.not_mem_nil, or_false] at hp
                     rcases hp with rfl | rfl
                     ·exact ⟨show ByteArray.size tOil ≤ maxLen by decide, mA⟩
                     ·exact ⟨show ByteArray.size tTea ≤ maxLen by decide, mB⟩)
                   clear h0
                   have e9 : (q10.alloc (.cells #[.int .i64 (2), .int .i64 (2), .int .i64 (2), .int .i64 (3)] 39)).heap.size = q10.heap.size + 1 := by simp only [alloc_size]
                   rw [e9] at iA
                   clear e9
                   refine Shut.out hK _ _ (hq12) (fun hS2 => ?_)
                   clear hK K hS
                   have hS := hS2
                   clear hS2
                   try simp only [Act.put, s1, s2, s3, List.getElem_toArray, List.getElem_cons_succ, List.getElem_cons_zero]
                   refine tkN (i := 15) (v := ?v22) rfl (by decide +kernel) (Or.inl ⟨by kernel_rfl, fun w hSw => ok_of fun z hz => ?h22⟩) hS ?_; (case h22 => (go_simp; exact hz))
                   try simp only [Act.put, s1, s2, s3, List.getElem_toArray, List.getElem_cons_succ, List.getElem_cons_zero]
                   refine wpAnyH_ready (rs := [16]) (by decide +kernel) (by simp) ?_
                   refine (AllReadyH.cons rfl (fun K hK => ?_) AllReadyH.nil)
                   go_simp
                   go_at_call 23
                   have HEE := l22logins_any 1 wA wB wA2 wB2 [⟨2, 2⟩, ⟨2, 3⟩] 0 _ _ _ _ _ _ _ _ _ _ _ _ _ _ (HA.out _ hq12) (HB.out _ hq12) dl ⟨ca, arr_nil, arr_nil⟩ ⟨cb, arr_nil, iA⟩ wsz.2.2 (HGL.out.below hq12)
                   rw [kw2] at HEE
                   refine HEE.mono ?_
                   rintro e q13 ⟨rfl, h0⟩
                   clear HEE
                   have hq13 := btr hq12 h0
                   have ca := ca.dots h0
                   have cb := cb.dots h0
                   have dl := dl.dots h0
                   have iA := iA.items h0
                   clear h0
                   go_simp
                   refine Shut.out hK _ _ (hq13) (fun hS2 => ?_)
                   clear hK K hS
                   have hS := hS2
                   clear hS2
                   try simp only [Act.put, s1, s2, s3, List.getElem_toArray, List.getElem_cons_succ, List.getElem_cons_zero]
                   refine tkN (i := 17) (v := ?v23) rfl (by decide +kernel) (Or.inl ⟨by kernel_rfl, fun w hSw => ok_of fun z hz => ?h23⟩) hS ?_; (case h23 => (go_simp; exact hz))
                   try simp only [Act.put, s1, s2, s3, List.getElem_toArray, List.getElem_cons_succ, List.getElem_cons_zero]
                   refine wpAnyH_done (by kernel_rfl) ?_ _
                   try simp only [Act.put, s1, s2, s3, List.getElem_toArray, List.getElem_cons_succ, List.getElem_cons_zero]
                   simp only [NQ]
                   exact hQ _ _ _ _ _ _ _ _ _ _ _ _ _ _ _ _ _ _ (by assumption)
                 · go_simp
                   have h0 : Below q10.heap.size q10 (q10.alloc (.cells #[.string tOil, .slice (some ⟨gmA, 0, none⟩) 1 1, .string tTea, .slice (some ⟨gmB, 0, none⟩) 1 1] 55)) := bal
                   have hq11 := btr hq10 h0
                   have ca := ca.dots h0
                   have cb := cb.dots h0
                   have iA : Arr ItemR 2 (q10.alloc (.cells #[.string tOil, .slice (some ⟨gmA, 0, none⟩) 1 1, .string tTea, .slice (some ⟨gmB, 0, none⟩) 1 1] 55)) (.slice (some ⟨q10.heap.size, 0, none⟩) 2 2) [⟨tOil, [⟨⟨2, 2⟩, 2, 6⟩]⟩, ⟨tTea, [⟨⟨2, 3⟩, 7, 7⟩]⟩] := lit_items [⟨⟨tOil, [⟨⟨2, 2⟩, 2, 6⟩]⟩, some ⟨gmA, 0, none⟩, 1⟩, ⟨⟨tTea, [⟨⟨2, 3⟩, 7, 7⟩]⟩, some ⟨gmB, 0, none⟩, 1⟩] (by unfold maxLen; simp) (by
                     intro p hp
                     simp only [List.mem_cons, List.not_mem_nil, or_false] at hp
                     rcases hp with rfl | rfl
                     ·exact ⟨show ByteArray.size tOil ≤ maxLen by decide, mA⟩
                     ·exact ⟨show ByteArray.size tTea ≤ maxLen by decide, mB⟩)
                   clear h0
                   refine Shut.out hK _ _ (hq11) (fun hS2 => ?_)
                   clear hK K hS
                   have hS := hS2
                   clear hS2
                   try simp only [Act.put, s1, s2, s3, List.getElem_toArray, List.getElem_cons_succ, List.getElem_cons_zero]
                   refine tkN (i := 15) (v := ?v24) rfl (by decide +kernel) (Or.inl ⟨by kernel_rfl, fun w hSw => ok_of fun z hz => ?h24⟩) hS ?_; (case h24 => (go_simp; exact hz))
                   try simp only [Act.put, s1, s2, s3, List.getElem_toArray, List.getElem_cons_succ, List.getElem_cons_zero]
                   refine wpAnyH_ready (rs := [4]) (by decide +kernel) (by simp) ?_
                   refine (AllReadyH.cons rfl (fun K hK => ?_) AllReadyH.nil)
                   go_simp
                   have h0 : Below (q10.alloc (.cells #[.string tOil, .slice (some ⟨gmA, 0, none⟩) 1 1, .string tTea, .slice (some ⟨gmB, 0, none⟩) 1 1] 55)).heap.size (q10.alloc (.cells #[.string tOil, .slice (some ⟨gmA, 0, none⟩) 1 1, .string tTea, .slice (some ⟨gmB, 0, none⟩) 1 1] 55)) ((q10.alloc (.cells #[.string tOil, .slice (some ⟨gmA, 0, none⟩) 1 1, .string tTea, .slice (some ⟨gmB, 0, none⟩) 1 1] 55)).alloc (.cells #[.int .i64 (2), .int .i64 (2), .int .i64 (2), .int .i64 (3)] 39)) := bal
                   have hq12 := btr hq11 h0
                   have ca := ca.dots h0
                   have cb := cb.dots h0
                   have iA := iA.items h0
                   have dl : Arr DotR 2 ((q10.alloc (.cells #[.string tOil, .slice (some ⟨gmA, 0, none⟩) 1 1, .string tTea, .slice (some ⟨gmB, 0, none⟩) 1 1] 55)).alloc (.cells #[.int .i64 (2), .int .i64 (2), .int .i64 (2), .int .i64 (3)] 39)) (.slice (some ⟨(q10.alloc (.cells #[.string tOil, .slice (some ⟨gmA, 0, none⟩) 1 1, .string tTea, .slice (some ⟨gmB, 0, none⟩) 1 1] 55)).heap.size, 0, none⟩) 2 2) [⟨2, 2⟩, ⟨2, 3⟩] := lit_dots [⟨2, 2⟩, ⟨2, 3⟩] (by unfold maxLen; simp) (dis22 (by decide))
                   clear h0
                   have e9 : (q10.alloc (.cells #[.string tOil, .slice (some ⟨gmA, 0, none⟩) 1 1, .string tTea, .slice (some ⟨gmB, 0, none⟩) 1 1] 55)).heap.size = q10.heap.size + 1 := by simp only [alloc_size]
                   rw [e9] at dl
                   clear e9
                   refine Shut.out hK _ _ (hq12) (fun hS2 => ?_)
                   clear hK K hS
                   have hS := hS2
                   clear hS2
                   try simp only [Act.put, s1, s2, s3, List.getElem_toArray, List.getElem_cons_succ, List.getElem_cons_zero]
                   refine wpAnyH_ready (rs := [16]) (by decide +kernel) (by simp) ?_
                   refine (AllReadyH.cons rfl (fun K hK => ?_) AllReadyH.nil)
                   go_simp
                   go_at_call 23
                   have HEE := l22logins_any 1 wA wB wA2 wB2 [⟨2, 2⟩, ⟨2, 3⟩] 0 _ _ _ _ _ _ _ _ _ _ _ _ _ _ (HA.out _ hq12) (HB.out _ hq12) dl ⟨ca, arr_nil, arr_nil⟩ ⟨cb, arr_nil, iA⟩ wsz.2.2 (HGL.out.below hq12)
                   rw [kw2] at HEE
                   refine HEE.mono ?_
                   rintro e q13 ⟨rfl, h0⟩
                   clear HEE
                   have hq13 := btr hq12 h0
                   have ca := ca.dots h0
                   have cb := cb.dots h0
                   have iA := iA.items h0
                   have dl := dl.dots h0
                   clear h0
                   go_simp
                   refine Shut.out hK _ _ (hq13) (fun hS2 => ?_)
                   clear hK K hS
                   have hS := hS2
                   clear hS2
                   try simp only [Act.put, s1, s2, s3, List.getElem_toArray, List.getElem_cons_succ, List.getElem_cons_zero]
                   refine tkN (i := 17) (v := ?v25) rfl (by decide +kernel) (Or.inl ⟨by kernel_rfl, fun w hSw => ok_of fun z hz => ?h25⟩) hS ?_; (case h25 => (go_simp; exact hz))
                   try simp only [Act.put, s1, s2, s3, List.getElem_toArray, List.getElem_cons_succ, List.getElem_cons_zero]
                   refine wpAnyH_done (by kernel_rfl) ?_ _
                   try simp only [Act.put, s1, s2, s3, List.getElem_toArray, List.getElem_cons_succ, List.getElem_cons_zero]
                   simp only [NQ]
                   exact hQ _ _ _ _ _ _ _ _ _ _ _ _ _ _ _ _ _ _ (by assumption)
set_option linter.unusedSimpArgs false in
theorem l22k8 (WL : World) (b1 b2 b3 : Nat) (z4 z5 z6 z7 z8 z9 z10 z11 z12 z13 z14 z15 z16 z17 z18 z19 z20 z21 z22 z23 z24 z25 z26 z27 z28 z29 z30 z31 z32 z33 z34 z35 z36 z37 z38 z39 z40 z41 z42 z43 z44 z45 z46 z47 z48 z49 z50 : Value) (hG : GlobIs WL) (h1 : CartC WL b1 wA) (h2 : CartC WL b2 wB) (h3 : CartC WL b3 zeroC) (R : Act → World → Prop) (hQ : ∀ (y51 y52 y53 y54 y55 y56 y57 y58 y59 y60 y61 y62 y63 y64 y65 y66 y67 y68 y69 y70 y71 y72 y73 y74 y75 y76 y77 y78 y79 y80 y81 y82 y83 y84 y85 y86 : Value) (w : World), Below WL.heap.size WL w → R { tmps := #[.bool true, .pointer (some ⟨b1, 0, none⟩), .pointer (some ⟨b2, 0, none⟩), .pointer (some ⟨b3, 0, none⟩), z4, z5, z6, z7, z8, z9, z10, z11, z12, z13, z14, z15, z16, z17, z18, z19, z20, z21, z22, z23, z24, z25, z26, z27, z28, z29, z30, z31, z32, z33, z34, z35, z36, z37, z38, z39, z40, z41, z42, z43, z44, z45, z46, z47, z48, z49, z50, y51, y52, y53, y54, y55, y56, y57, y58, y59, y60, y61, y62, y63, y64, y65, y66, y67, y68, y69, y70, y71, y72, y73, y74, y75, y76, y77, y78, y79, y80, y81, y82, y83, y84, y85, y86], defers := [] } w) :
  (codeAt [1, 1, 1, 1, 1, 1, 0] (Tryz.f9.body.getD .skip)).wp Tryz.prog (NQ R) { tmps := #[.bool false, .pointer (some ⟨b1, 0, none⟩), .pointer (some ⟨b2, 0, none⟩), .pointer (some ⟨b3, 0, none⟩), z4, z5, z6, z7, z8, z9, z10, z11, z12, z13, z14, z15, z16, z17, z18, z19, z20, z21, z22, z23, z24, z25, z26, z27, z28, z29, z30, z31, z32, z33, z34, z35, z36, z37, z38, z39, z40, z41, z42, z43, z44, z45, z46, z47, z48, z49, z50, undef, undef, undef, undef, undef, undef, undef, undef, undef, undef, undef, undef, undef, undef, undef, undef, undef, undef, undef, undef, undef, undef, undef, undef, undef, undef, undef, undef, undef, undef, undef, undef, undef, undef, undef, undef], defers := [] } WL := by
 obtain ⟨o1, n1, c1, o2, n2, c2, o3, n3, c3, g1, a1⟩ := h1
 obtain ⟨o4, n4, c4, o5, n5, c5, o6, n6, c6, g2, a2⟩ := h2
 obtain ⟨o7, n7, c7, o8, n8, c8, o9, n9, c9, g3, a3⟩ := h3
 have HCR := Hd (fun wz (hz : Below WL.heap.size WL wz) => And.intro (cel3 ((hz.block _ (lt_of_heap g1)).trans g1)) (And.intro (cel3 ((hz.block _ (lt_of_heap g2)).trans g2)) (cel3 ((hz.block _ (lt_of_heap g3)).trans g3))))
 have HA := Hd (fun wz (hz : Below WL.heap.size WL wz) => a1.below hz)
 have HB := Hd (fun wz (hz : Below WL.heap.size WL wz) => a2.below hz)
 have HZ := Hd (fun wz (hz : Below WL.heap.size WL wz) => a3.below hz)
 have HGL := Hd hG
 clear g1 g2 g3 a1 a2 a3 hG
 simp only [codeAt, codeL, codeR, Tryz.f9, Option.getD_some]
 refine wp_region_held_drew (S := (fun wz => Below WL.heap.size WL wz)) (by kernel_rfl) (bdr) (fun hS => ?_)
 refine tkR (n := 4) [0, 1, 3, 4] rfl (by decide +kernel) hS ?_
 iterate 4 ((try simp only [Act.put, s1, s2, s3, s4, s5, s6]); refine ⟨_, ?_, rfl, Or.inl ⟨by kernel_rfl, fun w hSw => ok_of fun z hz => ?_⟩, ?_⟩; rotate_left; · (obtain ⟨⟨f0, f1, f2⟩, ⟨f3, f4, f5⟩, f6, f7, f8⟩ := HCR.out _ hSw; go_simp; exact hz))
 refine RunOK.done ?_
 try simp only [Act.put, s1, s2, s3, s4, s5, s6]
 refine rd1 2 (by decide +kernel) rfl (fun K hK => ?_)
 go_simp
 go_at_call 26
 have HEE := l22dot_any (2) (2) (WL.drew)
 refine HEE.mono ?_
 rintro e q1 ⟨rfl, h0⟩
 clear HEE
 have hq1 := btr (bdr : Below WL.heap.size WL WL.drew) h0
 clear h0
 go_simp
 refine Shut.out hK _ _ (hq1) (fun hS2 => ?_); clear hK K hS; have hS := hS2; clear hS2
 try simp only [Act.put, s1, s2, s3, s4, s5, s6]
 refine rd1 5 (by decide +kernel) rfl (fun K hK => ?_)
 go_simp
 go_at_call 18
 have HEE := l22wishes_any wA wB zeroC zeroC tNut ⟨2, 2⟩ (0) 9 _ _ _ _ _ _ _ _ _ _ _ _ _ (HA.out _ hq1) (HB.out _ hq1) (HZ.out _ hq1) (HZ.out _ hq1) wsz.1.1 wsz.1.2 wsz.2.1.1 wsz.2.1.2 (by unfold maxLen; decide) (HGL.out.below hq1)
 rw [kw3] at HEE
 refine HEE.mono ?_
 rintro e q2 ⟨rfl, h0⟩
 clear HEE
 have hq2 := btr hq1 h0
 clear h0
 go_simp
 refine Shut.out hK _ _ (hq2) (fun hS2 => ?_); clear hK K hS; have hS := hS2; clear hS2
 try simp only [Act.put, s1, s2, s3, s4, s5, s6]
 refine tkR (n := 5) [6, 7, 8, 10, 11] rfl (by decide +kernel) hS ?_
 iterate 5 ((try simp only [Act.put, s1, s2, s3, s4, s5, s6]); refine ⟨_, ?_, rfl, Or.inl ⟨by kernel_rfl, fun w hSw => ok_of fun z hz => ?_⟩, ?_⟩; rotate_left; · (obtain ⟨⟨f0, f1, f2⟩, ⟨f3, f4, f5⟩, f6, f7, f8⟩ := HCR.out _ hSw; go_simp; exact hz))
 refine RunOK.done ?_
 try simp only [Act.put, s1, s2, s3, s4, s5, s6]
 refine rd1 9 (by decide +kernel) rfl (fun K hK => ?_)
 go_simp
 go_at_call 26
 have HEE := l22dot_any (2) (1) (q2)
 refine HEE.mono ?_
 rintro e q3 ⟨rfl, h0⟩
 clear HEE
 have hq3 := btr hq2 h0
 clear h0
 go_simp
 refine Shut.out hK _ _ (hq3) (fun hS2 => ?_); clear hK K hS; have hS := hS2; clear hS2
 try simp only [Act.put, s1, s2, s3, s4, s5, s6]
 refine rd1 12 (by decide +kernel) rfl (fun K hK => ?_)
 go_simp
 go_at_call 18
 have HEE := l22wishes_any wA wB zeroC zeroC tTea ⟨2, 1⟩ (0) 2 _ _ _ _ _ _ _ _ _ _ _ _ _ (HA.out _ hq3) (HB.out _ hq3) (HZ.out _ hq3) (HZ.out _ hq3) wsz.1.1 wsz.1.2 wsz.2.1.1 wsz.2.1.2 (by unfold maxLen; decide) (HGL.out.below hq3)
 rw [kw4] at HEE
 refine HEE.mono ?_
 rintro e q4 ⟨rfl, h0⟩
 clear HEE
 have hq4 := btr hq3 h0
 clear h0
 go_simp
 refine Shut.out hK _ _ (hq4) (fun hS2 => ?_); clear hK K hS; have hS := hS2; clear hS2
 try simp only [Act.put, s1, s2, s3, s4, s5, s6]
 refine tkR (n := 6) [13, 14, 15, 16, 19, 20] rfl (by decide +kernel) hS ?_
 iterate 6 ((try simp only [Act.put, s1, s2, s3, s4, s5, s6]); refine ⟨_, ?_, rfl, Or.inl ⟨by kernel_rfl, fun w hSw => ok_of fun z hz => ?_⟩, ?_⟩; rotate_left; · (obtain ⟨⟨f0, f1, f2⟩, ⟨f3, f4, f5⟩, f6, f7, f8⟩ := HCR.out _ hSw; go_simp; exact hz))
 refine RunOK.done ?_
 try simp only [Act.put, s1, s2, s3, s4, s5, s6]
 refine rd1 17 (by decide +kernel) rfl (fun K hK => ?_)
 go_simp
 go_at_call 26
 have HEE := l22dot_any (2) (2) (q4)
 refine HEE.mono ?_
 rintro e q5 ⟨rfl, h0⟩
 clear HEE
 have hq5 := btr hq4 h0
 clear h0
 go_simp
 refine Shut.out hK _ _ (hq5) (fun hS2 => ?_); clear hK K hS; have hS := hS2; clear hS2
 try simp only [Act.put, s1, s2, s3, s4, s5, s6]
 refine rd1 18 (by decide +kernel) rfl (fun K hK => ?_)
 go_simp
 have h0 : Below q5.heap.size q5 (q5.alloc (.cells #[.int .i64 (2), .int .i64 (2)] 39)) := bal
 have hq6 := btr hq5 h0
 have dl : Arr DotR 2 (q5.alloc (.cells #[.int .i64 (2), .int .i64 (2)] 39)) (.slice (some ⟨q5.heap.size, 0, none⟩) 1 1) [⟨2, 2⟩] := lit_dots [⟨2, 2⟩] (by unfold maxLen; simp) (dis22 (by decide))
 clear h0
 refine Shut.out hK _ _ (hq6) (fun hS2 => ?_); clear hK K hS; have hS := hS2; clear hS2
 try simp only [Act.put, s1, s2, s3, s4, s5, s6]
 refine rd1 21 (by decide +kernel) rfl (fun K hK => ?_)
 go_simp
 go_at_call 23
 have HEE := l22logins_any 1 wA wB zeroC zeroC [⟨2, 2⟩] 2 _ _ _ _ _ _ _ _ _ _ _ _ _ _ (HA.out _ hq6) (HB.out _ hq6) dl (HZ.out _ hq6) (HZ.out _ hq6) wsz.2.2 (HGL.out.below hq6)
 rw [kw5] at HEE
 refine HEE.mono ?_
 rintro e q7 ⟨rfl, h0⟩
 clear HEE
 have hq7 := btr hq6 h0
 have dl := dl.dots h0
 clear h0
 go_simp
 refine Shut.out hK _ _ (hq7) (fun hS2 => ?_); clear hK K hS; have hS := hS2; clear hS2
 try simp only [Act.put, s1, s2, s3, s4, s5, s6]
 refine tkR (n := 3) [22, 23, 24] rfl (by decide +kernel) hS ?_
 iterate 3 ((try simp only [Act.put, s1, s2, s3, s4, s5, s6]); refine ⟨_, ?_, rfl, Or.inl ⟨by kernel_rfl, fun w hSw => ok_of fun z hz => ?_⟩, ?_⟩; rotate_left; · (obtain ⟨⟨f0, f1, f2⟩, ⟨f3, f4, f5⟩, f6, f7, f8⟩ := HCR.out _ hSw; go_simp; exact hz))
 refine RunOK.done ?_
 try simp only [Act.put, s1, s2, s3, s4, s5, s6]
 refine rd1 25 (by decide +kernel) rfl (fun K hK => ?_)
 go_simp
 go_at_call 14
 have HEE := l22sums_any wB tTea 2147483644 0 14 _ _ _ _ (HB.out _ hq7) wsz.2.1.1 (by unfold maxLen; decide) (HGL.out.below hq7)
 rw [kw6] at HEE
 refine HEE.mono ?_
 rintro e q8 ⟨rfl, h0⟩
 clear HEE
 have hq8 := btr hq7 h0
 clear h0
 go_simp
 refine Shut.out hK _ _ (hq8) (fun hS2 => ?_); clear hK K hS; have hS := hS2; clear hS2
 try simp only [Act.put, s1, s2, s3, s4, s5, s6]
 refine tkR (n := 3) [26, 27, 28] rfl (by decide +kernel) hS ?_
 iterate 3 ((try simp only [Act.put, s1, s2, s3, s4, s5, s6]); refine ⟨_, ?_, rfl, Or.inl ⟨by kernel_rfl, fun w hSw => ok_of fun z hz => ?_⟩, ?_⟩; rotate_left; · (obtain ⟨⟨f0, f1, f2⟩, ⟨f3, f4, f5⟩, f6, f7, f8⟩ := HCR.out _ hSw; go_simp; exact hz))
 refine RunOK.done ?_
 try simp only [Act.put, s1, s2, s3, s4, s5, s6]
 refine rd1 29 (by decide +kernel) rfl (fun K hK => ?_)
 go_simp
 go_at_call 14
 have HEE := l22sums_any wB tNut 5 5 0 _ _ _ _ (HB.out _ hq8) wsz.2.1.1 (by unfold maxLen; decide) (HGL.out.below hq8)
 rw [kw7] at HEE
 refine HEE.mono ?_
 rintro e q9 ⟨rfl, h0⟩
 clear HEE
 have hq9 := btr hq8 h0
 clear h0
 go_simp
 refine Shut.out hK _ _ (hq9) (fun hS2 => ?_); clear hK K hS; have hS := hS2; clear hS2
 try simp only [Act.put, s1, s2, s3, s4, s5, s6]
 refine tkR (n := 4) [30, 31, 32, 33] rfl (by decide +kernel) hS ?_
 iterate 4 ((try simp only [Act.put, s1, s2, s3, s4, s5, s6]); refine ⟨_, ?_, rfl, Or.inl ⟨by kernel_rfl, fun w hSw => ok_of fun z hz => ?_⟩, ?_⟩; rotate_left; · (obtain ⟨⟨f0, f1, f2⟩, ⟨f3, f4, f5⟩, f6, f7, f8⟩ := HCR.out _ hSw; go_simp; exact hz))
 refine RunOK.done ?_
 try simp only [Act.put, s1, s2, s3, s4, s5, s6]
 refine rd1 34 (by decide +kernel) rfl (fun K hK => ?_)
 go_simp
 go_at_call 11
 have HEE := l22manies_any wA wB 2 0 _ _ _ _ _ _ _ (HA.out _ hq9) (HB.out _ hq9) wsz.1.1 wsz.2.1.1 (HGL.out.below hq9)
 rw [kw8] at HEE
 refine HEE.mono ?_
 rintro e q10 ⟨rfl, h0⟩
 clear HEE
 have hq10 := btr hq9 h0
 clear h0
 go_simp
 refine Shut.out hK _ _ (hq10) (fun hS2 => ?_); clear hK K hS; have hS := hS2; clear hS2
 try simp only [Act.put, s1, s2, s3, s4, s5, s6]
 refine tkR (n := 2) [35, 36] rfl (by decide +kernel) hS ?_
 iterate 2 ((try simp only [Act.put, s1, s2, s3, s4, s5, s6]); refine ⟨_, ?_, rfl, Or.inl ⟨by kernel_rfl, fun w hSw => ok_of fun z hz => ?_⟩, ?_⟩; rotate_left; · (obtain ⟨⟨f0, f1, f2⟩, ⟨f3, f4, f5⟩, f6, f7, f8⟩ := HCR.out _ hSw; go_simp; exact hz))
 refine RunOK.done ?_
 try simp only [Act.put, s1, s2, s3, s4, s5, s6]
 refine wpAnyH_done (by kernel_rfl) ?_ _
 try simp only [Act.put, s1, s2, s3, s4, s5, s6]
 simp only [NQ]
 exact hQ _ _ _ _ _ _ _ _ _ _ _ _ _ _ _ _ _ _ _ _ _ _ _ _ _ _ _ _ _ _ _ _ _ _ _ _ _ hq10
end Go.Proofs.YtjoljfnlkddfbaaGreatDoor
