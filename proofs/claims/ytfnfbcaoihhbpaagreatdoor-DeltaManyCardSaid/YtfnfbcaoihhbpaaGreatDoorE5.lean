/- Stage 12: the law's known. -/
import Derived.Test.YtfnfbcaoihhbpaaGreatDoorE4
set_option linter.unusedSimpArgs false
set_option linter.unusedVariables false
set_option maxRecDepth 100000
set_option maxHeartbeats 16000000
namespace Go.Proofs.YtfnfbcaoihhbpaaGreatDoor
open Go.RowKit Go.Maps Go.Sort Go.Shelf
theorem puts_true {c x : CartD} {d : DotD} {nm : ByteArray} {q no : Int} {set : Bool} (h : putCE c d nm q set = no ∧ (if no = 0 then putOf c d nm q = x else zeroC = x)) : (decide (putC c d nm q set = x) && (putCE c d nm q set == no)) = true := by
 unfold putC
 rw [h.1]
 by_cases hn : no = 0
 ·have := h.2
  simp only [hn, if_true] at this ⊢
  rw [this]
  simp
 ·have := h.2
  simp only [hn, if_false] at this ⊢
  rw [this]
  simp
theorem rems_true {c x : CartD} {nm : ByteArray} {no : Int} (h : remCE c nm = no ∧ (if no = 0 then goneC (dotsC c nm) = x else zeroC = x)) : (decide (remC c nm = x) && (remCE c nm == no)) = true := by
 unfold remC
 rw [h.1]
 by_cases hn : no = 0
 ·have := h.2
  simp only [hn, if_true] at this ⊢
  rw [this]
  simp
 ·have := h.2
  simp only [hn, if_false] at this ⊢
  rw [this]
  simp
theorem clrs_true {c x : CartD} (hv : validC c = true) (h : goneC (setD (allDots c.items)) = x) : (decide (clrC c = x) && (clrCE c == 0)) = true := by
 unfold clrC clrCE
 simp [hv, h]
def wA : CartD := ⟨[⟨1, 3⟩], [], [⟨tTea, [⟨⟨1, 3⟩, 4, 10⟩]⟩]⟩
def wB : CartD := ⟨[], [⟨1, 4⟩], [⟨tOil, [⟨⟨1, 4⟩, 1, 10⟩]⟩]⟩
def wC : CartD := ⟨[⟨2, 2⟩], [], [⟨tNut, [⟨⟨2, 2⟩, 8, 10⟩]⟩]⟩
def wD : CartD := ⟨[⟨1, 2⟩], [], []⟩
def wE : CartD := ⟨[⟨1, 2⟩, ⟨2, 1⟩], [], []⟩
theorem dk1 : (decide (putC cZ ⟨1, 3⟩ tTea 4 false = wA) && (putCE cZ ⟨1, 3⟩ tTea 4 false == 0)) = true := puts_true ⟨dput1.1, by rw [if_pos rfl]; exact dput1.2⟩
theorem dk2 : (decide (putC cZ ⟨1, 4⟩ tOil 1 false = wB) && (putCE cZ ⟨1, 4⟩ tOil 1 false == 0)) = true := puts_true ⟨dput2.1, by rw [if_pos rfl]; exact dput2.2⟩
theorem dk3 : (decide (putC cZ ⟨2, 2⟩ tNut 8 true = wC) && (putCE cZ ⟨2, 2⟩ tNut 8 true == 0)) = true := puts_true ⟨dput3.1, by rw [if_pos rfl]; exact dput3.2⟩
theorem dk4 : (decide (remC cZ tTea = wD) && (remCE cZ tTea == 0)) = true := rems_true ⟨drem1.1, by rw [if_pos rfl]; exact drem1.2⟩
theorem dk5 : (decide (clrC cZ = wE) && (clrCE cZ == 0)) = true := clrs_true kv.2.2.2.2.2 dclr1
theorem dk6 : (decide (clrC zeroC = zeroC) && (clrCE zeroC == 0)) = true := clrs_true kv.2.2.1 dclr2
theorem dk7 : (decide (putC cZ ⟨1, 2⟩ tOil 1 false = zeroC) && (putCE cZ ⟨1, 2⟩ tOil 1 false == 2)) = true := puts_true ⟨derr.1, by rw [if_neg (by decide)]⟩
theorem dk8 : (decide (putC cZ ⟨1, 3⟩ ⟨#[]⟩ 0 false = zeroC) && (putCE cZ ⟨1, 3⟩ ⟨#[]⟩ 0 false == 2)) = true := puts_true ⟨derr.2.1, by rw [if_neg (by decide)]⟩
theorem dk9 : (decide (putC cZ ⟨1, 3⟩ tOil 0 false = zeroC) && (putCE cZ ⟨1, 3⟩ tOil 0 false == 14)) = true := puts_true ⟨derr.2.2.1, by rw [if_neg (by decide)]⟩
theorem dk10 : (decide (putC cZ ⟨1, 3⟩ tOil 0 true = zeroC) && (putCE cZ ⟨1, 3⟩ tOil 0 true == 14)) = true := puts_true ⟨derr.2.2.2.1, by rw [if_neg (by decide)]⟩
theorem dk11 : (decide (putC cZ ⟨1, 3⟩ tOil 1 true = zeroC) && (putCE cZ ⟨1, 3⟩ tOil 1 true == 9)) = true := puts_true ⟨derr.2.2.2.2.1, by rw [if_neg (by decide)]⟩
theorem dk12 : (decide (remC cZ tOil = zeroC) && (remCE cZ tOil == 9)) = true := rems_true ⟨derr.2.2.2.2.2, by rw [if_neg (by decide)]⟩
theorem cZ_sz : Lt cZ.items ∧ (allDots cZ.items).length ≤ 9000 := ⟨⟨by decide, by decide⟩, by decide⟩
theorem zC_sz : Lt zeroC.items ∧ (allDots zeroC.items).length ≤ 9000 := ⟨⟨by decide, by decide⟩, by decide⟩
set_option linter.unusedSimpArgs false in
set_option maxRecDepth 100000 in
set_option maxHeartbeats 16000000 in
theorem l12k3 (WL : World) (b1 b2 : Nat) (z5 z6 z7 z8 z9 z10 z11 z12 z13 z14 z15 z16 z17 z18 : Value) (hG : GlobIs WL) (h1 : CartC WL b1 zeroC) (h2 : CartC WL b2 cZ) (R : Act → World → Prop) (hQ : ∀ (y19 y20 y21 y22 y23 y24 y25 y26 y27 y28 y29 y30 y31 y32 y33 y34 y35 y36 y37 y38 y39 y40 y41 y42 y43 : Value) (w : World), Below WL.heap.size WL w → R { tmps := #[.bool false, .pointer (some ⟨b1, 0, none⟩), .pointer (some ⟨b2, 0, none⟩), undef, undef, z5, z6, z7, z8, z9, z10, z11, z12, z13, z14, z15, z16, z17, z18, y19, y20, y21, y22, y23, y24, y25, y26, y27, y28, y29, y30, y31, y32, y33, y34, y35, y36, y37, y38, y39, y40, y41, y42, y43, .bool false, undef, undef, undef, undef, undef, undef, undef, undef, undef, undef, undef, undef, undef, undef, undef, undef, undef, undef, undef, undef, undef, undef, undef, undef, undef, undef, undef, undef, undef, undef, undef, undef, undef, undef, undef, undef, undef, undef, undef, undef, undef, undef, undef, undef, undef, undef, undef, undef, undef, undef, undef, undef, undef, undef, undef, undef, undef, undef, undef, undef, undef, undef, undef, undef, undef, undef, undef, undef, undef, undef, undef, undef, undef, undef, undef, undef, undef, undef, undef, undef, undef, undef, undef, undef, undef, undef, undef, undef, undef, undef, undef, undef, undef, undef, undef, undef, undef, undef, undef, undef, undef, undef, undef, undef, undef, undef, undef, undef, undef], defers := [] } w) :
  (codeAt [1, 1, 1, 0, 0] (Tryz.f10.body.getD .skip)).wp Tryz.prog (NQ R) { tmps := #[.bool false, .pointer (some ⟨b1, 0, none⟩), .pointer (some ⟨b2, 0, none⟩), undef, undef, z5, z6, z7, z8, z9, z10, z11, z12, z13, z14, z15, z16, z17, z18, undef, undef, undef, undef, undef, undef, undef, undef, undef, undef, undef, undef, undef, undef, undef, undef, undef, undef, undef, undef, undef, undef, undef, undef, undef, undef, undef, undef, undef, undef, undef, undef, undef, undef, undef, undef, undef, undef, undef, undef, undef, undef, undef, undef, undef, undef, undef, undef, undef, undef, undef, undef, undef, undef, undef, undef, undef, undef, undef, undef, undef, undef, undef, undef, undef, undef, undef, undef, undef, undef, undef, undef, undef, undef, undef, undef, undef, undef, undef, undef, undef, undef, undef, undef, undef, undef, undef, undef, undef, undef, undef, undef, undef, undef, undef, undef, undef, undef, undef, undef, undef, undef, undef, undef, undef, undef, undef, undef, undef, undef, undef, undef, undef, undef, undef, undef, undef, undef, undef, undef, undef, undef, undef, undef, undef, undef, undef, undef, undef, undef, undef, undef, undef, undef, undef], defers := [] } WL := by
 obtain ⟨o1, n1, c1, o2, n2, c2, o3, n3, c3, g1, a1⟩ := h1
 obtain ⟨o4, n4, c4, o5, n5, c5, o6, n6, c6, g2, a2⟩ := h2
 have HCR := Hd (fun wz (hz : Below WL.heap.size WL wz) => And.intro (cel3 ((hz.block _ (lt_of_heap g1)).trans g1)) (cel3 ((hz.block _ (lt_of_heap g2)).trans g2)))
 have HO := Hd (fun wz (hz : Below WL.heap.size WL wz) => a1.below hz)
 have HZ := Hd (fun wz (hz : Below WL.heap.size WL wz) => a2.below hz)
 have HGL := Hd hG
 clear g1 g2 a1 a2 hG
 simp only [codeAt, codeL, codeR, Tryz.f10, Option.getD_some]
 refine wp_region_held_drew (S := (fun wz => Below WL.heap.size WL wz)) (by kernel_rfl) (bdr) (fun hS => ?_)
 refine tkR (n := 1) [0] rfl (by decide +kernel) hS ?_
 iterate 1 ((try simp only [Act.put, s1, s2, s3, s4, s5, s6]); refine ⟨_, ?_, rfl, Or.inl ⟨by kernel_rfl, fun w hSw => ok_of fun z hz => ?_⟩, ?_⟩; rotate_left; · (obtain ⟨⟨f0, f1, f2⟩, f3, f4, f5⟩ := HCR.out _ hSw; go_simp; exact hz))
 refine RunOK.done ?_
 try simp only [Act.put, s1, s2, s3, s4, s5, s6]
 refine rd1 1 (by decide +kernel) rfl (fun K hK => ?_)
 go_simp
 go_at_call 25
 have HEE := l12at_any (1) (3) (WL.drew)
 refine HEE.mono ?_
 rintro e q1 ⟨rfl, h0⟩
 clear HEE
 have hq1 := btr (bdr : Below WL.heap.size WL WL.drew) h0
 clear h0
 go_simp
 refine Shut.out hK _ _ (hq1) (fun hS2 => ?_); clear hK K hS; have hS := hS2; clear hS2
 try simp only [Act.put, s1, s2, s3, s4, s5, s6]
 refine rd1 2 (by decide +kernel) rfl (fun K hK => ?_)
 go_simp
 go_at_call 25
 have HEE := l12at_any (1) (3) (q1)
 refine HEE.mono ?_
 rintro e q2 ⟨rfl, h0⟩
 clear HEE
 have hq2 := btr hq1 h0
 clear h0
 go_simp
 refine Shut.out hK _ _ (hq2) (fun hS2 => ?_); clear hK K hS; have hS := hS2; clear hS2
 try simp only [Act.put, s1, s2, s3, s4, s5, s6]
 refine rd1 3 (by decide +kernel) rfl (fun K hK => ?_)
 go_simp
 have h0 : Below q2.heap.size q2 (q2.alloc (.cells #[.int .i64 (1), .int .i64 (3)] 30)) := bal
 have hq3 := btr hq2 h0
 have dA : Arr DotR 2 (q2.alloc (.cells #[.int .i64 (1), .int .i64 (3)] 30)) (.slice (some ⟨q2.heap.size, 0, none⟩) 1 1) [⟨1, 3⟩] := lit_dots [⟨1, 3⟩] (by unfold maxLen; simp) (di_all (by decide))
 clear h0
 refine Shut.out hK _ _ (hq3) (fun hS2 => ?_); clear hK K hS; have hS := hS2; clear hS2
 try simp only [Act.put, s1, s2, s3, s4, s5, s6]
 refine rd1 4 (by decide +kernel) rfl (fun K hK => ?_)
 go_simp
 go_at_call 24
 have HEE := l12con_any 1 1 rfl [⟨1, 3⟩] _ _ _ _ dA (by decide)
 refine HEE.mono ?_
 rintro e q4 ⟨vc, rfl, ⟨c1_a, c1_b, c1_c, c1_d, c1_e, c1_f, rfl, caA, cbA⟩, h0⟩
 clear HEE
 have hq4 := btr hq3 h0
 clear dA
 have caA : Arr DotR 2 _ _ ([⟨1, 3⟩] : List DotD) := caA
 have cbA : Arr DotR 2 _ _ ([] : List DotD) := cbA
 clear h0
 go_simp
 refine Shut.out hK _ _ (hq4) (fun hS2 => ?_); clear hK K hS; have hS := hS2; clear hS2
 try simp only [Act.put, s1, s2, s3, s4, s5, s6]
 refine rd1 5 (by decide +kernel) rfl (fun K hK => ?_)
 go_simp
 go_at_call 27
 have HEE := l12mark_any (1) (3) (4) (10) (q4)
 refine HEE.mono ?_
 rintro e q5 ⟨rfl, h0⟩
 clear HEE
 have hq5 := btr hq4 h0
 have caA := caA.dots h0
 have cbA := cbA.dots h0
 clear h0
 go_simp
 refine Shut.out hK _ _ (hq5) (fun hS2 => ?_); clear hK K hS; have hS := hS2; clear hS2
 try simp only [Act.put, s1, s2, s3, s4, s5, s6]
 refine rd1 6 (by decide +kernel) rfl (fun K hK => ?_)
 go_simp
 have h0 : Below q5.heap.size q5 (q5.alloc (.cells #[.int .i64 (1), .int .i64 (3), .int .i64 (4), .int .u64 (10)] 55)) := bal
 have hq6 := btr hq5 h0
 have caA := caA.dots h0
 have cbA := cbA.dots h0
 have mA : Arr MarkR 4 (q5.alloc (.cells #[.int .i64 (1), .int .i64 (3), .int .i64 (4), .int .u64 (10)] 55)) (.slice (some ⟨q5.heap.size, 0, none⟩) 1 1) [⟨⟨1, 3⟩, 4, 10⟩] := lit_marks [⟨⟨1, 3⟩, 4, 10⟩] (by unfold maxLen; simp) (mi_all (by decide))
 clear h0
 refine Shut.out hK _ _ (hq6) (fun hS2 => ?_); clear hK K hS; have hS := hS2; clear hS2
 try simp only [Act.put, s1, s2, s3, s4, s5, s6]
 refine rd1 7 (by decide +kernel) rfl (fun K hK => ?_)
 go_simp
 go_at_call 26
 have HEE := l12item_any tTea (some ⟨q5.heap.size, 0, none⟩) 1 1 ((q5.alloc (.cells #[.int .i64 (1), .int .i64 (3), .int .i64 (4), .int .u64 (10)] 55)))
 refine HEE.mono ?_
 rintro e q7 ⟨rfl, h0⟩
 clear HEE
 have hq7 := btr hq6 h0
 have caA := caA.dots h0
 have cbA := cbA.dots h0
 have mA := mA.marks h0
 clear h0
 go_simp
 refine Shut.out hK _ _ (hq7) (fun hS2 => ?_); clear hK K hS; have hS := hS2; clear hS2
 try simp only [Act.put, s1, s2, s3, s4, s5, s6]
 refine rd1 8 (by decide +kernel) rfl (fun K hK => ?_)
 go_simp
 have h0 : Below q7.heap.size q7 (q7.alloc (.cells #[.string tTea, .slice (some ⟨q5.heap.size, 0, none⟩) 1 1] 50)) := bal
 have hq8 := btr hq7 h0
 have caA := caA.dots h0
 have cbA := cbA.dots h0
 have iA : Arr ItemR 2 (q7.alloc (.cells #[.string tTea, .slice (some ⟨q5.heap.size, 0, none⟩) 1 1] 50)) (.slice (some ⟨q7.heap.size, 0, none⟩) 1 1) [⟨tTea, [⟨⟨1, 3⟩, 4, 10⟩]⟩] := lit_items [⟨⟨tTea, [⟨⟨1, 3⟩, 4, 10⟩]⟩, some ⟨q5.heap.size, 0, none⟩, 1⟩] (by unfold maxLen; simp) (by
   intro p hp
   simp only [List.mem_cons, List.not_mem_nil, or_false] at hp
   rcases hp with rfl
   ·exact ⟨show ByteArray.size tTea ≤ maxLen by decide, mA⟩)
 clear h0
 refine Shut.out hK _ _ (hq8) (fun hS2 => ?_); clear hK K hS; have hS := hS2; clear hS2
 try simp only [Act.put, s1, s2, s3, s4, s5, s6]
 refine tkR (n := 1) [9] rfl (by decide +kernel) hS ?_
 iterate 1 ((try simp only [Act.put, s1, s2, s3, s4, s5, s6]); refine ⟨_, ?_, rfl, Or.inl ⟨by kernel_rfl, fun w hSw => ok_of fun z hz => ?_⟩, ?_⟩; rotate_left; · (obtain ⟨⟨f0, f1, f2⟩, f3, f4, f5⟩ := HCR.out _ hSw; go_simp; exact hz))
 refine RunOK.done ?_
 try simp only [Act.put, s1, s2, s3, s4, s5, s6]
 refine rd1 10 (by decide +kernel) rfl (fun K hK => ?_)
 go_simp
 go_at_call 13
 have HEE := l12adds_any cZ wA ⟨1, 3⟩ tTea (4) 0 _ _ _ _ _ _ _ (HZ.out _ hq8) ⟨caA, cbA, iA⟩ cZ_sz.1 cZ_sz.2 (by decide) (HGL.out.below hq8)
 rw [dk1] at HEE
 simp only [dotV] at HEE
 refine HEE.mono ?_
 rintro e q9 ⟨rfl, h0⟩
 clear HEE
 have hq9 := btr hq8 h0
 have caA := caA.dots h0
 have cbA := cbA.dots h0
 have iA := iA.items h0
 clear h0
 go_simp
 refine Shut.out hK _ _ (hq9) (fun hS2 => ?_); clear hK K hS; have hS := hS2; clear hS2
 try simp only [Act.put, s1, s2, s3, s4, s5, s6]
 refine tkR (n := 3) [11, 12, 13] rfl (by decide +kernel) hS ?_
 iterate 3 ((try simp only [Act.put, s1, s2, s3, s4, s5, s6]); refine ⟨_, ?_, rfl, Or.inl ⟨by kernel_rfl, fun w hSw => ok_of fun z hz => ?_⟩, ?_⟩; rotate_left; · (obtain ⟨⟨f0, f1, f2⟩, f3, f4, f5⟩ := HCR.out _ hSw; go_simp; exact hz))
 refine RunOK.done ?_
 try simp only [Act.put, s1, s2, s3, s4, s5, s6]
 refine rd1 14 (by decide +kernel) rfl (fun K hK => ?_)
 go_simp
 go_at_call 25
 have HEE := l12at_any (1) (4) (q9)
 refine HEE.mono ?_
 rintro e q10 ⟨rfl, h0⟩
 clear HEE
 have hq10 := btr hq9 h0
 clear h0
 go_simp
 refine Shut.out hK _ _ (hq10) (fun hS2 => ?_); clear hK K hS; have hS := hS2; clear hS2
 try simp only [Act.put, s1, s2, s3, s4, s5, s6]
 refine rd1 15 (by decide +kernel) rfl (fun K hK => ?_)
 go_simp
 go_at_call 25
 have HEE := l12at_any (1) (4) (q10)
 refine HEE.mono ?_
 rintro e q11 ⟨rfl, h0⟩
 clear HEE
 have hq11 := btr hq10 h0
 clear h0
 go_simp
 refine Shut.out hK _ _ (hq11) (fun hS2 => ?_); clear hK K hS; have hS := hS2; clear hS2
 try simp only [Act.put, s1, s2, s3, s4, s5, s6]
 refine rd1 16 (by decide +kernel) rfl (fun K hK => ?_)
 go_simp
 have h0 : Below q11.heap.size q11 (q11.alloc (.cells #[.int .i64 (1), .int .i64 (4)] 30)) := bal
 have hq12 := btr hq11 h0
 have dB : Arr DotR 2 (q11.alloc (.cells #[.int .i64 (1), .int .i64 (4)] 30)) (.slice (some ⟨q11.heap.size, 0, none⟩) 1 1) [⟨1, 4⟩] := lit_dots [⟨1, 4⟩] (by unfold maxLen; simp) (di_all (by decide))
 clear h0
 refine Shut.out hK _ _ (hq12) (fun hS2 => ?_); clear hK K hS; have hS := hS2; clear hS2
 try simp only [Act.put, s1, s2, s3, s4, s5, s6]
 refine rd1 17 (by decide +kernel) rfl (fun K hK => ?_)
 go_simp
 go_at_call 24
 have HEE := l12con_any 0 0 rfl [⟨1, 4⟩] _ _ _ _ dB (by decide)
 refine HEE.mono ?_
 rintro e q13 ⟨vc, rfl, ⟨c2_a, c2_b, c2_c, c2_d, c2_e, c2_f, rfl, caB, cbB⟩, h0⟩
 clear HEE
 have hq13 := btr hq12 h0
 clear dB
 have caB : Arr DotR 2 _ _ ([] : List DotD) := caB
 have cbB : Arr DotR 2 _ _ ([⟨1, 4⟩] : List DotD) := cbB
 clear h0
 go_simp
 refine Shut.out hK _ _ (hq13) (fun hS2 => ?_); clear hK K hS; have hS := hS2; clear hS2
 try simp only [Act.put, s1, s2, s3, s4, s5, s6]
 refine rd1 18 (by decide +kernel) rfl (fun K hK => ?_)
 go_simp
 go_at_call 27
 have HEE := l12mark_any (1) (4) (1) (10) (q13)
 refine HEE.mono ?_
 rintro e q14 ⟨rfl, h0⟩
 clear HEE
 have hq14 := btr hq13 h0
 have caB := caB.dots h0
 have cbB := cbB.dots h0
 clear h0
 go_simp
 refine Shut.out hK _ _ (hq14) (fun hS2 => ?_); clear hK K hS; have hS := hS2; clear hS2
 try simp only [Act.put, s1, s2, s3, s4, s5, s6]
 refine rd1 19 (by decide +kernel) rfl (fun K hK => ?_)
 go_simp
 have h0 : Below q14.heap.size q14 (q14.alloc (.cells #[.int .i64 (1), .int .i64 (4), .int .i64 (1), .int .u64 (10)] 55)) := bal
 have hq15 := btr hq14 h0
 have caB := caB.dots h0
 have cbB := cbB.dots h0
 have mB : Arr MarkR 4 (q14.alloc (.cells #[.int .i64 (1), .int .i64 (4), .int .i64 (1), .int .u64 (10)] 55)) (.slice (some ⟨q14.heap.size, 0, none⟩) 1 1) [⟨⟨1, 4⟩, 1, 10⟩] := lit_marks [⟨⟨1, 4⟩, 1, 10⟩] (by unfold maxLen; simp) (mi_all (by decide))
 clear h0
 refine Shut.out hK _ _ (hq15) (fun hS2 => ?_); clear hK K hS; have hS := hS2; clear hS2
 try simp only [Act.put, s1, s2, s3, s4, s5, s6]
 refine rd1 20 (by decide +kernel) rfl (fun K hK => ?_)
 go_simp
 go_at_call 26
 have HEE := l12item_any tOil (some ⟨q14.heap.size, 0, none⟩) 1 1 ((q14.alloc (.cells #[.int .i64 (1), .int .i64 (4), .int .i64 (1), .int .u64 (10)] 55)))
 refine HEE.mono ?_
 rintro e q16 ⟨rfl, h0⟩
 clear HEE
 have hq16 := btr hq15 h0
 have caB := caB.dots h0
 have cbB := cbB.dots h0
 have mB := mB.marks h0
 clear h0
 go_simp
 refine Shut.out hK _ _ (hq16) (fun hS2 => ?_); clear hK K hS; have hS := hS2; clear hS2
 try simp only [Act.put, s1, s2, s3, s4, s5, s6]
 refine rd1 21 (by decide +kernel) rfl (fun K hK => ?_)
 go_simp
 have h0 : Below q16.heap.size q16 (q16.alloc (.cells #[.string tOil, .slice (some ⟨q14.heap.size, 0, none⟩) 1 1] 50)) := bal
 have hq17 := btr hq16 h0
 have caB := caB.dots h0
 have cbB := cbB.dots h0
 have iB : Arr ItemR 2 (q16.alloc (.cells #[.string tOil, .slice (some ⟨q14.heap.size, 0, none⟩) 1 1] 50)) (.slice (some ⟨q16.heap.size, 0, none⟩) 1 1) [⟨tOil, [⟨⟨1, 4⟩, 1, 10⟩]⟩] := lit_items [⟨⟨tOil, [⟨⟨1, 4⟩, 1, 10⟩]⟩, some ⟨q14.heap.size, 0, none⟩, 1⟩] (by unfold maxLen; simp) (by
   intro p hp
   simp only [List.mem_cons, List.not_mem_nil, or_false] at hp
   rcases hp with rfl
   ·exact ⟨show ByteArray.size tOil ≤ maxLen by decide, mB⟩)
 clear h0
 refine Shut.out hK _ _ (hq17) (fun hS2 => ?_); clear hK K hS; have hS := hS2; clear hS2
 try simp only [Act.put, s1, s2, s3, s4, s5, s6]
 refine tkR (n := 1) [22] rfl (by decide +kernel) hS ?_
 iterate 1 ((try simp only [Act.put, s1, s2, s3, s4, s5, s6]); refine ⟨_, ?_, rfl, Or.inl ⟨by kernel_rfl, fun w hSw => ok_of fun z hz => ?_⟩, ?_⟩; rotate_left; · (obtain ⟨⟨f0, f1, f2⟩, f3, f4, f5⟩ := HCR.out _ hSw; go_simp; exact hz))
 refine RunOK.done ?_
 try simp only [Act.put, s1, s2, s3, s4, s5, s6]
 refine rd1 23 (by decide +kernel) rfl (fun K hK => ?_)
 go_simp
 go_at_call 13
 have HEE := l12adds_any cZ wB ⟨1, 4⟩ tOil (1) 0 _ _ _ _ _ _ _ (HZ.out _ hq17) ⟨caB, cbB, iB⟩ cZ_sz.1 cZ_sz.2 (by decide) (HGL.out.below hq17)
 rw [dk2] at HEE
 simp only [dotV] at HEE
 refine HEE.mono ?_
 rintro e q18 ⟨rfl, h0⟩
 clear HEE
 have hq18 := btr hq17 h0
 have caB := caB.dots h0
 have cbB := cbB.dots h0
 have iB := iB.items h0
 clear h0
 go_simp
 refine Shut.out hK _ _ (hq18) (fun hS2 => ?_); clear hK K hS; have hS := hS2; clear hS2
 try simp only [Act.put, s1, s2, s3, s4, s5, s6]
 refine tkR (n := 2) [24, 25] rfl (by decide +kernel) hS ?_
 iterate 2 ((try simp only [Act.put, s1, s2, s3, s4, s5, s6]); refine ⟨_, ?_, rfl, Or.inl ⟨by kernel_rfl, fun w hSw => ok_of fun z hz => ?_⟩, ?_⟩; rotate_left; · (obtain ⟨⟨f0, f1, f2⟩, f3, f4, f5⟩ := HCR.out _ hSw; go_simp; exact hz))
 refine RunOK.done ?_
 try simp only [Act.put, s1, s2, s3, s4, s5, s6]
 refine wpAnyH_done (by kernel_rfl) ?_ _
 try simp only [Act.put, s1, s2, s3, s4, s5, s6]
 simp only [NQ]
 exact hQ _ _ _ _ _ _ _ _ _ _ _ _ _ _ _ _ _ _ _ _ _ _ _ _ _ _ hq18
set_option linter.unusedSimpArgs false in
set_option maxRecDepth 100000 in
set_option maxHeartbeats 16000000 in
theorem l12k5 (WL : World) (b1 b2 : Nat) (z5 z6 z7 z8 z9 z10 z11 z12 z13 z14 z15 z16 z17 z18 z19 z20 z21 z22 z23 z24 z25 z26 z27 z28 z29 z30 z31 z32 z33 z34 z35 z36 z37 z38 z39 z40 z41 z42 z43 z44 : Value) (hG : GlobIs WL) (h1 : CartC WL b1 zeroC) (h2 : CartC WL b2 cZ) (R : Act → World → Prop) (hQ : ∀ (y45 y46 y47 y48 y49 y50 y51 y52 y53 y54 y55 y56 y57 y58 y59 y60 y61 y62 y63 y64 y65 y66 y67 y68 y69 y70 y71 y72 y73 y74 y75 y76 y77 y78 y79 y80 : Value) (w : World), Below WL.heap.size WL w → R { tmps := #[.bool false, .pointer (some ⟨b1, 0, none⟩), .pointer (some ⟨b2, 0, none⟩), undef, undef, z5, z6, z7, z8, z9, z10, z11, z12, z13, z14, z15, z16, z17, z18, z19, z20, z21, z22, z23, z24, z25, z26, z27, z28, z29, z30, z31, z32, z33, z34, z35, z36, z37, z38, z39, z40, z41, z42, z43, z44, y45, y46, y47, y48, y49, y50, y51, y52, y53, y54, y55, y56, y57, y58, y59, y60, y61, y62, y63, y64, y65, y66, y67, y68, y69, y70, y71, y72, y73, y74, y75, y76, y77, y78, y79, y80, .bool false, undef, undef, undef, undef, undef, undef, undef, undef, undef, undef, undef, undef, undef, undef, undef, undef, undef, undef, undef, undef, undef, undef, undef, undef, undef, undef, undef, undef, undef, undef, undef, undef, undef, undef, undef, undef, undef, undef, undef, undef, undef, undef, undef, undef, undef, undef, undef, undef, undef, undef, undef, undef, undef, undef, undef, undef, undef, undef, undef, undef, undef, undef, undef, undef, undef, undef, undef, undef, undef, undef, undef, undef], defers := [] } w) :
  (codeAt [1, 1, 1, 1, 0, 0] (Tryz.f10.body.getD .skip)).wp Tryz.prog (NQ R) { tmps := #[.bool false, .pointer (some ⟨b1, 0, none⟩), .pointer (some ⟨b2, 0, none⟩), undef, undef, z5, z6, z7, z8, z9, z10, z11, z12, z13, z14, z15, z16, z17, z18, z19, z20, z21, z22, z23, z24, z25, z26, z27, z28, z29, z30, z31, z32, z33, z34, z35, z36, z37, z38, z39, z40, z41, z42, z43, z44, undef, undef, undef, undef, undef, undef, undef, undef, undef, undef, undef, undef, undef, undef, undef, undef, undef, undef, undef, undef, undef, undef, undef, undef, undef, undef, undef, undef, undef, undef, undef, undef, undef, undef, undef, undef, undef, undef, undef, undef, undef, undef, undef, undef, undef, undef, undef, undef, undef, undef, undef, undef, undef, undef, undef, undef, undef, undef, undef, undef, undef, undef, undef, undef, undef, undef, undef, undef, undef, undef, undef, undef, undef, undef, undef, undef, undef, undef, undef, undef, undef, undef, undef, undef, undef, undef, undef, undef, undef, undef, undef, undef, undef, undef, undef, undef, undef, undef, undef, undef, undef, undef, undef, undef, undef, undef, undef, undef, undef], defers := [] } WL := by
 obtain ⟨o1, n1, c1, o2, n2, c2, o3, n3, c3, g1, a1⟩ := h1
 obtain ⟨o4, n4, c4, o5, n5, c5, o6, n6, c6, g2, a2⟩ := h2
 have HCR := Hd (fun wz (hz : Below WL.heap.size WL wz) => And.intro (cel3 ((hz.block _ (lt_of_heap g1)).trans g1)) (cel3 ((hz.block _ (lt_of_heap g2)).trans g2)))
 have HO := Hd (fun wz (hz : Below WL.heap.size WL wz) => a1.below hz)
 have HZ := Hd (fun wz (hz : Below WL.heap.size WL wz) => a2.below hz)
 have HGL := Hd hG
 clear g1 g2 a1 a2 hG
 simp only [codeAt, codeL, codeR, Tryz.f10, Option.getD_some]
 refine wp_region_held_drew (S := (fun wz => Below WL.heap.size WL wz)) (by kernel_rfl) (bdr) (fun hS => ?_)
 refine tkR (n := 1) [0] rfl (by decide +kernel) hS ?_
 iterate 1 ((try simp only [Act.put, s1, s2, s3, s4, s5, s6]); refine ⟨_, ?_, rfl, Or.inl ⟨by kernel_rfl, fun w hSw => ok_of fun z hz => ?_⟩, ?_⟩; rotate_left; · (obtain ⟨⟨f0, f1, f2⟩, f3, f4, f5⟩ := HCR.out _ hSw; go_simp; exact hz))
 refine RunOK.done ?_
 try simp only [Act.put, s1, s2, s3, s4, s5, s6]
 refine rd1 1 (by decide +kernel) rfl (fun K hK => ?_)
 go_simp
 go_at_call 25
 have HEE := l12at_any (2) (2) (WL.drew)
 refine HEE.mono ?_
 rintro e q1 ⟨rfl, h0⟩
 clear HEE
 have hq1 := btr (bdr : Below WL.heap.size WL WL.drew) h0
 clear h0
 go_simp
 refine Shut.out hK _ _ (hq1) (fun hS2 => ?_); clear hK K hS; have hS := hS2; clear hS2
 try simp only [Act.put, s1, s2, s3, s4, s5, s6]
 refine rd1 2 (by decide +kernel) rfl (fun K hK => ?_)
 go_simp
 go_at_call 25
 have HEE := l12at_any (2) (2) (q1)
 refine HEE.mono ?_
 rintro e q2 ⟨rfl, h0⟩
 clear HEE
 have hq2 := btr hq1 h0
 clear h0
 go_simp
 refine Shut.out hK _ _ (hq2) (fun hS2 => ?_); clear hK K hS; have hS := hS2; clear hS2
 try simp only [Act.put, s1, s2, s3, s4, s5, s6]
 refine rd1 3 (by decide +kernel) rfl (fun K hK => ?_)
 go_simp
 have h0 : Below q2.heap.size q2 (q2.alloc (.cells #[.int .i64 (2), .int .i64 (2)] 30)) := bal
 have hq3 := btr hq2 h0
 have dC : Arr DotR 2 (q2.alloc (.cells #[.int .i64 (2), .int .i64 (2)] 30)) (.slice (some ⟨q2.heap.size, 0, none⟩) 1 1) [⟨2, 2⟩] := lit_dots [⟨2, 2⟩] (by unfold maxLen; simp) (di_all (by decide))
 clear h0
 refine Shut.out hK _ _ (hq3) (fun hS2 => ?_); clear hK K hS; have hS := hS2; clear hS2
 try simp only [Act.put, s1, s2, s3, s4, s5, s6]
 refine rd1 4 (by decide +kernel) rfl (fun K hK => ?_)
 go_simp
 go_at_call 24
 have HEE := l12con_any 1 1 rfl [⟨2, 2⟩] _ _ _ _ dC (by decide)
 refine HEE.mono ?_
 rintro e q4 ⟨vc, rfl, ⟨c1_a, c1_b, c1_c, c1_d, c1_e, c1_f, rfl, caC, cbC⟩, h0⟩
 clear HEE
 have hq4 := btr hq3 h0
 clear dC
 have caC : Arr DotR 2 _ _ ([⟨2, 2⟩] : List DotD) := caC
 have cbC : Arr DotR 2 _ _ ([] : List DotD) := cbC
 clear h0
 go_simp
 refine Shut.out hK _ _ (hq4) (fun hS2 => ?_); clear hK K hS; have hS := hS2; clear hS2
 try simp only [Act.put, s1, s2, s3, s4, s5, s6]
 refine rd1 5 (by decide +kernel) rfl (fun K hK => ?_)
 go_simp
 go_at_call 27
 have HEE := l12mark_any (2) (2) (8) (10) (q4)
 refine HEE.mono ?_
 rintro e q5 ⟨rfl, h0⟩
 clear HEE
 have hq5 := btr hq4 h0
 have caC := caC.dots h0
 have cbC := cbC.dots h0
 clear h0
 go_simp
 refine Shut.out hK _ _ (hq5) (fun hS2 => ?_); clear hK K hS; have hS := hS2; clear hS2
 try simp only [Act.put, s1, s2, s3, s4, s5, s6]
 refine rd1 6 (by decide +kernel) rfl (fun K hK => ?_)
 go_simp
 have h0 : Below q5.heap.size q5 (q5.alloc (.cells #[.int .i64 (2), .int .i64 (2), .int .i64 (8), .int .u64 (10)] 55)) := bal
 have hq6 := btr hq5 h0
 have caC := caC.dots h0
 have cbC := cbC.dots h0
 have mC : Arr MarkR 4 (q5.alloc (.cells #[.int .i64 (2), .int .i64 (2), .int .i64 (8), .int .u64 (10)] 55)) (.slice (some ⟨q5.heap.size, 0, none⟩) 1 1) [⟨⟨2, 2⟩, 8, 10⟩] := lit_marks [⟨⟨2, 2⟩, 8, 10⟩] (by unfold maxLen; simp) (mi_all (by decide))
 clear h0
 refine Shut.out hK _ _ (hq6) (fun hS2 => ?_); clear hK K hS; have hS := hS2; clear hS2
 try simp only [Act.put, s1, s2, s3, s4, s5, s6]
 refine rd1 7 (by decide +kernel) rfl (fun K hK => ?_)
 go_simp
 go_at_call 26
 have HEE := l12item_any tNut (some ⟨q5.heap.size, 0, none⟩) 1 1 ((q5.alloc (.cells #[.int .i64 (2), .int .i64 (2), .int .i64 (8), .int .u64 (10)] 55)))
 refine HEE.mono ?_
 rintro e q7 ⟨rfl, h0⟩
 clear HEE
 have hq7 := btr hq6 h0
 have caC := caC.dots h0
 have cbC := cbC.dots h0
 have mC := mC.marks h0
 clear h0
 go_simp
 refine Shut.out hK _ _ (hq7) (fun hS2 => ?_); clear hK K hS; have hS := hS2; clear hS2
 try simp only [Act.put, s1, s2, s3, s4, s5, s6]
 refine rd1 8 (by decide +kernel) rfl (fun K hK => ?_)
 go_simp
 have h0 : Below q7.heap.size q7 (q7.alloc (.cells #[.string tNut, .slice (some ⟨q5.heap.size, 0, none⟩) 1 1] 50)) := bal
 have hq8 := btr hq7 h0
 have caC := caC.dots h0
 have cbC := cbC.dots h0
 have iC : Arr ItemR 2 (q7.alloc (.cells #[.string tNut, .slice (some ⟨q5.heap.size, 0, none⟩) 1 1] 50)) (.slice (some ⟨q7.heap.size, 0, none⟩) 1 1) [⟨tNut, [⟨⟨2, 2⟩, 8, 10⟩]⟩] := lit_items [⟨⟨tNut, [⟨⟨2, 2⟩, 8, 10⟩]⟩, some ⟨q5.heap.size, 0, none⟩, 1⟩] (by unfold maxLen; simp) (by
   intro p hp
   simp only [List.mem_cons, List.not_mem_nil, or_false] at hp
   rcases hp with rfl
   ·exact ⟨show ByteArray.size tNut ≤ maxLen by decide, mC⟩)
 clear h0
 refine Shut.out hK _ _ (hq8) (fun hS2 => ?_); clear hK K hS; have hS := hS2; clear hS2
 try simp only [Act.put, s1, s2, s3, s4, s5, s6]
 refine tkR (n := 1) [9] rfl (by decide +kernel) hS ?_
 iterate 1 ((try simp only [Act.put, s1, s2, s3, s4, s5, s6]); refine ⟨_, ?_, rfl, Or.inl ⟨by kernel_rfl, fun w hSw => ok_of fun z hz => ?_⟩, ?_⟩; rotate_left; · (obtain ⟨⟨f0, f1, f2⟩, f3, f4, f5⟩ := HCR.out _ hSw; go_simp; exact hz))
 refine RunOK.done ?_
 try simp only [Act.put, s1, s2, s3, s4, s5, s6]
 refine rd1 10 (by decide +kernel) rfl (fun K hK => ?_)
 go_simp
 go_at_call 14
 have HEE := l12sets_any cZ wC ⟨2, 2⟩ tNut (8) 0 _ _ _ _ _ _ _ (HZ.out _ hq8) ⟨caC, cbC, iC⟩ cZ_sz.1 cZ_sz.2 (by decide) (HGL.out.below hq8)
 rw [dk3] at HEE
 simp only [dotV] at HEE
 refine HEE.mono ?_
 rintro e q9 ⟨rfl, h0⟩
 clear HEE
 have hq9 := btr hq8 h0
 have caC := caC.dots h0
 have cbC := cbC.dots h0
 have iC := iC.items h0
 clear h0
 go_simp
 refine Shut.out hK _ _ (hq9) (fun hS2 => ?_); clear hK K hS; have hS := hS2; clear hS2
 try simp only [Act.put, s1, s2, s3, s4, s5, s6]
 refine tkR (n := 3) [11, 12, 13] rfl (by decide +kernel) hS ?_
 iterate 3 ((try simp only [Act.put, s1, s2, s3, s4, s5, s6]); refine ⟨_, ?_, rfl, Or.inl ⟨by kernel_rfl, fun w hSw => ok_of fun z hz => ?_⟩, ?_⟩; rotate_left; · (obtain ⟨⟨f0, f1, f2⟩, f3, f4, f5⟩ := HCR.out _ hSw; go_simp; exact hz))
 refine RunOK.done ?_
 try simp only [Act.put, s1, s2, s3, s4, s5, s6]
 refine rd1 14 (by decide +kernel) rfl (fun K hK => ?_)
 go_simp
 go_at_call 25
 have HEE := l12at_any (1) (2) (q9)
 refine HEE.mono ?_
 rintro e q10 ⟨rfl, h0⟩
 clear HEE
 have hq10 := btr hq9 h0
 clear h0
 go_simp
 refine Shut.out hK _ _ (hq10) (fun hS2 => ?_); clear hK K hS; have hS := hS2; clear hS2
 try simp only [Act.put, s1, s2, s3, s4, s5, s6]
 refine rd1 15 (by decide +kernel) rfl (fun K hK => ?_)
 go_simp
 have h0 : Below q10.heap.size q10 (q10.alloc (.cells #[.int .i64 (1), .int .i64 (2)] 30)) := bal
 have hq11 := btr hq10 h0
 have dD : Arr DotR 2 (q10.alloc (.cells #[.int .i64 (1), .int .i64 (2)] 30)) (.slice (some ⟨q10.heap.size, 0, none⟩) 1 1) [⟨1, 2⟩] := lit_dots [⟨1, 2⟩] (by unfold maxLen; simp) (di_all (by decide))
 clear h0
 refine Shut.out hK _ _ (hq11) (fun hS2 => ?_); clear hK K hS; have hS := hS2; clear hS2
 try simp only [Act.put, s1, s2, s3, s4, s5, s6]
 refine rd1 16 (by decide +kernel) rfl (fun K hK => ?_)
 go_simp
 go_at_call 24
 have HEE := l12con_any 1 1 rfl [⟨1, 2⟩] _ _ _ _ dD (by decide)
 refine HEE.mono ?_
 rintro e q12 ⟨vc, rfl, ⟨c2_a, c2_b, c2_c, c2_d, c2_e, c2_f, rfl, caD, cbD⟩, h0⟩
 clear HEE
 have hq12 := btr hq11 h0
 clear dD
 have caD : Arr DotR 2 _ _ ([⟨1, 2⟩] : List DotD) := caD
 have cbD : Arr DotR 2 _ _ ([] : List DotD) := cbD
 clear h0
 go_simp
 refine Shut.out hK _ _ (hq12) (fun hS2 => ?_); clear hK K hS; have hS := hS2; clear hS2
 try simp only [Act.put, s1, s2, s3, s4, s5, s6]
 refine tkR (n := 1) [17] rfl (by decide +kernel) hS ?_
 iterate 1 ((try simp only [Act.put, s1, s2, s3, s4, s5, s6]); refine ⟨_, ?_, rfl, Or.inl ⟨by kernel_rfl, fun w hSw => ok_of fun z hz => ?_⟩, ?_⟩; rotate_left; · (obtain ⟨⟨f0, f1, f2⟩, f3, f4, f5⟩ := HCR.out _ hSw; go_simp; exact hz))
 refine RunOK.done ?_
 try simp only [Act.put, s1, s2, s3, s4, s5, s6]
 refine rd1 18 (by decide +kernel) rfl (fun K hK => ?_)
 go_simp
 go_at_call 18
 have HEE := l12removes_any cZ wD tTea 0 _ _ _ _ _ _ _ (HZ.out _ hq12) ⟨caD, cbD, arr_nil⟩ cZ_sz.1 cZ_sz.2 (by decide) (HGL.out.below hq12)
 rw [dk4] at HEE
 refine HEE.mono ?_
 rintro e q13 ⟨rfl, h0⟩
 clear HEE
 have hq13 := btr hq12 h0
 have caD := caD.dots h0
 have cbD := cbD.dots h0
 clear h0
 go_simp
 refine Shut.out hK _ _ (hq13) (fun hS2 => ?_); clear hK K hS; have hS := hS2; clear hS2
 try simp only [Act.put, s1, s2, s3, s4, s5, s6]
 refine tkR (n := 4) [19, 20, 21, 22] rfl (by decide +kernel) hS ?_
 iterate 4 ((try simp only [Act.put, s1, s2, s3, s4, s5, s6]); refine ⟨_, ?_, rfl, Or.inl ⟨by kernel_rfl, fun w hSw => ok_of fun z hz => ?_⟩, ?_⟩; rotate_left; · (obtain ⟨⟨f0, f1, f2⟩, f3, f4, f5⟩ := HCR.out _ hSw; go_simp; exact hz))
 refine RunOK.done ?_
 try simp only [Act.put, s1, s2, s3, s4, s5, s6]
 refine rd1 23 (by decide +kernel) rfl (fun K hK => ?_)
 go_simp
 go_at_call 25
 have HEE := l12at_any (1) (2) (q13)
 refine HEE.mono ?_
 rintro e q14 ⟨rfl, h0⟩
 clear HEE
 have hq14 := btr hq13 h0
 clear h0
 go_simp
 refine Shut.out hK _ _ (hq14) (fun hS2 => ?_); clear hK K hS; have hS := hS2; clear hS2
 try simp only [Act.put, s1, s2, s3, s4, s5, s6]
 refine rd1 24 (by decide +kernel) rfl (fun K hK => ?_)
 go_simp
 go_at_call 25
 have HEE := l12at_any (2) (1) (q14)
 refine HEE.mono ?_
 rintro e q15 ⟨rfl, h0⟩
 clear HEE
 have hq15 := btr hq14 h0
 clear h0
 go_simp
 refine Shut.out hK _ _ (hq15) (fun hS2 => ?_); clear hK K hS; have hS := hS2; clear hS2
 try simp only [Act.put, s1, s2, s3, s4, s5, s6]
 refine rd1 25 (by decide +kernel) rfl (fun K hK => ?_)
 go_simp
 have h0 : Below q15.heap.size q15 (q15.alloc (.cells #[.int .i64 (1), .int .i64 (2), .int .i64 (2), .int .i64 (1)] 30)) := bal
 have hq16 := btr hq15 h0
 have dE : Arr DotR 2 (q15.alloc (.cells #[.int .i64 (1), .int .i64 (2), .int .i64 (2), .int .i64 (1)] 30)) (.slice (some ⟨q15.heap.size, 0, none⟩) 2 2) [⟨1, 2⟩, ⟨2, 1⟩] := lit_dots [⟨1, 2⟩, ⟨2, 1⟩] (by unfold maxLen; simp) (di_all (by decide))
 clear h0
 refine Shut.out hK _ _ (hq16) (fun hS2 => ?_); clear hK K hS; have hS := hS2; clear hS2
 try simp only [Act.put, s1, s2, s3, s4, s5, s6]
 refine rd1 26 (by decide +kernel) rfl (fun K hK => ?_)
 go_simp
 go_at_call 24
 have HEE := l12con_any 2 2 rfl [⟨1, 2⟩, ⟨2, 1⟩] _ _ _ _ dE (by decide)
 refine HEE.mono ?_
 rintro e q17 ⟨vc, rfl, ⟨c3_a, c3_b, c3_c, c3_d, c3_e, c3_f, rfl, caE, cbE⟩, h0⟩
 clear HEE
 have hq17 := btr hq16 h0
 clear dE
 have caE : Arr DotR 2 _ _ ([⟨1, 2⟩, ⟨2, 1⟩] : List DotD) := caE
 have cbE : Arr DotR 2 _ _ ([] : List DotD) := cbE
 clear h0
 go_simp
 refine Shut.out hK _ _ (hq17) (fun hS2 => ?_); clear hK K hS; have hS := hS2; clear hS2
 try simp only [Act.put, s1, s2, s3, s4, s5, s6]
 refine tkR (n := 1) [27] rfl (by decide +kernel) hS ?_
 iterate 1 ((try simp only [Act.put, s1, s2, s3, s4, s5, s6]); refine ⟨_, ?_, rfl, Or.inl ⟨by kernel_rfl, fun w hSw => ok_of fun z hz => ?_⟩, ?_⟩; rotate_left; · (obtain ⟨⟨f0, f1, f2⟩, f3, f4, f5⟩ := HCR.out _ hSw; go_simp; exact hz))
 refine RunOK.done ?_
 try simp only [Act.put, s1, s2, s3, s4, s5, s6]
 refine rd1 28 (by decide +kernel) rfl (fun K hK => ?_)
 go_simp
 go_at_call 19
 have HEE := l12clears_any cZ wE 0 _ _ _ _ _ _ _ (HZ.out _ hq17) ⟨caE, cbE, arr_nil⟩ cZ_sz.1 cZ_sz.2 (HGL.out.below hq17)
 rw [dk5] at HEE
 refine HEE.mono ?_
 rintro e q18 ⟨rfl, h0⟩
 clear HEE
 have hq18 := btr hq17 h0
 have caE := caE.dots h0
 have cbE := cbE.dots h0
 clear h0
 go_simp
 refine Shut.out hK _ _ (hq18) (fun hS2 => ?_); clear hK K hS; have hS := hS2; clear hS2
 try simp only [Act.put, s1, s2, s3, s4, s5, s6]
 refine tkR (n := 5) [29, 30, 31, 32, 33] rfl (by decide +kernel) hS ?_
 iterate 5 ((try simp only [Act.put, s1, s2, s3, s4, s5, s6]); refine ⟨_, ?_, rfl, Or.inl ⟨by kernel_rfl, fun w hSw => ok_of fun z hz => ?_⟩, ?_⟩; rotate_left; · (obtain ⟨⟨f0, f1, f2⟩, f3, f4, f5⟩ := HCR.out _ hSw; go_simp; exact hz))
 refine RunOK.done ?_
 try simp only [Act.put, s1, s2, s3, s4, s5, s6]
 refine rd1 34 (by decide +kernel) rfl (fun K hK => ?_)
 go_simp
 go_at_call 19
 have HEE := l12clears_any zeroC zeroC 0 _ _ _ _ _ _ _ (HO.out _ hq18) (HO.out _ hq18) zC_sz.1 zC_sz.2 (HGL.out.below hq18)
 rw [dk6] at HEE
 refine HEE.mono ?_
 rintro e q19 ⟨rfl, h0⟩
 clear HEE
 have hq19 := btr hq18 h0
 clear h0
 go_simp
 refine Shut.out hK _ _ (hq19) (fun hS2 => ?_); clear hK K hS; have hS := hS2; clear hS2
 try simp only [Act.put, s1, s2, s3, s4, s5, s6]
 refine tkR (n := 2) [35, 36] rfl (by decide +kernel) hS ?_
 iterate 2 ((try simp only [Act.put, s1, s2, s3, s4, s5, s6]); refine ⟨_, ?_, rfl, Or.inl ⟨by kernel_rfl, fun w hSw => ok_of fun z hz => ?_⟩, ?_⟩; rotate_left; · (obtain ⟨⟨f0, f1, f2⟩, f3, f4, f5⟩ := HCR.out _ hSw; go_simp; exact hz))
 refine RunOK.done ?_
 try simp only [Act.put, s1, s2, s3, s4, s5, s6]
 refine wpAnyH_done (by kernel_rfl) ?_ _
 try simp only [Act.put, s1, s2, s3, s4, s5, s6]
 simp only [NQ]
 exact hQ _ _ _ _ _ _ _ _ _ _ _ _ _ _ _ _ _ _ _ _ _ _ _ _ _ _ _ _ _ _ _ _ _ _ _ _ _ hq19
set_option linter.unusedSimpArgs false in
set_option maxRecDepth 100000 in
set_option maxHeartbeats 16000000 in
theorem l12k7 (WL : World) (b1 b2 : Nat) (z5 z6 z7 z8 z9 z10 z11 z12 z13 z14 z15 z16 z17 z18 z19 z20 z21 z22 z23 z24 z25 z26 z27 z28 z29 z30 z31 z32 z33 z34 z35 z36 z37 z38 z39 z40 z41 z42 z43 z44 z45 z46 z47 z48 z49 z50 z51 z52 z53 z54 z55 z56 z57 z58 z59 z60 z61 z62 z63 z64 z65 z66 z67 z68 z69 z70 z71 z72 z73 z74 z75 z76 z77 z78 z79 z80 z81 : Value) (hG : GlobIs WL) (h1 : CartC WL b1 zeroC) (h2 : CartC WL b2 cZ) (R : Act → World → Prop) (hQ : ∀ (y82 y83 y84 y85 y86 y87 y88 y89 y90 y91 y92 y93 y94 y95 y96 y97 y98 y99 y100 y101 y102 y103 y104 y105 y106 y107 y108 y109 y110 y111 y112 y113 y114 y115 y116 y117 y118 y119 : Value) (w : World), Below WL.heap.size WL w → R { tmps := #[.bool false, .pointer (some ⟨b1, 0, none⟩), .pointer (some ⟨b2, 0, none⟩), undef, undef, z5, z6, z7, z8, z9, z10, z11, z12, z13, z14, z15, z16, z17, z18, z19, z20, z21, z22, z23, z24, z25, z26, z27, z28, z29, z30, z31, z32, z33, z34, z35, z36, z37, z38, z39, z40, z41, z42, z43, z44, z45, z46, z47, z48, z49, z50, z51, z52, z53, z54, z55, z56, z57, z58, z59, z60, z61, z62, z63, z64, z65, z66, z67, z68, z69, z70, z71, z72, z73, z74, z75, z76, z77, z78, z79, z80, z81, y82, y83, y84, y85, y86, y87, y88, y89, y90, y91, y92, y93, y94, y95, y96, y97, y98, y99, y100, y101, y102, y103, y104, y105, y106, y107, y108, y109, y110, y111, y112, y113, y114, y115, y116, y117, y118, y119, .bool false, undef, undef, undef, undef, undef, undef, undef, undef, undef, undef, undef, undef, undef, undef, undef, undef, undef, undef, undef, undef, undef, undef, undef, undef, undef, undef, undef, undef, undef, undef, undef, undef, undef], defers := [] } w) :
  (codeAt [1, 1, 1, 1, 1, 0, 0] (Tryz.f10.body.getD .skip)).wp Tryz.prog (NQ R) { tmps := #[.bool false, .pointer (some ⟨b1, 0, none⟩), .pointer (some ⟨b2, 0, none⟩), undef, undef, z5, z6, z7, z8, z9, z10, z11, z12, z13, z14, z15, z16, z17, z18, z19, z20, z21, z22, z23, z24, z25, z26, z27, z28, z29, z30, z31, z32, z33, z34, z35, z36, z37, z38, z39, z40, z41, z42, z43, z44, z45, z46, z47, z48, z49, z50, z51, z52, z53, z54, z55, z56, z57, z58, z59, z60, z61, z62, z63, z64, z65, z66, z67, z68, z69, z70, z71, z72, z73, z74, z75, z76, z77, z78, z79, z80, z81, undef, undef, undef, undef, undef, undef, undef, undef, undef, undef, undef, undef, undef, undef, undef, undef, undef, undef, undef, undef, undef, undef, undef, undef, undef, undef, undef, undef, undef, undef, undef, undef, undef, undef, undef, undef, undef, undef, undef, undef, undef, undef, undef, undef, undef, undef, undef, undef, undef, undef, undef, undef, undef, undef, undef, undef, undef, undef, undef, undef, undef, undef, undef, undef, undef, undef, undef, undef, undef, undef, undef, undef], defers := [] } WL := by
 obtain ⟨o1, n1, c1, o2, n2, c2, o3, n3, c3, g1, a1⟩ := h1
 obtain ⟨o4, n4, c4, o5, n5, c5, o6, n6, c6, g2, a2⟩ := h2
 have HCR := Hd (fun wz (hz : Below WL.heap.size WL wz) => And.intro (cel3 ((hz.block _ (lt_of_heap g1)).trans g1)) (cel3 ((hz.block _ (lt_of_heap g2)).trans g2)))
 have HO := Hd (fun wz (hz : Below WL.heap.size WL wz) => a1.below hz)
 have HZ := Hd (fun wz (hz : Below WL.heap.size WL wz) => a2.below hz)
 have HGL := Hd hG
 clear g1 g2 a1 a2 hG
 simp only [codeAt, codeL, codeR, Tryz.f10, Option.getD_some]
 refine wp_region_held_drew (S := (fun wz => Below WL.heap.size WL wz)) (by kernel_rfl) (bdr) (fun hS => ?_)
 refine tkR (n := 2) [0, 2] rfl (by decide +kernel) hS ?_
 iterate 2 ((try simp only [Act.put, s1, s2, s3, s4, s5, s6]); refine ⟨_, ?_, rfl, Or.inl ⟨by kernel_rfl, fun w hSw => ok_of fun z hz => ?_⟩, ?_⟩; rotate_left; · (obtain ⟨⟨f0, f1, f2⟩, f3, f4, f5⟩ := HCR.out _ hSw; go_simp; exact hz))
 refine RunOK.done ?_
 try simp only [Act.put, s1, s2, s3, s4, s5, s6]
 refine rd1 1 (by decide +kernel) rfl (fun K hK => ?_)
 go_simp
 go_at_call 25
 have HEE := l12at_any (1) (2) (WL.drew)
 refine HEE.mono ?_
 rintro e q1 ⟨rfl, h0⟩
 clear HEE
 have hq1 := btr (bdr : Below WL.heap.size WL WL.drew) h0
 clear h0
 go_simp
 refine Shut.out hK _ _ (hq1) (fun hS2 => ?_); clear hK K hS; have hS := hS2; clear hS2
 try simp only [Act.put, s1, s2, s3, s4, s5, s6]
 refine rd1 3 (by decide +kernel) rfl (fun K hK => ?_)
 go_simp
 go_at_call 13
 have HEE := l12adds_any cZ zeroC ⟨1, 2⟩ tOil (1) 2 _ _ _ _ _ _ _ (HZ.out _ hq1) (HO.out _ hq1) cZ_sz.1 cZ_sz.2 (by decide) (HGL.out.below hq1)
 rw [dk7] at HEE
 simp only [dotV] at HEE
 refine HEE.mono ?_
 rintro e q2 ⟨rfl, h0⟩
 clear HEE
 have hq2 := btr hq1 h0
 clear h0
 go_simp
 refine Shut.out hK _ _ (hq2) (fun hS2 => ?_); clear hK K hS; have hS := hS2; clear hS2
 try simp only [Act.put, s1, s2, s3, s4, s5, s6]
 refine tkR (n := 4) [4, 5, 6, 8] rfl (by decide +kernel) hS ?_
 iterate 4 ((try simp only [Act.put, s1, s2, s3, s4, s5, s6]); refine ⟨_, ?_, rfl, Or.inl ⟨by kernel_rfl, fun w hSw => ok_of fun z hz => ?_⟩, ?_⟩; rotate_left; · (obtain ⟨⟨f0, f1, f2⟩, f3, f4, f5⟩ := HCR.out _ hSw; go_simp; exact hz))
 refine RunOK.done ?_
 try simp only [Act.put, s1, s2, s3, s4, s5, s6]
 refine rd1 7 (by decide +kernel) rfl (fun K hK => ?_)
 go_simp
 go_at_call 25
 have HEE := l12at_any (1) (3) (q2)
 refine HEE.mono ?_
 rintro e q3 ⟨rfl, h0⟩
 clear HEE
 have hq3 := btr hq2 h0
 clear h0
 go_simp
 refine Shut.out hK _ _ (hq3) (fun hS2 => ?_); clear hK K hS; have hS := hS2; clear hS2
 try simp only [Act.put, s1, s2, s3, s4, s5, s6]
 refine rd1 9 (by decide +kernel) rfl (fun K hK => ?_)
 go_simp
 go_at_call 13
 have HEE := l12adds_any cZ zeroC ⟨1, 3⟩ ⟨#[]⟩ (0) 2 _ _ _ _ _ _ _ (HZ.out _ hq3) (HO.out _ hq3) cZ_sz.1 cZ_sz.2 (by decide) (HGL.out.below hq3)
 rw [dk8] at HEE
 simp only [dotV] at HEE
 refine HEE.mono ?_
 rintro e q4 ⟨rfl, h0⟩
 clear HEE
 have hq4 := btr hq3 h0
 clear h0
 go_simp
 refine Shut.out hK _ _ (hq4) (fun hS2 => ?_); clear hK K hS; have hS := hS2; clear hS2
 try simp only [Act.put, s1, s2, s3, s4, s5, s6]
 refine tkR (n := 5) [10, 11, 12, 13, 15] rfl (by decide +kernel) hS ?_
 iterate 5 ((try simp only [Act.put, s1, s2, s3, s4, s5, s6]); refine ⟨_, ?_, rfl, Or.inl ⟨by kernel_rfl, fun w hSw => ok_of fun z hz => ?_⟩, ?_⟩; rotate_left; · (obtain ⟨⟨f0, f1, f2⟩, f3, f4, f5⟩ := HCR.out _ hSw; go_simp; exact hz))
 refine RunOK.done ?_
 try simp only [Act.put, s1, s2, s3, s4, s5, s6]
 refine rd1 14 (by decide +kernel) rfl (fun K hK => ?_)
 go_simp
 go_at_call 25
 have HEE := l12at_any (1) (3) (q4)
 refine HEE.mono ?_
 rintro e q5 ⟨rfl, h0⟩
 clear HEE
 have hq5 := btr hq4 h0
 clear h0
 go_simp
 refine Shut.out hK _ _ (hq5) (fun hS2 => ?_); clear hK K hS; have hS := hS2; clear hS2
 try simp only [Act.put, s1, s2, s3, s4, s5, s6]
 refine rd1 16 (by decide +kernel) rfl (fun K hK => ?_)
 go_simp
 go_at_call 13
 have HEE := l12adds_any cZ zeroC ⟨1, 3⟩ tOil (0) 14 _ _ _ _ _ _ _ (HZ.out _ hq5) (HO.out _ hq5) cZ_sz.1 cZ_sz.2 (by decide) (HGL.out.below hq5)
 rw [dk9] at HEE
 simp only [dotV] at HEE
 refine HEE.mono ?_
 rintro e q6 ⟨rfl, h0⟩
 clear HEE
 have hq6 := btr hq5 h0
 clear h0
 go_simp
 refine Shut.out hK _ _ (hq6) (fun hS2 => ?_); clear hK K hS; have hS := hS2; clear hS2
 try simp only [Act.put, s1, s2, s3, s4, s5, s6]
 refine tkR (n := 5) [17, 18, 19, 20, 22] rfl (by decide +kernel) hS ?_
 iterate 5 ((try simp only [Act.put, s1, s2, s3, s4, s5, s6]); refine ⟨_, ?_, rfl, Or.inl ⟨by kernel_rfl, fun w hSw => ok_of fun z hz => ?_⟩, ?_⟩; rotate_left; · (obtain ⟨⟨f0, f1, f2⟩, f3, f4, f5⟩ := HCR.out _ hSw; go_simp; exact hz))
 refine RunOK.done ?_
 try simp only [Act.put, s1, s2, s3, s4, s5, s6]
 refine rd1 21 (by decide +kernel) rfl (fun K hK => ?_)
 go_simp
 go_at_call 25
 have HEE := l12at_any (1) (3) (q6)
 refine HEE.mono ?_
 rintro e q7 ⟨rfl, h0⟩
 clear HEE
 have hq7 := btr hq6 h0
 clear h0
 go_simp
 refine Shut.out hK _ _ (hq7) (fun hS2 => ?_); clear hK K hS; have hS := hS2; clear hS2
 try simp only [Act.put, s1, s2, s3, s4, s5, s6]
 refine rd1 23 (by decide +kernel) rfl (fun K hK => ?_)
 go_simp
 go_at_call 14
 have HEE := l12sets_any cZ zeroC ⟨1, 3⟩ tOil (0) 14 _ _ _ _ _ _ _ (HZ.out _ hq7) (HO.out _ hq7) cZ_sz.1 cZ_sz.2 (by decide) (HGL.out.below hq7)
 rw [dk10] at HEE
 simp only [dotV] at HEE
 refine HEE.mono ?_
 rintro e q8 ⟨rfl, h0⟩
 clear HEE
 have hq8 := btr hq7 h0
 clear h0
 go_simp
 refine Shut.out hK _ _ (hq8) (fun hS2 => ?_); clear hK K hS; have hS := hS2; clear hS2
 try simp only [Act.put, s1, s2, s3, s4, s5, s6]
 refine tkR (n := 5) [24, 25, 26, 27, 29] rfl (by decide +kernel) hS ?_
 iterate 5 ((try simp only [Act.put, s1, s2, s3, s4, s5, s6]); refine ⟨_, ?_, rfl, Or.inl ⟨by kernel_rfl, fun w hSw => ok_of fun z hz => ?_⟩, ?_⟩; rotate_left; · (obtain ⟨⟨f0, f1, f2⟩, f3, f4, f5⟩ := HCR.out _ hSw; go_simp; exact hz))
 refine RunOK.done ?_
 try simp only [Act.put, s1, s2, s3, s4, s5, s6]
 refine rd1 28 (by decide +kernel) rfl (fun K hK => ?_)
 go_simp
 go_at_call 25
 have HEE := l12at_any (1) (3) (q8)
 refine HEE.mono ?_
 rintro e q9 ⟨rfl, h0⟩
 clear HEE
 have hq9 := btr hq8 h0
 clear h0
 go_simp
 refine Shut.out hK _ _ (hq9) (fun hS2 => ?_); clear hK K hS; have hS := hS2; clear hS2
 try simp only [Act.put, s1, s2, s3, s4, s5, s6]
 refine rd1 30 (by decide +kernel) rfl (fun K hK => ?_)
 go_simp
 go_at_call 14
 have HEE := l12sets_any cZ zeroC ⟨1, 3⟩ tOil (1) 9 _ _ _ _ _ _ _ (HZ.out _ hq9) (HO.out _ hq9) cZ_sz.1 cZ_sz.2 (by decide) (HGL.out.below hq9)
 rw [dk11] at HEE
 simp only [dotV] at HEE
 refine HEE.mono ?_
 rintro e q10 ⟨rfl, h0⟩
 clear HEE
 have hq10 := btr hq9 h0
 clear h0
 go_simp
 refine Shut.out hK _ _ (hq10) (fun hS2 => ?_); clear hK K hS; have hS := hS2; clear hS2
 try simp only [Act.put, s1, s2, s3, s4, s5, s6]
 refine tkR (n := 5) [31, 32, 33, 34, 35] rfl (by decide +kernel) hS ?_
 iterate 5 ((try simp only [Act.put, s1, s2, s3, s4, s5, s6]); refine ⟨_, ?_, rfl, Or.inl ⟨by kernel_rfl, fun w hSw => ok_of fun z hz => ?_⟩, ?_⟩; rotate_left; · (obtain ⟨⟨f0, f1, f2⟩, f3, f4, f5⟩ := HCR.out _ hSw; go_simp; exact hz))
 refine RunOK.done ?_
 try simp only [Act.put, s1, s2, s3, s4, s5, s6]
 refine rd1 36 (by decide +kernel) rfl (fun K hK => ?_)
 go_simp
 go_at_call 18
 have HEE := l12removes_any cZ zeroC tOil 9 _ _ _ _ _ _ _ (HZ.out _ hq10) (HO.out _ hq10) cZ_sz.1 cZ_sz.2 (by decide) (HGL.out.below hq10)
 rw [dk12] at HEE
 refine HEE.mono ?_
 rintro e q11 ⟨rfl, h0⟩
 clear HEE
 have hq11 := btr hq10 h0
 clear h0
 go_simp
 refine Shut.out hK _ _ (hq11) (fun hS2 => ?_); clear hK K hS; have hS := hS2; clear hS2
 try simp only [Act.put, s1, s2, s3, s4, s5, s6]
 refine tkR (n := 2) [37, 38] rfl (by decide +kernel) hS ?_
 iterate 2 ((try simp only [Act.put, s1, s2, s3, s4, s5, s6]); refine ⟨_, ?_, rfl, Or.inl ⟨by kernel_rfl, fun w hSw => ok_of fun z hz => ?_⟩, ?_⟩; rotate_left; · (obtain ⟨⟨f0, f1, f2⟩, f3, f4, f5⟩ := HCR.out _ hSw; go_simp; exact hz))
 refine RunOK.done ?_
 try simp only [Act.put, s1, s2, s3, s4, s5, s6]
 refine wpAnyH_done (by kernel_rfl) ?_ _
 try simp only [Act.put, s1, s2, s3, s4, s5, s6]
 simp only [NQ]
 exact hQ _ _ _ _ _ _ _ _ _ _ _ _ _ _ _ _ _ _ _ _ _ _ _ _ _ _ _ _ _ _ _ _ _ _ _ _ _ _ _ hq11
set_option linter.unusedSimpArgs false in
set_option maxRecDepth 100000 in
set_option maxHeartbeats 16000000 in
theorem l12k10 (WL : World) (b1 b2 b3 : Nat) (z5 z6 z7 z8 z9 z10 z11 z12 z13 z14 z15 z16 z17 z18 z19 z20 z21 z22 z23 z24 z25 z26 z27 z28 z29 z30 z31 z32 z33 z34 z35 z36 z37 z38 z39 z40 z41 z42 z43 z44 z45 z46 z47 z48 z49 z50 z51 z52 z53 z54 z55 z56 z57 z58 z59 z60 z61 z62 z63 z64 z65 z66 z67 z68 z69 z70 z71 z72 z73 z74 z75 z76 z77 z78 z79 z80 z81 z82 z83 z84 z85 z86 z87 z88 z89 z90 z91 z92 z93 z94 z95 z96 z97 z98 z99 z100 z101 z102 z103 z104 z105 z106 z107 z108 z109 z110 z111 z112 z113 z114 z115 z116 z117 z118 z119 z120 z121 z122 z123 z124 z125 : Value) (hG : GlobIs WL) (h1 : CartC WL b1 zeroC) (h2 : CartC WL b2 cZ) (h3 : CartC WL b3 zeroC) (R : Act → World → Prop) (hQ : ∀ (y126 y127 y128 y129 y130 y131 y132 y133 y134 y135 y136 y137 y138 y139 y140 y141 y142 y143 y144 y145 y146 y147 y148 y149 y150 y151 y152 y153 : Value) (w : World), Below WL.heap.size WL w → R { tmps := #[.bool true, .pointer (some ⟨b1, 0, none⟩), .pointer (some ⟨b2, 0, none⟩), .pointer (some ⟨b3, 0, none⟩), .int .i64 0, z5, z6, z7, z8, z9, z10, z11, z12, z13, z14, z15, z16, z17, z18, z19, z20, z21, z22, z23, z24, z25, z26, z27, z28, z29, z30, z31, z32, z33, z34, z35, z36, z37, z38, z39, z40, z41, z42, z43, z44, z45, z46, z47, z48, z49, z50, z51, z52, z53, z54, z55, z56, z57, z58, z59, z60, z61, z62, z63, z64, z65, z66, z67, z68, z69, z70, z71, z72, z73, z74, z75, z76, z77, z78, z79, z80, z81, z82, z83, z84, z85, z86, z87, z88, z89, z90, z91, z92, z93, z94, z95, z96, z97, z98, z99, z100, z101, z102, z103, z104, z105, z106, z107, z108, z109, z110, z111, z112, z113, z114, z115, z116, z117, z118, z119, z120, z121, z122, z123, z124, z125, y126, y127, y128, y129, y130, y131, y132, y133, y134, y135, y136, y137, y138, y139, y140, y141, y142, y143, y144, y145, y146, y147, y148, y149, y150, y151, y152, y153], defers := [] } w) :
  (codeAt [1, 1, 1, 1, 1, 1, 1, 0] (Tryz.f10.body.getD .skip)).wp Tryz.prog (NQ R) { tmps := #[.bool false, .pointer (some ⟨b1, 0, none⟩), .pointer (some ⟨b2, 0, none⟩), .pointer (some ⟨b3, 0, none⟩), .int .i64 0, z5, z6, z7, z8, z9, z10, z11, z12, z13, z14, z15, z16, z17, z18, z19, z20, z21, z22, z23, z24, z25, z26, z27, z28, z29, z30, z31, z32, z33, z34, z35, z36, z37, z38, z39, z40, z41, z42, z43, z44, z45, z46, z47, z48, z49, z50, z51, z52, z53, z54, z55, z56, z57, z58, z59, z60, z61, z62, z63, z64, z65, z66, z67, z68, z69, z70, z71, z72, z73, z74, z75, z76, z77, z78, z79, z80, z81, z82, z83, z84, z85, z86, z87, z88, z89, z90, z91, z92, z93, z94, z95, z96, z97, z98, z99, z100, z101, z102, z103, z104, z105, z106, z107, z108, z109, z110, z111, z112, z113, z114, z115, z116, z117, z118, z119, z120, z121, z122, z123, z124, z125, undef, undef, undef, undef, undef, undef, undef, undef, undef, undef, undef, undef, undef, undef, undef, undef, undef, undef, undef, undef, undef, undef, undef, undef, undef, undef, undef, undef], defers := [] } WL := by
 obtain ⟨o1, n1, c1, o2, n2, c2, o3, n3, c3, g1, a1⟩ := h1
 obtain ⟨o4, n4, c4, o5, n5, c5, o6, n6, c6, g2, a2⟩ := h2
 obtain ⟨o7, n7, c7, o8, n8, c8, o9, n9, c9, g3, a3⟩ := h3
 have HC3 := Hd (fun wz (hz : Below WL.heap.size WL wz) => cel3 ((hz.block _ (lt_of_heap g3)).trans g3))
 have HO3 := Hd (fun wz (hz : Below WL.heap.size WL wz) => a3.below hz)
 clear g3 a3
 have HCR := Hd (fun wz (hz : Below WL.heap.size WL wz) => And.intro (cel3 ((hz.block _ (lt_of_heap g1)).trans g1)) (cel3 ((hz.block _ (lt_of_heap g2)).trans g2)))
 have HO := Hd (fun wz (hz : Below WL.heap.size WL wz) => a1.below hz)
 have HZ := Hd (fun wz (hz : Below WL.heap.size WL wz) => a2.below hz)
 have HGL := Hd hG
 clear g1 g2 a1 a2 hG
 simp only [codeAt, codeL, codeR, Tryz.f10, Option.getD_some]
 refine wp_region_held_drew (S := (fun wz => Below WL.heap.size WL wz)) (by kernel_rfl) (bdr) (fun hS => ?_)
 refine tkR (n := 1) [0] rfl (by decide +kernel) hS ?_
 iterate 1 ((try simp only [Act.put, s1, s2, s3, s4, s5, s6]); refine ⟨_, ?_, rfl, Or.inl ⟨by kernel_rfl, fun w hSw => ok_of fun z hz => ?_⟩, ?_⟩; rotate_left; · (obtain ⟨⟨f0, f1, f2⟩, f3, f4, f5⟩ := HCR.out _ hSw; obtain ⟨f6, f7, f8⟩ := HC3.out _ hSw; go_simp; exact hz))
 refine RunOK.done ?_
 try simp only [Act.put, s1, s2, s3, s4, s5, s6]
 refine rd1 1 (by decide +kernel) rfl (fun K hK => ?_)
 go_simp
 go_at_call 25
 have HEE := l12at_any (1) (3) (WL.drew)
 refine HEE.mono ?_
 rintro e q1 ⟨rfl, h0⟩
 clear HEE
 have hq1 := btr (bdr : Below WL.heap.size WL WL.drew) h0
 clear h0
 go_simp
 refine Shut.out hK _ _ (hq1) (fun hS2 => ?_); clear hK K hS; have hS := hS2; clear hS2
 try simp only [Act.put, s1, s2, s3, s4, s5, s6]
 refine rd1 2 (by decide +kernel) rfl (fun K hK => ?_)
 go_simp
 go_at_call 22
 have HEE := deltaFresh_any cZ ⟨1, 3⟩ _ _ _ _ (HZ.out _ hq1) cZ_sz.1 (HGL.out.below hq1)
 rw [dfresh.1] at HEE
 simp only [dotV] at HEE
 refine HEE.mono ?_
 rintro e q2 ⟨rfl, h0⟩
 clear HEE
 have hq2 := btr hq1 h0
 clear h0
 go_simp
 refine Shut.out hK _ _ (hq2) (fun hS2 => ?_); clear hK K hS; have hS := hS2; clear hS2
 try simp only [Act.put, s1, s2, s3, s4, s5, s6]
 refine tkR (n := 2) [3, 4] rfl (by decide +kernel) hS ?_
 iterate 2 ((try simp only [Act.put, s1, s2, s3, s4, s5, s6]); refine ⟨_, ?_, rfl, Or.inl ⟨by kernel_rfl, fun w hSw => ok_of fun z hz => ?_⟩, ?_⟩; rotate_left; · (obtain ⟨⟨f0, f1, f2⟩, f3, f4, f5⟩ := HCR.out _ hSw; obtain ⟨f6, f7, f8⟩ := HC3.out _ hSw; go_simp; exact hz))
 refine RunOK.done ?_
 try simp only [Act.put, s1, s2, s3, s4, s5, s6]
 refine rd1 5 (by decide +kernel) rfl (fun K hK => ?_)
 go_simp
 go_at_call 25
 have HEE := l12at_any (2) (1) (q2)
 refine HEE.mono ?_
 rintro e q3 ⟨rfl, h0⟩
 clear HEE
 have hq3 := btr hq2 h0
 clear h0
 go_simp
 refine Shut.out hK _ _ (hq3) (fun hS2 => ?_); clear hK K hS; have hS := hS2; clear hS2
 try simp only [Act.put, s1, s2, s3, s4, s5, s6]
 refine rd1 6 (by decide +kernel) rfl (fun K hK => ?_)
 go_simp
 go_at_call 22
 have HEE := deltaFresh_any cZ ⟨2, 1⟩ _ _ _ _ (HZ.out _ hq3) cZ_sz.1 (HGL.out.below hq3)
 rw [dfresh.2.1] at HEE
 simp only [dotV] at HEE
 refine HEE.mono ?_
 rintro e q4 ⟨rfl, h0⟩
 clear HEE
 have hq4 := btr hq3 h0
 clear h0
 go_simp
 refine Shut.out hK _ _ (hq4) (fun hS2 => ?_); clear hK K hS; have hS := hS2; clear hS2
 try simp only [Act.put, s1, s2, s3, s4, s5, s6]
 refine tkR (n := 4) [7, 8, 9, 10] rfl (by decide +kernel) hS ?_
 iterate 4 ((try simp only [Act.put, s1, s2, s3, s4, s5, s6]); refine ⟨_, ?_, rfl, Or.inl ⟨by kernel_rfl, fun w hSw => ok_of fun z hz => ?_⟩, ?_⟩; rotate_left; · (obtain ⟨⟨f0, f1, f2⟩, f3, f4, f5⟩ := HCR.out _ hSw; obtain ⟨f6, f7, f8⟩ := HC3.out _ hSw; go_simp; exact hz))
 refine RunOK.done ?_
 try simp only [Act.put, s1, s2, s3, s4, s5, s6]
 refine rd1 11 (by decide +kernel) rfl (fun K hK => ?_)
 go_simp
 go_at_call 25
 have HEE := l12at_any (0) (1) (q4)
 refine HEE.mono ?_
 rintro e q5 ⟨rfl, h0⟩
 clear HEE
 have hq5 := btr hq4 h0
 clear h0
 go_simp
 refine Shut.out hK _ _ (hq5) (fun hS2 => ?_); clear hK K hS; have hS := hS2; clear hS2
 try simp only [Act.put, s1, s2, s3, s4, s5, s6]
 refine rd1 12 (by decide +kernel) rfl (fun K hK => ?_)
 go_simp
 go_at_call 22
 have HEE := deltaFresh_any cZ ⟨0, 1⟩ _ _ _ _ (HZ.out _ hq5) cZ_sz.1 (HGL.out.below hq5)
 rw [dfresh.2.2.1] at HEE
 simp only [dotV] at HEE
 refine HEE.mono ?_
 rintro e q6 ⟨rfl, h0⟩
 clear HEE
 have hq6 := btr hq5 h0
 clear h0
 go_simp
 refine Shut.out hK _ _ (hq6) (fun hS2 => ?_); clear hK K hS; have hS := hS2; clear hS2
 try simp only [Act.put, s1, s2, s3, s4, s5, s6]
 refine tkR (n := 4) [13, 14, 15, 16] rfl (by decide +kernel) hS ?_
 iterate 4 ((try simp only [Act.put, s1, s2, s3, s4, s5, s6]); refine ⟨_, ?_, rfl, Or.inl ⟨by kernel_rfl, fun w hSw => ok_of fun z hz => ?_⟩, ?_⟩; rotate_left; · (obtain ⟨⟨f0, f1, f2⟩, f3, f4, f5⟩ := HCR.out _ hSw; obtain ⟨f6, f7, f8⟩ := HC3.out _ hSw; go_simp; exact hz))
 refine RunOK.done ?_
 try simp only [Act.put, s1, s2, s3, s4, s5, s6]
 refine rd1 17 (by decide +kernel) rfl (fun K hK => ?_)
 go_simp
 go_at_call 20
 have HEE := deltaEmpty_any cZ _ _ _ _ (HZ.out _ hq6)
 rw [dfresh.2.2.2.1] at HEE
 refine HEE.mono ?_
 rintro e q7 ⟨rfl, h0⟩
 clear HEE
 have hq7 := btr hq6 h0
 clear h0
 go_simp
 refine Shut.out hK _ _ (hq7) (fun hS2 => ?_); clear hK K hS; have hS := hS2; clear hS2
 try simp only [Act.put, s1, s2, s3, s4, s5, s6]
 refine tkR (n := 4) [18, 19, 20, 21] rfl (by decide +kernel) hS ?_
 iterate 4 ((try simp only [Act.put, s1, s2, s3, s4, s5, s6]); refine ⟨_, ?_, rfl, Or.inl ⟨by kernel_rfl, fun w hSw => ok_of fun z hz => ?_⟩, ?_⟩; rotate_left; · (obtain ⟨⟨f0, f1, f2⟩, f3, f4, f5⟩ := HCR.out _ hSw; obtain ⟨f6, f7, f8⟩ := HC3.out _ hSw; go_simp; exact hz))
 refine RunOK.done ?_
 try simp only [Act.put, s1, s2, s3, s4, s5, s6]
 refine rd1 22 (by decide +kernel) rfl (fun K hK => ?_)
 go_simp
 go_at_call 20
 have HEE := deltaEmpty_any zeroC _ _ _ _ (HO3.out _ hq7)
 rw [dfresh.2.2.2.2] at HEE
 refine HEE.mono ?_
 rintro e q8 ⟨rfl, h0⟩
 clear HEE
 have hq8 := btr hq7 h0
 clear h0
 go_simp
 refine Shut.out hK _ _ (hq8) (fun hS2 => ?_); clear hK K hS; have hS := hS2; clear hS2
 try simp only [Act.put, s1, s2, s3, s4, s5, s6]
 refine tkR (n := 6) [23, 24, 25, 26, 27, 28] rfl (by decide +kernel) hS ?_
 iterate 6 ((try simp only [Act.put, s1, s2, s3, s4, s5, s6]); refine ⟨_, ?_, rfl, Or.inl ⟨by kernel_rfl, fun w hSw => ok_of fun z hz => ?_⟩, ?_⟩; rotate_left; · (obtain ⟨⟨f0, f1, f2⟩, f3, f4, f5⟩ := HCR.out _ hSw; obtain ⟨f6, f7, f8⟩ := HC3.out _ hSw; go_simp; exact hz))
 refine RunOK.done ?_
 try simp only [Act.put, s1, s2, s3, s4, s5, s6]
 refine wpAnyH_done (by kernel_rfl) ?_ _
 try simp only [Act.put, s1, s2, s3, s4, s5, s6]
 simp only [NQ]
 exact hQ _ _ _ _ _ _ _ _ _ _ _ _ _ _ _ _ _ _ _ _ _ _ _ _ _ _ _ _ _ hq8
end Go.Proofs.YtfnfbcaoihhbpaaGreatDoor
