/- cart.Valid walked. -/
import Derived.Test.YtjoljfnlkddfbaaGreatDoorX3
import Derived.Test.YtjoljfnlkddfbaaGreatDoorIt2
set_option linter.unusedSimpArgs false
set_option linter.unusedVariables false
set_option maxRecDepth 100000
set_option maxHeartbeats 8000000
namespace Go.Proofs.YtjoljfnlkddfbaaGreatDoor
open Go.RowKit Go.Maps Go.Sort Go.Shelf

theorem missing_iff (c : CartD) : (((setD (allDots c.items)).filter (fun d => !hasX c.vec c.cloud d)).length = 0) ↔ (allDots c.items).all (hasC c) = true := by
 rw [List.length_eq_zero_iff, List.filter_eq_nil_iff, List.all_eq_true]
 constructor
 ·intro h d hd
  have := h d ((setD_mem _ _).2 hd)
  show hasX c.vec c.cloud d = true
  simpa using this
 ·intro h d hd
  have := h d ((setD_mem _ _).1 hd)
  have h' : hasX c.vec c.cloud d = true := this
  simp [h']
theorem cartValid_any (c : CartD) (v1 v2 v3 : Value) (w : World) (h : CartA w v1 v2 v3 c) (hl : Lt c.items) (hG : GlobIs w) : Calls Tryz.prog 10 #[.agg #[v1, v2, v3]] w fun e w' => e = .returned (.bool (validC c)) ∧ Below w.heap.size w w' := by
 obtain ⟨o1, k1, rfl⟩ := h.1.slice
 obtain ⟨o2, k2, rfl⟩ := h.2.1.slice
 obtain ⟨o3, k3, rfl⟩ := h.2.2.slice
 obtain ⟨W1, hW1⟩ : ∃ W1, W1 = w.alloc (.cells #[.slice o1 c.vec.length k1, .slice o2 c.cloud.length k2, .slice o3 c.items.length k3] 28) := ⟨_, rfl⟩
 have hb1 : Below w.heap.size w W1 := by rw [hW1]; exact bal
 have hg1 : W1.heap[w.heap.size]? = some (.cells #[.slice o1 c.vec.length k1, .slice o2 c.cloud.length k2, .slice o3 c.items.length k3] 28) := by rw [hW1]; exact alloc_new _ _
 have HC : Hid (∀ wz, Below W1.heap.size W1 wz → wz.cell? ⟨w.heap.size, 0, none⟩ = some (.slice o1 c.vec.length k1) ∧ wz.cell? ⟨w.heap.size, 1, none⟩ = some (.slice o2 c.cloud.length k2) ∧ wz.cell? ⟨w.heap.size, 2, none⟩ = some (.slice o3 c.items.length k3)) := Hd (fun wz hz => ⟨by rw [hz.cell (p := ⟨w.heap.size, 0, none⟩) (lt_of_heap hg1), cell0 hg1 0]; rfl, by rw [hz.cell (p := ⟨w.heap.size, 1, none⟩) (lt_of_heap hg1), cell0 hg1 1]; rfl, by rw [hz.cell (p := ⟨w.heap.size, 2, none⟩) (lt_of_heap hg1), cell0 hg1 2]; rfl⟩)
 have hA1 := h.below hb1
 have hn1 : (setD (allDots c.items)).length ≤ 1000000 := Nat.le_trans (by unfold setD sortD; exact Nat.le_trans (compactD_len _) (by simp)) hl.dots
 have HV1 := Hd ((ctxIsCompact_any c.vec c.cloud _ _ W1.drew (hA1.1.dots bdr) (hA1.2.1.dots bdr)).mono (R' := fun e w' => e = .returned (.bool (compactB c.vec c.cloud)) ∧ Below W1.heap.size W1 w') (fun _ _ ⟨a1, a2⟩ => ⟨a1, bdr.trans a2⟩))
 have HV2 : Hid (∀ wz, Below W1.heap.size W1 wz → Calls Tryz.prog 35 #[.slice o3 c.items.length k3] wz fun e w' => e = .returned (.bool (validI c.items)) ∧ Below wz.heap.size wz w') := Hd (fun wz hz => itemsValid_any c.items _ wz (hA1.2.2.items hz) hl ((hG.below hb1).below hz))
 have HDT : Hid (∀ wz, Below W1.heap.size W1 wz → Calls Tryz.prog 37 #[.slice o3 c.items.length k3] wz fun e w' => ∃ v', e = .returned v' ∧ Arr DotR 2 w' v' (setD (allDots c.items)) ∧ Below wz.heap.size wz w') := Hd (fun wz hz => (itemsDots_any c.items _ wz (hA1.2.2.items hz) hl).mono (fun _ _ ⟨v', a1, a2, a3⟩ => ⟨v', a1, Arr.of_dots a2 (fun x hx => hA1.2.2.itemsI x ((setD_mem _ _).1 hx)), a3⟩))
 have HMI : Hid (∀ wz u, Below W1.heap.size W1 wz → Arr DotR 2 wz u (setD (allDots c.items)) → Calls Tryz.prog 36 #[.agg #[.slice o1 c.vec.length k1, .slice o2 c.cloud.length k2], u] wz fun e w' => ∃ v', e = .returned v' ∧ (∃ o' k', v' = .slice o' ((setD (allDots c.items)).filter (fun d => !hasX c.vec c.cloud d)).length k') ∧ Below wz.heap.size wz w') := Hd (fun wz u hz hu => (ctxMissing_any c.vec c.cloud (setD (allDots c.items)) _ _ u wz (hA1.1.dots hz) (hA1.2.1.dots hz) hu hn1).mono (fun _ _ ⟨v', a1, a2, a3⟩ => ⟨v', a1, (by
  have e : setD (setD (allDots c.items)) = setD (allDots c.items) := setD_of_ss (setD_ss _)
  rw [e] at a2
  exact a2.slice), a3⟩))
 have HVC : Hid (validC c = (compactB c.vec c.cloud && validI c.items && decide (((setD (allDots c.items)).filter (fun d => !hasX c.vec c.cloud d)).length = 0))) := Hd (by
  unfold validC
  congr 1
  rw [Bool.eq_iff_iff, decide_eq_true_iff, missing_iff])
 have HB1 := Hd hb1
 have HW := Hd hW1
 clear h hb1 hW1 hg1 hA1 hG hn1 hl
 obtain ⟨n1, hn1⟩ : ∃ n, n = c.vec.length := ⟨_, rfl⟩
 obtain ⟨n2, hn2⟩ : ∃ n, n = c.cloud.length := ⟨_, rfl⟩
 obtain ⟨n3, hn3⟩ : ∃ n, n = c.items.length := ⟨_, rfl⟩
 obtain ⟨r1, hr1⟩ : ∃ r, r = compactB c.vec c.cloud := ⟨_, rfl⟩
 obtain ⟨r2, hr2⟩ : ∃ r, r = validI c.items := ⟨_, rfl⟩
 rw [← hn1] at HC HV1 HMI HW ⊢
 rw [← hn2] at HC HV1 HMI HW ⊢
 rw [← hn3] at HC HV2 HDT HW ⊢
 rw [← hr1] at HV1 HVC
 rw [← hr2] at HV2 HVC
 clear hn1 hn2 hn3 hr1 hr2
 generalize ((setD (allDots c.items)).filter (fun d => !hasX c.vec c.cloud d)).length = n4 at *
 go_enter Tryz.func10, Tryz.ntmps10
 cases r1 with
 | false =>
  go_upto_region 1 with fail
  rw [← HW.out]
  refine NQ.to ?_
  refine wp_region_held_drew (S := (fun wz => wz.cell? ⟨w.heap.size, 0, none⟩ = some (.slice o1 n1 k1) ∧ wz.cell? ⟨w.heap.size, 1, none⟩ = some (.slice o2 n2 k2) ∧ wz.cell? ⟨w.heap.size, 2, none⟩ = some (.slice o3 n3 k3))) (by kernel_rfl) (HC.out _ bdr) (fun hS => ?_)
  refine tkR (n := 2) [0, 1] rfl (by decide +kernel) hS ?_
  iterate 2 ((try simp only [Act.put, s1, s2, s3, s4, s5, s6]); refine ⟨_, ?_, rfl, Or.inl ⟨by kernel_rfl, fun w hSw => ok_of fun z hz => ?_⟩, ?_⟩; rotate_left; · (obtain ⟨f1, f2, f3⟩ := hSw; go_simp; exact hz))
  refine RunOK.done ?_
  try simp only [Act.put, s1, s2, s3, s4, s5, s6]
  refine rd1 2 (by decide +kernel) rfl (fun K hK => ?_)
  go_simp
  go_at_call 34
  refine HV1.out.mono ?_
  rintro e w2 ⟨rfl, hb2⟩
  go_simp
  refine Shut.out hK _ _ (HC.out w2 hb2) (fun hS2 => ?_); clear hK K hS; have hS := hS2; clear hS2
  refine tkR (n := 16) [3, 4, 5, 6, 7, 8, 9, 10, 11, 12, 13, 14, 15, 16, 17, 18] rfl (by decide +kernel) hS ?_
  ((try simp only [Act.put, s1, s2, s3, s4, s5, s6]); refine ⟨_, ?_, rfl, Or.inl ⟨by kernel_rfl, fun w hSw => ok_of fun z hz => ?_⟩, ?_⟩; rotate_left; · (go_simp; exact hz))
  iterate 3 ((try simp only [Act.put, s1, s2, s3, s4, s5, s6]); refine ⟨_, undef, rfl, Or.inr ⟨by kernel_rfl, rfl⟩, ?_⟩)
  iterate 2 ((try simp only [Act.put, s1, s2, s3, s4, s5, s6]); refine ⟨_, ?_, rfl, Or.inl ⟨by kernel_rfl, fun w hSw => ok_of fun z hz => ?_⟩, ?_⟩; rotate_left; · (go_simp; exact hz))
  iterate 8 ((try simp only [Act.put, s1, s2, s3, s4, s5, s6]); refine ⟨_, undef, rfl, Or.inr ⟨by kernel_rfl, rfl⟩, ?_⟩)
  iterate 2 ((try simp only [Act.put, s1, s2, s3, s4, s5, s6]); refine ⟨_, ?_, rfl, Or.inl ⟨by kernel_rfl, fun w hSw => ok_of fun z hz => ?_⟩, ?_⟩; rotate_left; · (go_simp; exact hz))
  refine RunOK.done ?_
  try simp only [Act.put, s1, s2, s3, s4, s5, s6]
  refine wpAnyH_done (by kernel_rfl) ?_ _
  try simp only [Act.put, s1, s2, s3, s4, s5, s6]
  simp only [NQ]
  have hbf := btr HB1.out hb2
  go_wp2_with fail
  go_ret
  exact ⟨by rw [HVC.out]; rfl, hbf⟩
 | true =>
  cases r2 with
  | false =>
   go_upto_region 1 with fail
   rw [← HW.out]
   refine NQ.to ?_
   refine wp_region_held_drew (S := (fun wz => wz.cell? ⟨w.heap.size, 0, none⟩ = some (.slice o1 n1 k1) ∧ wz.cell? ⟨w.heap.size, 1, none⟩ = some (.slice o2 n2 k2) ∧ wz.cell? ⟨w.heap.size, 2, none⟩ = some (.slice o3 n3 k3))) (by kernel_rfl) (HC.out _ bdr) (fun hS => ?_)
   refine tkR (n := 2) [0, 1] rfl (by decide +kernel) hS ?_
   iterate 2 ((try simp only [Act.put, s1, s2, s3, s4, s5, s6]); refine ⟨_, ?_, rfl, Or.inl ⟨by kernel_rfl, fun w hSw => ok_of fun z hz => ?_⟩, ?_⟩; rotate_left; · (obtain ⟨f1, f2, f3⟩ := hSw; go_simp; exact hz))
   refine RunOK.done ?_
   try simp only [Act.put, s1, s2, s3, s4, s5, s6]
   refine rd1 2 (by decide +kernel) rfl (fun K hK => ?_)
   go_simp
   go_at_call 34
   refine HV1.out.mono ?_
   rintro e w2 ⟨rfl, hb2⟩
   go_simp
   refine Shut.out hK _ _ (HC.out w2 hb2) (fun hS2 => ?_); clear hK K hS; have hS := hS2; clear hS2
   refine tkR (n := 3) [3, 4, 5] rfl (by decide +kernel) hS ?_
   iterate 3 ((try simp only [Act.put, s1, s2, s3, s4, s5, s6]); refine ⟨_, ?_, rfl, Or.inl ⟨by kernel_rfl, fun w hSw => ok_of fun z hz => ?_⟩, ?_⟩; rotate_left; · (obtain ⟨f1, f2, f3⟩ := hSw; go_simp; exact hz))
   refine RunOK.done ?_
   try simp only [Act.put, s1, s2, s3, s4, s5, s6]
   refine rd1 6 (by decide +kernel) rfl (fun K hK => ?_)
   go_simp
   go_at_call 35
   refine (HV2.out w2 hb2).mono ?_
   rintro e w3 ⟨rfl, hb3⟩
   have hb13 := btr hb2 hb3
   go_simp
   refine Shut.out hK _ _ (HC.out w3 hb13) (fun hS2 => ?_); clear hK K hS; have hS := hS2; clear hS2
   refine tkR (n := 12) [7, 8, 9, 10, 11, 12, 13, 14, 15, 16, 17, 18] rfl (by decide +kernel) hS ?_
   iterate 2 ((try simp only [Act.put, s1, s2, s3, s4, s5, s6]); refine ⟨_, ?_, rfl, Or.inl ⟨by kernel_rfl, fun w hSw => ok_of fun z hz => ?_⟩, ?_⟩; rotate_left; · (go_simp; exact hz))
   iterate 8 ((try simp only [Act.put, s1, s2, s3, s4, s5, s6]); refine ⟨_, undef, rfl, Or.inr ⟨by kernel_rfl, rfl⟩, ?_⟩)
   iterate 2 ((try simp only [Act.put, s1, s2, s3, s4, s5, s6]); refine ⟨_, ?_, rfl, Or.inl ⟨by kernel_rfl, fun w hSw => ok_of fun z hz => ?_⟩, ?_⟩; rotate_left; · (go_simp; exact hz))
   refine RunOK.done ?_
   try simp only [Act.put, s1, s2, s3, s4, s5, s6]
   refine wpAnyH_done (by kernel_rfl) ?_ _
   try simp only [Act.put, s1, s2, s3, s4, s5, s6]
   simp only [NQ]
   have hbf := btr HB1.out hb13
   go_wp2_with fail
   go_ret
   exact ⟨by rw [HVC.out]; rfl, hbf⟩
  | true =>
   have HD : Hid (((n4 : Int) == 0) = decide (n4 = 0)) := Hd (by rw [Bool.eq_iff_iff, beq_iff_eq, decide_eq_true_iff]; omega)
   go_upto_region 1 with fail
   rw [← HW.out]
   refine NQ.to ?_
   refine wp_region_held_drew (S := (fun wz => wz.cell? ⟨w.heap.size, 0, none⟩ = some (.slice o1 n1 k1) ∧ wz.cell? ⟨w.heap.size, 1, none⟩ = some (.slice o2 n2 k2) ∧ wz.cell? ⟨w.heap.size, 2, none⟩ = some (.slice o3 n3 k3))) (by kernel_rfl) (HC.out _ bdr) (fun hS => ?_)
   refine tkR (n := 2) [0, 1] rfl (by decide +kernel) hS ?_
   iterate 2 ((try simp only [Act.put, s1, s2, s3, s4, s5, s6]); refine ⟨_, ?_, rfl, Or.inl ⟨by kernel_rfl, fun w hSw => ok_of fun z hz => ?_⟩, ?_⟩; rotate_left; · (obtain ⟨f1, f2, f3⟩ := hSw; go_simp; exact hz))
   refine RunOK.done ?_
   try simp only [Act.put, s1, s2, s3, s4, s5, s6]
   refine rd1 2 (by decide +kernel) rfl (fun K hK => ?_)
   go_simp
   go_at_call 34
   refine HV1.out.mono ?_
   rintro e w2 ⟨rfl, hb2⟩
   go_simp
   refine Shut.out hK _ _ (HC.out w2 hb2) (fun hS2 => ?_); clear hK K hS; have hS := hS2; clear hS2
   refine tkR (n := 3) [3, 4, 5] rfl (by decide +kernel) hS ?_
   iterate 3 ((try simp only [Act.put, s1, s2, s3, s4, s5, s6]); refine ⟨_, ?_, rfl, Or.inl ⟨by kernel_rfl, fun w hSw => ok_of fun z hz => ?_⟩, ?_⟩; rotate_left; · (obtain ⟨f1, f2, f3⟩ := hSw; go_simp; exact hz))
   refine RunOK.done ?_
   try simp only [Act.put, s1, s2, s3, s4, s5, s6]
   refine rd1 6 (by decide +kernel) rfl (fun K hK => ?_)
   go_simp
   go_at_call 35
   refine (HV2.out w2 hb2).mono ?_
   rintro e w3 ⟨rfl, hb3⟩
   have hb13 := btr hb2 hb3
   go_simp
   refine Shut.out hK _ _ (HC.out w3 hb13) (fun hS2 => ?_); clear hK K hS; have hS := hS2; clear hS2
   refine tkR (n := 6) [7, 8, 9, 10, 11, 12] rfl (by decide +kernel) hS ?_
   iterate 6 ((try simp only [Act.put, s1, s2, s3, s4, s5, s6]); refine ⟨_, ?_, rfl, Or.inl ⟨by kernel_rfl, fun w hSw => ok_of fun z hz => ?_⟩, ?_⟩; rotate_left; · (obtain ⟨f1, f2, f3⟩ := hSw; go_simp; exact hz))
   refine RunOK.done ?_
   try simp only [Act.put, s1, s2, s3, s4, s5, s6]
   refine rd1 13 (by decide +kernel) rfl (fun K hK => ?_)
   go_simp
   go_at_call 37
   refine (HDT.out w3 hb13).mono ?_
   rintro e w4 ⟨v4, rfl, ha4, hb4⟩
   have hb14 := btr hb13 hb4
   go_simp
   refine Shut.out hK _ _ (HC.out w4 hb14) (fun hS2 => ?_); clear hK K hS; have hS := hS2; clear hS2
   try simp only [Act.put, s1, s2, s3, s4, s5, s6]
   refine rd1 14 (by decide +kernel) rfl (fun K hK => ?_)
   go_simp
   go_at_call 36
   refine (HMI.out w4 v4 hb14 ha4).mono ?_
   rintro e w5 ⟨v5, rfl, hlen5, hb5⟩
   have hb15 := btr hb14 hb5
   obtain ⟨o5, k5, rfl⟩ := hlen5
   go_simp
   refine Shut.out hK _ _ (HC.out w5 hb15) (fun hS2 => ?_); clear hK K hS; have hS := hS2; clear hS2
   refine tkR (n := 4) [15, 16, 17, 18] rfl (by decide +kernel) hS ?_
   iterate 4 ((try simp only [Act.put, s1, s2, s3, s4, s5, s6]); refine ⟨_, ?_, rfl, Or.inl ⟨by kernel_rfl, fun w hSw => ok_of fun z hz => ?_⟩, ?_⟩; rotate_left; · (go_simp; exact hz))
   refine RunOK.done ?_
   try simp only [Act.put, s1, s2, s3, s4, s5, s6]
   refine wpAnyH_done (by kernel_rfl) ?_ _
   try simp only [Act.put, s1, s2, s3, s4, s5, s6]
   simp only [NQ]
   have hbf := btr HB1.out hb15
   clear hS
   by_cases h4 : n4 = 0
   ·subst h4
    go_wp2_with fail
    go_ret
    exact ⟨by rw [HVC.out]; rfl, hbf⟩
   ·have t4 : ((n4 : Int) == 0) = false := by rw [HD.out]; exact decide_eq_false h4
    have HV0 : Hid (validC c = false) := Hd (by rw [HVC.out, decide_eq_false h4]; rfl)
    go_wp2_with fail
    go_ret
    exact ⟨by rw [HV0.out]; simp [h4], hbf⟩
end Go.Proofs.YtjoljfnlkddfbaaGreatDoor

