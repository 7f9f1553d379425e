/- cart.Valid walked. -/
import Derived.Test.YtemfaojmelljpaaGreatDoorX3
import Derived.Test.YtemfaojmelljpaaGreatDoorIt2
namespace Go.Proofs.YtemfaojmelljpaaGreatDoor
open Go.RowKit Go.Maps Go.Sort Go.Shelf

theorem missing_iff (c : CartD) : (((setD (allDots c.items)).filter (fun d => !hasX c.vec c.cloud d)).length = 0) ↔ (allDots c.items).all (hasC c) = true := by
  rw [List.length_eq_zero_iff, List.filter_eq_nil_iff, List.all_eq_true]
  constructor
  · intro h d hd
    have := h d ((setD_mem _ _).2 hd)
    show hasX c.vec c.cloud d = true
    simpa using this
  · intro h d hd
    have := h d ((setD_mem _ _).1 hd)
    have h' : hasX c.vec c.cloud d = true := this
    simp [h']
set_option linter.unusedSimpArgs false in
set_option maxRecDepth 100000 in
set_option maxHeartbeats 8000000 in
theorem cartValid_any (c : CartD) (v1 v2 v3 : Value) (w : World) (h : CartA w v1 v2 v3 c) (hl : Lt c.items) (hG : GlobIs w) : Calls Tryz.prog 23 #[.agg #[v1, v2, v3]] w fun e w' => e = .returned (.bool (validC c)) ∧ Below w.heap.size w w' := by
  obtain ⟨o1, k1, rfl⟩ := h.1.slice
  obtain ⟨o2, k2, rfl⟩ := h.2.1.slice
  obtain ⟨o3, k3, rfl⟩ := h.2.2.slice
  obtain ⟨W1, hW1⟩ : ∃ W1, W1 = w.alloc (.cells #[.slice o1 c.vec.length k1, .slice o2 c.cloud.length k2, .slice o3 c.items.length k3] 28) := ⟨_, rfl⟩
  have hb1 : Below w.heap.size w W1 := by rw [hW1]; exact (Below.refl _ _).alloc (Nat.le_refl _) _
  have hg1 : W1.heap[w.heap.size]? = some (.cells #[.slice o1 c.vec.length k1, .slice o2 c.cloud.length k2, .slice o3 c.items.length k3] 28) := by rw [hW1]; exact alloc_new _ _
  have HC : Hid (∀ wz, Below W1.heap.size W1 wz → wz.cell? ⟨w.heap.size, 0, none⟩ = some (.slice o1 c.vec.length k1) ∧ wz.cell? ⟨w.heap.size, 1, none⟩ = some (.slice o2 c.cloud.length k2) ∧ wz.cell? ⟨w.heap.size, 2, none⟩ = some (.slice o3 c.items.length k3)) := Lib.hid (fun wz hz => ⟨by rw [hz.cell (p := ⟨w.heap.size, 0, none⟩) (lt_of_heap hg1), cell0 hg1 0]; rfl, by rw [hz.cell (p := ⟨w.heap.size, 1, none⟩) (lt_of_heap hg1), cell0 hg1 1]; rfl, by rw [hz.cell (p := ⟨w.heap.size, 2, none⟩) (lt_of_heap hg1), cell0 hg1 2]; rfl⟩)
  have hA1 := h.below hb1
  have hn1 : (setD (allDots c.items)).length ≤ 1000000 := Nat.le_trans (by unfold setD sortD; exact Nat.le_trans (compactD_len _) (by simp)) hl.dots
  have HV1 := Lib.hid ((ctxIsCompact_any c.vec c.cloud _ _ W1.drew (hA1.1.dots (below_drew1 (Below.refl _ _))) (hA1.2.1.dots (below_drew1 (Below.refl _ _)))).mono (R' := fun e w' => e = .returned (.bool (compactB c.vec c.cloud)) ∧ Below W1.heap.size W1 w') (fun _ _ ⟨a1, a2⟩ => ⟨a1, (below_drew1 (Below.refl _ _)).trans a2⟩))
  have HV2 : Hid (∀ wz, Below W1.heap.size W1 wz → Calls Tryz.prog 51 #[.slice o3 c.items.length k3] wz fun e w' => e = .returned (.bool (validI c.items)) ∧ Below wz.heap.size wz w') := Lib.hid (fun wz hz => itemsValid_any c.items _ wz (hA1.2.2.items hz) hl ((hG.below hb1).below hz))
  have HDT : Hid (∀ wz, Below W1.heap.size W1 wz → Calls Tryz.prog 53 #[.slice o3 c.items.length k3] wz fun e w' => ∃ v', e = .returned v' ∧ Arr DotR 2 w' v' (setD (allDots c.items)) ∧ Below wz.heap.size wz w') := Lib.hid (fun wz hz => (itemsDots_any c.items _ wz (hA1.2.2.items hz) hl).mono (fun _ _ ⟨v', a1, a2, a3⟩ => ⟨v', a1, Arr.of_dots a2 (fun x hx => hA1.2.2.itemsI x ((setD_mem _ _).1 hx)), a3⟩))
  have HMI : Hid (∀ wz u, Below W1.heap.size W1 wz → Arr DotR 2 wz u (setD (allDots c.items)) → Calls Tryz.prog 52 #[.agg #[.slice o1 c.vec.length k1, .slice o2 c.cloud.length k2], u] wz fun e w' => ∃ v', e = .returned v' ∧ (∃ o' k', v' = .slice o' ((setD (allDots c.items)).filter (fun d => !hasX c.vec c.cloud d)).length k') ∧ Below wz.heap.size wz w') := Lib.hid (fun wz u hz hu => (ctxMissing_any c.vec c.cloud (setD (allDots c.items)) _ _ u wz (hA1.1.dots hz) (hA1.2.1.dots hz) hu hn1).mono (fun _ _ ⟨v', a1, a2, a3⟩ => ⟨v', a1, (by
    have e : setD (setD (allDots c.items)) = setD (allDots c.items) := setD_of_ss (setD_ss _)
    rw [e] at a2
    exact a2.slice), a3⟩))
  have HVC : Hid (validC c = (compactB c.vec c.cloud && validI c.items && decide (((setD (allDots c.items)).filter (fun d => !hasX c.vec c.cloud d)).length = 0))) := Lib.hid (by
    unfold validC
    congr 1
    rw [Bool.eq_iff_iff, decide_eq_true_iff, missing_iff])
  have HB1 := Lib.hid hb1
  have HW := Lib.hid hW1
  clear h hb1 hW1 hg1 hA1 hG hn1 hl
  obtain ⟨n1, hn1⟩ : ∃ n, n = c.vec.length := ⟨_, rfl⟩
  obtain ⟨n2, hn2⟩ : ∃ n, n = c.cloud.length := ⟨_, rfl⟩
  obtain ⟨n3, hn3⟩ : ∃ n, n = c.items.length := ⟨_, rfl⟩
  obtain ⟨r1, hr1⟩ : ∃ r, r = compactB c.vec c.cloud := ⟨_, rfl⟩
  obtain ⟨r2, hr2⟩ : ∃ r, r = validI c.items := ⟨_, rfl⟩
  rw [← hn1] at HC HV1 HMI HW ⊢
  rw [← hn2] at HC HV1 HMI HW ⊢
  rw [← hn3] at HC HV2 HDT HW ⊢
  rw [← hr1] at HV1 HVC
  rw [← hr2] at HV2 HVC
  clear hn1 hn2 hn3 hr1 hr2
  generalize ((setD (allDots c.items)).filter (fun d => !hasX c.vec c.cloud d)).length = n4 at *
  go_enter Tryz.func23, Tryz.ntmps23
  cases r1 with
  | false =>
    go_upto_region 1 with fail
    rw [← HW.out]
    refine NQ.to ?_
    refine wp_region_held_drew (S := (fun wz => wz.cell? ⟨w.heap.size, 0, none⟩ = some (.slice o1 n1 k1) ∧ wz.cell? ⟨w.heap.size, 1, none⟩ = some (.slice o2 n2 k2) ∧ wz.cell? ⟨w.heap.size, 2, none⟩ = some (.slice o3 n3 k3))) (by kernel_rfl) (HC.out _ (below_drew1 (Below.refl _ _))) (fun hS => ?_)
    try simp only [Act.put, s1, s2, s3, List.getElem_toArray, List.getElem_cons_succ, List.getElem_cons_zero]
    refine tkN (i := 0) (v := ?v1) rfl (by decide +kernel) (Or.inl ⟨by kernel_rfl, fun w hSw => ok_of fun z hz => ?h1⟩) hS ?_; (case h1 => (go_simp; exact hz))
    try simp only [Act.put, s1, s2, s3, List.getElem_toArray, List.getElem_cons_succ, List.getElem_cons_zero]
    refine tkN (i := 1) (v := ?v2) rfl (by decide +kernel) (Or.inl ⟨by kernel_rfl, fun w hSw => ok_of fun z hz => ?h2⟩) hS ?_; (case h2 => (obtain ⟨f1, f2, f3⟩ := hSw; go_simp; exact hz))
    try simp only [Act.put, s1, s2, s3, List.getElem_toArray, List.getElem_cons_succ, List.getElem_cons_zero]
    refine wpAnyH_ready (rs := [2]) (by decide +kernel) (by simp) ?_
    refine (AllReadyH.cons rfl (fun K hK => ?_) AllReadyH.nil)
    go_simp
    go_at_call 50
    refine HV1.out.mono ?_
    rintro e w2 ⟨rfl, hb2⟩
    go_simp
    refine Shut.out hK _ _ (HC.out w2 hb2) (fun hS2 => ?_)
    clear hK K hS
    have hS := hS2
    clear hS2
    try simp only [Act.put, s1, s2, s3, List.getElem_toArray, List.getElem_cons_succ, List.getElem_cons_zero]
    refine tkN (i := 3) (v := ?v3) rfl (by decide +kernel) (Or.inl ⟨by kernel_rfl, fun w hSw => ok_of fun z hz => ?h3⟩) hS ?_; (case h3 => (go_simp; exact hz))
    try simp only [Act.put, s1, s2, s3, List.getElem_toArray, List.getElem_cons_succ, List.getElem_cons_zero]
    refine tkN (i := 4) (v := undef) rfl (by decide +kernel) (Or.inr ⟨by kernel_rfl, rfl⟩) hS ?_
    try simp only [Act.put, s1, s2, s3, List.getElem_toArray, List.getElem_cons_succ, List.getElem_cons_zero]
    refine tkN (i := 5) (v := undef) rfl (by decide +kernel) (Or.inr ⟨by kernel_rfl, rfl⟩) hS ?_
    try simp only [Act.put, s1, s2, s3, List.getElem_toArray, List.getElem_cons_succ, List.getElem_cons_zero]
    refine tkN (i := 6) (v := undef) rfl (by decide +kernel) (Or.inr ⟨by kernel_rfl, rfl⟩) hS ?_
    try simp only [Act.put, s1, s2, s3, List.getElem_toArray, List.getElem_cons_succ, List.getElem_cons_zero]
    refine tkN (i := 7) (v := ?v4) rfl (by decide +kernel) (Or.inl ⟨by kernel_rfl, fun w hSw => ok_of fun z hz => ?h4⟩) hS ?_; (case h4 => (go_simp; exact hz))
    try simp only [Act.put, s1, s2, s3, List.getElem_toArray, List.getElem_cons_succ, List.getElem_cons_zero]
    refine tkN (i := 8) (v := ?v5) rfl (by decide +kernel) (Or.inl ⟨by kernel_rfl, fun w hSw => ok_of fun z hz => ?h5⟩) hS ?_; (case h5 => (go_simp; exact hz))
    try simp only [Act.put, s1, s2, s3, List.getElem_toArray, List.getElem_cons_succ, List.getElem_cons_zero]
    refine tkN (i := 9) (v := undef) rfl (by decide +kernel) (Or.inr ⟨by kernel_rfl, rfl⟩) hS ?_
    try simp only [Act.put, s1, s2, s3, List.getElem_toArray, List.getElem_cons_succ, List.getElem_cons_zero]
    refine tkN (i := 10) (v := undef) rfl (by decide +kernel) (Or.inr ⟨by kernel_rfl, rfl⟩) hS ?_
    try simp only [Act.put, s1, s2, s3, List.getElem_toArray, List.getElem_cons_succ, List.getElem_cons_zero]
    refine tkN (i := 11) (v := undef) rfl (by decide +kernel) (Or.inr ⟨by kernel_rfl, rfl⟩) hS ?_
    try simp only [Act.put, s1, s2, s3, List.getElem_toArray, List.getElem_cons_succ, List.getElem_cons_zero]
    refine tkN (i := 12) (v := undef) rfl (by decide +kernel) (Or.inr ⟨by kernel_rfl, rfl⟩) hS ?_
    try simp only [Act.put, s1, s2, s3, List.getElem_toArray, List.getElem_cons_succ, List.getElem_cons_zero]
    refine tkN (i := 13) (v := undef) rfl (by decide +kernel) (Or.inr ⟨by kernel_rfl, rfl⟩) hS ?_
    try simp only [Act.put, s1, s2, s3, List.getElem_toArray, List.getElem_cons_succ, List.getElem_cons_zero]
    refine tkN (i := 14) (v := undef) rfl (by decide +kernel) (Or.inr ⟨by kernel_rfl, rfl⟩) hS ?_
    try simp only [Act.put, s1, s2, s3, List.getElem_toArray, List.getElem_cons_succ, List.getElem_cons_zero]
    refine tkN (i := 15) (v := undef) rfl (by decide +kernel) (Or.inr ⟨by kernel_rfl, rfl⟩) hS ?_
    try simp only [Act.put, s1, s2, s3, List.getElem_toArray, List.getElem_cons_succ, List.getElem_cons_zero]
    refine tkN (i := 16) (v := undef) rfl (by decide +kernel) (Or.inr ⟨by kernel_rfl, rfl⟩) hS ?_
    try simp only [Act.put, s1, s2, s3, List.getElem_toArray, List.getElem_cons_succ, List.getElem_cons_zero]
    refine tkN (i := 17) (v := ?v6) rfl (by decide +kernel) (Or.inl ⟨by kernel_rfl, fun w hSw => ok_of fun z hz => ?h6⟩) hS ?_; (case h6 => (go_simp; exact hz))
    try simp only [Act.put, s1, s2, s3, List.getElem_toArray, List.getElem_cons_succ, List.getElem_cons_zero]
    refine tkN (i := 18) (v := ?v7) rfl (by decide +kernel) (Or.inl ⟨by kernel_rfl, fun w hSw => ok_of fun z hz => ?h7⟩) hS ?_; (case h7 => (go_simp; exact hz))
    try simp only [Act.put, s1, s2, s3, List.getElem_toArray, List.getElem_cons_succ, List.getElem_cons_zero]
    refine wpAnyH_done (by kernel_rfl) ?_ _
    try simp only [Act.put, s1, s2, s3, List.getElem_toArray, List.getElem_cons_succ, List.getElem_cons_zero]
    simp only [NQ]
    have hbf := HB1.out.trans (hb2.mono HB1.out.size)
    go_wp2_with fail
    go_ret
    exact ⟨by rw [HVC.out]; rfl, hbf⟩
  | true =>
    cases r2 with
    | false =>
      go_upto_region 1 with fail
      rw [← HW.out]
      refine NQ.to ?_
      refine wp_region_held_drew (S := (fun wz => wz.cell? ⟨w.heap.size, 0, none⟩ = some (.slice o1 n1 k1) ∧ wz.cell? ⟨w.heap.size, 1, none⟩ = some (.slice o2 n2 k2) ∧ wz.cell? ⟨w.heap.size, 2, none⟩ = some (.slice o3 n3 k3))) (by kernel_rfl) (HC.out _ (below_drew1 (Below.refl _ _))) (fun hS => ?_)
      try simp only [Act.put, s1, s2, s3, List.getElem_toArray, List.getElem_cons_succ, List.getElem_cons_zero]
      refine tkN (i := 0) (v := ?v8) rfl (by decide +kernel) (Or.inl ⟨by kernel_rfl, fun w hSw => ok_of fun z hz => ?h8⟩) hS ?_; (case h8 => (go_simp; exact hz))
      try simp only [Act.put, s1, s2, s3, List.getElem_toArray, List.getElem_cons_succ, List.getElem_cons_zero]
      refine tkN (i := 1) (v := ?v9) rfl (by decide +kernel) (Or.inl ⟨by kernel_rfl, fun w hSw => ok_of fun z hz => ?h9⟩) hS ?_; (case h9 => (obtain ⟨f1, f2, f3⟩ := hSw; go_simp; exact hz))
      try simp only [Act.put, s1, s2, s3, List.getElem_toArray, List.getElem_cons_succ, List.getElem_cons_zero]
      refine wpAnyH_ready (rs := [2]) (by decide +kernel) (by simp) ?_
      refine (AllReadyH.cons rfl (fun K hK => ?_) AllReadyH.nil)
      go_simp
      go_at_call 50
      refine HV1.out.mono ?_
      rintro e w2 ⟨rfl, hb2⟩
      go_simp
      refine Shut.out hK _ _ (HC.out w2 hb2) (fun hS2 => ?_)
      clear hK K hS
      have hS := hS2
      clear hS2
      try simp only [Act.put, s1, s2, s3, List.getElem_toArray, List.getElem_cons_succ, List.getElem_cons_zero]
      refine tkN (i := 3) (v := ?v10) rfl (by decide +kernel) (Or.inl ⟨by kernel_rfl, fun w hSw => ok_of fun z hz => ?h10⟩) hS ?_; (case h10 => (go_simp; exact hz))
      try simp only [Act.put, s1, s2, s3, List.getElem_toArray, List.getElem_cons_succ, List.getElem_cons_zero]
      refine tkN (i := 4) (v := ?v11) rfl (by decide +kernel) (Or.inl ⟨by kernel_rfl, fun w hSw => ok_of fun z hz => ?h11⟩) hS ?_; (case h11 => (go_simp; exact hz))
      try simp only [Act.put, s1, s2, s3, List.getElem_toArray, List.getElem_cons_succ, List.getElem_cons_zero]
      refine tkN (i := 5) (v := ?v12) rfl (by decide +kernel) (Or.inl ⟨by kernel_rfl, fun w hSw => ok_of fun z hz => ?h12⟩) hS ?_; (case h12 => (obtain ⟨f1, f2, f3⟩ := hSw; go_simp; exact hz))
      try simp only [Act.put, s1, s2, s3, List.getElem_toArray, List.getElem_cons_succ, List.getElem_cons_zero]
      refine wpAnyH_ready (rs := [6]) (by decide +kernel) (by simp) ?_
      refine (AllReadyH.cons rfl (fun K hK => ?_) AllReadyH.nil)
      go_simp
      go_at_call 51
      refine (HV2.out w2 hb2).mono ?_
      rintro e w3 ⟨rfl, hb3⟩
      have hb13 := hb2.trans (hb3.mono hb2.size)
      go_simp
      refine Shut.out hK _ _ (HC.out w3 hb13) (fun hS2 => ?_)
      clear hK K hS
      have hS := hS2
      clear hS2
      try simp only [Act.put, s1, s2, s3, List.getElem_toArray, List.getElem_cons_succ, List.getElem_cons_zero]
      refine tkN (i := 7) (v := ?v13) rfl (by decide +kernel) (Or.inl ⟨by kernel_rfl, fun w hSw => ok_of fun z hz => ?h13⟩) hS ?_; (case h13 => (go_simp; exact hz))
      try simp only [Act.put, s1, s2, s3, List.getElem_toArray, List.getElem_cons_succ, List.getElem_cons_zero]
      refine tkN (i := 8) (v := ?v14) rfl (by decide +kernel) (Or.inl ⟨by kernel_rfl, fun w hSw => ok_of fun z hz => ?h14⟩) hS ?_; (case h14 => (go_simp; exact hz))
      try simp only [Act.put, s1, s2, s3, List.getElem_toArray, List.getElem_cons_succ, List.getElem_cons_zero]
      refine tkN (i := 9) (v := undef) rfl (by decide +kernel) (Or.inr ⟨by kernel_rfl, rfl⟩) hS ?_
      try simp only [Act.put, s1, s2, s3, List.getElem_toArray, List.getElem_cons_succ, List.getElem_cons_zero]
      refine tkN (i := 10) (v := undef) rfl (by decide +kernel) (Or.inr ⟨by kernel_rfl, rfl⟩) hS ?_
      try simp only [Act.put, s1, s2, s3, List.getElem_toArray, List.getElem_cons_succ, List.getElem_cons_zero]
      refine tkN (i := 11) (v := undef) rfl (by decide +kernel) (Or.inr ⟨by kernel_rfl, rfl⟩) hS ?_
      try simp only [Act.put, s1, s2, s3, List.getElem_toArray, List.getElem_cons_succ, List.getElem_cons_zero]
      refine tkN (i := 12) (v := undef) rfl (by decide +kernel) (Or.inr ⟨by kernel_rfl, rfl⟩) hS ?_
      try simp only [Act.put, s1, s2, s3, List.getElem_toArray, List.getElem_cons_succ, List.getElem_cons_zero]
      refine tkN (i := 13) (v := undef) rfl (by decide +kernel) (Or.inr ⟨by kernel_rfl, rfl⟩) hS ?_
      try simp only [Act.put, s1, s2, s3, List.getElem_toArray, List.getElem_cons_succ, List.getElem_cons_zero]
      refine tkN (i := 14) (v := undef) rfl (by decide +kernel) (Or.inr ⟨by kernel_rfl, rfl⟩) hS ?_
      try simp only [Act.put, s1, s2, s3, List.getElem_toArray, List.getElem_cons_succ, List.getElem_cons_zero]
      refine tkN (i := 15) (v := undef) rfl (by decide +kernel) (Or.inr ⟨by kernel_rfl, rfl⟩) hS ?_
      try simp only [Act.put, s1, s2, s3, List.getElem_toArray, List.getElem_cons_succ, List.getElem_cons_zero]
      refine tkN (i := 16) (v := undef) rfl (by decide +kernel) (Or.inr ⟨by kernel_rfl, rfl⟩) hS ?_
      try simp only [Act.put, s1, s2, s3, List.getElem_toArray, List.getElem_cons_succ, List.getElem_cons_zero]
      refine tkN (i := 17) (v := ?v15) rfl (by decide +kernel) (Or.inl ⟨by kernel_rfl, fun w hSw => ok_of fun z hz => ?h15⟩) hS ?_; (case h15 => (go_simp; exact hz))
      try simp only [Act.put, s1, s2, s3, List.getElem_toArray, List.getElem_cons_succ, List.getElem_cons_zero]
      refine tkN (i := 18) (v := ?v16) rfl (by decide +kernel) (Or.inl ⟨by kernel_rfl, fun w hSw => ok_of fun z hz => ?h16⟩) hS ?_; (case h16 => (go_simp; exact hz))
      try simp only [Act.put, s1, s2, s3, List.getElem_toArray, List.getElem_cons_succ, List.getElem_cons_zero]
      refine wpAnyH_done (by kernel_rfl) ?_ _
      try simp only [Act.put, s1, s2, s3, List.getElem_toArray, List.getElem_cons_succ, List.getElem_cons_zero]
      simp only [NQ]
      have hbf := HB1.out.trans (hb13.mono HB1.out.size)
      go_wp2_with fail
      go_ret
      exact ⟨by rw [HVC.out]; rfl, hbf⟩
    | true =>
      have HD : Hid (((n4 : Int) == 0) = decide (n4 = 0)) := Lib.hid (by rw [Bool.eq_iff_iff, beq_iff_eq, decide_eq_true_iff]; omega)
      go_upto_region 1 with fail
      rw [← HW.out]
      refine NQ.to ?_
      refine wp_region_held_drew (S := (fun wz => wz.cell? ⟨w.heap.size, 0, none⟩ = some (.slice o1 n1 k1) ∧ wz.cell? ⟨w.heap.size, 1, none⟩ = some (.slice o2 n2 k2) ∧ wz.cell? ⟨w.heap.size, 2, none⟩ = some (.slice o3 n3 k3))) (by kernel_rfl) (HC.out _ (below_drew1 (Below.refl _ _))) (fun hS => ?_)
      try simp only [Act.put, s1, s2, s3, List.getElem_toArray, List.getElem_cons_succ, List.getElem_cons_zero]
      refine tkN (i := 0) (v := ?v17) rfl (by decide +kernel) (Or.inl ⟨by kernel_rfl, fun w hSw => ok_of fun z hz => ?h17⟩) hS ?_; (case h17 => (go_simp; exact hz))
      try simp only [Act.put, s1, s2, s3, List.getElem_toArray, List.getElem_cons_succ, List.getElem_cons_zero]
      refine tkN (i := 1) (v := ?v18) rfl (by decide +kernel) (Or.inl ⟨by kernel_rfl, fun w hSw => ok_of fun z hz => ?h18⟩) hS ?_; (case h18 => (obtain ⟨f1, f2, f3⟩ := hSw; go_simp; exact hz))
      try simp only [Act.put, s1, s2, s3, List.getElem_toArray, List.getElem_cons_succ, List.getElem_cons_zero]
      refine wpAnyH_ready (rs := [2]) (by decide +kernel) (by simp) ?_
      refine (AllReadyH.cons rfl (fun K hK => ?_) AllReadyH.nil)
      go_simp
      go_at_call 50
      refine HV1.out.mono ?_
      rintro e w2 ⟨rfl, hb2⟩
      go_simp
      refine Shut.out hK _ _ (HC.out w2 hb2) (fun hS2 => ?_)
      clear hK K hS
      have hS := hS2
      clear hS2
      try simp only [Act.put, s1, s2, s3, List.getElem_toArray, List.getElem_cons_succ, List.getElem_cons_zero]
      refine tkN (i := 3) (v := ?v19) rfl (by decide +kernel) (Or.inl ⟨by kernel_rfl, fun w hSw => ok_of fun z hz => ?h19⟩) hS ?_; (case h19 => (go_simp; exact hz))
      try simp only [Act.put, s1, s2, s3, List.getElem_toArray, List.getElem_cons_succ, List.getElem_cons_zero]
      refine tkN (i := 4) (v := ?v20) rfl (by decide +kernel) (Or.inl ⟨by kernel_rfl, fun w hSw => ok_of fun z hz => ?h20⟩) hS ?_; (case h20 => (go_simp; exact hz))
      try simp only [Act.put, s1, s2, s3, List.getElem_toArray, List.getElem_cons_succ, List.getElem_cons_zero]
      refine tkN (i := 5) (v := ?v21) rfl (by decide +kernel) (Or.inl ⟨by kernel_rfl, fun w hSw => ok_of fun z hz => ?h21⟩) hS ?_; (case h21 => (obtain ⟨f1, f2, f3⟩ := hSw; go_simp; exact hz))
      try simp only [Act.put, s1, s2, s3, List.getElem_toArray, List.getElem_cons_succ, List.getElem_cons_zero]
      refine wpAnyH_ready (rs := [6]) (by decide +kernel) (by simp) ?_
      refine (AllReadyH.cons rfl (fun K hK => ?_) AllReadyH.nil)
      go_simp
      go_at_call 51
      refine (HV2.out w2 hb2).mono ?_
      rintro e w3 ⟨rfl, hb3⟩
      have hb13 := hb2.trans (hb3.mono hb2.size)
      go_simp
      refine Shut.out hK _ _ (HC.out w3 hb13) (fun hS2 => ?_)
      clear hK K hS
      have hS := hS2
      clear hS2
      try simp only [Act.put, s1, s2, s3, List.getElem_toArray, List.getElem_cons_succ, List.getElem_cons_zero]
      refine tkN (i := 7) (v := ?v22) rfl (by decide +kernel) (Or.inl ⟨by kernel_rfl, fun w hSw => ok_of fun z hz => ?h22⟩) hS ?_; (case h22 => (go_simp; exact hz))
      try simp only [Act.put, s1, s2, s3, List.getElem_toArray, List.getElem_cons_succ, List.getElem_cons_zero]
      refine tkN (i := 8) (v := ?v23) rfl (by decide +kernel) (Or.inl ⟨by kernel_rfl, fun w hSw => ok_of fun z hz => ?h23⟩) hS ?_; (case h23 => (go_simp; exact hz))
      try simp only [Act.put, s1, s2, s3, List.getElem_toArray, List.getElem_cons_succ, List.getElem_cons_zero]
      refine tkN (i := 9) (v := ?v24) rfl (by decide +kernel) (Or.inl ⟨by kernel_rfl, fun w hSw => ok_of fun z hz => ?h24⟩) hS ?_; (case h24 => (go_simp; exact hz))
      try simp only [Act.put, s1, s2, s3, List.getElem_toArray, List.getElem_cons_succ, List.getElem_cons_zero]
      refine tkN (i := 10) (v := ?v25) rfl (by decide +kernel) (Or.inl ⟨by kernel_rfl, fun w hSw => ok_of fun z hz => ?h25⟩) hS ?_; (case h25 => (obtain ⟨f1, f2, f3⟩ := hSw; go_simp; exact hz))
      try simp only [Act.put, s1, s2, s3, List.getElem_toArray, List.getElem_cons_succ, List.getElem_cons_zero]
      refine tkN (i := 11) (v := ?v26) rfl (by decide +kernel) (Or.inl ⟨by kernel_rfl, fun w hSw => ok_of fun z hz => ?h26⟩) hS ?_; (case h26 => (go_simp; exact hz))
      try simp only [Act.put, s1, s2, s3, List.getElem_toArray, List.getElem_cons_succ, List.getElem_cons_zero]
      refine tkN (i := 12) (v := ?v27) rfl (by decide +kernel) (Or.inl ⟨by kernel_rfl, fun w hSw => ok_of fun z hz => ?h27⟩) hS ?_; (case h27 => (obtain ⟨f1, f2, f3⟩ := hSw; go_simp; exact hz))
      try simp only [Act.put, s1, s2, s3, List.getElem_toArray, List.getElem_cons_succ, List.getElem_cons_zero]
      refine wpAnyH_ready (rs := [13]) (by decide +kernel) (by simp) ?_
      refine (AllReadyH.cons rfl (fun K hK => ?_) AllReadyH.nil)
      go_simp
      go_at_call 53
      refine (HDT.out w3 hb13).mono ?_
      rintro e w4 ⟨v4, rfl, ha4, hb4⟩
      have hb14 := hb13.trans (hb4.mono hb13.size)
      go_simp
      refine Shut.out hK _ _ (HC.out w4 hb14) (fun hS2 => ?_)
      clear hK K hS
      have hS := hS2
      clear hS2
      try simp only [Act.put, s1, s2, s3, List.getElem_toArray, List.getElem_cons_succ, List.getElem_cons_zero]
      refine wpAnyH_ready (rs := [14]) (by decide +kernel) (by simp) ?_
      refine (AllReadyH.cons rfl (fun K hK => ?_) AllReadyH.nil)
      go_simp
      go_at_call 52
      refine (HMI.out w4 v4 hb14 ha4).mono ?_
      rintro e w5 ⟨v5, rfl, hlen5, hb5⟩
      have hb15 := hb14.trans (hb5.mono hb14.size)
      obtain ⟨o5, k5, rfl⟩ := hlen5
      go_simp
      refine Shut.out hK _ _ (HC.out w5 hb15) (fun hS2 => ?_)
      clear hK K hS
      have hS := hS2
      clear hS2
      try simp only [Act.put, s1, s2, s3, List.getElem_toArray, List.getElem_cons_succ, List.getElem_cons_zero]
      refine tkN (i := 15) (v := ?v28) rfl (by decide +kernel) (Or.inl ⟨by kernel_rfl, fun w hSw => ok_of fun z hz => ?h28⟩) hS ?_; (case h28 => (go_simp; exact hz))
      try simp only [Act.put, s1, s2, s3, List.getElem_toArray, List.getElem_cons_succ, List.getElem_cons_zero]
      refine tkN (i := 16) (v := ?v29) rfl (by decide +kernel) (Or.inl ⟨by kernel_rfl, fun w hSw => ok_of fun z hz => ?h29⟩) hS ?_; (case h29 => (go_simp; exact hz))
      try simp only [Act.put, s1, s2, s3, List.getElem_toArray, List.getElem_cons_succ, List.getElem_cons_zero]
      refine tkN (i := 17) (v := ?v30) rfl (by decide +kernel) (Or.inl ⟨by kernel_rfl, fun w hSw => ok_of fun z hz => ?h30⟩) hS ?_; (case h30 => (go_simp; exact hz))
      try simp only [Act.put, s1, s2, s3, List.getElem_toArray, List.getElem_cons_succ, List.getElem_cons_zero]
      refine tkN (i := 18) (v := ?v31) rfl (by decide +kernel) (Or.inl ⟨by kernel_rfl, fun w hSw => ok_of fun z hz => ?h31⟩) hS ?_; (case h31 => (go_simp; exact hz))
      try simp only [Act.put, s1, s2, s3, List.getElem_toArray, List.getElem_cons_succ, List.getElem_cons_zero]
      refine wpAnyH_done (by kernel_rfl) ?_ _
      try simp only [Act.put, s1, s2, s3, List.getElem_toArray, List.getElem_cons_succ, List.getElem_cons_zero]
      simp only [NQ]
      have hbf := HB1.out.trans (hb15.mono HB1.out.size)
      clear hS
      by_cases h4 : n4 = 0
      · subst h4
        go_wp2_with fail
        go_ret
        exact ⟨by rw [HVC.out]; rfl, hbf⟩
      · have t4 : ((n4 : Int) == 0) = false := by rw [HD.out]; exact decide_eq_false h4
        have HV0 : Hid (validC c = false) := Lib.hid (by rw [HVC.out, decide_eq_false h4]; rfl)
        go_wp2_with fail
        go_ret
        exact ⟨by rw [HV0.out]; simp [h4], hbf⟩
end Go.Proofs.YtemfaojmelljpaaGreatDoor

