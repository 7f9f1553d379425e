/- CartValid inside. -/
import Derived.Test.YtadbmineobldbaaGreatDoorD9m
import Derived.Test.YtadbmineobldbaaGreatDoorD8
set_option linter.unusedSimpArgs false
set_option linter.unusedVariables false
set_option maxRecDepth 100000
set_option maxHeartbeats 16000000
namespace Go.Proofs.YtadbmineobldbaaGreatDoor
open Go.RowKit Go.Maps Go.Sort Go.Shelf
theorem OwnC.cartD {base : Nat} {w w0 : World} {x1 x2 x3 v1 v2 v3 : Value} {c : CartD} (h : OwnC base w x1 x2 x3 c) (g : CartA w0 v1 v2 v3 c) : CartA w x1 x2 x3 c := by
 obtain ⟨h1, h2, ps, h3, h4⟩ := h;exact ⟨h1.dots g.1.dotsI, h2.dots g.2.1.dotsI, by rw [← h3]; exact h4.arr⟩
theorem spoil_own10 {base : Nat} {w : World} {x1 x2 x3 : Value} {c : CartD} (h : OwnC base w x1 x2 x3 c) (hn : ∀ x ∈ c.items, x.name.size ≤ 100) (hb : base ≤ w.heap.size) : Calls Tryz.prog 15 #[.agg #[x1, x2, x3]] w fun e w' => e = .returned (.tuple #[]) ∧ Below base w w' := by
 obtain ⟨h1, h2, ps, h3, h4⟩ := h;have hap1 : ∀ b n c1, x1 = .slice (some ⟨b, 0, none⟩) n c1 → ∀ g n3 c3, x3 = .slice (some ⟨g, 0, none⟩) n3 c3 → b ≠ g := fun b n c1 e1 g n3 c3 e3 e => by
  have := rows_apart h1 h4.1 (by decide) b (by rw [e1]; rfl)
  rw [e3, e] at this;exact this rfl
 have hap2 : ∀ b n c1, x2 = .slice (some ⟨b, 0, none⟩) n c1 → ∀ g n3 c3, x3 = .slice (some ⟨g, 0, none⟩) n3 c3 → b ≠ g := fun b n c1 e1 g n3 c3 e3 e => by
  have := rows_apart h2 h4.1 (by decide) b (by rw [e1]; rfl)
  rw [e3, e] at this;exact this rfl
 have l1 := h1.le;have l2 := h2.le;obtain ⟨o1, c1, rfl, s1⟩ := h1.shpD;obtain ⟨o2, c2, rfl, s2⟩ := h2.shpD;obtain ⟨o3, c3, g, rfl, ho, hg, hle, hsh⟩ := h4.shp (fun p hp => Nat.le_trans (hn _ (by rw [← h3]; exact List.mem_map_of_mem hp)) (by decide))
 refine l10spoil_any base o1 o2 o3 _ _ _ c1 c2 c3 g 0 w s1 s2 hsh ho ?_ ?_ hb hg rfl l1 l2 hle
 ·rcases ho with e | e
  ·exact Or.inl e
  ·exact Or.inr (fun b e1 => hap1 b _ _ (by rw [e1]) g _ _ (by rw [e]))
 ·rcases ho with e | e
  ·exact Or.inl e
  ·exact Or.inr (fun b e1 => hap2 b _ _ (by rw [e1]) g _ _ (by rw [e]))
set_option linter.unusedSimpArgs false in
set_option linter.unusedVariables false in
set_option maxRecDepth 100000 in
set_option maxHeartbeats 16000000 in
theorem l10Valid_any (a b : CartD) (xa1 xa2 xa3 xb1 xb2 xb3 : Value) (w : World) (ha : CartA w xa1 xa2 xa3 a) (hb : CartA w xb1 xb2 xb3 b) (hG : GlobIs w) :
    Calls Tryz.prog 7 #[.agg #[xa1, xa2, xa3], .agg #[xb1, xb2, xb3]] w fun e w' => e = .returned (.bool true) ∧ Below w.heap.size w w' := by
  obtain ⟨o1, k1, rfl⟩ := ha.1.slice;obtain ⟨o2, k2, rfl⟩ := ha.2.1.slice;obtain ⟨o3, k3, rfl⟩ := ha.2.2.slice;obtain ⟨o4, k4, rfl⟩ := hb.1.slice;obtain ⟨o5, k5, rfl⟩ := hb.2.1.slice;obtain ⟨o6, k6, rfl⟩ := hb.2.2.slice;obtain ⟨n1, hn1⟩ : ∃ n, n = a.vec.length := ⟨_, rfl⟩;obtain ⟨n2, hn2⟩ : ∃ n, n = a.cloud.length := ⟨_, rfl⟩;obtain ⟨n3, hn3⟩ : ∃ n, n = a.items.length := ⟨_, rfl⟩;rw [← hn1, ← hn2, ← hn3] at ha;rw [← hn1, ← hn2, ← hn3];obtain ⟨n4, hn4⟩ : ∃ n, n = b.vec.length := ⟨_, rfl⟩;obtain ⟨n5, hn5⟩ : ∃ n, n = b.cloud.length := ⟨_, rfl⟩;obtain ⟨n6, hn6⟩ : ∃ n, n = b.items.length := ⟨_, rfl⟩;rw [← hn4, ← hn5, ← hn6] at hb;rw [← hn4, ← hn5, ← hn6];obtain ⟨W0, hW0⟩ : ∃ x, x = w.alloc (.cells #[.slice o1 n1 k1, .slice o2 n2 k2, .slice o3 n3 k3] 28) := ⟨_, rfl⟩;have hs0 : W0.heap.size = w.heap.size + 1 := by rw [hW0, alloc_size]
  have hst0 : Below w.heap.size w W0 := by rw [hW0]; exact (Below.refl _ _).alloc (Nat.le_refl _) _
  have hbb0 : Below w.heap.size w W0 := hst0;have hx0_0 : W0.heap[w.heap.size]? = some (.cells #[.slice o1 n1 k1, .slice o2 n2 k2, .slice o3 n3 k3] 28) := by rw [hW0]; exact alloc_new _ _
  obtain ⟨W1, hW1⟩ : ∃ x, x = W0.alloc (.cells #[.slice o4 n4 k4, .slice o5 n5 k5, .slice o6 n6 k6] 28) := ⟨_, rfl⟩;have hs1 : W1.heap.size = w.heap.size + 1 + 1 := by rw [hW1, alloc_size, hs0]
  have hst1 : Below W0.heap.size W0 W1 := by rw [hW1]; exact (Below.refl _ _).alloc (Nat.le_refl _) _
  have hbb1 : Below w.heap.size w W1 := hbb0.trans (hst1.mono hbb0.size);have hx1_1 : W1.heap[w.heap.size + 1]? = some (.cells #[.slice o4 n4 k4, .slice o5 n5 k5, .slice o6 n6 k6] 28) := by rw [hW1, ← hs0]; exact alloc_new _ _
  have hx0_1 : W1.heap[w.heap.size]? = _ := (hst1.block _ (lt_of_heap hx0_0)).trans hx0_0;have HC : Hid (∀ wz, Below W1.heap.size W1 wz → ((wz.cell? ⟨w.heap.size, 0, none⟩ = some (.slice o1 n1 k1)) ∧ (wz.cell? ⟨w.heap.size, 1, none⟩ = some (.slice o2 n2 k2)) ∧ (wz.cell? ⟨w.heap.size, 2, none⟩ = some (.slice o3 n3 k3))) ∧ ((wz.cell? ⟨w.heap.size + 1, 0, none⟩ = some (.slice o4 n4 k4)) ∧ (wz.cell? ⟨w.heap.size + 1, 1, none⟩ = some (.slice o5 n5 k5)) ∧ (wz.cell? ⟨w.heap.size + 1, 2, none⟩ = some (.slice o6 n6 k6)))) := Lib.hid (fun wz hz => by
    have z0 := (hz.block _ (lt_of_heap hx0_1)).trans hx0_1;have z1 := (hz.block _ (lt_of_heap hx1_1)).trans hx1_1;exact ⟨⟨by rw [cell0 z0 0]; rfl, by rw [cell0 z0 1]; rfl, by rw [cell0 z0 2]; rfl⟩, ⟨by rw [cell0 z1 0]; rfl, by rw [cell0 z1 1]; rfl, by rw [cell0 z1 2]; rfl⟩⟩)
  have HK0 : Hid (∀ wz, Below W1.heap.size W1 wz → wz.heap[w.heap.size]? = some (.cells #[.slice o1 n1 k1, .slice o2 n2 k2, .slice o3 n3 k3] 28)) := Lib.hid (fun wz hz => (hz.block _ (lt_of_heap hx0_1)).trans hx0_1)
  have HK1 : Hid (∀ wz, Below W1.heap.size W1 wz → wz.heap[w.heap.size + 1]? = some (.cells #[.slice o4 n4 k4, .slice o5 n5 k5, .slice o6 n6 k6] 28)) := Lib.hid (fun wz hz => (hz.block _ (lt_of_heap hx1_1)).trans hx1_1)
  have HB := Lib.hid hbb1;have HS : Hid (W1.heap.size = w.heap.size + 1 + 1) := Lib.hid hs1;have HW : Hid (W1 = (w.alloc (.cells #[.slice o1 n1 k1, .slice o2 n2 k2, .slice o3 n3 k3] 28)).alloc (.cells #[.slice o4 n4 k4, .slice o5 n5 k5, .slice o6 n6 k6] 28)) := Lib.hid (by rw [hW1, hW0])
  have HAa := Lib.hid (ha.below hbb1);have HAb := Lib.hid (hb.below hbb1);have HGL := Lib.hid (hG.below hbb1);have HB0 : Hid (Below W1.heap.size W1 W1) := Lib.hid (Below.refl _ _);clear hW0 hs0 hst0 hW1 hs1 hst1 hx0_0 hx0_1 hx1_1 hbb0 hbb1 ha hb hG hn1 hn2 hn3 hn4 hn5 hn6;obtain ⟨⟨c0_0_0, c0_0_1, c0_0_2⟩, ⟨c0_1_0, c0_1_1, c0_1_2⟩⟩ := HC.out W1 (Below.refl _ _)
  go_enter Tryz.func7, Tryz.ntmps7
  go_wp2_with fail
  rw [← HW.out];have HX := Lib.hid (l10light_any a _ _ _ W1 (HAa.out.below HB0.out));obtain ⟨r1, hr1⟩ : ∃ r, r = lightC a := ⟨_, rfl⟩;rw [← hr1] at HX;have HRr1 := Lib.hid hr1;clear hr1;refine HX.out.mono ?_;rintro e w1 ⟨rfl, hb⟩;clear HX;have HB1 := Lib.hid (HB0.out.trans (hb.mono HB0.out.size));clear c0_0_0 c0_0_1 c0_0_2 c0_1_0 c0_1_1 c0_1_2;obtain ⟨⟨c1_0_0, c1_0_1, c1_0_2⟩, ⟨c1_1_0, c1_1_1, c1_1_2⟩⟩ := HC.out w1 HB1.out;clear hb
  cases r1 with
  | false =>
    have HX := Lib.hid (l10known_any w1 (HGL.out.below HB1.out))
    go_wp2_with fail
    refine HX.out.mono ?_;rintro e wk ⟨rfl, hbk⟩;clear HX;have HBK := Lib.hid (HB1.out.trans (hbk.mono HB1.out.size));clear hbk
    go_wp2_with fail
    go_ret
    exact ⟨rfl, HB.out.trans (HBK.out.mono HB.out.size)⟩
  | true =>
    have HLa := Hd (lightC_CL HRr1.out.symm);have HNa : Hid (∀ x ∈ a.items, x.name.size ≤ 100) := Hd (fun x hx => ((lightC_parts HRr1.out.symm).2.2.2 x hx).1)
    clear HRr1;have HX := Lib.hid (l10light_any b _ _ _ w1 (HAb.out.below HB1.out));obtain ⟨r2, hr2⟩ : ∃ r, r = lightC b := ⟨_, rfl⟩;rw [← hr2] at HX;have HRr2 := Lib.hid hr2;clear hr2
    go_wp2_with fail
    refine HX.out.mono ?_;rintro e w2 ⟨rfl, hb⟩;clear HX;have HB2 := Lib.hid (HB1.out.trans (hb.mono HB1.out.size));clear c1_0_0 c1_0_1 c1_0_2 c1_1_0 c1_1_1 c1_1_2;obtain ⟨⟨c2_0_0, c2_0_1, c2_0_2⟩, ⟨c2_1_0, c2_1_1, c2_1_2⟩⟩ := HC.out w2 HB2.out;clear hb
    cases r2 with
    | false =>
      have HX := Lib.hid (l10known_any w2 (HGL.out.below HB2.out))
      go_wp2_with fail
      refine HX.out.mono ?_;rintro e wk ⟨rfl, hbk⟩;clear HX;have HBK := Lib.hid (HB2.out.trans (hbk.mono HB2.out.size));clear hbk
      go_wp2_with fail
      go_ret
      exact ⟨rfl, HB.out.trans (HBK.out.mono HB.out.size)⟩
    | true =>
      have HLb := Hd (lightC_CL HRr2.out.symm);have HNb : Hid (∀ x ∈ b.items, x.name.size ≤ 100) := Hd (fun x hx => ((lightC_parts HRr2.out.symm).2.2.2 x hx).1)
      clear HRr2;have HA1 := Hd (fun wz (hz : Below w2.heap.size w2 wz) => (HAa.out.below HB2.out).below hz)
      have HA2 := Hd (fun wz (hz : Below w2.heap.size w2 wz) => (HAb.out.below HB2.out).below hz)
      have HGR := Hd (fun wz (hz : Below w2.heap.size w2 wz) => (HGL.out.below HB2.out).below hz)
      have HCR := Hd (fun wz (hz : Below w2.heap.size w2 wz) => HC.out wz (HB2.out.trans (hz.mono HB2.out.size)))
      go_upto_region 3 with fail
      refine NQ.to ?_;refine wp_region_held_drew (S := (fun wz => Below w2.heap.size w2 wz)) (by kernel_rfl) (bdr) (fun hS => ?_)
      try simp only [Act.put, s1, s2, s3, List.getElem_toArray, List.getElem_cons_succ, List.getElem_cons_zero]
      refine tkN (i := 0) (v := ?v1) rfl (by decide +kernel) (Or.inl ⟨by kernel_rfl, fun w hSw => ok_of fun z hz => ?h1⟩) hS ?_; (case h1 => (obtain ⟨⟨f0, f1, f2⟩, f3, f4, f5⟩ := HCR.out _ hSw; go_simp; exact hz))
      try simp only [Act.put, s1, s2, s3, List.getElem_toArray, List.getElem_cons_succ, List.getElem_cons_zero]
      refine tkN (i := 2) (v := ?v2) rfl (by decide +kernel) (Or.inl ⟨by kernel_rfl, fun w hSw => ok_of fun z hz => ?h2⟩) hS ?_; (case h2 => (obtain ⟨⟨f0, f1, f2⟩, f3, f4, f5⟩ := HCR.out _ hSw; go_simp; exact hz))
      try simp only [Act.put, s1, s2, s3, List.getElem_toArray, List.getElem_cons_succ, List.getElem_cons_zero]
      refine wpAnyH_ready (rs := [1]) (by decide +kernel) (by simp) ?_
      refine (AllReadyH.cons rfl (fun K hK => ?_) AllReadyH.nil)
      go_simp
      go_at_call 29
      refine (cartValid_any a _ _ _ _ (HA1.out _ (show Below w2.heap.size w2 w2.drew from bdr)) (HLa.out.sz (by omega)).1 (HGR.out _ (show Below w2.heap.size w2 w2.drew from bdr))).mono ?_
      rintro e x1 ⟨rfl, hx1⟩;have hx1 := btr (show Below w2.heap.size w2 w2.drew from bdr) hx1
      try rw [decide_eq_true (rfl : a = a)]
      go_simp;refine Shut.out hK _ _ (hx1) (fun hS2 => ?_)
      clear hK K hS;have hS := hS2;clear hS2
      try simp only [Act.put, s1, s2, s3, List.getElem_toArray, List.getElem_cons_succ, List.getElem_cons_zero]
      refine wpAnyH_ready (rs := [3]) (by decide +kernel) (by simp) ?_
      refine (AllReadyH.cons rfl (fun K hK => ?_) AllReadyH.nil)
      go_simp
      go_at_call 16
      refine (r10Valid_any a _ _ _ x1 (HA1.out _ hx1) (HLa.out.sz (by omega)).1).mono ?_
      rintro e x2 ⟨rfl, hx2⟩;have hx2 := btr hx1 hx2
      try rw [decide_eq_true (rfl : a = a)]
      go_simp;refine Shut.out hK _ _ (hx2) (fun hS2 => ?_)
      clear hK K hS;have hS := hS2;clear hS2
      try simp only [Act.put, s1, s2, s3, List.getElem_toArray, List.getElem_cons_succ, List.getElem_cons_zero]
      refine tkN (i := 4) (v := ?v3) rfl (by decide +kernel) (Or.inl ⟨by kernel_rfl, fun w hSw => ok_of fun z hz => ?h3⟩) hS ?_; (case h3 => (go_simp; exact hz))
      try simp only [Act.put, s1, s2, s3, List.getElem_toArray, List.getElem_cons_succ, List.getElem_cons_zero]
      refine tkN (i := 5) (v := ?v4) rfl (by decide +kernel) (Or.inl ⟨by kernel_rfl, fun w hSw => ok_of fun z hz => ?h4⟩) hS ?_; (case h4 => (go_simp; exact hz))
      try simp only [Act.put, s1, s2, s3, List.getElem_toArray, List.getElem_cons_succ, List.getElem_cons_zero]
      refine tkN (i := 6) (v := ?v5) rfl (by decide +kernel) (Or.inl ⟨by kernel_rfl, fun w hSw => ok_of fun z hz => ?h5⟩) hS ?_; (case h5 => (obtain ⟨⟨f0, f1, f2⟩, f3, f4, f5⟩ := HCR.out _ hSw; go_simp; exact hz))
      try simp only [Act.put, s1, s2, s3, List.getElem_toArray, List.getElem_cons_succ, List.getElem_cons_zero]
      refine tkN (i := 7) (v := ?v6) rfl (by decide +kernel) (Or.inl ⟨by kernel_rfl, fun w hSw => ok_of fun z hz => ?h6⟩) hS ?_; (case h6 => (obtain ⟨⟨f0, f1, f2⟩, f3, f4, f5⟩ := HCR.out _ hSw; go_simp; exact hz))
      try simp only [Act.put, s1, s2, s3, List.getElem_toArray, List.getElem_cons_succ, List.getElem_cons_zero]
      refine tkN (i := 9) (v := ?v7) rfl (by decide +kernel) (Or.inl ⟨by kernel_rfl, fun w hSw => ok_of fun z hz => ?h7⟩) hS ?_; (case h7 => (obtain ⟨⟨f0, f1, f2⟩, f3, f4, f5⟩ := HCR.out _ hSw; go_simp; exact hz))
      try simp only [Act.put, s1, s2, s3, List.getElem_toArray, List.getElem_cons_succ, List.getElem_cons_zero]
      refine tkN (i := 10) (v := ?v8) rfl (by decide +kernel) (Or.inl ⟨by kernel_rfl, fun w hSw => ok_of fun z hz => ?h8⟩) hS ?_; (case h8 => (obtain ⟨⟨f0, f1, f2⟩, f3, f4, f5⟩ := HCR.out _ hSw; go_simp; exact hz))
      try simp only [Act.put, s1, s2, s3, List.getElem_toArray, List.getElem_cons_succ, List.getElem_cons_zero]
      refine wpAnyH_ready (rs := [8]) (by decide +kernel) (by simp) ?_
      refine (AllReadyH.cons rfl (fun K hK => ?_) AllReadyH.nil)
      go_simp
      go_at_call 32
      refine (cartEqual_any a b _ _ _ _ _ _ x2 (HA1.out _ hx2) (HA2.out _ hx2)).mono ?_;rintro e x3 ⟨rfl, hx3⟩;have hx3 := btr hx2 hx3
      try rw [decide_eq_true (rfl : a = a)]
      go_simp;refine Shut.out hK _ _ (hx3) (fun hS2 => ?_)
      clear hK K hS;have hS := hS2;clear hS2
      try simp only [Act.put, s1, s2, s3, List.getElem_toArray, List.getElem_cons_succ, List.getElem_cons_zero]
      refine wpAnyH_ready (rs := [11]) (by decide +kernel) (by simp) ?_
      refine (AllReadyH.cons rfl (fun K hK => ?_) AllReadyH.nil)
      go_simp
      go_at_call 14
      refine (r10Equal_any a b _ _ _ _ _ _ x3 (HA1.out _ hx3) (HA2.out _ hx3)).mono ?_;rintro e x4 ⟨rfl, hx4⟩;have hx4 := btr hx3 hx4
      try rw [decide_eq_true (rfl : a = a)]
      go_simp;refine Shut.out hK _ _ (hx4) (fun hS2 => ?_)
      clear hK K hS;have hS := hS2;clear hS2
      try simp only [Act.put, s1, s2, s3, List.getElem_toArray, List.getElem_cons_succ, List.getElem_cons_zero]
      refine tkN (i := 12) (v := ?v9) rfl (by decide +kernel) (Or.inl ⟨by kernel_rfl, fun w hSw => ok_of fun z hz => ?h9⟩) hS ?_; (case h9 => (go_simp; exact hz))
      try simp only [Act.put, s1, s2, s3, List.getElem_toArray, List.getElem_cons_succ, List.getElem_cons_zero]
      refine tkN (i := 13) (v := ?v10) rfl (by decide +kernel) (Or.inl ⟨by kernel_rfl, fun w hSw => ok_of fun z hz => ?h10⟩) hS ?_; (case h10 => (go_simp; exact hz))
      try simp only [Act.put, s1, s2, s3, List.getElem_toArray, List.getElem_cons_succ, List.getElem_cons_zero]
      refine tkN (i := 14) (v := ?v11) rfl (by decide +kernel) (Or.inl ⟨by kernel_rfl, fun w hSw => ok_of fun z hz => ?h11⟩) hS ?_; (case h11 => (go_simp; exact hz))
      try simp only [Act.put, s1, s2, s3, List.getElem_toArray, List.getElem_cons_succ, List.getElem_cons_zero]
      refine tkN (i := 15) (v := ?v12) rfl (by decide +kernel) (Or.inl ⟨by kernel_rfl, fun w hSw => ok_of fun z hz => ?h12⟩) hS ?_; (case h12 => (obtain ⟨⟨f0, f1, f2⟩, f3, f4, f5⟩ := HCR.out _ hSw; go_simp; exact hz))
      try simp only [Act.put, s1, s2, s3, List.getElem_toArray, List.getElem_cons_succ, List.getElem_cons_zero]
      refine tkN (i := 16) (v := ?v13) rfl (by decide +kernel) (Or.inl ⟨by kernel_rfl, fun w hSw => ok_of fun z hz => ?h13⟩) hS ?_; (case h13 => (obtain ⟨⟨f0, f1, f2⟩, f3, f4, f5⟩ := HCR.out _ hSw; go_simp; exact hz))
      try simp only [Act.put, s1, s2, s3, List.getElem_toArray, List.getElem_cons_succ, List.getElem_cons_zero]
      refine wpAnyH_ready (rs := [17]) (by decide +kernel) (by simp) ?_
      refine (AllReadyH.cons rfl (fun K hK => ?_) AllReadyH.nil)
      go_simp
      go_at_call 32
      have HEE := cartEqual_any a a _ _ _ _ _ _ x4 (HA1.out _ hx4) (HA1.out _ hx4);rw [decide_eq_true (rfl : a = a)] at HEE;refine HEE.mono ?_;rintro e x5 ⟨rfl, hx5⟩;have hx5 := btr hx4 hx5;clear HEE;go_simp;refine Shut.out hK _ _ (hx5) (fun hS2 => ?_)
      clear hK K hS;have hS := hS2;clear hS2
      try simp only [Act.put, s1, s2, s3, List.getElem_toArray, List.getElem_cons_succ, List.getElem_cons_zero]
      refine tkN (i := 18) (v := ?v14) rfl (by decide +kernel) (Or.inl ⟨by kernel_rfl, fun w hSw => ok_of fun z hz => ?h14⟩) hS ?_; (case h14 => (go_simp; exact hz))
      try simp only [Act.put, s1, s2, s3, List.getElem_toArray, List.getElem_cons_succ, List.getElem_cons_zero]
      refine tkN (i := 19) (v := ?v15) rfl (by decide +kernel) (Or.inl ⟨by kernel_rfl, fun w hSw => ok_of fun z hz => ?h15⟩) hS ?_; (case h15 => (go_simp; exact hz))
      try simp only [Act.put, s1, s2, s3, List.getElem_toArray, List.getElem_cons_succ, List.getElem_cons_zero]
      refine wpAnyH_done (by kernel_rfl) ?_ _
      try simp only [Act.put, s1, s2, s3, List.getElem_toArray, List.getElem_cons_succ, List.getElem_cons_zero]
      simp only [NQ];clear hS hx1 hx2 hx3 hx4;have HB3 := Lib.hid (HB2.out.trans (hx5.mono HB2.out.size));clear c2_0_0 c2_0_1 c2_0_2 c2_1_0 c2_1_1 c2_1_2;obtain ⟨⟨c3_0_0, c3_0_1, c3_0_2⟩, ⟨c3_1_0, c3_1_1, c3_1_2⟩⟩ := HC.out x5 HB3.out;clear hx5 HA1 HA2 HGR HCR;have HX := Lib.hid (cartCopy_any a _ _ _ x5 (HAa.out.below HB3.out) (HLa.out.sz (by omega)))
      go_wp2_with fail
      refine HX.out.mono ?_;rintro e vX ⟨y1, y2, y3, rfl, hown, hb⟩;clear HX;have hRA := hown.cartD HAa.out;obtain ⟨pX1, mX1, lX1, pX2, mX2, lX2, pX3, mX3, lX3, rfl, rfl, rfl, hm1, hm2, hm3⟩ := opn4 hRA;obtain ⟨WX, HWX, HBX0, HSWX, HCX⟩ := box1 vX #[.slice pX1 mX1 lX1, .slice pX2 mX2 lX2, .slice pX3 mX3 lX3] 28;have HCX := Hd (fun wz hz => cel3 (HCX.out wz hz))
      have HAX := Hd (hRA.below HBX0.out);have HOX := Hd (hown.below HBX0.out);have HMX := Hd hm3;have HB4 := Lib.hid (HB3.out.trans ((btr hb HBX0.out).mono HB3.out.size));have HDX4 : Hid (Below WX.heap.size WX WX) := Lib.hid (Below.refl _ _);clear hown hRA hb HBX0 hm1 hm2 hm3;clear c3_0_0 c3_0_1 c3_0_2 c3_1_0 c3_1_1 c3_1_2;obtain ⟨⟨c4_0_0, c4_0_1, c4_0_2⟩, ⟨c4_1_0, c4_1_1, c4_1_2⟩⟩ := HC.out WX HB4.out;obtain ⟨eX4_0, eX4_1, eX4_2⟩ := HCX.out WX HDX4.out;have HX := Lib.hid ((show _ from r10Equal_any a a _ _ _ _ _ _ WX (HAX.out.below HDX4.out) (HAa.out.below HB4.out)))
      rw [decide_eq_true (rfl : a = a)] at HX
      go_wp2_with (go_loud (rw [← HWX.out]))
      refine HX.out.mono ?_;rintro e w5 ⟨rfl, hb⟩;clear HX;have HB5 := Lib.hid (HB4.out.trans (hb.mono HB4.out.size));clear c4_0_0 c4_0_1 c4_0_2 c4_1_0 c4_1_1 c4_1_2;obtain ⟨⟨c5_0_0, c5_0_1, c5_0_2⟩, ⟨c5_1_0, c5_1_1, c5_1_2⟩⟩ := HC.out w5 HB5.out;have HDX5 := Lib.hid (HDX4.out.trans (hb.mono HDX4.out.size));clear eX4_0 eX4_1 eX4_2;obtain ⟨eX5_0, eX5_1, eX5_2⟩ := HCX.out w5 HDX5.out;clear hb;have HX := Lib.hid (cartCopy_any a _ _ _ w5 (HAX.out.below HDX5.out) (HLa.out.sz (by omega)))
      go_wp2_with fail
      refine HX.out.mono ?_;rintro e vY ⟨y1, y2, y3, rfl, hown, hb⟩;clear HX;have hRA := hown.cartD HAa.out;obtain ⟨pY1, mY1, lY1, pY2, mY2, lY2, pY3, mY3, lY3, rfl, rfl, rfl, hm1, hm2, hm3⟩ := opn4 hRA;obtain ⟨WY, HWY, HBY0, HSWY, HCY⟩ := box1 vY #[.slice pY1 mY1 lY1, .slice pY2 mY2 lY2, .slice pY3 mY3 lY3] 28;obtain ⟨t0, t1, t2⟩ := cel3 (HCY.out WY brf);have hbY := btr hb HBY0.out;have HSP := Hd (spoil_own10 (hown.below HBY0.out) HNa.out (hbY.size));have HBY := Hd hbY;clear hown hRA hb hbY hm1 hm2 hm3 HBY0 HSWY HCY;clear c5_0_0 c5_0_1 c5_0_2 c5_1_0 c5_1_1 c5_1_2 eX5_0 eX5_1 eX5_2
      go_wp2_with (go_loud (rw [← HWY.out]))
      refine HSP.out.mono ?_;rintro e w9 ⟨rfl, hb9⟩;have hb : Below w5.heap.size w5 w9 := HBY.out.trans hb9;clear t0 t1 t2 HSP hb9;have c0_ := trivial;have e0_ := trivial;have HB6 := Lib.hid (HB5.out.trans (hb.mono HB5.out.size));clear c0_;obtain ⟨⟨c6_0_0, c6_0_1, c6_0_2⟩, ⟨c6_1_0, c6_1_1, c6_1_2⟩⟩ := HC.out w9 HB6.out;have HDX6 := Lib.hid (HDX5.out.trans (hb.mono HDX5.out.size));clear e0_;obtain ⟨eX6_0, eX6_1, eX6_2⟩ := HCX.out w9 HDX6.out;clear hb;have HX := Lib.hid ((show _ from r10Equal_any a a _ _ _ _ _ _ w9 (HAX.out.below HDX6.out) (HAa.out.below HB6.out)))
      rw [decide_eq_true (rfl : a = a)] at HX
      go_wp2_with fail
      refine HX.out.mono ?_;rintro e w7 ⟨rfl, hb⟩;clear HX;have HB7 := Lib.hid (HB6.out.trans (hb.mono HB6.out.size));clear c6_0_0 c6_0_1 c6_0_2 c6_1_0 c6_1_1 c6_1_2;obtain ⟨⟨c7_0_0, c7_0_1, c7_0_2⟩, ⟨c7_1_0, c7_1_1, c7_1_2⟩⟩ := HC.out w7 HB7.out;have HDX7 := Lib.hid (HDX6.out.trans (hb.mono HDX6.out.size));clear eX6_0 eX6_1 eX6_2;obtain ⟨eX7_0, eX7_1, eX7_2⟩ := HCX.out w7 HDX7.out;clear hb;have HX := Lib.hid (l10known_any w7 (HGL.out.below HB7.out))
      go_wp2_with fail
      refine HX.out.mono ?_;rintro e wk ⟨rfl, hbk⟩;clear HX;have HBK := Lib.hid (HB7.out.trans (hbk.mono HB7.out.size));clear hbk
      go_wp2_with fail
      go_ret
      exact ⟨rfl, HB.out.trans (HBK.out.mono HB.out.size)⟩
end Go.Proofs.YtadbmineobldbaaGreatDoor
