/- The reference's Within and All. -/
import Derived.Test.YtemfaojmelljpaaGreatDoorR11k
import Derived.Test.YtemfaojmelljpaaGreatDoorC21
set_option linter.unusedSimpArgs false
set_option linter.unusedVariables false
set_option maxRecDepth 100000
set_option maxHeartbeats 8000000
namespace Go.Proofs.YtemfaojmelljpaaGreatDoor
open Go.RowKit Go.Maps

theorem r11Within_any (a b : CartD) (x1 x2 x3 y1 y2 y3 : Value) (w : World) (h : CartA w x1 x2 x3 a) (g : CartA w y1 y2 y3 b) (hva : validC a = true) (hvb : validC b = true) (hsa : SzC a) (hsb : SzC b) :
  Calls Tryz.prog 21 #[.agg #[x1, x2, x3], .agg #[y1, y2, y3]] w fun e w' => e = .returned (.bool (decide (refJoin a b = b))) ∧ Below w.heap.size w w' := by
 obtain ⟨o1, n1, k1, o2, n2, k2, o3, n3, k3, rfl, rfl, rfl, hn1, hn2, hn3⟩ := opn h;obtain ⟨o4, n4, k4, o5, n5, k5, o6, n6, k6, rfl, rfl, rfl, hn4, hn5, hn6⟩ := opn g;obtain ⟨W1, HW, HB, HS, HK0, HK1⟩ := box2 w #[.slice o1 n1 k1, .slice o2 n2 k2, .slice o3 n3 k3] 28 #[.slice o4 n4 k4, .slice o5 n5 k5, .slice o6 n6 k6] 28;have HC := Hd (fun wz (hz : Below W1.heap.size W1 wz) => And.intro (cel3 (HK0.out wz hz)) (cel3 (HK1.out wz hz)))
 have hbb1 := HB.out;have HA := Hd (h.below hbb1);have HG := Hd (g.below hbb1);have HJO : Hid (∀ wz, Below W1.heap.size W1 wz → Calls Tryz.prog 15 #[.agg #[.slice o1 n1 k1, .slice o2 n2 k2, .slice o3 n3 k3], .agg #[.slice o4 n4 k4, .slice o5 n5 k5, .slice o6 n6 k6]] wz fun e w' => ∃ z1 z2 z3, e = .returned (.agg #[z1, z2, z3]) ∧ CartA w' z1 z2 z3 (refJoin a b) ∧ Below wz.heap.size wz w') := Hd (fun wz hz => r11Join_any a b _ _ _ _ _ _ wz (HA.out.below hz) (HG.out.below hz) hva hvb hsa hsb)
 have HEQ : Hid (∀ wz z1 z2 z3, Below W1.heap.size W1 wz → CartA wz z1 z2 z3 (refJoin a b) → Calls Tryz.prog 14 #[.agg #[z1, z2, z3], .agg #[.slice o4 n4 k4, .slice o5 n5 k5, .slice o6 n6 k6]] wz fun e w' => e = .returned (.bool (decide (refJoin a b = b))) ∧ Below wz.heap.size wz w') := Hd (fun wz z1 z2 z3 hz hj => r10Equal_any _ _ _ _ _ _ _ _ wz hj (HG.out.below hz))
 obtain ⟨r, hr⟩ : ∃ r, r = decide (refJoin a b = b) := ⟨_, rfl⟩;rw [← hr] at HEQ ⊢;have HBW := Hd HB.out;clear HB hr hbb1 h g hn1 hn2 hn3 hn4 hn5 hn6 hsa hsb hva hvb
 go_enter Tryz.func21, Tryz.ntmps21
 go_upto_region 1 with fail
 rw [← HW.out];refine NQ.to ?_;refine wp_region_held_drew (S := (fun wz => Below W1.heap.size W1 wz)) (by kernel_rfl) (bdr) (fun hS => ?_)
 refine tkR (n := 3) [0, 1, 3] rfl (by decide +kernel) hS ?_
 iterate 3 ((try simp only [Act.put, s1, s2, s3, s4, s5, s6]); refine ⟨_, ?_, rfl, Or.inl ⟨by kernel_rfl, fun w hSw => ok_of fun z hz => ?_⟩, ?_⟩; rotate_left; · (have HBX := HC.out _ hSw; obtain ⟨⟨f0, f1, f2⟩, f3, f4, f5⟩ := HBX; go_simp; exact hz))
 refine RunOK.done ?_
 try simp only [Act.put, s1, s2, s3, s4, s5, s6]
 refine rd1 2 (by decide +kernel) rfl (fun K hK => ?_)
 go_simp
 go_at_call 15
 refine (HJO.out _ bdr).mono ?_;rintro e w2 ⟨z1, z2, z3, rfl, hj, hb2⟩;have hb12 := (below_drew1 (Below.refl W1.heap.size W1)).trans (hb2.mono (Nat.le_refl _));go_simp;refine Shut.out hK _ _ (hb12) (fun hS2 => ?_); clear hK K hS; have hS := hS2; clear hS2
 try simp only [Act.put, s1, s2, s3, s4, s5, s6]
 refine rd1 4 (by decide +kernel) rfl (fun K hK => ?_)
 go_simp
 go_at_call 14
 refine (HEQ.out _ _ _ _ hb12 hj).mono ?_;rintro e w3 ⟨rfl, hb3⟩;have hb13 := btr hb12 hb3;go_simp;refine Shut.out hK _ _ (hb13) (fun hS2 => ?_); clear hK K hS; have hS := hS2; clear hS2
 refine tkR (n := 1) [5] rfl (by decide +kernel) hS ?_
 ((try simp only [Act.put, s1, s2, s3, s4, s5, s6]); refine ⟨_, ?_, rfl, Or.inl ⟨by kernel_rfl, fun w hSw => ok_of fun z hz => ?_⟩, ?_⟩; rotate_left; · (go_simp; exact hz))
 refine RunOK.done ?_
 try simp only [Act.put, s1, s2, s3, s4, s5, s6]
 refine wpAnyH_done (by kernel_rfl) ?_ _
 try simp only [Act.put, s1, s2, s3, s4, s5, s6]
 simp only [NQ]
 go_wp2_with fail
 go_ret
 exact ⟨rfl, btr HBW.out hb13⟩
theorem allC_CL (l : List CartD) (hs : ∀ c ∈ l, CL 80 c) (hv : ∀ c ∈ l, validC c = true) : ∀ k, k ≤ l.length → CL (80 * k) (allC (l.take k)) := by
 intro k
 induction k with
 | zero => intro _; exact ⟨by simp [allC, zeroC], by simp [allC, zeroC], by simp [allC, zeroC]⟩
 | succ k ih =>
  intro hk;have hlt : k < l.length := by omega
  rw [allC_snoc l k hlt];exact (refJoin_CL (allC_valid (fun c hc => hv c (List.mem_of_mem_take hc))) (hv _ (List.getElem_mem hlt)) (ih (by omega)) (hs _ (List.getElem_mem hlt))).mono (by omega)
theorem r11All_any (l : List CartD) (v : Value) (w : World) (h : Arr CartR 3 w v l) (hl : l.length ≤ 10) (hs : ∀ c ∈ l, CL 80 c) (hv : ∀ c ∈ l, validC c = true) : Calls Tryz.prog 18 #[v] w fun e w' => ∃ z1 z2 z3, e = .returned (.agg #[z1, z2, z3]) ∧ CartA w' z1 z2 z3 (allC l) ∧ Below w.heap.size w w' := by
 have hn := h.len;obtain ⟨o, cc, rfl, hel⟩ := h.cartAt;obtain ⟨W0, HW, HB, HS, HK0⟩ := box1 w #[.slice none 0 0, .slice none 0 0, .slice none 0 0] 28;have HC := Hd (fun wz (hz : Below W0.heap.size W0 wz) => cel3 (HK0.out wz hz))
 have hbb0 := HB.out;have HEL : Hid (∀ wz, Below W0.heap.size W0 wz → ∀ i (hi : i < l.length), ∃ b off v1 v2 v3, o = some ⟨b, off, none⟩ ∧ b < w.heap.size ∧ wz.cell? ⟨b, off + i * 3, none⟩ = some v1 ∧ wz.cell? ⟨b, off + i * 3 + 1, none⟩ = some v2 ∧ wz.cell? ⟨b, off + i * 3 + 2, none⟩ = some v3 ∧ CartA wz v1 v2 v3 l[i]) := Hd (fun wz hz i hi => by
  obtain ⟨b, off, v1, v2, v3, e, hb, e1, e2, e3, hA⟩ := hel i hi;have hB := btr hbb0 hz;exact ⟨b, off, v1, v2, v3, e, hb, by rw [hB.cell (p := ⟨_, _, _⟩) hb]; exact e1, by rw [hB.cell (p := ⟨_, _, _⟩) hb]; exact e2, by rw [hB.cell (p := ⟨_, _, _⟩) hb]; exact e3, hA.below hB⟩)
 have HVA : Hid (∀ k, validC (allC (l.take k)) = true) := Hd (fun k => allC_valid (fun c hc => hv c (List.mem_of_mem_take hc)))
 have HSZ : Hid (∀ k, k ≤ l.length → SzC (allC (l.take k))) := Hd (fun k hk => (allC_CL l hs hv k hk).sz (by omega))
 have HVL : Hid (∀ c ∈ l, validC c = true ∧ SzC c) := Hd (fun c hc => ⟨hv c hc, (hs c hc).sz (by omega)⟩)
 have HSN : Hid (∀ k (hk : k < l.length), allC (l.take (k + 1)) = refJoin (allC (l.take k)) l[k]) := Hd (fun k hk => allC_snoc l k hk)
 have HBW := Hd HB.out;obtain ⟨W1, hW1⟩ : ∃ x, x = W0.alloc (.cells #[.slice none 0 0, .slice none 0 0, .slice none 0 0] 28) := ⟨_, rfl⟩;have hb01 : Below W0.heap.size W0 W1 := by rw [hW1]; exact bal
 have hx1 : W1.heap[w.heap.size + 1]? = some (.cells #[.slice none 0 0, .slice none 0 0, .slice none 0 0] 28) := by rw [hW1, ← HS.out]; exact alloc_new _ _
 have HX1 := Hd hx1;have HB01 := Hd hb01;have HW1 : Hid (W1 = (w.alloc (.cells #[.slice none 0 0, .slice none 0 0, .slice none 0 0] 28)).alloc (.cells #[.slice none 0 0, .slice none 0 0, .slice none 0 0] 28)) := Hd (by rw [hW1, HW.out])
 have hsz0 := HS.out;clear HB hbb0 h hel hs hv hW1 hb01 hx1
 go_enter Tryz.func18, Tryz.ntmps18
 go_wp2_with fail
 rw [← HW1.out]
 go_loopw [4] (fun i wr => ∃ k : Nat, k ≤ l.length ∧ i = .int .i64 k ∧ (∃ i1 m1 l1 i2 m2 l2 i3 m3 l3, wr.heap[w.heap.size + 1]? = some (.cells #[.slice i1 m1 l1, .slice i2 m2 l2, .slice i3 m3 l3] 28) ∧ CartA wr (.slice i1 m1 l1) (.slice i2 m2 l2) (.slice i3 m3 l3) (allC (l.take k))) ∧ Below W0.heap.size W0 wr) (fun i _ => l.length - (intOf i).toNat)
 case atStart => exact ⟨0, Nat.zero_le _, rfl, ⟨none, 0, 0, none, 0, 0, none, 0, 0, HX1.out, arr_nil, arr_nil, arr_nil⟩, HB01.out⟩
 case round =>
  obtain ⟨k, hk, rfl, ⟨i1, m1, l1, i2, m2, l2, i3, m3, l3, hx, hA⟩, hB⟩ := hrel;have HB := Hd hB;have HA := Hd hA;have HX := Hd hx;clear hB hA hx
  by_cases hlt : k < l.length
  ·obtain ⟨bl, off, y1, y2, y3, rfl, hbl, e1, e2, e3, hC⟩ := HEL.out wr HB.out k hlt
   have HS1 := Hd (HSN.out k hlt);have hva := HVA.out k;have hsa := HSZ.out k hk;obtain ⟨hvb, hsb⟩ := HVL.out _ (List.getElem_mem hlt);obtain ⟨o4, k4, rfl⟩ := hC.1.slice;obtain ⟨o5, k5, rfl⟩ := hC.2.1.slice;obtain ⟨o6, k6, rfl⟩ := hC.2.2.slice;have HJO0 : ∀ wz, Below wr.heap.size wr wz → Calls Tryz.prog 15 #[.agg #[.slice i1 m1 l1, .slice i2 m2 l2, .slice i3 m3 l3], .agg #[.slice o4 l[k].vec.length k4, .slice o5 l[k].cloud.length k5, .slice o6 l[k].items.length k6]] wz fun e w' => ∃ z1 z2 z3, e = .returned (.agg #[z1, z2, z3]) ∧ CartA w' z1 z2 z3 (allC (l.take (k + 1))) ∧ Below wz.heap.size wz w' := fun wz hz => by
    rw [HS1.out];exact r11Join_any _ _ _ _ _ _ _ _ wz (HA.out.below hz) (hC.below hz) hva hvb hsa hsb
   have HJO := Hd HJO0;generalize hN : allC (l.take (k + 1)) = N at *
   obtain ⟨y1, hy1⟩ : ∃ y, y = Value.slice o4 l[k].vec.length k4 := ⟨_, rfl⟩;obtain ⟨y2, hy2⟩ : ∃ y, y = Value.slice o5 l[k].cloud.length k5 := ⟨_, rfl⟩;obtain ⟨y3, hy3⟩ : ∃ y, y = Value.slice o6 l[k].items.length k6 := ⟨_, rfl⟩;rw [← hy1, ← hy2, ← hy3] at HJO;rw [← hy1] at e1;rw [← hy2] at e2;rw [← hy3] at e3;have hbl2 : bl < wr.heap.size := Nat.lt_of_lt_of_le hbl (HBW.out.trans (HB.out.mono HBW.out.size)).size;have HER : Hid (∀ wz, Below wr.heap.size wr wz → wz.cell? ⟨bl, off + k * 3, none⟩ = some y1 ∧ wz.cell? ⟨bl, off + k * 3 + 1, none⟩ = some y2 ∧ wz.cell? ⟨bl, off + k * 3 + 2, none⟩ = some y3) := Hd (fun wz hz => ⟨by rw [hz.cell (p := ⟨_, _, _⟩) hbl2]; exact e1, by rw [hz.cell (p := ⟨_, _, _⟩) hbl2]; exact e2, by rw [hz.cell (p := ⟨_, _, _⟩) hbl2]; exact e3⟩)
   have HSTO : Hid (∀ (w2 : World) (z1 z2 z3 : Value), Below wr.heap.size wr w2 → (set3c w2 (w.heap.size + 1) z1 z2 z3).cell? ⟨bl, off + k * 3, none⟩ = some y1 ∧ (set3c w2 (w.heap.size + 1) z1 z2 z3).cell? ⟨bl, off + k * 3 + 1, none⟩ = some y2 ∧ (set3c w2 (w.heap.size + 1) z1 z2 z3).cell? ⟨bl, off + k * 3 + 2, none⟩ = some y3) := Hd (fun w2 z1 z2 z3 hz => by
    have hne : bl ≠ w.heap.size + 1 := by omega
    rw [set3c_cell hne, set3c_cell hne, set3c_cell hne];exact HER.out w2 hz)
   have HZH : Hid (∀ wz, Below wr.heap.size wr wz → wz.heap[w.heap.size + 1]? = some (.cells #[.slice i1 m1 l1, .slice i2 m2 l2, .slice i3 m3 l3] 28)) := Hd (fun wz hz => (hz.block _ (lt_of_heap HX.out)).trans HX.out)
   have HZR : Hid (∀ wz, Below wr.heap.size wr wz → wz.cell? ⟨w.heap.size + 1, 0, none⟩ = some (.slice i1 m1 l1) ∧ wz.cell? ⟨w.heap.size + 1, 1, none⟩ = some (.slice i2 m2 l2) ∧ wz.cell? ⟨w.heap.size + 1, 2, none⟩ = some (.slice i3 m3 l3)) := Hd (fun wz hz => ⟨cl0 (HZH.out wz hz) 0 rfl, cl0 (HZH.out wz hz) 1 rfl, cl0 (HZH.out wz hz) 2 rfl⟩)
   have a0 : (0 : Int) ≤ k := by omega
   have a1 : (k : Int) < (l.length : Int) := by omega
   have hkw := wr1 k (by omega)
   clear e1 e2 e3 hC hva hsa hvb hsb hy1 hy2 hy3 HJO0 hbl hbl2
   go_upto_region 5 with fail
   refine NQ.to ?_;refine wp_region_held_drew (S := (fun wz => wz.cell? ⟨bl, off + k * 3, none⟩ = some y1 ∧ wz.cell? ⟨bl, off + k * 3 + 1, none⟩ = some y2 ∧ wz.cell? ⟨bl, off + k * 3 + 2, none⟩ = some y3)) (by kernel_rfl) (HER.out _ bdr) (fun hS => ?_)
   refine tkR (n := 4) [1, 2, 3, 4] rfl (by decide +kernel) hS ?_
   iterate 4 ((try simp only [Act.put, s1, s2, s3, s4, s5, s6]); refine ⟨_, ?_, rfl, Or.inl ⟨by kernel_rfl, fun w hSw => ok_of fun z hz => ?_⟩, ?_⟩; rotate_left; · (obtain ⟨f3, f4, f5⟩ := hSw; go_simp; exact hz))
   refine RunOK.done ?_
   try simp only [Act.put, s1, s2, s3, s4, s5, s6]
   refine rd1 0 (by decide +kernel) rfl (fun K hK => ?_)
   obtain ⟨f0, f1, f2⟩ := HZR.out _ (below_drew1 (Below.refl wr.heap.size wr));go_simp;refine Shut.out hK _ _ (HER.out _ bdr) (fun hS2 => ?_); clear hK K hS; have hS := hS2; clear hS2
   try simp only [Act.put, s1, s2, s3, s4, s5, s6]
   refine rd1 5 (by decide +kernel) rfl (fun K hK => ?_)
   go_simp
   go_at_call 15
   refine (HJO.out _ bdr).mono ?_;rintro e w2 ⟨z1, z2, z3, rfl, hj, hb2⟩;have hb12 := (below_drew1 (Below.refl wr.heap.size wr)).trans (hb2.mono (Nat.le_refl _));obtain ⟨p1, q1, rfl⟩ := hj.1.slice;obtain ⟨p2, q2, rfl⟩ := hj.2.1.slice;obtain ⟨p3, q3, rfl⟩ := hj.2.2.slice;go_simp;refine Shut.out hK _ _ (HER.out _ hb12) (fun hS2 => ?_); clear hK K hS; have hS := hS2; clear hS2
   try simp only [Act.put, s1, s2, s3, s4, s5, s6]
   refine rd1 6 (by decide +kernel) rfl (fun K hK => ?_)
   have hx2 := HZH.out _ hb12;have f0 := froz0 hx2 0;have f1 := froz0 hx2 1;have f2 := froz0 hx2 2;have c0 : w2.cell? ⟨w.heap.size + 1, 0, none⟩ = some (.slice i1 m1 l1) := cl0 hx2 0 rfl;have c1 : w2.cell? ⟨w.heap.size + 1, 1, none⟩ = some (.slice i2 m2 l2) := cl0 hx2 1 rfl;have c2 : w2.cell? ⟨w.heap.size + 1, 2, none⟩ = some (.slice i3 m3 l3) := cl0 hx2 2 rfl;go_simp;refine Shut.out hK _ _ (HSTO.out w2 (.slice p1 N.vec.length q1) (.slice p2 N.cloud.length q2) (.slice p3 N.items.length q3) hb12) (fun hS2 => ?_); clear hK K hS; have hS := hS2; clear hS2
   try simp only [Act.put, s1, s2, s3, s4, s5, s6]
   refine wpAnyH_done (by kernel_rfl) ?_ _
   try simp only [Act.put, s1, s2, s3, s4, s5, s6]
   simp only [NQ];have hx2 := HZH.out _ hb12;have HX3 : Hid ((set3c w2 (w.heap.size + 1) (.slice p1 N.vec.length q1) (.slice p2 N.cloud.length q2) (.slice p3 N.items.length q3)).heap[w.heap.size + 1]? = some (.cells #[.slice p1 N.vec.length q1, .slice p2 N.cloud.length q2, .slice p3 N.items.length q3] 28)) := Hd (set3c_same _ _ _ hx2);have HA3 : Hid (CartA (set3c w2 (w.heap.size + 1) (.slice p1 N.vec.length q1) (.slice p2 N.cloud.length q2) (.slice p3 N.items.length q3)) (.slice p1 N.vec.length q1) (.slice p2 N.cloud.length q2) (.slice p3 N.items.length q3) N) := Hd ⟨set3c_dots hj.1 hx2, set3c_dots hj.2.1 hx2, set3c_items hj.2.2 hx2⟩;have HB3 := Hd (set3c_below (b := w.heap.size + 1) (.slice p1 N.vec.length q1) (.slice p2 N.cloud.length q2) (.slice p3 N.items.length q3) (btr HB.out hb12) (by omega))
   clear hS hx2 hj hb12 hb2 f0 f1 f2 c0 c1 c2
   go_wp2_with fail
   go_roundw
   case rel => exact ⟨k + 1, by omega, by go_num, ⟨_, _, _, _, _, _, _, _, _, HX3.out, by rw [hN]; exact HA3.out⟩, HB3.out⟩
   case measure => simp [intOf]; omega
  ·have hke : k = l.length := by omega
   have a1 : ¬ ((k : Int) < (l.length : Int)) := by omega
   have hAf := HA.out;rw [hke, List.take_length] at hAf;have hz := (HB.out.block _ (lt_of_heap (HK0.out W0 brf))).trans (HK0.out W0 brf);have d0 : wr.cell? ⟨w.heap.size + 1, 0, none⟩ = some (.slice i1 m1 l1) := cl0 HX.out 0 rfl;have d1 : wr.cell? ⟨w.heap.size + 1, 1, none⟩ = some (.slice i2 m2 l2) := cl0 HX.out 1 rfl;have d2 : wr.cell? ⟨w.heap.size + 1, 2, none⟩ = some (.slice i3 m3 l3) := cl0 HX.out 2 rfl;have e0 : wr.cell? ⟨w.heap.size, 0, none⟩ = some (.slice none 0 0) := cl0 hz 0 rfl;have e1 : wr.cell? ⟨w.heap.size, 1, none⟩ = some (.slice none 0 0) := cl0 hz 1 rfl;have e2 : wr.cell? ⟨w.heap.size, 2, none⟩ = some (.slice none 0 0) := cl0 hz 2 rfl;have f0 : wr.frozen? ⟨w.heap.size, 0, none⟩ = false := froz0 hz 0;have f1 : wr.frozen? ⟨w.heap.size, 1, none⟩ = false := froz0 hz 1;have f2 : wr.frozen? ⟨w.heap.size, 2, none⟩ = false := froz0 hz 2;have HF : Hid (CartA (set3c wr w.heap.size (.slice i1 m1 l1) (.slice i2 m2 l2) (.slice i3 m3 l3)) (.slice i1 m1 l1) (.slice i2 m2 l2) (.slice i3 m3 l3) (allC l)) := Hd ⟨set3c_dots hAf.1 hz, set3c_dots hAf.2.1 hz, set3c_items hAf.2.2 hz⟩;have HBF := Hd (set3c_below (b := w.heap.size) (.slice i1 m1 l1) (.slice i2 m2 l2) (.slice i3 m3 l3) (HBW.out.trans (HB.out.mono HBW.out.size)) (Nat.le_refl _));clear hAf hz
   go_wp2_with fail
   (try simp only [Exit.inBlock, Exit.then])
   refine bodyPost_ret (v := .agg #[.slice i1 m1 l1, .slice i2 m2 l2, .slice i3 m3 l3]) ?_ rfl ⟨_, _, _, rfl, HF.out, HBF.out⟩;rw [results_cell_one rfl];go_simp
end Go.Proofs.YtemfaojmelljpaaGreatDoor

