/- The reference's IsCompact; Valid of a cart. -/
import Derived.Test.YtfnfbcaoihhbpaaGreatDoorR3a
import Derived.Test.YtfnfbcaoihhbpaaGreatDoorR9v
import Derived.Test.YtfnfbcaoihhbpaaGreatDoorC1
set_option linter.unusedSimpArgs false
set_option linter.unusedVariables false
set_option maxRecDepth 100000
set_option maxHeartbeats 8000000
namespace Go.Proofs.YtfnfbcaoihhbpaaGreatDoor
open Go.RowKit Go.Maps

def nearW (v : List DotD) (d : DotD) : Bool := hasV v d || decide (d.ctr = IntKind.i64.wrap (getV v d.rep + 1))
theorem compactW_eq (v c : List DotD) : (!c.any (nearW v) && validX v c) = compactB v c := by
 rw [← compactR_eq]
 by_cases h : validX v c = true
 ·have hv := validV_parts (validX_parts h).1
  have e : nearW v = nearR v := funext fun d => by
   unfold nearW nearR
   have h1 := getV_le hv.1 d.rep
   have h2 := getV_nonneg hv.1 d.rep
   have h3 : IntKind.i64.wrap (getV v d.rep + 1) = getV v d.rep + 1 := by rw [IntKind.wrap_i64]; omega
   rw [h3]
  rw [e]
 ·rw [Bool.not_eq_true] at h
  rw [h, Bool.and_false, Bool.and_false]
theorem r3IsCompact_any (vl cl : List DotD) (v1 v2 : Value) (w : World) (h1 : Arr DotR 2 w v1 vl) (h2 : Arr DotR 2 w v2 cl) : Calls Tryz.prog 94 #[.agg #[v1, v2]] w fun e w' => e = .returned (.bool (compactB vl cl)) ∧ Below w.heap.size w w' := by
 have hn := h2.len
 have HX : Hid (compactB vl cl = (!cl.any (nearW vl) && validX vl cl)) := Hd (compactW_eq vl cl).symm
 obtain ⟨o2, k2, rfl, hel⟩ := h2.dotAt
 have HEL := Hd hel
 clear hel
 obtain ⟨o1, k1, rfl⟩ := h1.slice
 obtain ⟨n1, hn1⟩ : ∃ n, n = vl.length := ⟨_, rfl⟩
 obtain ⟨n2, hn2⟩ : ∃ n, n = cl.length := ⟨_, rfl⟩
 rw [← hn1] at h1
 rw [← hn2] at h2 hn
 rw [← hn1, ← hn2]
 obtain ⟨W0, HW, HB, HS, HK0⟩ := box1 w #[.slice o1 n1 k1, .slice o2 n2 k2] 25
 have HC := Hd (fun wz (hz : Below W0.heap.size W0 wz) => cel2 (HK0.out wz hz))
 have hbb0 := HB.out
 have HA1 := Hd (h1.dots hbb0)
 have HA2 := Hd (h2.dots hbb0)
 have HN2 := Hd hn2
 have HBW := Hd HB.out
 clear hbb0 h1 h2 hn1 hn2
 obtain ⟨c0, c1⟩ := HC.out W0 brf
 go_enter Tryz.func94, Tryz.ntmps94
 go_wp2_with fail
 rw [← HW.out]
 go_loopw [3] (fun i wr => ∃ k : Nat, k ≤ n2 ∧ i = .int .i64 k ∧ (cl.take k).any (nearW vl) = false ∧ Below W0.heap.size W0 wr) (fun i _ => n2 - (intOf i).toNat)
 case atStart => exact ⟨0, Nat.zero_le _, rfl, rfl, Below.refl _ _⟩
 case round =>
  obtain ⟨k, hk, rfl, hno, hB⟩ := hrel
  have HB := Hd hB
  have HNO := Hd hno
  clear c0 c1 hno hB
  obtain ⟨c0, c1⟩ := HC.out wr HB.out
  by_cases hlt : k < n2
  ·have hlt' : k < cl.length := by rw [← HN2.out]; exact hlt
   obtain ⟨b, off, rfl, hbl, e0, e1⟩ := HEL.out k hlt'
   have hblw : b < wr.heap.size := Nat.lt_of_lt_of_le hbl (Nat.le_trans HBW.out.size HB.out.size)
   have hwr : w.heap.size < wr.heap.size := Nat.lt_of_lt_of_le (by have := HS.out; omega) HB.out.size
   have HSN := Hd (any_take_snoc (nearW vl) cl k hlt')
   have HBAD : Hid (nearW vl cl[k] = true → compactB vl cl = false) := Hd (fun h => by rw [HX.out, List.any_eq_true.2 ⟨_, List.getElem_mem hlt', h⟩]; rfl)
   have d0 : wr.cell? ⟨b, off + k * 2, none⟩ = some (.int .i64 cl[k].rep) := by rw [(HBW.out.trans (HB.out.mono HBW.out.size)).cell (p := ⟨_, _, _⟩) hbl]; exact e0
   have d1 : wr.cell? ⟨b, off + k * 2 + 1, none⟩ = some (.int .i64 cl[k].ctr) := by rw [(HBW.out.trans (HB.out.mono HBW.out.size)).cell (p := ⟨_, _, _⟩) hbl]; exact e1
   have HNW : Hid (nearW vl cl[k] = (hasV vl cl[k] || decide (cl[k].ctr = IntKind.i64.wrap (getV vl cl[k].rep + 1)))) := Hd rfl
   generalize cl[k] = x at *
   clear e0 e1
   obtain ⟨W5, hW5⟩ : ∃ x5, x5 = wr.alloc (.cells #[.int .i64 x.rep, .int .i64 x.ctr] 30) := ⟨_, rfl⟩
   have hb5 : Below wr.heap.size wr W5 := by rw [hW5]; exact bal
   have hg5 : W5.heap[wr.heap.size]? = some (.cells #[.int .i64 x.rep, .int .i64 x.ctr] 30) := by rw [hW5]; exact alloc_new _ _
   have HB5 := Hd (btr HB.out hb5)
   have HCX : Hid (∀ wz, Below W5.heap.size W5 wz → (wz.cell? ⟨w.heap.size, 0, none⟩ = some (.slice o1 n1 k1) ∧ wz.cell? ⟨w.heap.size, 1, none⟩ = some (.slice (some ⟨b, off, none⟩) n2 k2)) ∧ wz.cell? ⟨wr.heap.size, 0, none⟩ = some (.int .i64 x.rep) ∧ wz.cell? ⟨wr.heap.size, 1, none⟩ = some (.int .i64 x.ctr)) := Hd (fun wz hz => by
    have z := (hz.block _ (lt_of_heap hg5)).trans hg5
    exact ⟨HC.out wz (btr HB5.out hz), cl0 z 0 rfl, cl0 z 1 rfl⟩)
   have HHX := Hd ((r2Has_any vl x _ W5.drew (HA1.out.dots (below_drew1 HB5.out))).mono (R' := fun e w' => e = .returned (.bool (hasV vl x)) ∧ Below W5.heap.size W5 w') (fun _ _ ⟨a1, a2⟩ => ⟨a1, bdr.trans a2⟩))
   have HGX : Hid (∀ wz, Below W5.heap.size W5 wz → Calls Tryz.prog 147 #[.slice o1 n1 k1, .int .i64 x.rep] wz fun e w' => e = .returned (.int .i64 (getV vl x.rep)) ∧ Below wz.heap.size wz w') := Hd (fun wz hz => r2Get_any vl x.rep _ wz (HA1.out.dots (btr HB5.out hz)))
   have HW5 := Hd hW5
   unfold dotV at HHX
   have a0 : (0 : Int) ≤ k := by omega
   have a1 : (k : Int) < (n2 : Int) := by omega
   have hkw := wr1 k (by omega)
   clear hW5 hb5 hg5
   obtain ⟨r, hr⟩ : ∃ r, r = hasV vl x := ⟨_, rfl⟩
   rw [← hr] at HHX HNW
   clear hr
   obtain ⟨gn, hgn⟩ : ∃ g, g = getV vl x.rep := ⟨_, rfl⟩
   rw [← hgn] at HGX HNW
   clear hgn
   obtain ⟨g2, hg2⟩ : ∃ g, g = IntKind.i64.wrap (gn + 1) := ⟨_, rfl⟩
   rw [← hg2] at HNW
   have hwg : IntKind.i64.wrap (gn + 1) = g2 := hg2.symm
   clear hg2
   cases r with
   | true =>
    have HF : Hid (compactB vl cl = false) := Hd (HBAD.out (by rw [HNW.out]; rfl))
    clear HBAD HNW HSN HNO
    go_upto_region 5 with fail
    rw [← HW5.out]
    refine NQ.to ?_
    refine wp_region_held_drew (S := (fun wz => (wz.cell? ⟨w.heap.size, 0, none⟩ = some (.slice o1 n1 k1) ∧ wz.cell? ⟨w.heap.size, 1, none⟩ = some (.slice (some ⟨b, off, none⟩) n2 k2)) ∧ wz.cell? ⟨wr.heap.size, 0, none⟩ = some (.int .i64 x.rep) ∧ wz.cell? ⟨wr.heap.size, 1, none⟩ = some (.int .i64 x.ctr))) (by kernel_rfl) (HCX.out _ bdr) (fun hS => ?_)
    refine tkR (n := 3) [0, 1, 2] rfl (by decide +kernel) hS ?_
    iterate 3 ((try simp only [Act.put, s1, s2, s3, s4, s5, s6]); refine ⟨_, ?_, rfl, Or.inl ⟨by kernel_rfl, fun w hSw => ok_of fun z hz => ?_⟩, ?_⟩; rotate_left; · (obtain ⟨⟨f1, f2⟩, f3, f4⟩ := hSw; go_simp; exact hz))
    refine RunOK.done ?_
    try simp only [Act.put, s1, s2, s3, s4, s5, s6]
    refine rd1 3 (by decide +kernel) rfl (fun K hK => ?_)
    go_simp
    go_at_call 100
    refine HHX.out.mono ?_
    rintro e w8 ⟨rfl, hb8⟩
    go_simp
    refine Shut.out hK _ _ (HCX.out w8 hb8) (fun hS2 => ?_); clear hK K hS; have hS := hS2; clear hS2
    refine tkR (n := 11) [4, 5, 6, 7, 8, 9, 10, 11, 12, 13, 14] rfl (by decide +kernel) hS ?_
    ((try simp only [Act.put, s1, s2, s3, s4, s5, s6]); refine ⟨_, ?_, rfl, Or.inl ⟨by kernel_rfl, fun w hSw => ok_of fun z hz => ?_⟩, ?_⟩; rotate_left; · (go_simp; exact hz))
    iterate 9 ((try simp only [Act.put, s1, s2, s3, s4, s5, s6]); refine ⟨_, undef, rfl, Or.inr ⟨by kernel_rfl, rfl⟩, ?_⟩)
    ((try simp only [Act.put, s1, s2, s3, s4, s5, s6]); refine ⟨_, ?_, rfl, Or.inl ⟨by kernel_rfl, fun w hSw => ok_of fun z hz => ?_⟩, ?_⟩; rotate_left; · (go_simp; exact hz))
    refine RunOK.done ?_
    try simp only [Act.put, s1, s2, s3, s4, s5, s6]
    refine wpAnyH_done (by kernel_rfl) ?_ _
    try simp only [Act.put, s1, s2, s3, s4, s5, s6]
    simp only [NQ]
    clear hS
    have HBF := Hd (btr HB5.out hb8)
    go_wp2_with fail
    go_ret
    exact ⟨by rw [HF.out]; rfl, HBW.out.trans (HBF.out.mono HBW.out.size)⟩
   | false =>
    by_cases q : x.ctr = g2
    ·have t : (x.ctr == g2) = true := beq_iff_eq.2 q
     have HF : Hid (compactB vl cl = false) := Hd (HBAD.out (by rw [HNW.out, decide_eq_true q]; rfl))
     clear HBAD HNW HSN HNO q
     go_upto_region 5 with fail
     rw [← HW5.out]
     refine NQ.to ?_
     refine wp_region_held_drew (S := (fun wz => (wz.cell? ⟨w.heap.size, 0, none⟩ = some (.slice o1 n1 k1) ∧ wz.cell? ⟨w.heap.size, 1, none⟩ = some (.slice (some ⟨b, off, none⟩) n2 k2)) ∧ wz.cell? ⟨wr.heap.size, 0, none⟩ = some (.int .i64 x.rep) ∧ wz.cell? ⟨wr.heap.size, 1, none⟩ = some (.int .i64 x.ctr))) (by kernel_rfl) (HCX.out _ bdr) (fun hS => ?_)
     refine tkR (n := 3) [0, 1, 2] rfl (by decide +kernel) hS ?_
     iterate 3 ((try simp only [Act.put, s1, s2, s3, s4, s5, s6]); refine ⟨_, ?_, rfl, Or.inl ⟨by kernel_rfl, fun w hSw => ok_of fun z hz => ?_⟩, ?_⟩; rotate_left; · (obtain ⟨⟨f1, f2⟩, f3, f4⟩ := hSw; go_simp; exact hz))
     refine RunOK.done ?_
     try simp only [Act.put, s1, s2, s3, s4, s5, s6]
     refine rd1 3 (by decide +kernel) rfl (fun K hK => ?_)
     go_simp
     go_at_call 100
     refine HHX.out.mono ?_
     rintro e w8 ⟨rfl, hb8⟩
     go_simp
     refine Shut.out hK _ _ (HCX.out w8 hb8) (fun hS2 => ?_); clear hK K hS; have hS := hS2; clear hS2
     refine tkR (n := 7) [4, 5, 6, 7, 8, 9, 10] rfl (by decide +kernel) hS ?_
     iterate 7 ((try simp only [Act.put, s1, s2, s3, s4, s5, s6]); refine ⟨_, ?_, rfl, Or.inl ⟨by kernel_rfl, fun w hSw => ok_of fun z hz => ?_⟩, ?_⟩; rotate_left; · (obtain ⟨⟨f1, f2⟩, f3, f4⟩ := hSw; go_simp; exact hz))
     refine RunOK.done ?_
     try simp only [Act.put, s1, s2, s3, s4, s5, s6]
     refine rd1 11 (by decide +kernel) rfl (fun K hK => ?_)
     go_simp
     go_at_call 147
     refine (HGX.out w8 hb8).mono ?_
     rintro e w9 ⟨rfl, hb9⟩
     have hb89 := btr hb8 hb9
     go_simp
     refine Shut.out hK _ _ (HCX.out w9 hb89) (fun hS2 => ?_); clear hK K hS; have hS := hS2; clear hS2
     refine tkR (n := 3) [12, 13, 14] rfl (by decide +kernel) hS ?_
     iterate 3 ((try simp only [Act.put, s1, s2, s3, s4, s5, s6]); refine ⟨_, ?_, rfl, Or.inl ⟨by kernel_rfl, fun w hSw => ok_of fun z hz => ?_⟩, ?_⟩; rotate_left; · (go_simp; exact hz))
     refine RunOK.done ?_
     try simp only [Act.put, s1, s2, s3, s4, s5, s6]
     refine wpAnyH_done (by kernel_rfl) ?_ _
     try simp only [Act.put, s1, s2, s3, s4, s5, s6]
     simp only [NQ]
     clear hS
     have HBF := Hd (btr HB5.out hb89)
     go_wp2_with fail
     go_ret
     exact ⟨by rw [HF.out]; rfl, HBW.out.trans (HBF.out.mono HBW.out.size)⟩
    ·have t : (x.ctr == g2) = false := beq_eq_false_iff_ne.2 q
     have HF : Hid ((cl.take (k + 1)).any (nearW vl) = false) := Hd (by rw [HSN.out, HNO.out, HNW.out, decide_eq_false q]; rfl)
     clear HBAD HNW HSN HNO q
     go_upto_region 5 with fail
     rw [← HW5.out]
     refine NQ.to ?_
     refine wp_region_held_drew (S := (fun wz => (wz.cell? ⟨w.heap.size, 0, none⟩ = some (.slice o1 n1 k1) ∧ wz.cell? ⟨w.heap.size, 1, none⟩ = some (.slice (some ⟨b, off, none⟩) n2 k2)) ∧ wz.cell? ⟨wr.heap.size, 0, none⟩ = some (.int .i64 x.rep) ∧ wz.cell? ⟨wr.heap.size, 1, none⟩ = some (.int .i64 x.ctr))) (by kernel_rfl) (HCX.out _ bdr) (fun hS => ?_)
     refine tkR (n := 3) [0, 1, 2] rfl (by decide +kernel) hS ?_
     iterate 3 ((try simp only [Act.put, s1, s2, s3, s4, s5, s6]); refine ⟨_, ?_, rfl, Or.inl ⟨by kernel_rfl, fun w hSw => ok_of fun z hz => ?_⟩, ?_⟩; rotate_left; · (obtain ⟨⟨f1, f2⟩, f3, f4⟩ := hSw; go_simp; exact hz))
     refine RunOK.done ?_
     try simp only [Act.put, s1, s2, s3, s4, s5, s6]
     refine rd1 3 (by decide +kernel) rfl (fun K hK => ?_)
     go_simp
     go_at_call 100
     refine HHX.out.mono ?_
     rintro e w8 ⟨rfl, hb8⟩
     go_simp
     refine Shut.out hK _ _ (HCX.out w8 hb8) (fun hS2 => ?_); clear hK K hS; have hS := hS2; clear hS2
     refine tkR (n := 7) [4, 5, 6, 7, 8, 9, 10] rfl (by decide +kernel) hS ?_
     iterate 7 ((try simp only [Act.put, s1, s2, s3, s4, s5, s6]); refine ⟨_, ?_, rfl, Or.inl ⟨by kernel_rfl, fun w hSw => ok_of fun z hz => ?_⟩, ?_⟩; rotate_left; · (obtain ⟨⟨f1, f2⟩, f3, f4⟩ := hSw; go_simp; exact hz))
     refine RunOK.done ?_
     try simp only [Act.put, s1, s2, s3, s4, s5, s6]
     refine rd1 11 (by decide +kernel) rfl (fun K hK => ?_)
     go_simp
     go_at_call 147
     refine (HGX.out w8 hb8).mono ?_
     rintro e w9 ⟨rfl, hb9⟩
     have hb89 := btr hb8 hb9
     go_simp
     refine Shut.out hK _ _ (HCX.out w9 hb89) (fun hS2 => ?_); clear hK K hS; have hS := hS2; clear hS2
     refine tkR (n := 3) [12, 13, 14] rfl (by decide +kernel) hS ?_
     iterate 3 ((try simp only [Act.put, s1, s2, s3, s4, s5, s6]); refine ⟨_, ?_, rfl, Or.inl ⟨by kernel_rfl, fun w hSw => ok_of fun z hz => ?_⟩, ?_⟩; rotate_left; · (go_simp; exact hz))
     refine RunOK.done ?_
     try simp only [Act.put, s1, s2, s3, s4, s5, s6]
     refine wpAnyH_done (by kernel_rfl) ?_ _
     try simp only [Act.put, s1, s2, s3, s4, s5, s6]
     simp only [NQ]
     clear hS
     have HBF := Hd (btr HB5.out hb89)
     go_wp2_with fail
     exact ⟨⟨k + 1, by omega, by go_num, HF.out, HBF.out⟩, by simp [intOf]; omega⟩
  ·have hke : k = n2 := by omega
   have HF : Hid (compactB vl cl = validX vl cl) := Hd (by
    have := HNO.out
    rw [hke, HN2.out, List.take_length] at this
    rw [HX.out, this]; rfl)
   have a1 : ¬ ((k : Int) < (n2 : Int)) := by omega
   have HVX := Hd (r3Valid_any vl cl _ _ wr (HA1.out.dots HB.out) (HA2.out.dots HB.out))
   clear HNO
   go_wp2_with fail
   refine HVX.out.mono ?_
   rintro e w8 ⟨rfl, hb8⟩
   have HBF := Hd (btr HB.out hb8)
   clear hb8 c0 c1
   go_wp2_with fail
   go_ret
   exact ⟨by rw [HF.out]; rfl, HBW.out.trans (HBF.out.mono HBW.out.size)⟩
theorem r10Valid_any (c : CartD) (x1 x2 x3 : Value) (w : World) (h : CartA w x1 x2 x3 c) (hl : Lt c.items) : Calls Tryz.prog 49 #[.agg #[x1, x2, x3]] w fun e w' => e = .returned (.bool (validC c)) ∧ Below w.heap.size w w' := by
 obtain ⟨h1, h2, h3⟩ := h
 have HX : Hid (validC c = (compactB c.vec c.cloud && validI c.items && (allDots c.items).all (hasC c))) := Hd rfl
 have HMS : Hid (∀ (wz : World) (v5 : Value), Arr DotR 2 wz v5 (((setD (allDots c.items)).filter (fun d => !hasX c.vec c.cloud d)).foldl withD []) → ∃ o5 n5 k5, v5 = .slice o5 n5 k5 ∧ (((n5 : Nat) : Int) == 0) = (allDots c.items).all (hasC c)) := Hd (fun wz v5 h5 => by
  obtain ⟨o5, k5, rfl⟩ := h5.slice
  refine ⟨_, _, _, rfl, ?_⟩
  have key : (((setD (allDots c.items)).filter (fun d => !hasX c.vec c.cloud d)).foldl withD []).length = 0 ↔ (allDots c.items).all (hasC c) = true := by
   rw [← missing_iff, List.length_eq_zero_iff, List.length_eq_zero_iff]
   have hm := (foldl_withD ((setD (allDots c.items)).filter (fun d => !hasX c.vec c.cloud d)) [] List.Pairwise.nil).2
   constructor
   ·intro e
    rw [List.eq_nil_iff_forall_not_mem]
    intro d hd
    have := (hm d).2 (Or.inr hd)
    rw [e] at this
    cases this
   ·intro e
    rw [e]; rfl
  rw [Bool.eq_iff_iff, ← key, beq_iff_eq]
  omega)
 have hsl : (setD (allDots c.items)).length ≤ 1000000 := Nat.le_trans (setD_leL _) hl.dots
 obtain ⟨o1, k1, rfl⟩ := h1.slice
 obtain ⟨o2, k2, rfl⟩ := h2.slice
 obtain ⟨o3, k3, rfl⟩ := h3.slice
 obtain ⟨n1, hn1⟩ : ∃ n, n = c.vec.length := ⟨_, rfl⟩
 obtain ⟨n2, hn2⟩ : ∃ n, n = c.cloud.length := ⟨_, rfl⟩
 obtain ⟨n3, hn3⟩ : ∃ n, n = c.items.length := ⟨_, rfl⟩
 rw [← hn1] at h1
 rw [← hn2] at h2
 rw [← hn3] at h3
 rw [← hn1, ← hn2, ← hn3]
 obtain ⟨W0, HW, HB, HS, HK0⟩ := box1 w #[.slice o1 n1 k1, .slice o2 n2 k2, .slice o3 n3 k3] 28
 have HC := Hd (fun wz (hz : Below W0.heap.size W0 wz) => cel3 (HK0.out wz hz))
 have hbb0 := HB.out
 have HCO := Hd ((r3IsCompact_any c.vec c.cloud _ _ W0.drew (h1.dots (below_drew1 hbb0)) (h2.dots (below_drew1 hbb0))).mono (R' := fun e w' => e = .returned (.bool (compactB c.vec c.cloud)) ∧ Below W0.heap.size W0 w') (fun _ _ ⟨a1, a2⟩ => ⟨a1, bdr.trans a2⟩))
 have HVI : Hid (∀ wz, Below W0.heap.size W0 wz → Calls Tryz.prog 95 #[.slice o3 n3 k3] wz fun e w' => e = .returned (.bool (validI c.items)) ∧ Below wz.heap.size wz w') := Hd (fun wz hz => r9Valid_any c.items _ wz (h3.items (btr hbb0 hz)) hl)
 have HDO : Hid (∀ wz, Below W0.heap.size W0 wz → Calls Tryz.prog 91 #[.slice o3 n3 k3] wz fun e w' => ∃ v', e = .returned v' ∧ Arr DotR 2 w' v' (setD (allDots c.items)) ∧ Below wz.heap.size wz w') := Hd (fun wz hz => r9Dots_any c.items _ wz (h3.items (btr hbb0 hz)) hl)
 have HMI : Hid (∀ wz v4, Below W0.heap.size W0 wz → Arr DotR 2 wz v4 (setD (allDots c.items)) → Calls Tryz.prog 96 #[.agg #[.slice o1 n1 k1, .slice o2 n2 k2], v4] wz fun e w' => ∃ v', e = .returned v' ∧ Arr DotR 2 w' v' (((setD (allDots c.items)).filter (fun d => !hasX c.vec c.cloud d)).foldl withD []) ∧ Below wz.heap.size wz w') := Hd (fun wz v4 hz h4 => r3Missing_any c.vec c.cloud _ _ _ _ wz (h1.dots (btr hbb0 hz)) (h2.dots (btr hbb0 hz)) h4 hsl)
 clear hbb0 h1 h2 h3 hn1 hn2 hn3 hl hsl
 obtain ⟨r1, hr1⟩ : ∃ r, r = compactB c.vec c.cloud := ⟨_, rfl⟩
 rw [← hr1] at HCO HX
 clear hr1
 obtain ⟨r2, hr2⟩ : ∃ r, r = validI c.items := ⟨_, rfl⟩
 rw [← hr2] at HVI HX
 clear hr2
 obtain ⟨r3, hr3⟩ : ∃ r, r = (allDots c.items).all (hasC c) := ⟨_, rfl⟩
 rw [← hr3] at HMS HX
 clear hr3
 go_enter Tryz.func49, Tryz.ntmps49
 cases r1 with
 | false =>
  go_upto_region 1 with fail
  rw [← HW.out]
  refine NQ.to ?_
  refine wp_region_held_drew (S := (fun wz => wz.cell? ⟨w.heap.size, 0, none⟩ = some (.slice o1 n1 k1) ∧ wz.cell? ⟨w.heap.size, 1, none⟩ = some (.slice o2 n2 k2) ∧ wz.cell? ⟨w.heap.size, 2, none⟩ = some (.slice o3 n3 k3))) (by kernel_rfl) (HC.out _ bdr) (fun hS => ?_)
  refine tkR (n := 2) [0, 1] rfl (by decide +kernel) hS ?_
  iterate 2 ((try simp only [Act.put, s1, s2, s3, s4, s5, s6]); refine ⟨_, ?_, rfl, Or.inl ⟨by kernel_rfl, fun w hSw => ok_of fun z hz => ?_⟩, ?_⟩; rotate_left; · (obtain ⟨f1, f2, f3⟩ := hSw; go_simp; exact hz))
  refine RunOK.done ?_
  try simp only [Act.put, s1, s2, s3, s4, s5, s6]
  refine rd1 2 (by decide +kernel) rfl (fun K hK => ?_)
  go_simp
  go_at_call 94
  refine HCO.out.mono ?_
  rintro e w2 ⟨rfl, hb2⟩
  go_simp
  refine Shut.out hK _ _ (HC.out w2 hb2) (fun hS2 => ?_); clear hK K hS; have hS := hS2; clear hS2
  refine tkR (n := 16) [3, 4, 5, 6, 7, 8, 9, 10, 11, 12, 13, 14, 15, 16, 17, 18] rfl (by decide +kernel) hS ?_
  ((try simp only [Act.put, s1, s2, s3, s4, s5, s6]); refine ⟨_, ?_, rfl, Or.inl ⟨by kernel_rfl, fun w hSw => ok_of fun z hz => ?_⟩, ?_⟩; rotate_left; · (go_simp; exact hz))
  iterate 3 ((try simp only [Act.put, s1, s2, s3, s4, s5, s6]); refine ⟨_, undef, rfl, Or.inr ⟨by kernel_rfl, rfl⟩, ?_⟩)
  iterate 2 ((try simp only [Act.put, s1, s2, s3, s4, s5, s6]); refine ⟨_, ?_, rfl, Or.inl ⟨by kernel_rfl, fun w hSw => ok_of fun z hz => ?_⟩, ?_⟩; rotate_left; · (go_simp; exact hz))
  iterate 8 ((try simp only [Act.put, s1, s2, s3, s4, s5, s6]); refine ⟨_, undef, rfl, Or.inr ⟨by kernel_rfl, rfl⟩, ?_⟩)
  iterate 2 ((try simp only [Act.put, s1, s2, s3, s4, s5, s6]); refine ⟨_, ?_, rfl, Or.inl ⟨by kernel_rfl, fun w hSw => ok_of fun z hz => ?_⟩, ?_⟩; rotate_left; · (go_simp; exact hz))
  refine RunOK.done ?_
  try simp only [Act.put, s1, s2, s3, s4, s5, s6]
  refine wpAnyH_done (by kernel_rfl) ?_ _
  try simp only [Act.put, s1, s2, s3, s4, s5, s6]
  simp only [NQ]
  clear hS
  have hbf := btr HB.out hb2
  go_wp2_with fail
  go_ret
  exact ⟨by rw [HX.out]; rfl, hbf⟩
 | true =>
  cases r2 with
  | false =>
   go_upto_region 1 with fail
   rw [← HW.out]
   refine NQ.to ?_
   refine wp_region_held_drew (S := (fun wz => wz.cell? ⟨w.heap.size, 0, none⟩ = some (.slice o1 n1 k1) ∧ wz.cell? ⟨w.heap.size, 1, none⟩ = some (.slice o2 n2 k2) ∧ wz.cell? ⟨w.heap.size, 2, none⟩ = some (.slice o3 n3 k3))) (by kernel_rfl) (HC.out _ bdr) (fun hS => ?_)
   refine tkR (n := 2) [0, 1] rfl (by decide +kernel) hS ?_
   iterate 2 ((try simp only [Act.put, s1, s2, s3, s4, s5, s6]); refine ⟨_, ?_, rfl, Or.inl ⟨by kernel_rfl, fun w hSw => ok_of fun z hz => ?_⟩, ?_⟩; rotate_left; · (obtain ⟨f1, f2, f3⟩ := hSw; go_simp; exact hz))
   refine RunOK.done ?_
   try simp only [Act.put, s1, s2, s3, s4, s5, s6]
   refine rd1 2 (by decide +kernel) rfl (fun K hK => ?_)
   go_simp
   go_at_call 94
   refine HCO.out.mono ?_
   rintro e w2 ⟨rfl, hb2⟩
   go_simp
   refine Shut.out hK _ _ (HC.out w2 hb2) (fun hS2 => ?_); clear hK K hS; have hS := hS2; clear hS2
   refine tkR (n := 3) [3, 4, 5] rfl (by decide +kernel) hS ?_
   iterate 3 ((try simp only [Act.put, s1, s2, s3, s4, s5, s6]); refine ⟨_, ?_, rfl, Or.inl ⟨by kernel_rfl, fun w hSw => ok_of fun z hz => ?_⟩, ?_⟩; rotate_left; · (obtain ⟨f1, f2, f3⟩ := hSw; go_simp; exact hz))
   refine RunOK.done ?_
   try simp only [Act.put, s1, s2, s3, s4, s5, s6]
   refine rd1 6 (by decide +kernel) rfl (fun K hK => ?_)
   go_simp
   go_at_call 95
   refine (HVI.out w2 hb2).mono ?_
   rintro e w3 ⟨rfl, hb3⟩
   have hb23 := btr hb2 hb3
   go_simp
   refine Shut.out hK _ _ (HC.out w3 hb23) (fun hS2 => ?_); clear hK K hS; have hS := hS2; clear hS2
   refine tkR (n := 12) [7, 8, 9, 10, 11, 12, 13, 14, 15, 16, 17, 18] rfl (by decide +kernel) hS ?_
   iterate 2 ((try simp only [Act.put, s1, s2, s3, s4, s5, s6]); refine ⟨_, ?_, rfl, Or.inl ⟨by kernel_rfl, fun w hSw => ok_of fun z hz => ?_⟩, ?_⟩; rotate_left; · (go_simp; exact hz))
   iterate 8 ((try simp only [Act.put, s1, s2, s3, s4, s5, s6]); refine ⟨_, undef, rfl, Or.inr ⟨by kernel_rfl, rfl⟩, ?_⟩)
   iterate 2 ((try simp only [Act.put, s1, s2, s3, s4, s5, s6]); refine ⟨_, ?_, rfl, Or.inl ⟨by kernel_rfl, fun w hSw => ok_of fun z hz => ?_⟩, ?_⟩; rotate_left; · (go_simp; exact hz))
   refine RunOK.done ?_
   try simp only [Act.put, s1, s2, s3, s4, s5, s6]
   refine wpAnyH_done (by kernel_rfl) ?_ _
   try simp only [Act.put, s1, s2, s3, s4, s5, s6]
   simp only [NQ]
   clear hS
   have hbf := btr HB.out hb23
   go_wp2_with fail
   go_ret
   exact ⟨by rw [HX.out]; rfl, hbf⟩
  | true =>
   go_upto_region 1 with fail
   rw [← HW.out]
   refine NQ.to ?_
   refine wp_region_held_drew (S := (fun wz => wz.cell? ⟨w.heap.size, 0, none⟩ = some (.slice o1 n1 k1) ∧ wz.cell? ⟨w.heap.size, 1, none⟩ = some (.slice o2 n2 k2) ∧ wz.cell? ⟨w.heap.size, 2, none⟩ = some (.slice o3 n3 k3))) (by kernel_rfl) (HC.out _ bdr) (fun hS => ?_)
   refine tkR (n := 2) [0, 1] rfl (by decide +kernel) hS ?_
   iterate 2 ((try simp only [Act.put, s1, s2, s3, s4, s5, s6]); refine ⟨_, ?_, rfl, Or.inl ⟨by kernel_rfl, fun w hSw => ok_of fun z hz => ?_⟩, ?_⟩; rotate_left; · (obtain ⟨f1, f2, f3⟩ := hSw; go_simp; exact hz))
   refine RunOK.done ?_
   try simp only [Act.put, s1, s2, s3, s4, s5, s6]
   refine rd1 2 (by decide +kernel) rfl (fun K hK => ?_)
   go_simp
   go_at_call 94
   refine HCO.out.mono ?_
   rintro e w2 ⟨rfl, hb2⟩
   go_simp
   refine Shut.out hK _ _ (HC.out w2 hb2) (fun hS2 => ?_); clear hK K hS; have hS := hS2; clear hS2
   refine tkR (n := 3) [3, 4, 5] rfl (by decide +kernel) hS ?_
   iterate 3 ((try simp only [Act.put, s1, s2, s3, s4, s5, s6]); refine ⟨_, ?_, rfl, Or.inl ⟨by kernel_rfl, fun w hSw => ok_of fun z hz => ?_⟩, ?_⟩; rotate_left; · (obtain ⟨f1, f2, f3⟩ := hSw; go_simp; exact hz))
   refine RunOK.done ?_
   try simp only [Act.put, s1, s2, s3, s4, s5, s6]
   refine rd1 6 (by decide +kernel) rfl (fun K hK => ?_)
   go_simp
   go_at_call 95
   refine (HVI.out w2 hb2).mono ?_
   rintro e w3 ⟨rfl, hb3⟩
   have hb23 := btr hb2 hb3
   go_simp
   refine Shut.out hK _ _ (HC.out w3 hb23) (fun hS2 => ?_); clear hK K hS; have hS := hS2; clear hS2
   refine tkR (n := 6) [7, 8, 9, 10, 11, 12] rfl (by decide +kernel) hS ?_
   iterate 6 ((try simp only [Act.put, s1, s2, s3, s4, s5, s6]); refine ⟨_, ?_, rfl, Or.inl ⟨by kernel_rfl, fun w hSw => ok_of fun z hz => ?_⟩, ?_⟩; rotate_left; · (obtain ⟨f1, f2, f3⟩ := hSw; go_simp; exact hz))
   refine RunOK.done ?_
   try simp only [Act.put, s1, s2, s3, s4, s5, s6]
   refine rd1 13 (by decide +kernel) rfl (fun K hK => ?_)
   go_simp
   go_at_call 91
   refine (HDO.out w3 hb23).mono ?_
   rintro e w4 ⟨v4, rfl, h4, hb4⟩
   have hb24 := btr hb23 hb4
   go_simp
   refine Shut.out hK _ _ (HC.out w4 hb24) (fun hS2 => ?_); clear hK K hS; have hS := hS2; clear hS2
   try simp only [Act.put, s1, s2, s3, s4, s5, s6]
   refine rd1 14 (by decide +kernel) rfl (fun K hK => ?_)
   go_simp
   go_at_call 96
   refine (HMI.out w4 v4 hb24 h4).mono ?_
   rintro e w5 ⟨v5, rfl, h5, hb5⟩
   have hb25 := btr hb24 hb5
   have hm5 := HMS.out _ _ h5
   obtain ⟨o5, n5, k5, rfl, hm5⟩ := hm5
   go_simp
   refine Shut.out hK _ _ (HC.out w5 hb25) (fun hS2 => ?_); clear hK K hS; have hS := hS2; clear hS2
   refine tkR (n := 4) [15, 16, 17, 18] rfl (by decide +kernel) hS ?_
   iterate 4 ((try simp only [Act.put, s1, s2, s3, s4, s5, s6]); refine ⟨_, ?_, rfl, Or.inl ⟨by kernel_rfl, fun w hSw => ok_of fun z hz => ?_⟩, ?_⟩; rotate_left; · (go_simp; exact hz))
   refine RunOK.done ?_
   try simp only [Act.put, s1, s2, s3, s4, s5, s6]
   refine wpAnyH_done (by kernel_rfl) ?_ _
   try simp only [Act.put, s1, s2, s3, s4, s5, s6]
   simp only [NQ]
   clear hS
   have hbf := btr HB.out hb25
   go_wp2_with fail
   go_ret
   exact ⟨by rw [HX.out]; cases r3 <;> rfl, hbf⟩
end Go.Proofs.YtfnfbcaoihhbpaaGreatDoor

