/- The reference's Merge of vectors; Dots, Valid, Has, Missing, IsCompact of contexts, walked. -/
import Derived.Test.YtfnfbcaoihhbpaaGreatDoorR2r
import Derived.Test.YtfnfbcaoihhbpaaGreatDoorCart
import Derived.Test.YtfnfbcaoihhbpaaGreatDoorR9u
set_option linter.unusedSimpArgs false
set_option linter.unusedVariables false
set_option maxRecDepth 100000
set_option maxHeartbeats 8000000
namespace Go.Proofs.YtfnfbcaoihhbpaaGreatDoor
open Go.RowKit Go.Maps

theorem raiseR_len (v : List DotD) (d : DotD) : (raiseR v d).length ≤ v.length + 1 := by
 unfold raiseR
 by_cases h : hasV v d = true
 ·rw [if_pos h]; omega
 ·rw [if_neg h]; exact raise1_len v d
theorem r3Dots_any (l : List DotD) (v : Value) (w : World) (h : Arr DotR 2 w v l) : Calls Tryz.prog 205 #[v] w fun e w' => e = .returned (.bool (l.all validDotD)) ∧ Below w.heap.size w w' := by
 have hn := h.len
 obtain ⟨o, c, rfl, hel⟩ := h.dotAt
 have HEL := Hd hel
 clear hel h
 go_enter Tryz.func205, Tryz.ntmps205
 go_wp2_with fail
 go_loopw [3] (fun i wr => ∃ k : Nat, k ≤ l.length ∧ i = .int .i64 k ∧ (l.take k).all validDotD = true ∧ Below w.heap.size w wr) (fun i _ => l.length - (intOf i).toNat)
 case atStart => exact ⟨0, Nat.zero_le _, rfl, rfl, Below.refl _ _⟩
 case round =>
  obtain ⟨k, hk, rfl, hall, hB⟩ := hrel
  have HALL := Hd hall
  have HB := Hd hB
  clear hall hB
  by_cases hlt : k < l.length
  ·obtain ⟨b, off, rfl, hbl, e0, e1⟩ := HEL.out k hlt
   have c0 : wr.cell? ⟨b, off + k * 2, none⟩ = some (.int .i64 l[k].rep) := by rw [HB.out.cell (p := ⟨_, _, _⟩) hbl]; exact e0
   have c1 : wr.cell? ⟨b, off + k * 2 + 1, none⟩ = some (.int .i64 l[k].ctr) := by rw [HB.out.cell (p := ⟨_, _, _⟩) hbl]; exact e1
   have HS := Hd (all_take_snoc validDotD l k hlt)
   have HBAD : Hid (validDotD l[k] = false → l.all validDotD = false) := Hd (fun h => List.all_eq_false.2 ⟨_, List.getElem_mem hlt, by simp [h]⟩)
   have HV := Hd (r1Valid_any l[k] wr)
   obtain ⟨r, hr⟩ : ∃ r, r = validDotD l[k] := ⟨_, rfl⟩
   rw [← hr] at HV HS HBAD
   unfold dotV at HV
   clear hr
   generalize l[k] = x at *
   have a0 : (0 : Int) ≤ k := by omega
   have a1 : (k : Int) < l.length := by omega
   have hkw := wr1 k (by omega)
   clear e0 e1
   go_wp2_with fail
   refine HV.out.mono ?_
   rintro e w8 ⟨rfl, hb8⟩
   have HB8 := Hd (btr HB.out hb8)
   clear hb8 HV
   cases r with
   | false =>
    have HF : Hid (l.all validDotD = false) := Hd (by first | exact HBAD.out rfl | exact HBAD.out trivial)
    clear HBAD
    go_wp2_with fail
    go_ret
    exact ⟨by rw [HF.out]; rfl, HB8.out⟩
   | true =>
    have HF : Hid ((l.take (k + 1)).all validDotD = true) := Hd (by rw [HS.out, HALL.out]; rfl)
    clear HBAD HS
    go_wp2_with fail
    go_roundw
    case rel => exact ⟨k + 1, by omega, by go_num, HF.out, HB8.out⟩
    case measure => simp [intOf]; omega
  ·have hke : k = l.length := by omega
   have HF : Hid (l.all validDotD = true) := Hd (by have := HALL.out; rw [hke, List.take_length] at this; exact this)
   have a1 : ¬ ((k : Int) < l.length) := by omega
   clear HALL
   go_wp2_with fail
   go_ret
   exact ⟨by rw [HF.out]; rfl, HB.out⟩
theorem r3Valid_any (vl cl : List DotD) (v1 v2 : Value) (w : World) (h1 : Arr DotR 2 w v1 vl) (h2 : Arr DotR 2 w v2 cl) : Calls Tryz.prog 148 #[.agg #[v1, v2]] w fun e w' => e = .returned (.bool (validX vl cl)) ∧ Below w.heap.size w w' := by
 have HX : Hid (validX vl cl = (validV vl && isSetB cl && cl.all validDotD)) := Hd rfl
 obtain ⟨o1, k1, rfl⟩ := h1.slice
 obtain ⟨o2, k2, rfl⟩ := h2.slice
 obtain ⟨n1, hn1⟩ : ∃ n, n = vl.length := ⟨_, rfl⟩
 obtain ⟨n2, hn2⟩ : ∃ n, n = cl.length := ⟨_, rfl⟩
 rw [← hn1] at h1
 rw [← hn2] at h2
 rw [← hn1, ← hn2]
 obtain ⟨W0, HW, HB, HS, HK0⟩ := box1 w #[.slice o1 n1 k1, .slice o2 n2 k2] 25
 have HC := Hd (fun wz (hz : Below W0.heap.size W0 wz) => cel2 (HK0.out wz hz))
 have hbb0 := HB.out
 have HA1 := Hd (h1.dots hbb0)
 have HA2 := Hd (h2.dots hbb0)
 clear hbb0 h1 h2 hn1 hn2
 obtain ⟨c0, c1⟩ := HC.out W0 brf
 have HV1 := Hd (r2Valid_any vl _ W0 HA1.out)
 obtain ⟨r1, hr1⟩ : ∃ r, r = validV vl := ⟨_, rfl⟩
 rw [← hr1] at HV1 HX
 clear hr1
 go_enter Tryz.func148, Tryz.ntmps148
 go_wp2_with fail
 rw [← HW.out]
 refine HV1.out.mono ?_
 rintro e w2 ⟨rfl, hb2⟩
 have HB2 := Hd hb2
 have HBF2 := Hd (btr HB.out hb2)
 clear hb2 c0 c1
 obtain ⟨c0, c1⟩ := HC.out w2 HB2.out
 cases r1 with
 | false =>
  go_wp2_with fail
  go_ret
  exact ⟨by rw [HX.out]; rfl, HBF2.out⟩
 | true =>
  have HV2 := Hd (r1IsSet_any cl _ w2 (HA2.out.dots HB2.out))
  obtain ⟨r2, hr2⟩ : ∃ r, r = isSetB cl := ⟨_, rfl⟩
  rw [← hr2] at HV2 HX
  clear hr2
  go_wp2_with fail
  refine HV2.out.mono ?_
  rintro e w3 ⟨rfl, hb3⟩
  have HB3 := Hd (btr HB2.out hb3)
  have HBF3 := Hd (btr HBF2.out hb3)
  clear hb3 c0 c1
  obtain ⟨c0, c1⟩ := HC.out w3 HB3.out
  cases r2 with
  | false =>
   go_wp2_with fail
   go_ret
   exact ⟨by rw [HX.out]; rfl, HBF3.out⟩
  | true =>
   have HV3 := Hd (r3Dots_any cl _ w3 (HA2.out.dots HB3.out))
   obtain ⟨r3, hr3⟩ : ∃ r, r = cl.all validDotD := ⟨_, rfl⟩
   rw [← hr3] at HV3 HX
   clear hr3
   go_wp2_with fail
   refine HV3.out.mono ?_
   rintro e w4 ⟨rfl, hb4⟩
   have HBF4 := Hd (btr HBF3.out hb4)
   clear hb4 c0 c1
   go_wp2_with fail
   go_ret
   exact ⟨by rw [HX.out]; cases r3 <;> rfl, HBF4.out⟩
theorem r3Has_any (vl cl : List DotD) (d : DotD) (v1 v2 : Value) (w : World) (h1 : Arr DotR 2 w v1 vl) (h2 : Arr DotR 2 w v2 cl) : Calls Tryz.prog 54 #[.agg #[v1, v2], dotV d] w fun e w' => e = .returned (.bool (hasX vl cl d)) ∧ Below w.heap.size w w' := by
 have HX : Hid (hasX vl cl d = (hasV vl d || (validDotD d && decide (d ∈ cl)))) := Hd rfl
 have HXV : Hid (validDotD d = false → hasV vl d = false) := Hd (fun h => by unfold hasV; rw [h]; rfl)
 obtain ⟨o1, k1, rfl⟩ := h1.slice
 obtain ⟨o2, k2, rfl⟩ := h2.slice
 obtain ⟨n1, hn1⟩ : ∃ n, n = vl.length := ⟨_, rfl⟩
 obtain ⟨n2, hn2⟩ : ∃ n, n = cl.length := ⟨_, rfl⟩
 rw [← hn1] at h1
 rw [← hn2] at h2
 rw [← hn1, ← hn2]
 obtain ⟨W1, HW, HB, HS, HK0, HK1⟩ := box2 w #[.slice o1 n1 k1, .slice o2 n2 k2] 25 #[.int .i64 d.rep, .int .i64 d.ctr] 30
 have HC := Hd (fun wz (hz : Below W1.heap.size W1 wz) => And.intro (cel2 (HK0.out wz hz)) (cel2 (HK1.out wz hz)))
 have hbb1 := HB.out
 have HA1 := Hd (h1.dots hbb1)
 have HA2 := Hd (h2.dots hbb1)
 clear hbb1 h1 h2 hn1 hn2
 obtain ⟨⟨c0, c1⟩, ⟨d0, d1⟩⟩ := HC.out W1 brf
 have HV1 := Hd (r1Valid_any d W1)
 have HHV : Hid (∀ wz, Below W1.heap.size W1 wz → Calls Tryz.prog 100 #[.slice o1 n1 k1, dotV d] wz fun e w' => e = .returned (.bool (hasV vl d)) ∧ Below wz.heap.size wz w') := Hd (fun wz hz => r2Has_any vl d _ wz (HA1.out.dots hz))
 have HHC : Hid (∀ wz, Below W1.heap.size W1 wz → Calls Tryz.prog 101 #[.slice o2 n2 k2, dotV d] wz fun e w' => e = .returned (.bool (decide (d ∈ cl))) ∧ Below wz.heap.size wz w') := Hd (fun wz hz => r1Has_any cl d _ wz (HA2.out.dots hz))
 unfold dotV at HV1 HHV HHC ⊢
 obtain ⟨r1, hr1⟩ : ∃ r, r = validDotD d := ⟨_, rfl⟩
 rw [← hr1] at HV1 HX HXV
 clear hr1
 obtain ⟨r2, hr2⟩ : ∃ r, r = hasV vl d := ⟨_, rfl⟩
 rw [← hr2] at HHV HX HXV
 clear hr2
 obtain ⟨r3, hr3⟩ : ∃ r, r = decide (d ∈ cl) := ⟨_, rfl⟩
 rw [← hr3] at HHC HX
 clear hr3
 go_enter Tryz.func54, Tryz.ntmps54
 go_wp2_with fail
 rw [← HW.out]
 go_wp2_with fail
 refine HV1.out.mono ?_
 rintro e w2 ⟨rfl, hb2⟩
 have HB2 := Hd hb2
 have HBF2 := Hd (btr HB.out hb2)
 clear hb2 c0 c1 d0 d1
 obtain ⟨⟨c0, c1⟩, ⟨d0, d1⟩⟩ := HC.out w2 HB2.out
 cases r1 with
 | false =>
  have hr2 : r2 = false := by first | exact HXV.out rfl | exact HXV.out trivial
  subst hr2
  clear HXV
  go_wp2_with fail
  go_ret
  exact ⟨by rw [HX.out]; rfl, HBF2.out⟩
 | true =>
  clear HXV
  have HV2 := Hd (HHV.out w2 HB2.out)
  go_wp2_with fail
  refine HV2.out.mono ?_
  rintro e w3 ⟨rfl, hb3⟩
  have HB3 := Hd (btr HB2.out hb3)
  have HBF3 := Hd (btr HBF2.out hb3)
  clear hb3 c0 c1 d0 d1
  obtain ⟨⟨c0, c1⟩, ⟨d0, d1⟩⟩ := HC.out w3 HB3.out
  cases r2 with
  | true =>
   go_wp2_with fail
   go_ret
   exact ⟨by rw [HX.out]; rfl, HBF3.out⟩
  | false =>
   have HV3 := Hd (HHC.out w3 HB3.out)
   go_wp2_with fail
   refine HV3.out.mono ?_
   rintro e w4 ⟨rfl, hb4⟩
   have HBF4 := Hd (btr HBF3.out hb4)
   clear hb4 c0 c1 d0 d1
   go_wp2_with fail
   go_ret
   exact ⟨by rw [HX.out]; cases r3 <;> rfl, HBF4.out⟩
theorem withD_len1 (s : List DotD) (d : DotD) : (withD s d).length ≤ s.length + 1 := foldl_withD_len [d] s
theorem r3Missing_any (vl cl l : List DotD) (v1 v2 v : Value) (w : World) (h1 : Arr DotR 2 w v1 vl) (h2 : Arr DotR 2 w v2 cl) (h : Arr DotR 2 w v l) (hll : l.length ≤ 1000000) :
  Calls Tryz.prog 96 #[.agg #[v1, v2], v] w fun e w' => ∃ v', e = .returned v' ∧ Arr DotR 2 w' v' ((l.filter (fun d => !hasX vl cl d)).foldl withD []) ∧ Below w.heap.size w w' := by
 have hn := h.len
 have HDI := Hd h.dotsI
 obtain ⟨o, c, rfl, hel⟩ := h.dotAt
 have HEL := Hd hel
 clear hel h
 obtain ⟨o1, k1, rfl⟩ := h1.slice
 obtain ⟨o2, k2, rfl⟩ := h2.slice
 obtain ⟨n1, hn1⟩ : ∃ n, n = vl.length := ⟨_, rfl⟩
 obtain ⟨n2, hn2⟩ : ∃ n, n = cl.length := ⟨_, rfl⟩
 rw [← hn1] at h1
 rw [← hn2] at h2
 rw [← hn1, ← hn2]
 obtain ⟨W0, HW, HB, HS, HK0⟩ := box1 w #[.slice o1 n1 k1, .slice o2 n2 k2] 25
 have HC := Hd (fun wz (hz : Below W0.heap.size W0 wz) => cel2 (HK0.out wz hz))
 have hbb0 := HB.out
 have HA1 := Hd (h1.dots hbb0)
 have HA2 := Hd (h2.dots hbb0)
 clear hbb0 h1 h2 hn1 hn2
 have HBW := Hd HB.out
 go_enter Tryz.func96, Tryz.ntmps96
 go_wp2_with fail
 rw [← HW.out]
 go_loopw [5, 6] (fun ov i wr => ∃ k : Nat, k ≤ l.length ∧ i = .int .i64 k ∧ Arr DotR 2 wr ov (((l.take k).filter (fun d => !hasX vl cl d)).foldl withD []) ∧ (((l.take k).filter (fun d => !hasX vl cl d)).foldl withD []).length ≤ k ∧ Below W0.heap.size W0 wr) (fun _ i _ => l.length - (intOf i).toNat)
 case atStart => exact ⟨0, Nat.zero_le _, rfl, arr_nil, Nat.le_refl _, Below.refl _ _⟩
 case round =>
  obtain ⟨k, hk, rfl, harr, hle, hB⟩ := hrel
  have HB := Hd hB
  by_cases hlt : k < l.length
  ·obtain ⟨b, off, rfl, hbl, e0, e1⟩ := HEL.out k hlt
   have HCX : Hid (∀ wz, Below W0.heap.size W0 wz → (wz.cell? ⟨w.heap.size, 0, none⟩ = some (.slice o1 n1 k1) ∧ wz.cell? ⟨w.heap.size, 1, none⟩ = some (.slice o2 n2 k2)) ∧ wz.cell? ⟨b, off + k * 2, none⟩ = some (.int .i64 l[k].rep) ∧ wz.cell? ⟨b, off + k * 2 + 1, none⟩ = some (.int .i64 l[k].ctr)) := Hd (fun wz hz => by
    have h2 := btr HBW.out hz
    exact ⟨HC.out wz hz, by rw [h2.cell (p := ⟨_, _, _⟩) hbl]; exact e0, by rw [h2.cell (p := ⟨_, _, _⟩) hbl]; exact e1⟩)
   have hdx : DI l[k] := HDI.out _ (List.getElem_mem hlt)
   have HHX := Hd ((r3Has_any vl cl l[k] _ _ wr.drew (HA1.out.dots (below_drew1 HB.out)) (HA2.out.dots (below_drew1 HB.out))).mono (R' := fun e w' => e = .returned (.bool (hasX vl cl l[k])) ∧ Below wr.heap.size wr w') (fun _ _ ⟨a1, a2⟩ => ⟨a1, bdr.trans a2⟩))
   have HST : Hid (((l.take (k + 1)).filter (fun d => !hasX vl cl d)).foldl withD [] = if hasX vl cl l[k] then ((l.take k).filter (fun d => !hasX vl cl d)).foldl withD [] else withD (((l.take k).filter (fun d => !hasX vl cl d)).foldl withD []) l[k]) := Hd (by
    rw [List.take_succ_eq_append_getElem hlt, List.filter_append, List.foldl_append]
    by_cases q : hasX vl cl l[k] = true
    ·rw [if_pos q]; simp [q]
    ·rw [if_neg q]; simp [q])
   have HARR := Hd harr
   obtain ⟨o7, c7, rfl⟩ := harr.slice
   obtain ⟨s, hs⟩ : ∃ s, s = ((l.take k).filter (fun d => !hasX vl cl d)).foldl withD [] := ⟨_, rfl⟩
   rw [← hs] at HST HARR hle ⊢
   obtain ⟨r, hr⟩ : ∃ r, r = hasX vl cl l[k] := ⟨_, rfl⟩
   rw [← hr] at HST HHX
   unfold dotV at HHX
   generalize l[k] = x at *
   have a0 : (0 : Int) ≤ k := by omega
   have a1 : (k : Int) < l.length := by omega
   have hkw := wr1 k (by omega)
   clear e0 e1 hB harr hs hr
   cases r with
   | true =>
    go_upto_region 5 with fail
    refine NQ.to ?_
    refine wp_region_held_drew (S := (fun wz => (wz.cell? ⟨w.heap.size, 0, none⟩ = some (.slice o1 n1 k1) ∧ wz.cell? ⟨w.heap.size, 1, none⟩ = some (.slice o2 n2 k2)) ∧ wz.cell? ⟨b, off + k * 2, none⟩ = some (.int .i64 x.rep) ∧ wz.cell? ⟨b, off + k * 2 + 1, none⟩ = some (.int .i64 x.ctr))) (by kernel_rfl) (HCX.out _ (below_drew1 HB.out)) (fun hS => ?_)
    refine tkR (n := 5) [0, 1, 2, 3, 4] rfl (by decide +kernel) hS ?_
    iterate 5 ((try simp only [Act.put, s1, s2, s3, s4, s5, s6]); refine ⟨_, ?_, rfl, Or.inl ⟨by kernel_rfl, fun w hSw => ok_of fun z hz => ?_⟩, ?_⟩; rotate_left; · (obtain ⟨⟨f1, f2⟩, f3, f4⟩ := hSw; go_simp; exact hz))
    refine RunOK.done ?_
    try simp only [Act.put, s1, s2, s3, s4, s5, s6]
    refine rd1 5 (by decide +kernel) rfl (fun K hK => ?_)
    go_simp
    go_at_call 54
    refine HHX.out.mono ?_
    rintro e w8 ⟨rfl, hb8⟩
    go_simp
    refine Shut.out hK _ _ (HCX.out w8 (btr HB.out hb8)) (fun hS2 => ?_); clear hK K hS; have hS := hS2; clear hS2
    refine tkR (n := 1) [6] rfl (by decide +kernel) hS ?_
    ((try simp only [Act.put, s1, s2, s3, s4, s5, s6]); refine ⟨_, ?_, rfl, Or.inl ⟨by kernel_rfl, fun w hSw => ok_of fun z hz => ?_⟩, ?_⟩; rotate_left; · (go_simp; exact hz))
    refine RunOK.done ?_
    try simp only [Act.put, s1, s2, s3, s4, s5, s6]
    refine wpAnyH_done (by kernel_rfl) ?_ _
    try simp only [Act.put, s1, s2, s3, s4, s5, s6]
    simp only [NQ]
    clear hS
    have HB8 := Hd (btr HB.out hb8)
    have HR8 := Hd (HARR.out.dots hb8)
    clear hb8
    have HF : Hid (((l.take (k + 1)).filter (fun d => !hasX vl cl d)).foldl withD [] = s) := Hd (by rw [HST.out]; simp)
    clear HST
    go_wp2_with fail
    exact ⟨⟨k + 1, by omega, by go_num, by rw [HF.out]; exact HR8.out, by rw [HF.out]; omega, HB8.out⟩, by simp [intOf]; omega⟩
   | false =>
    go_upto_region 5 with fail
    refine NQ.to ?_
    refine wp_region_held_drew (S := (fun wz => (wz.cell? ⟨w.heap.size, 0, none⟩ = some (.slice o1 n1 k1) ∧ wz.cell? ⟨w.heap.size, 1, none⟩ = some (.slice o2 n2 k2)) ∧ wz.cell? ⟨b, off + k * 2, none⟩ = some (.int .i64 x.rep) ∧ wz.cell? ⟨b, off + k * 2 + 1, none⟩ = some (.int .i64 x.ctr))) (by kernel_rfl) (HCX.out _ (below_drew1 HB.out)) (fun hS => ?_)
    refine tkR (n := 5) [0, 1, 2, 3, 4] rfl (by decide +kernel) hS ?_
    iterate 5 ((try simp only [Act.put, s1, s2, s3, s4, s5, s6]); refine ⟨_, ?_, rfl, Or.inl ⟨by kernel_rfl, fun w hSw => ok_of fun z hz => ?_⟩, ?_⟩; rotate_left; · (obtain ⟨⟨f1, f2⟩, f3, f4⟩ := hSw; go_simp; exact hz))
    refine RunOK.done ?_
    try simp only [Act.put, s1, s2, s3, s4, s5, s6]
    refine rd1 5 (by decide +kernel) rfl (fun K hK => ?_)
    go_simp
    go_at_call 54
    refine HHX.out.mono ?_
    rintro e w8 ⟨rfl, hb8⟩
    go_simp
    refine Shut.out hK _ _ (HCX.out w8 (btr HB.out hb8)) (fun hS2 => ?_); clear hK K hS; have hS := hS2; clear hS2
    refine tkR (n := 1) [6] rfl (by decide +kernel) hS ?_
    ((try simp only [Act.put, s1, s2, s3, s4, s5, s6]); refine ⟨_, ?_, rfl, Or.inl ⟨by kernel_rfl, fun w hSw => ok_of fun z hz => ?_⟩, ?_⟩; rotate_left; · (go_simp; exact hz))
    refine RunOK.done ?_
    try simp only [Act.put, s1, s2, s3, s4, s5, s6]
    refine wpAnyH_done (by kernel_rfl) ?_ _
    try simp only [Act.put, s1, s2, s3, s4, s5, s6]
    simp only [NQ]
    clear hS
    have HB8 := Hd (btr HB.out hb8)
    have HR8 := Hd (HARR.out.dots hb8)
    clear hb8
    have HF : Hid (((l.take (k + 1)).filter (fun d => !hasX vl cl d)).foldl withD [] = withD s x) := Hd (by rw [HST.out]; simp)
    clear HST
    have HWI := Hd (r1With_any s x _ w8 HR8.out hdx (by omega))
    have HWL := Hd (withD_len1 s x)
    unfold dotV at HWI
    obtain ⟨⟨z1, z2⟩, z3, z4⟩ := HCX.out w8 HB8.out
    go_wp2_with fail
    refine HWI.out.mono ?_
    rintro e w9 ⟨v9, rfl, h9, hb9⟩
    have HB9 := Hd (btr HB8.out hb9)
    have H9 := Hd h9
    clear hb9 h9 z1 z2 z3 z4
    go_wp2_with fail
    go_roundw
    case rel => exact ⟨k + 1, by omega, by go_num, by rw [HF.out]; exact H9.out, by rw [HF.out]; have := HWL.out; omega, HB9.out⟩
    case measure => simp [intOf]; omega
  ·have hke : k = l.length := by omega
   have HF : Hid (Arr DotR 2 wr u5 ((l.filter (fun d => !hasX vl cl d)).foldl withD [])) := Hd (by rw [hke, List.take_length] at harr; exact harr)
   have a1 : ¬ ((k : Int) < l.length) := by omega
   clear harr hle
   go_wp2_with fail
   go_ret
   exact ⟨_, rfl, HF.out, HBW.out.trans (HB.out.mono HBW.out.size)⟩
end Go.Proofs.YtfnfbcaoihhbpaaGreatDoor

