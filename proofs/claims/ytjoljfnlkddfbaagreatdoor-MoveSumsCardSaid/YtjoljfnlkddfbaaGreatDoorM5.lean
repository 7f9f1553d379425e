/- move.login. -/
import Derived.Test.YtjoljfnlkddfbaaGreatDoorM4
set_option linter.unusedSimpArgs false
set_option linter.unusedVariables false
set_option maxRecDepth 100000
set_option maxHeartbeats 16000000
namespace Go.Proofs.YtjoljfnlkddfbaaGreatDoor
open Go.RowKit Go.Maps Go.Sort Go.Shelf

theorem loginOk_bad {f t : CartD} {l : List DotD} (h : loginOk f t l = false) : loginE f t l = 2 := by unfold loginE; rw [h]; rfl
theorem much_bad {f t : CartD} {l : List DotD} (h : loginOk f t l = true) (hm : loginMuch f t = true) : loginE f t l = 14 := by unfold loginE; rw [h, hm]; rfl
theorem login_end {f t : CartD} {l : List DotD} (h : loginOk f t l = true) (hm : loginMuch f t = false) : loginE f t l = if 256 < manyN f t ∧ t.items.length < manyN f t then 13 else 0 := by
 unfold loginE
 rw [h, hm]
 rfl
theorem sum_err {f t : CartD} {x : ItemD} (hf : validC f = true) (ht : validC t = true) (hx : x ∈ f.items) (h : mSumE t x.name (qtyC f x.name) ≠ 0) : mSumE t x.name (qtyC f x.name) = 14 := by
 rw [mSumE_there hf ht (item_named hf hx) (thereB_mem hx)] at h ⊢
 split
 ·rfl
 ·rename_i h2; rw [if_neg h2] at h; exact absurd rfl h
theorem loginOk_of {f t : CartD} {l : List DotD} (h1 : validC f = true) (h2 : validC t = true) (h3 : l.length = f.items.length) (h4 : isSetB l = true) (h5 : l.all (freshC t) = true) : loginOk f t l = true := by
 unfold loginOk
 rw [h1, h2, h4, h5]
 simp [h3]
theorem movelogin_any (f t : CartD) (l : List DotD) (v1 v2 v3 u1 u2 u3 vl : Value) (w : World) (h : CartA w v1 v2 v3 f) (g : CartA w u1 u2 u3 t) (hl : Arr DotR 2 w vl l) (hlf : Lt f.items) (hlt : Lt t.items) (hG : GlobIs w) :
  Calls Tryz.prog 49 #[.agg #[v1, v2, v3], .agg #[u1, u2, u3], vl] w fun e w' => e = .returned (.int .i64 (loginE f t l)) ∧ Below w.heap.size w w' := by
 have hnl := hl.len
 have hni := h.2.2.len
 obtain ⟨o3', k3', e3', hel⟩ := h.2.2.itemAt
 obtain ⟨o1, n1, k1, o2, n2, k2, o3, n3, k3, rfl, rfl, rfl, hn1, hn2, hn3⟩ := opn4 h
 injection e3' with e31 e32 e33
 subst e31 e33
 clear e32
 obtain ⟨o4, n4, k4, o5, n5, k5, o6, n6, k6, rfl, rfl, rfl, hn4, hn5, hn6⟩ := opn4 g
 have hn6t := g.2.2.len
 have HIS : Hid (∀ wz, Below w.heap.size w wz → Calls Tryz.prog 86 #[vl] wz fun e w' => e = .returned (.bool (isSetB l)) ∧ Below wz.heap.size wz w') := Hd (fun wz hz => dotIsSet_any l vl wz (hl.dots hz))
 obtain ⟨ol, cl, rfl, hdl⟩ := hl.dotAt
 obtain ⟨W1, HW, HB, HS, HK0, HK1⟩ := box2 w #[.slice o1 n1 k1, .slice o2 n2 k2, .slice o3 n3 k3] 28 #[.slice o4 n4 k4, .slice o5 n5 k5, .slice o6 n6 k6] 28
 have HC := Hd (fun wz (hz : Below W1.heap.size W1 wz) => And.intro (cel3 (HK0.out wz hz)) (cel3 (HK1.out wz hz)))
 have HBW := Hd HB.out
 have HGL := Hd (hG.below HB.out)
 have HMY := Hd (moveMany_any f t _ _ _ _ _ _ W1 (h.below HB.out) (g.below HB.out) hlf hlt HGL.out)
 have HFR : Hid (∀ d wz, Below W1.heap.size W1 wz → Calls Tryz.prog 27 #[.agg #[.slice o4 n4 k4, .slice o5 n5 k5, .slice o6 n6 k6], dotV d] wz fun e w' => e = .returned (.bool (freshC t d)) ∧ Below wz.heap.size wz w') := Hd (fun d wz hz => deltaFresh_any t d _ _ _ wz (g.below (btr HB.out hz)) hlt (HGL.out.below hz))
 have HQ : Hid (∀ nm wz, Below W1.heap.size W1 wz → Calls Tryz.prog 44 #[.agg #[.slice o1 n1 k1, .slice o2 n2 k2, .slice o3 n3 k3], .string nm] wz fun e w' => e = .returned (.tuple #[.int .i64 (qtyC f nm), .int .i64 (qtyCE f nm)]) ∧ Below wz.heap.size wz w') := Hd (fun nm wz hz => cartQty_any f nm _ _ _ wz (h.below (btr HB.out hz)) hlf (HGL.out.below hz))
 have HSU : Hid (∀ nm q wz, nm.size ≤ maxLen → Below W1.heap.size W1 wz → Calls Tryz.prog 40 #[.agg #[.slice o4 n4 k4, .slice o5 n5 k5, .slice o6 n6 k6], .string nm, .int .i64 q] wz fun e w' => e = .returned (.tuple #[.int .i64 (mSum t nm q), .int .i64 (mSumE t nm q)]) ∧ Below wz.heap.size wz w') := Hd (fun nm q wz hs hz => moveSum_any t nm q _ _ _ wz (g.below (btr HB.out hz)) hlt hs (HGL.out.below hz))
 have HEL := Hd hel
 have HDL := Hd hdl
 have HN3 := Hd hn3
 have HN6 := Hd hn6
 obtain ⟨nl, hnl'⟩ : ∃ n, n = l.length := ⟨_, rfl⟩
 have HNL := Hd hnl'
 rw [← hnl'] at hnl ⊢
 rw [← hn3] at hni
 rw [← hn6] at hn6t
 have hsz := HS.out
 clear h g hl hlf hlt hG hel hdl hn1 hn2 hn3 hn4 hn5 hn6 HB HS hnl'
 rw [← HNL.out] at HIS
 have HE0 : Hid (loginOk f t l = false → loginE f t l = 2) := Hd loginOk_bad
 have HE1 : Hid (∀ x ∈ f.items, loginOk f t l = true → mSumE t x.name (qtyC f x.name) ≠ 0 → loginE f t l = mSumE t x.name (qtyC f x.name)) := Hd (fun x hx hk he => by
  obtain ⟨a1, a2, -⟩ := loginOk_parts hk
  rw [sum_err a1 a2 hx he]
  refine much_bad hk (List.any_eq_true.2 ⟨x, hx, ?_⟩)
  simp [he])
 have HE2 : Hid (loginOk f t l = true → (∀ x ∈ f.items, mSumE t x.name (qtyC f x.name) = 0) → loginE f t l = if 256 < manyN f t ∧ t.items.length < manyN f t then 13 else 0) := Hd (fun hk ha => login_end hk (by
  unfold loginMuch
  rw [List.any_eq_false]
  intro x hx
  simp [ha x hx]))
 obtain ⟨E, hE⟩ : ∃ E, E = loginE f t l := ⟨_, rfl⟩
 rw [← hE] at HE0 HE1 HE2 ⊢
 clear hE
 obtain ⟨⟨c0, c1, c2⟩, c3, c4, c5⟩ := HC.out W1 brf
 go_enter Tryz.func49, Tryz.ntmps49
 go_wp2_with fail
 rw [← HW.out]
 go_wp2_with fail
 refine HMY.out.mono ?_
 rintro e w2 ⟨rfl, hb2⟩
 have HB2 := Hd hb2
 clear hb2 HMY c0 c1 c2 c3 c4 c5
 obtain ⟨⟨c0, c1, c2⟩, c3, c4, c5⟩ := HC.out w2 HB2.out
 cases hv : (validC f && validC t) with
 | false =>
  have hme : mManyE f t = 2 := by unfold mManyE; rw [hv]; rfl
  rw [hme]
  have HF : Hid (E = 2) := Hd (HE0.out (by unfold loginOk; rw [hv]; rfl))
  clear HE0 HE1 HE2 hv hme
  go_wp2_with fail
  go_ret
  exact ⟨by rw [HF.out]; rfl, btr HBW.out HB2.out⟩
 | true =>
 have hme : mManyE f t = 0 := by unfold mManyE; rw [hv]; rfl
 have hmm : mMany f t = (manyN f t : Int) := by unfold mMany; rw [hv]; rfl
 rw [hme, hmm]
 have HV : Hid (validC f = true ∧ validC t = true) := Hd (by simpa using hv)
 clear hv hme hmm
 by_cases hll : nl = n3
 rotate_left
 ·have tl : ((nl : Int) != n3) = true := by simp; omega
  have HF : Hid (E = 2) := Hd (HE0.out (by
   rw [← Bool.not_eq_true]
   intro hk
   exact hll (by rw [HNL.out, HN3.out]; exact (loginOk_parts hk).2.2.1)))
  clear HE0 HE1 HE2 hll
  go_wp2_with fail
  go_ret
  exact ⟨by rw [HF.out]; rfl, btr HBW.out HB2.out⟩
 have tl : ((nl : Int) != n3) = false := by simp [hll]
 have HLL := Hd hll
 clear hll
 have HI2 := Hd (HIS.out w2 (btr HBW.out HB2.out))
 go_wp2_with fail
 refine HI2.out.mono ?_
 rintro e w3 ⟨rfl, hb3⟩
 have HB3 := Hd (btr HB2.out hb3)
 clear hb3 HIS HI2 c0 c1 c2 c3 c4 c5
 cases hset : isSetB l with
 | false =>
  have HF : Hid (E = 2) := Hd (HE0.out (by
   rw [← Bool.not_eq_true]
   intro hk
   rw [(loginOk_parts hk).2.2.2.1] at hset
   cases hset))
  clear HE0 HE1 HE2 hset
  go_wp2_with fail
  go_ret
  exact ⟨by rw [HF.out]; rfl, btr HBW.out HB3.out⟩
 | true =>
 have HST := Hd hset
 clear hset
 go_wp2_with fail
 go_loopw [40] (fun i wr => ∃ k : Nat, k ≤ nl ∧ i = .int .i64 k ∧ (l.take k).all (freshC t) = true ∧ Below W1.heap.size W1 wr) (fun i _ => nl - (intOf i).toNat)
 case atStart => exact ⟨0, Nat.zero_le _, rfl, rfl, HB3.out⟩
 case round =>
  obtain ⟨k, hk, rfl, hall, hB⟩ := hrel
  have HB := Hd hB
  have HALL := Hd hall
  clear hB hall
  obtain ⟨⟨c0, c1, c2⟩, c3, c4, c5⟩ := HC.out wr HB.out
  by_cases hlt : k < nl
  ·have hlt' : k < l.length := by rw [← HNL.out]; exact hlt
   obtain ⟨b, off, rfl, hbl, e0, e1⟩ := HDL.out k hlt'
   have hBw := btr HBW.out HB.out
   have d0 : wr.cell? ⟨b, off + k * 2, none⟩ = some (.int .i64 l[k].rep) := by rw [hBw.cell (p := ⟨_, _, _⟩) hbl]; exact e0
   have d1 : wr.cell? ⟨b, off + k * 2 + 1, none⟩ = some (.int .i64 l[k].ctr) := by rw [hBw.cell (p := ⟨_, _, _⟩) hbl]; exact e1
   have HSK : Hid ((l.take (k + 1)).all (freshC t) = ((l.take k).all (freshC t) && freshC t l[k])) := Hd (by rw [List.take_succ_eq_append_getElem hlt', List.all_append]; simp)
   have HNO : Hid (freshC t l[k] = false → loginOk f t l = false) := Hd (fun e => by
    rw [← Bool.not_eq_true]
    intro hk
    rw [(loginOk_parts hk).2.2.2.2 _ (List.getElem_mem hlt')] at e
    cases e)
   generalize l[k] = d at *
   obtain ⟨W5, HW5, HB5, HS5, HK5⟩ := box1 wr #[.int .i64 d.rep, .int .i64 d.ctr] 39
   have HB15 := Hd (btr HB.out HB5.out)
   have HF5 := Hd (HFR.out d W5 HB15.out)
   have a0 : (0 : Int) ≤ k := by omega
   have a1 : (k : Int) < nl := by omega
   have hkw := wr1 k (by omega)
   obtain ⟨r, hr⟩ : ∃ r, r = freshC t d := ⟨_, rfl⟩
   rw [← hr] at HF5 HSK HNO
   unfold dotV at HF5
   clear e0 e1 hBw hr
   go_upto_region 7 with fail
   rw [← HW5.out]
   clear c0 c1 c2 c3 c4 c5 d0 d1 a0 a1
   obtain ⟨⟨c0, c1, c2⟩, c3, c4, c5⟩ := HC.out W5 HB15.out
   obtain ⟨x0, x1⟩ := cel2 (HK5.out W5 brf)
   go_wp2_with fail
   refine HF5.out.mono ?_
   rintro e w6 ⟨rfl, hb6⟩
   have HB6 := Hd (btr HB15.out hb6)
   clear hb6 HF5 c0 c1 c2 c3 c4 c5 x0 x1 HW5
   cases r with
   | false =>
    have HF : Hid (E = 2) := Hd (HE0.out (HNO.out rfl))
    clear HE0 HE1 HE2 HNO HSK HALL
    go_wp2_with fail
    go_ret
    exact ⟨by rw [HF.out]; rfl, btr HBW.out HB6.out⟩
   | true =>
    have HF : Hid ((l.take (k + 1)).all (freshC t) = true) := Hd (by rw [HSK.out, HALL.out]; rfl)
    clear HNO HSK HALL
    go_wp2_with fail
    go_roundw
    case rel => exact ⟨k + 1, by omega, by go_num, HF.out, HB6.out⟩
    case measure => simp [intOf]; omega
  ·have hke : k = nl := by omega
   have HOK : Hid (loginOk f t l = true) := Hd (loginOk_of HV.out.1 HV.out.2 (by rw [← HNL.out, ← HN3.out]; exact HLL.out) HST.out (by have := HALL.out; rw [hke, HNL.out, List.take_length] at this; exact this))
   have a1 : ¬ (k : Int) < (nl : Int) := by omega
   clear HALL HE0 HFR hke HST
   go_wp2_with fail
   obtain ⟨wo, rfl⟩ : ∃ wo : World, wo = wr := ⟨_, rfl⟩
   go_loopw [52] (fun i wr => ∃ j : Nat, j ≤ n3 ∧ i = .int .i64 j ∧ (∀ x ∈ f.items.take j, mSumE t x.name (qtyC f x.name) = 0) ∧ Below W1.heap.size W1 wr) (fun i _ => n3 - (intOf i).toNat)
   case atStart => exact ⟨0, Nat.zero_le _, rfl, by simp, HB.out⟩
   case round =>
    obtain ⟨j, hj, rfl, hall, hB2⟩ := hrel
    have HBJ := Hd hB2
    have HALL := Hd hall
    clear hB2 hall c0 c1 c2 c3 c4 c5
    obtain ⟨⟨c0, c1, c2⟩, c3, c4, c5⟩ := HC.out wr HBJ.out
    by_cases hjt : j < n3
    ·have hjt' : j < f.items.length := by rw [← HN3.out]; exact hjt
     obtain ⟨b, off, mv, rfl, hbl, e0, e1, hns, hmk⟩ := HEL.out j hjt'
     obtain ⟨om, cm, rfl⟩ := hmk.slice
     have hBw := btr HBW.out HBJ.out
     have d0 : wr.cell? ⟨b, off + j * 2, none⟩ = some (.string f.items[j].name) := by rw [hBw.cell (p := ⟨_, _, _⟩) hbl]; exact e0
     have d1 : wr.cell? ⟨b, off + j * 2 + 1, none⟩ = some (.slice om f.items[j].marks.length cm) := by rw [hBw.cell (p := ⟨_, _, _⟩) hbl]; exact e1
     have HMX := Hd (HE1.out _ (List.getElem_mem hjt') HOK.out)
     have HAX : Hid (mSumE t f.items[j].name (qtyC f f.items[j].name) = 0 → ∀ x ∈ f.items.take (j + 1), mSumE t x.name (qtyC f x.name) = 0) := Hd (fun e x hx => by
      rw [List.take_succ_eq_append_getElem hjt', List.mem_append] at hx
      rcases hx with hx | hx
      ·exact HALL.out x hx
      ·rw [List.mem_singleton.1 hx]; exact e)
     generalize f.items[j] = x at *
     obtain ⟨W5, HW5, HB5, HS5, HK5⟩ := box1 wr #[.string x.name, .slice om x.marks.length cm] 55
     have HB15 := Hd (btr HBJ.out HB5.out)
     have HQ5 := Hd (HQ.out x.name W5 HB15.out)
     have HK5' := Hd (fun wz (hz : Below W5.heap.size W5 wz) => cel2 (HK5.out wz hz))
     have HNS := Hd hns
     have b0 : (0 : Int) ≤ j := by omega
     have b1 : (j : Int) < n3 := by omega
     have hjw := wr1 j (by omega)
     clear e0 e1 hBw hmk hns
     go_upto_region 13 with fail
     rw [← HW5.out]
     clear c0 c1 c2 c3 c4 c5 d0 d1 b0 b1
     obtain ⟨⟨c0, c1, c2⟩, c3, c4, c5⟩ := HC.out W5 HB15.out
     obtain ⟨x0, x1⟩ := HK5'.out W5 brf
     go_wp2_with fail
     refine HQ5.out.mono ?_
     rintro e w6 ⟨rfl, hb6⟩
     have HB56 := Hd hb6
     have HB6 := Hd (btr HB15.out hb6)
     clear hb6 HQ5 c0 c1 c2 c3 c4 c5 x0 x1 HW5
     have HS6 := Hd (HSU.out x.name (qtyC f x.name) w6 HNS.out HB6.out)
     obtain ⟨⟨c0, c1, c2⟩, c3, c4, c5⟩ := HC.out w6 HB6.out
     obtain ⟨x0, x1⟩ := HK5'.out w6 HB56.out
     generalize mSumE t x.name (qtyC f x.name) = SE at *
     generalize mSum t x.name (qtyC f x.name) = SV at *
     go_wp2_with fail
     refine HS6.out.mono ?_
     rintro e w7 ⟨rfl, hb7⟩
     have HB7 := Hd (btr HB6.out hb7)
     clear hb7 HS6 c0 c1 c2 c3 c4 c5 x0 x1
     by_cases hse : SE = 0
     rotate_left
     ·have hse1 : (SE != 0) = true := by simpa using hse
      have HF : Hid (E = SE) := Hd (HMX.out hse)
      clear HMX HAX HE1 HE2 HALL hse
      go_wp2_with fail
      go_ret
      exact ⟨by rw [HF.out]; rfl, btr HBW.out HB7.out⟩
     have hse1 : (SE != 0) = false := by simpa using hse
     have HF := Hd (HAX.out hse)
     clear HMX HAX HALL hse
     go_wp2_with fail
     go_roundw
     case rel => exact ⟨j + 1, by omega, by go_num, HF.out, HB7.out⟩
     case measure => simp [intOf]; omega
    ·have hje : j = n3 := by omega
     have HF : Hid (E = if 256 < manyN f t ∧ n6 < manyN f t then 13 else 0) := Hd (by rw [HN6.out]; exact HE2.out HOK.out (by have := HALL.out; rw [hje, HN3.out, List.take_length] at this; exact this))
     have b1 : ¬ (j : Int) < (n3 : Int) := by omega
     clear HALL HE1 HE2 hje
     generalize manyN f t = M at *
     by_cases q1 : 256 < M
     ·have t1 : (256 : Int) < M := by omega
      by_cases q2 : n6 < M
      ·have t2 : (n6 : Int) < M := by omega
       have HG : Hid (E = 13) := Hd (by rw [HF.out, if_pos ⟨q1, q2⟩])
       clear HF
       go_wp2_with fail
       go_ret
       exact ⟨by rw [HG.out]; rfl, btr HBW.out HBJ.out⟩
      ·have t2 : ¬ (n6 : Int) < M := by omega
       have HG : Hid (E = 0) := Hd (by rw [HF.out, if_neg (fun h => q2 h.2)])
       clear HF
       go_wp2_with fail
       go_ret
       exact ⟨by rw [HG.out]; rfl, btr HBW.out HBJ.out⟩
     ·have t1 : ¬ (256 : Int) < M := by omega
      have HG : Hid (E = 0) := Hd (by rw [HF.out, if_neg (fun h => q1 h.1)])
      clear HF
      go_wp2_with fail
      go_ret
      exact ⟨by rw [HG.out]; rfl, btr HBW.out HBJ.out⟩
end Go.Proofs.YtjoljfnlkddfbaaGreatDoor
