/- ItemsValid walked for every input. -/
import Derived.Test.YtjlhdgmcaiiagaaGreatDoorL9r
namespace Go.Proofs.YtjlhdgmcaiiagaaGreatDoor
open Go.RowKit Go.Maps

set_option linter.unusedSimpArgs false in
set_option maxRecDepth 100000 in
set_option maxHeartbeats 8000000 in
theorem valid_in (l m : List ItemD) (v u : Value) (w : World) (h : Arr ItemR 2 w v l) (h2 : Arr ItemR 2 w u m) (hG : GlobIs w) : Calls Tryz.prog 8 #[v, u] w fun e w' => e = .returned (.bool true) ∧ Below w.heap.size w w' := by
  have HA := Lib.hid h
  have HA2 := Lib.hid h2
  have HGL := Lib.hid hG
  have HL := Lib.hid (l9light_any l v w h)
  have HL2 := Lib.hid (l9light_any m u w h2)
  have HB0 := Lib.hid (Below.refl w.heap.size w)
  have HLB : Hid (lightI l = true → Lt l ∧ l.length ≤ 20 ∧ ∀ x ∈ l, x.marks.length ≤ 10) := Lib.hid lightI_lt
  have HLN : Hid (lightI l = true → ∀ x ∈ l, x.name.size ≤ 100000) := Lib.hid (fun h x hx => by
    unfold lightI okL at h
    simp only [Bool.and_eq_true, decide_eq_true_eq, List.all_eq_true] at h
    have := (h.2 x hx).1
    omega)
  clear h h2 hG
  obtain ⟨r1, hr1⟩ : ∃ r, r = lightI l := ⟨_, rfl⟩
  rw [← hr1] at HL HLB HLN
  obtain ⟨r2, hr2⟩ : ∃ r, r = lightI m := ⟨_, rfl⟩
  rw [← hr2] at HL2
  clear hr1 hr2
  go_enter Tryz.func8, Tryz.ntmps8
  go_wp2_with fail
  refine (HL.out).mono ?_
  rintro e wq ⟨rfl, hwq⟩
  rw [hwq]
  clear hwq
  cases r1 with
  | false =>
    go_wp2_with fail
    refine (l9known_any _ (HGL.out.below HB0.out)).mono ?_
    rintro e wk ⟨rfl, hb⟩
    have HBK := Lib.hid (HB0.out.trans (hb.mono HB0.out.size))
    clear hb
    go_wp2_with fail
    go_ret
    exact ⟨rfl, HBK.out⟩
  | true =>
    have hlt := HLB.out rfl
    have HNM := Lib.hid (HLN.out rfl)
    clear HLB HLN
    go_wp2_with fail
    refine (HL2.out).mono ?_
    rintro e wq ⟨rfl, hwq⟩
    rw [hwq]
    clear hwq
    cases r2 with
    | false =>
      go_wp2_with fail
      refine (l9known_any _ (HGL.out.below HB0.out)).mono ?_
      rintro e wk ⟨rfl, hb⟩
      have HBK := Lib.hid (HB0.out.trans (hb.mono HB0.out.size))
      clear hb
      go_wp2_with fail
      go_ret
      exact ⟨rfl, HBK.out⟩
    | true =>
      clear HL HL2
      obtain ⟨r3, hr3⟩ : ∃ r, r = validI l := ⟨_, rfl⟩
      have HR3 := Lib.hid hr3
      clear hr3
      go_wp2_with fail
      refine (itemsValid_any l v w HA.out hlt.1 HGL.out).mono ?_
      rintro e w1 ⟨rfl, hb⟩
      have HB1 := Lib.hid (HB0.out.trans (hb.mono HB0.out.size))
      clear hb
      rw [← HR3.out]
      go_wp2_with fail
      refine (r9Valid_any l v w1 (HA.out.items HB1.out) hlt.1).mono ?_
      rintro e w2 ⟨rfl, hb⟩
      have HB2 := Lib.hid (HB1.out.trans (hb.mono HB1.out.size))
      clear hb
      rw [← HR3.out]
      have t0 : (r3 != r3) = false := by cases r3 <;> rfl
      obtain ⟨r4, hr4⟩ : ∃ r, r = decide (l = m) := ⟨_, rfl⟩
      have HR4 := Lib.hid hr4
      have t1 : (r4 != r4) = false := by cases r4 <;> rfl
      clear hr4
      go_wp2_with fail
      refine (itemsEqual_any l m v u w2 (HA.out.items HB2.out) (HA2.out.items HB2.out)).mono ?_
      rintro e w3 ⟨rfl, hb⟩
      have HB3 := Lib.hid (HB2.out.trans (hb.mono HB2.out.size))
      clear hb
      rw [← HR4.out]
      go_wp2_with fail
      refine (r9Equal_any l m v u w3 (HA.out.items HB3.out) (HA2.out.items HB3.out)).mono ?_
      rintro e w4 ⟨rfl, hb⟩
      have HB4 := Lib.hid (HB3.out.trans (hb.mono HB3.out.size))
      clear hb
      rw [← HR4.out]
      go_wp2_with fail
      refine (itemsEqual_any l l v v w4 (HA.out.items HB4.out) (HA.out.items HB4.out)).mono ?_
      rintro e w5 ⟨rfl, hb⟩
      have HB5 := Lib.hid (HB4.out.trans (hb.mono HB4.out.size))
      clear hb
      rw [decide_eq_true rfl]
      go_wp2_with fail
      refine (itemsCopy_any l v w5 (HA.out.items HB5.out) hlt.1).mono ?_
      rintro e w6 ⟨v6, ps, rfl, hpm, hfr, hb⟩
      have HB6 := Lib.hid (HB5.out.trans (hb.mono HB5.out.size))
      clear hb
      have h6 := hfr.arr
      rw [hpm] at h6
      have HA6 := Lib.hid h6
      clear hfr hpm h6
      go_wp2_with fail
      refine (r9Equal_any l l v6 v w6 HA6.out (HA.out.items HB6.out)).mono ?_
      rintro e w7 ⟨rfl, hb⟩
      have HQ7 := Lib.hid hb
      have HB7 := Lib.hid (HB6.out.trans (hb.mono HB6.out.size))
      clear hb
      rw [decide_eq_true rfl]
      go_wp2_with fail
      refine (itemsCopy_any l v6 w7 (HA6.out.items HQ7.out) hlt.1).mono ?_
      rintro e w8 ⟨v8, qs, rfl, hqm, hfr, hb⟩
      have HQ8 := Lib.hid hb
      have HB8 := Lib.hid (HB7.out.trans (hb.mono HB7.out.size))
      clear hb
      obtain ⟨o8, c8, g8, rfl, ho8, hg8, hle8, hsh8⟩ := hfr.shp (fun p hp => HNM.out _ (by rw [← hqm]; exact List.mem_map_of_mem hp))
      have HSH := Lib.hid hsh8
      have HO8 := Lib.hid ho8
      clear hfr hqm hsh8 ho8
      go_wp2_with fail
      refine (l9spoil_any w7.heap.size g8 qs.length c8 o8 w8 HO8.out hg8 hle8 HSH.out).mono ?_
      rintro e w9 ⟨rfl, hb⟩
      have HQ9 := Lib.hid (HQ7.out.trans ((HQ8.out.trans hb).mono HQ7.out.size))
      have HB9 := Lib.hid (HB8.out.trans (hb.mono HB7.out.size))
      clear hb
      go_wp2_with fail
      refine (r9Equal_any l l v6 v w9 (HA6.out.items HQ9.out) (HA.out.items HB9.out)).mono ?_
      rintro e w10 ⟨rfl, hb⟩
      have HB10 := Lib.hid (HB9.out.trans (hb.mono HB9.out.size))
      clear hb
      rw [decide_eq_true rfl]
      go_wp2_with fail
      refine (l9known_any _ (HGL.out.below HB10.out)).mono ?_
      rintro e wk ⟨rfl, hb⟩
      have HBK := Lib.hid (HB10.out.trans (hb.mono HB10.out.size))
      clear hb
      go_wp2_with fail
      go_ret
      exact ⟨rfl, HBK.out⟩
end Go.Proofs.YtjlhdgmcaiiagaaGreatDoor

