/- ItemsHolds inside: it answers true. -/
import Derived.Test.YtjlhdgmcaiiagaaGreatDoorL9f
namespace Go.Proofs.YtjlhdgmcaiiagaaGreatDoor
open Go.RowKit Go.Maps

theorem lightI_lt {l : List ItemD} (h : lightI l = true) : Lt l ∧ l.length ≤ 20 ∧ ∀ x ∈ l, x.marks.length ≤ 10 := by
  unfold lightI at h
  rw [Bool.and_eq_true, decide_eq_true_iff, List.all_eq_true] at h
  have h2 : ∀ x ∈ l, x.marks.length ≤ 10 := fun x hx => by
    have := h.2 x hx
    unfold okL at this
    simp only [Bool.and_eq_true, decide_eq_true_eq] at this
    exact this.2
  exact ⟨⟨by omega, fun x hx => by have := h2 x hx; omega⟩, h.1, h2⟩
theorem validI_one (x : ItemD) : validI [x] = oneI x := by
  rw [validI_eqB]
  unfold validB
  simp [risB]
set_option maxRecDepth 100000 in
set_option maxHeartbeats 16000000 in
theorem holds_in (l : List ItemD) (x : ItemD) (v mv : Value) (w : World) (h : Arr ItemR 2 w v l) (hm : Arr MarkR 4 w mv x.marks) (hs : x.name.size ≤ maxLen) (hG : GlobIs w) : Calls Tryz.prog 7 #[v, .agg #[.string x.name, mv]] w fun e w' => e = .returned (.bool true) ∧ Below w.heap.size w w' := by
  obtain ⟨mo, mc, rfl, -⟩ := id hm
  obtain ⟨W1, hW1⟩ : ∃ W1, W1 = w.alloc (.cells #[.string x.name, .slice mo x.marks.length mc] 31) := ⟨_, rfl⟩
  have hb1 : Below w.heap.size w W1 := by rw [hW1]; exact (Below.refl _ _).alloc (Nat.le_refl _) _
  have hg1 : W1.heap[w.heap.size]? = some (.cells #[.string x.name, .slice mo x.marks.length mc] 31) := by rw [hW1]; exact alloc_new _ _
  have HX : Hid (∀ wz, Below W1.heap.size W1 wz → wz.cell? ⟨w.heap.size, 0, none⟩ = some (.string x.name) ∧ wz.cell? ⟨w.heap.size, 1, none⟩ = some (.slice mo x.marks.length mc)) := Lib.hid (fun wz hz => ⟨by rw [hz.cell (p := ⟨w.heap.size, 0, none⟩) (lt_of_heap hg1), cell0 hg1 0]; rfl, by rw [hz.cell (p := ⟨w.heap.size, 1, none⟩) (lt_of_heap hg1), cell0 hg1 1]; rfl⟩)
  have HL := Lib.hid (l9light_any l v W1 (h.items hb1))
  have HA := Lib.hid h
  have HM := Lib.hid hm
  have HGL := Lib.hid hG
  have HB1 := Lib.hid hb1
  have HW := Lib.hid hW1
  have HLB : Hid (lightI l = true → Lt l ∧ l.length ≤ 20 ∧ ∀ x ∈ l, x.marks.length ≤ 10) := Lib.hid lightI_lt
  have HLX : Hid (lightI [x] = true → x.marks.length ≤ 10) := Lib.hid (fun h => (lightI_lt h).2.2 x (by simp))
  have HV1 : Hid (validI [x] = oneI x) := Lib.hid (validI_one x)
  clear h hm hG hg1 hb1 hW1
  obtain ⟨r1, hr1⟩ : ∃ r, r = lightI l := ⟨_, rfl⟩
  rw [← hr1] at HL HLB
  clear hr1
  obtain ⟨c0, c1⟩ := HX.out W1 (Below.refl _ _)
  cases r1 with
  | false =>
    go_enter Tryz.func7, Tryz.ntmps7
    go_wp2_with fail
    rw [← HW.out]
    refine HL.out.mono ?_
    rintro e wq ⟨rfl, hwq⟩
    rw [hwq]
    clear hwq
    have HKN := Lib.hid (l9known_any _ (HGL.out.below HB1.out))
    go_wp2_with fail
    refine HKN.out.mono ?_
    rintro e wk ⟨rfl, hbk⟩
    go_wp2_with fail
    go_ret
    exact ⟨rfl, HB1.out.trans (hbk.mono HB1.out.size)⟩  | true =>
    have hlt := HLB.out rfl
    obtain ⟨W2, hW2⟩ : ∃ W2, W2 = W1.alloc (.cells #[.string x.name, .slice mo x.marks.length mc] 31) := ⟨_, rfl⟩
    have hb2 : Below W1.heap.size W1 W2 := by rw [hW2]; exact (Below.refl _ _).alloc (Nat.le_refl _) _
    have HL2 := Lib.hid (l9light_any [x] (.slice (some ⟨W1.heap.size, 0, none⟩) 1 1) W2 (by rw [hW2]; exact arr_lit 31 hs ((HM.out.marks HB1.out).marks (by rw [← hW2]; exact hb2))))
    have HB2 := Lib.hid (HB1.out.trans (hb2.mono HB1.out.size))
    have HW2 := Lib.hid hW2
    have HBW2 := Lib.hid hb2
    obtain ⟨r2, hr2⟩ : ∃ r, r = lightI [x] := ⟨_, rfl⟩
    rw [← hr2] at HL2 HLX
    have HVL := Lib.hid (itemsValid_any l v W2 (HA.out.items HB2.out) hlt.1 (HGL.out.below HB2.out))
    clear hW2 hb2 hr2 HLB
    go_enter Tryz.func7, Tryz.ntmps7
    go_wp2_with fail
    rw [← HW.out]
    refine HL.out.mono ?_
    rintro e wq ⟨rfl, hwq⟩
    rw [hwq]
    clear hwq
    go_wp2_with fail
    rw [← HW2.out]
    refine (l9of_any _ _).mono ?_
    rintro e wq ⟨rfl, hwq⟩
    rw [hwq]
    clear hwq
    go_wp2_with fail
    refine HL2.out.mono ?_
    rintro e wq ⟨rfl, hwq⟩
    rw [hwq]
    clear hwq
    have HC2 := HBW2
    cases r2 with
    | false =>
      have HKN := Lib.hid (l9known_any _ (HGL.out.below HB2.out))
      go_wp2_with fail
      refine HKN.out.mono ?_
      rintro e wk ⟨rfl, hbk⟩
      go_wp2_with fail
      go_ret
      exact ⟨rfl, HB2.out.trans (hbk.mono HB2.out.size)⟩    | true =>
      have hx10 := HLX.out rfl
      have hx1 : Lt [x] := ⟨by simp, fun y hy => by rw [List.mem_singleton] at hy; rw [hy]; omega⟩
      obtain ⟨r3, hr3⟩ : ∃ r, r = validI l := ⟨_, rfl⟩
      rw [← hr3] at HVL
      have HR3 := Lib.hid hr3
      clear hr3 c0 c1
      go_wp2_with fail
      refine HVL.out.mono ?_
      rintro e w3 ⟨rfl, hb3⟩
      have HB3 := Lib.hid (HB2.out.trans (hb3.mono HB2.out.size))
      have HC3 := Lib.hid (HC2.out.trans (hb3.mono HC2.out.size))
      clear hb3 HVL
      cases r3 with
      | false =>
        have HKN := Lib.hid (l9known_any _ (HGL.out.below HB3.out))
        go_wp2_with fail
        refine HKN.out.mono ?_
        rintro e wk ⟨rfl, hbk⟩
        go_wp2_with fail
        go_ret
        exact ⟨rfl, HB3.out.trans (hbk.mono HB3.out.size)⟩      | true =>
        obtain ⟨W4, hW4⟩ : ∃ W4, W4 = w3.alloc (.cells #[.string x.name, .slice mo x.marks.length mc] 31) := ⟨_, rfl⟩
        have hb4 : Below w3.heap.size w3 W4 := by rw [hW4]; exact (Below.refl _ _).alloc (Nat.le_refl _) _
        have HB4 := Lib.hid (HB3.out.trans (hb4.mono HB3.out.size))
        have HC4 := Lib.hid (HC3.out.trans (hb4.mono HC3.out.size))
        have HV4 := Lib.hid (itemsValid_any [x] (.slice (some ⟨w3.heap.size, 0, none⟩) 1 1) W4 (by rw [hW4]; exact arr_lit 31 hs ((HM.out.marks HB3.out).marks (by rw [← hW4]; exact hb4))) hx1 (HGL.out.below HB4.out))
        have HW4 := Lib.hid hW4
        obtain ⟨c0, c1⟩ := HX.out w3 HC3.out
        rw [HV1.out] at HV4
        obtain ⟨r4, hr4⟩ : ∃ r, r = oneI x := ⟨_, rfl⟩
        rw [← hr4] at HV4
        have HR4 := Lib.hid hr4
        clear hr4 hb4 hW4
        go_wp2_with fail
        rw [← HW4.out]
        refine (l9of_any _ _).mono ?_
        rintro e wq ⟨rfl, hwq⟩
        rw [hwq]
        clear hwq
        go_wp2_with fail
        refine HV4.out.mono ?_
        rintro e w5 ⟨rfl, hb5⟩
        have HB5 := Lib.hid (HB4.out.trans (hb5.mono HB4.out.size))
        have HC5 := Lib.hid (HC4.out.trans (hb5.mono HC4.out.size))
        clear hb5 HV4 c0 c1 HW4
        cases r4 with
        | false =>
          have HKN := Lib.hid (l9known_any _ (HGL.out.below HB5.out))
          go_wp2_with fail
          refine HKN.out.mono ?_
          rintro e wk ⟨rfl, hbk⟩
          go_wp2_with fail
          go_ret
          exact ⟨rfl, HB5.out.trans (hbk.mono HB5.out.size)⟩        | true =>
          iterate 15 (first | go_values | go_skip | go_guarded | go_step | go_upon | go_back | go_simp)
          by_cases hp : putE l x = 0
          · exact holds_good l x v mo mc w W1 w5 HA HM hs HGL HX HB5 HC5 hlt hx10 HR3.out.symm HR4.out.symm hp _ _ _ _ _ _ _ _ _ _ _ _ _ _ _ _ _ _ _ _ _ _ _ _ _ _ _ _ _ _ _ _ _ _ _ _ _ _ _ _ _ _ _ _ _ _ _ _ _ _ _ _ _ _ _ _ _ _ _ _ _ _ _ _ _ _ _ _ _ _ _ _ _ _ _ _ _ _ _ _ _ _ _ _ _ _ _ _ _ _ _ _ _ _ _ _ _ _ _ _ _ _ _ _ _ _ _ _ _ _ _ _ _ _ _ _ _ _ _ _ _ _ _ _ _ _ _ _ _ _ _ _ _ _ _ _ _ _ _ _
          · exact holds_busy l x v mo mc w W1 w5 HA HM hs HGL HX HB5 HC5 hlt hx10 HR3.out.symm HR4.out.symm hp _ _ _ _ _ _ _ _ _ _ _ _ _ _ _ _ _ _ _ _ _ _ _ _ _ _ _ _ _ _ _ _ _ _ _ _ _ _ _ _ _ _ _ _ _ _ _ _ _ _ _ _ _ _ _ _ _ _ _ _ _ _ _ _ _ _ _ _ _ _ _ _ _ _ _ _ _ _ _ _ _ _ _ _ _ _ _ _ _ _ _ _ _ _ _ _ _ _ _ _ _ _ _ _ _ _ _ _ _ _ _ _ _ _ _ _ _ _ _ _ _ _ _ _ _ _ _ _ _ _ _ _ _ _ _ _ _ _ _ _
end Go.Proofs.YtjlhdgmcaiiagaaGreatDoor

