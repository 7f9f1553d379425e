/- ItemsPuts walked for every input. -/
import Derived.Test.YtjlhdgmcaiiagaaGreatDoorL9r
import Derived.Test.YtjlhdgmcaiiagaaGreatDoorR9p
namespace Go.Proofs.YtjlhdgmcaiiagaaGreatDoor
open Go.RowKit Go.Maps

theorem putE_bad {l : List ItemD} {x : ItemD} (h : (validI l && oneI x) = false) : (decide (putR l x = []) && decide (putE l x = 2)) = true := by
  have e : putE l x = 2 := by unfold putE; rw [h]; rfl
  simp [putR, e]
theorem meetB_comm (a b : ItemD) : meetB a b = meetB b a := by
  rcases h : meetB a b with _ | _
  · exact (meetB_symm h).symm
  · rcases h2 : meetB b a with _ | _
    · rw [meetB_symm h2] at h; cases h
    · rfl
theorem insI_pairwise {l : List ItemD} {x : ItemD} (h : l.Pairwise (fun a b => meetB a b = false)) (hx : ∀ y ∈ l, meetB y x = false) : (insI l x).Pairwise (fun a b => meetB a b = false) := by
  have h2 : (l ++ [x]).Pairwise (fun a b => meetB a b = false) := List.pairwise_append.2 ⟨h, List.pairwise_singleton _ _, fun a ha b hb => by rw [List.mem_singleton.1 hb]; exact hx a ha⟩
  exact h2.perm (insI_perm l x) (fun {a b} h => meetB_symm h)
theorem put_same {l : List ItemD} {x : ItemD} (h : validI l = true) (hx : oneI x = true) : putE l x = refPutE l x ∧ putR l x = refPut l x := by
  obtain ⟨h1, h2, h3⟩ := validI_parts h
  have hd := validI_drop h x.name
  obtain ⟨d1, d2, d3⟩ := validI_parts hd
  have hv : validI (putI l x) = !((dropN l x.name).any (fun y => meetB y x)) := by
    rcases ha : (dropN l x.name).any (fun y => meetB y x) with _ | _
    · rw [Bool.not_false]
      refine validI_of (fun y hy => ?_) (risB_iff.2 (putI_rising h2 x)) (insI_pairwise d3 (fun y hy => ?_))
      · rcases mem_putI.1 hy with hy | rfl
        · exact d1 y hy
        · exact hx
      · have := List.any_eq_false.1 ha y hy
        simpa using this
    · rw [Bool.not_true]
      obtain ⟨y, hy, hm⟩ := List.any_eq_true.1 ha
      rcases hv : validI (putI l x) with _ | _
      · rfl
      · have h5 := pairwise_mem (validI_parts hv).2.2 (mem_putI.2 (Or.inl hy)) (mem_putI.2 (Or.inr rfl)) (fun e => by
          rw [mem_dropN, e] at hy
          exact hy.2 rfl)
        rw [h5] at hm
        cases hm
  have he : putE l x = refPutE l x := by
    unfold putE refPutE
    rw [h, hx, hv]
    cases (dropN l x.name).any (fun y => meetB y x) <;> rfl
  refine ⟨he, ?_⟩
  unfold putR refPut
  rw [he]
  unfold refPutE
  cases (dropN l x.name).any (fun y => meetB y x) <;> rfl
theorem PutPost.all {l : List ItemD} {x : ItemD} {w w' : World} {e : Ending} (h : PutPost l x w e w') (hn : ∀ y ∈ putI l x, y.name.size ≤ 100000) :
    ∃ (o : Option Addr) (n c g : Nat), e = .returned (.tuple #[.slice o n c, .int .i64 (putE l x)]) ∧ Arr ItemR 2 w' (.slice o n c) (putR l x) ∧ (n = 0 ∨ o = some ⟨g, 0, none⟩) ∧ w.heap.size ≤ g ∧ n ≤ maxLen ∧ Shp w.heap.size w' g n 0 ∧ Below w.heap.size w w' := by
  obtain ⟨v', rfl, hb, h1, h2⟩ := h
  by_cases he : putE l x = 0
  · obtain ⟨ps, hpm, hfr⟩ := h2 he
    have hr : putR l x = putI l x := by unfold putR; rw [if_pos he]
    have ha := hfr.arr
    rw [hpm] at ha
    obtain ⟨o, c, g, rfl, ho, hg, hle, hsh⟩ := hfr.shp (fun p hp => hn _ (by rw [← hpm]; exact List.mem_map_of_mem hp))
    exact ⟨o, _, c, g, rfl, by rw [hr]; exact ha, ho, hg, hle, hsh, hb⟩
  · have hr : putR l x = [] := by unfold putR; rw [if_neg he]
    rw [h1 he]
    exact ⟨none, 0, 0, w.heap.size, rfl, by rw [hr]; exact arr_nil, Or.inl rfl, Nat.le_refl _, Nat.zero_le _, fun i hi => absurd hi (Nat.not_lt_zero i), hb⟩
set_option linter.unusedSimpArgs false in
set_option maxRecDepth 100000 in
set_option maxHeartbeats 16000000 in
theorem puts_in (l : List ItemD) (x : ItemD) (v mv : Value) (w : World) (h : Arr ItemR 2 w v l) (hm : Arr MarkR 4 w mv x.marks) (hs : x.name.size ≤ maxLen) (hG : GlobIs w) : Calls Tryz.prog 4 #[v, .agg #[.string x.name, mv]] w fun e w' => e = .returned (.bool true) ∧ Below w.heap.size w w' := by
  obtain ⟨mo, mc, rfl, -⟩ := id hm
  obtain ⟨W1, hW1⟩ : ∃ W1, W1 = w.alloc (.cells #[.string x.name, .slice mo x.marks.length mc] 31) := ⟨_, rfl⟩
  have hb1 : Below w.heap.size w W1 := by rw [hW1]; exact (Below.refl _ _).alloc (Nat.le_refl _) _
  have hg1 : W1.heap[w.heap.size]? = some (.cells #[.string x.name, .slice mo x.marks.length mc] 31) := by rw [hW1]; exact alloc_new _ _
  have HX : Hid (∀ wz, Below W1.heap.size W1 wz → wz.cell? ⟨w.heap.size, 0, none⟩ = some (.string x.name) ∧ wz.cell? ⟨w.heap.size, 1, none⟩ = some (.slice mo x.marks.length mc)) := Lib.hid (fun wz hz => ⟨by rw [hz.cell (p := ⟨w.heap.size, 0, none⟩) (lt_of_heap hg1), cell0 hg1 0]; rfl, by rw [hz.cell (p := ⟨w.heap.size, 1, none⟩) (lt_of_heap hg1), cell0 hg1 1]; rfl⟩)
  have HL := Lib.hid (l9light_any l v W1 (h.items hb1))
  have HA := Lib.hid h
  have HM := Lib.hid hm
  have HGL := Lib.hid hG
  have HB1 := Lib.hid hb1
  have HW := Lib.hid hW1
  have HLB : Hid (lightI l = true → Lt l ∧ l.length ≤ 20 ∧ ∀ x ∈ l, x.marks.length ≤ 10) := Lib.hid lightI_lt
  have HLX : Hid (lightI [x] = true → x.marks.length ≤ 10) := Lib.hid (fun h => (lightI_lt h).2.2 x (by simp))
  clear h hm hG hg1 hb1 hW1
  obtain ⟨r1, hr1⟩ : ∃ r, r = lightI l := ⟨_, rfl⟩
  rw [← hr1] at HL HLB
  clear hr1
  obtain ⟨c0, c1⟩ := HX.out W1 (Below.refl _ _)
  cases r1 with
  | false =>
    go_enter Tryz.func4, Tryz.ntmps4
    go_wp2_with fail
    rw [← HW.out]
    refine (HL.out).mono ?_
    rintro e wq ⟨rfl, hwq⟩
    rw [hwq]
    clear hwq
    go_wp2_with fail
    refine (l9known_any _ (HGL.out.below HB1.out)).mono ?_
    rintro e wk ⟨rfl, hb⟩
    have HBK := Lib.hid (HB1.out.trans (hb.mono HB1.out.size))
    clear hb
    go_wp2_with fail
    go_ret
    exact ⟨rfl, HBK.out⟩
  | true =>
    have hlt := HLB.out rfl
    obtain ⟨W2, hW2⟩ : ∃ W2, W2 = W1.alloc (.cells #[.string x.name, .slice mo x.marks.length mc] 31) := ⟨_, rfl⟩
    have hb2 : Below W1.heap.size W1 W2 := by rw [hW2]; exact (Below.refl _ _).alloc (Nat.le_refl _) _
    have HL2 := Lib.hid (l9light_any [x] (.slice (some ⟨W1.heap.size, 0, none⟩) 1 1) W2 (by rw [hW2]; exact arr_lit 31 hs ((HM.out.marks HB1.out).marks (by rw [← hW2]; exact hb2))))
    have HB2 := Lib.hid (HB1.out.trans (hb2.mono HB1.out.size))
    have HW2 := Lib.hid hW2
    have HC2 := Lib.hid hb2
    obtain ⟨r2, hr2⟩ : ∃ r, r = lightI [x] := ⟨_, rfl⟩
    rw [← hr2] at HL2 HLX
    have HVL := Lib.hid (r9Valid_any l v W2 (HA.out.items HB2.out) hlt.1)
    clear hW2 hb2 hr2 HLB
    go_enter Tryz.func4, Tryz.ntmps4
    go_wp2_with fail
    rw [← HW.out]
    refine (HL.out).mono ?_
    rintro e wq ⟨rfl, hwq⟩
    rw [hwq]
    clear hwq
    go_wp2_with fail
    rw [← HW2.out]
    refine (l9of_any _ _).mono ?_
    rintro e wq ⟨rfl, hwq⟩
    rw [hwq]
    clear hwq
    go_wp2_with fail
    refine (HL2.out).mono ?_
    rintro e wq ⟨rfl, hwq⟩
    rw [hwq]
    clear hwq
    cases r2 with
    | false =>
      go_wp2_with fail
      refine (l9known_any _ (HGL.out.below HB2.out)).mono ?_
      rintro e wk ⟨rfl, hb⟩
      have HBK := Lib.hid (HB2.out.trans (hb.mono HB2.out.size))
      clear hb
      go_wp2_with fail
      go_ret
      exact ⟨rfl, HBK.out⟩
    | true =>
      have hx10 := HLX.out rfl
      have hx1 : Lt [x] := ⟨by simp, fun y hy => by rw [List.mem_singleton] at hy; rw [hy]; omega⟩
      obtain ⟨r3, hr3⟩ : ∃ r, r = validI l := ⟨_, rfl⟩
      rw [← hr3] at HVL
      have HR3 := Lib.hid hr3
      clear hr3 c0 c1
      go_wp2_with fail
      refine (HVL.out).mono ?_
      rintro e w3 ⟨rfl, hb⟩
      have HC3 := Lib.hid (HC2.out.trans (hb.mono HC2.out.size))
      have HB3 := Lib.hid (HB2.out.trans (hb.mono HB2.out.size))
      clear hb
      obtain ⟨c0, c1⟩ := HX.out w3 HC3.out
      cases r3 with
      | false =>
        go_wp2_with fail
        refine (kv_puts 2 (HA.out.items HB3.out) (HM.out.marks HB3.out) arr_nil (HGL.out.below HB3.out) hs hlt.1 ⟨by omega, by omega⟩ (putE_bad (by rw [← HR3.out]; rfl))).mono ?_
        rintro e w4 ⟨rfl, hb⟩
        have HB4 := Lib.hid (HB3.out.trans (hb.mono HB3.out.size))
        clear hb
        go_wp2_with fail
        refine (l9known_any _ (HGL.out.below HB4.out)).mono ?_
        rintro e wk ⟨rfl, hb⟩
        have HBK := Lib.hid (HB4.out.trans (hb.mono HB4.out.size))
        clear hb
        go_wp2_with fail
        go_ret
        exact ⟨rfl, HBK.out⟩
      | true =>
        have HONE := Lib.hid (r9One_any x _ w3 (HM.out.marks HB3.out) hs (by omega))
        obtain ⟨r4, hr4⟩ : ∃ r, r = oneI x := ⟨_, rfl⟩
        rw [← hr4] at HONE
        have HR4 := Lib.hid hr4
        clear hr4
        go_wp2_with fail
        refine (HONE.out).mono ?_
        rintro e w5 ⟨rfl, hb⟩
        have HC5 := Lib.hid (HC3.out.trans (hb.mono HC3.out.size))
        have HB5 := Lib.hid (HB3.out.trans (hb.mono HB3.out.size))
        clear hb
        clear c0 c1
        obtain ⟨c0, c1⟩ := HX.out w5 HC5.out
        cases r4 with
        | false =>
          go_wp2_with fail
          refine (kv_puts 2 (HA.out.items HB5.out) (HM.out.marks HB5.out) arr_nil (HGL.out.below HB5.out) hs hlt.1 ⟨by omega, by omega⟩ (putE_bad (by rw [← HR4.out, Bool.and_false]))).mono ?_
          rintro e w6 ⟨rfl, hb⟩
          have HB6 := Lib.hid (HB5.out.trans (hb.mono HB5.out.size))
          clear hb
          go_wp2_with fail
          refine (l9known_any _ (HGL.out.below HB6.out)).mono ?_
          rintro e wk ⟨rfl, hb⟩
          have HBK := Lib.hid (HB6.out.trans (hb.mono HB6.out.size))
          clear hb
          go_wp2_with fail
          go_ret
          exact ⟨rfl, HBK.out⟩
        | true =>
          have HPE := Lib.hid (put_same HR3.out.symm HR4.out.symm)
          have HNM : Hid (∀ y ∈ putI l x, y.name.size ≤ 100000) := Lib.hid (fun y hy => by
            rcases mem_putI.1 hy with h | h
            · have := oneI_name ((validI_parts HR3.out.symm).1 y (mem_dropN.1 h).1)
              omega
            · have := oneI_name HR4.out.symm
              rw [h]; omega)
          have HRP := Lib.hid (r9Put_any l x v _ w5 (HA.out.items HB5.out) (HM.out.marks HB5.out) hs (by omega))
          go_wp2_with fail
          refine (HRP.out).mono ?_
          rintro e w4 ⟨v5, rfl, ha5, hb⟩
          have HC4 := Lib.hid (HC5.out.trans (hb.mono HC5.out.size))
          have HA5 := Lib.hid ha5
          have HB4 := Lib.hid (HB5.out.trans (hb.mono HB5.out.size))
          clear hb
          clear c0 c1 ha5 HRP
          go_upto_region 6 with fail
          refine NQ.to ?_
          refine wp_region_held_drew (S := (fun wz => wz.cell? ⟨w.heap.size, 0, none⟩ = some (.string x.name) ∧ wz.cell? ⟨w.heap.size, 1, none⟩ = some (.slice mo x.marks.length mc))) (by kernel_rfl) (HX.out _ (HC4.out.trans (below_drew1 (Below.refl _ _) |>.mono HC4.out.size))) (fun hS => ?_)
          try simp only [Act.put, List.setIfInBounds_toArray, List.set_cons_succ, List.set_cons_zero, List.getElem_toArray, List.getElem_cons_succ, List.getElem_cons_zero]
          refine wpAnyH_take (i := 0) (v := ?v1) rfl (by decide +kernel) (by decide +kernel) (by decide +kernel) (fun _ _ _ h => h) (Or.inl ⟨by kernel_rfl, fun w hSw => ?h1⟩) hS ?_; (case h1 => (refine ok_of (fun z hz => ?_); go_simp; exact hz))
          try simp only [Act.put, List.setIfInBounds_toArray, List.set_cons_succ, List.set_cons_zero, List.getElem_toArray, List.getElem_cons_succ, List.getElem_cons_zero]
          refine wpAnyH_take (i := 2) (v := ?v2) rfl (by decide +kernel) (by decide +kernel) (by decide +kernel) (fun _ _ _ h => h) (Or.inl ⟨by kernel_rfl, fun w hSw => ?h2⟩) hS ?_; (case h2 => (refine ok_of (fun z hz => ?_); obtain ⟨f1, f2⟩ := hSw; go_simp; exact hz))
          try simp only [Act.put, List.setIfInBounds_toArray, List.set_cons_succ, List.set_cons_zero, List.getElem_toArray, List.getElem_cons_succ, List.getElem_cons_zero]
          refine wpAnyH_ready (rs := [1, 3]) (by decide +kernel) (by simp) ?_
          refine (AllReadyH.cons rfl (fun K hK => ?_) (AllReadyH.cons rfl (fun K hK => ?_) AllReadyH.nil))
          · go_simp
            go_at_call 25
            refine (l9own_any l v w4.drew (HA.out.items (below_drew1 HB4.out)) hlt.1).mono ?_
            rintro e wa ⟨va, rfl, haa, hba⟩
            have hb1 := (below_drew1 (Below.refl w4.heap.size w4)).trans hba
            go_simp
            refine Shut.out hK _ _ (HX.out wa (HC4.out.trans (hb1.mono HC4.out.size))) (fun hS2 => ?_)
            clear hK K hS
            have hS := hS2
            clear hS2
            try simp only [Act.put, List.setIfInBounds_toArray, List.set_cons_succ, List.set_cons_zero, List.getElem_toArray, List.getElem_cons_succ, List.getElem_cons_zero]
            refine wpAnyH_ready (rs := [3]) (by decide +kernel) (by simp) ?_
            refine (AllReadyH.cons rfl (fun K hK => ?_) AllReadyH.nil)
            go_simp
            have hal3 : Below wa.heap.size wa (wa.alloc (.cells #[.string x.name, .slice mo x.marks.length mc] 31)) := (Below.refl _ _).alloc (Nat.le_refl _) _
            have hb3 := hb1.trans (hal3.mono hb1.size)
            have haa3 := haa.items hal3
            have hlit := arr_lit 31 hs (HM.out.marks (HB4.out.trans (hb3.mono HB4.out.size)))
            refine Shut.out hK _ _ (HX.out _ (HC4.out.trans (hb3.mono HC4.out.size))) (fun hS2 => ?_)
            clear hK K hS
            have hS := hS2
            clear hS2
            try simp only [Act.put, List.setIfInBounds_toArray, List.set_cons_succ, List.set_cons_zero, List.getElem_toArray, List.getElem_cons_succ, List.getElem_cons_zero]
            refine wpAnyH_ready (rs := [4]) (by decide +kernel) (by simp) ?_
            refine (AllReadyH.cons rfl (fun K hK => ?_) AllReadyH.nil)
            go_simp
            go_at_call 21
            refine (l9of_any _ _).mono ?_
            rintro e wf ⟨rfl, hwf⟩
            subst hwf
            go_simp
            refine Shut.out hK _ _ (HX.out _ (HC4.out.trans (hb3.mono HC4.out.size))) (fun hS2 => ?_)
            clear hK K hS
            have hS := hS2
            clear hS2
            try simp only [Act.put, List.setIfInBounds_toArray, List.set_cons_succ, List.set_cons_zero, List.getElem_toArray, List.getElem_cons_succ, List.getElem_cons_zero]
            refine wpAnyH_ready (rs := [5]) (by decide +kernel) (by simp) ?_
            refine (AllReadyH.cons rfl (fun K hK => ?_) AllReadyH.nil)
            go_simp
            go_at_call 25
            refine (l9own_any [x] _ _ hlit hx1).mono ?_
            rintro e wq ⟨vb, rfl, hab, hbb⟩
            have hbq := hb3.trans (hbb.mono hb3.size)
            have haq := haa3.items hbb
            go_simp
            refine Shut.out hK _ _ (HX.out wq (HC4.out.trans (hbq.mono HC4.out.size))) (fun hS2 => ?_)
            clear hK K hS
            have hS := hS2
            clear hS2
            try simp only [Act.put, List.setIfInBounds_toArray, List.set_cons_succ, List.set_cons_zero, List.getElem_toArray, List.getElem_cons_succ, List.getElem_cons_zero]
            refine wpAnyH_take (i := 6) (v := ?v3) rfl (by decide +kernel) (by decide +kernel) (by decide +kernel) (fun _ _ _ h => h) (Or.inl ⟨by kernel_rfl, fun w hSw => ?h3⟩) hS ?_; (case h3 => (refine ok_of (fun z hz => ?_); go_simp; exact hz))
            try simp only [Act.put, List.setIfInBounds_toArray, List.set_cons_succ, List.set_cons_zero, List.getElem_toArray, List.getElem_cons_succ, List.getElem_cons_zero]
            refine wpAnyH_take (i := 7) (v := ?v4) rfl (by decide +kernel) (by decide +kernel) (by decide +kernel) (fun _ _ _ h => h) (Or.inl ⟨by kernel_rfl, fun w hSw => ?h4⟩) hS ?_; (case h4 => (refine ok_of (fun z hz => ?_); go_simp; exact hz))
            try simp only [Act.put, List.setIfInBounds_toArray, List.set_cons_succ, List.set_cons_zero, List.getElem_toArray, List.getElem_cons_succ, List.getElem_cons_zero]
            refine wpAnyH_done (by kernel_rfl) ?_ _
            try simp only [Act.put, List.setIfInBounds_toArray, List.set_cons_succ, List.set_cons_zero, List.getElem_toArray, List.getElem_cons_succ, List.getElem_cons_zero]
            simp only [NQ]
            have HBQ := Lib.hid (HB4.out.trans (hbq.mono HB4.out.size))
            have HCQ := Lib.hid (HC4.out.trans (hbq.mono HC4.out.size))
            have HA7 := Lib.hid haq
            have HA5Q := Lib.hid (HA5.out.items hbq)
            have HA8 := Lib.hid hab
            obtain ⟨ob, cb, rfl, hel8⟩ := hab.itemAt
            obtain ⟨b8, off8, mv8, rfl, hbl8, c80, c81, -, hm8⟩ := hel8 0 (by simp)
            obtain ⟨mo8, mc8, rfl, -⟩ := id hm8
            have d80 : wq.cell? ⟨b8, off8, none⟩ = some (.string x.name) := by simpa using c80
            have d81 : wq.cell? ⟨b8, off8 + 1, none⟩ = some (.slice mo8 x.marks.length mc8) := by simpa using c81
            have HPUT := Lib.hid (itemsPut_any l x va _ wq HA7.out hm8 hs hlt.1 ⟨by omega, by omega⟩ (HGL.out.below HBQ.out))
            clear hS c80 c81 hel8 hm8 hab haq
            go_wp2_with fail
            refine HPUT.out.mono ?_
            intro e w5 hpp
            obtain ⟨oy, ny, cy, gy, rfl, hay, hoy, hgy, hny, hsh, hb⟩ := hpp.all HNM.out
            have HY := Lib.hid hay
            have HOY := Lib.hid hoy
            have HSH := Lib.hid hsh
            have HQ5 := Lib.hid hb
            have HB5 := Lib.hid (HBQ.out.trans (hb.mono HBQ.out.size))
            have HC5 := Lib.hid (HCQ.out.trans (hb.mono HCQ.out.size))
            rw [HPE.out.1]
            rw [HPE.out.2] at HY
            clear d80 d81 hpp hay hoy hsh hb HPUT
            go_wp2_with fail
            refine (r9Equal_any (refPut l x) (refPut l x) _ _ w5 HY.out (HA5Q.out.items HQ5.out)).mono ?_
            rintro e w6 ⟨rfl, hb⟩
            have HQ6 := Lib.hid (HQ5.out.trans (hb.mono HQ5.out.size))
            have HC6 := Lib.hid (HC5.out.trans (hb.mono HC5.out.size))
            have HSH6 := Lib.hid (HSH.out.below hb)
            have HB6 := Lib.hid (HB5.out.trans (hb.mono HB5.out.size))
            clear hb
            rw [decide_eq_true rfl]
            go_wp2_with fail
            refine (l9spoil_any wq.heap.size gy ny cy oy w6 HOY.out hgy hny HSH6.out).mono ?_
            rintro e w7 ⟨rfl, hb⟩
            have HQ7 := Lib.hid (HQ6.out.trans hb)
            have HC7 := Lib.hid (HC6.out.trans (hb.mono HCQ.out.size))
            have HB7 := Lib.hid (HB6.out.trans (hb.mono HBQ.out.size))
            clear hb
            go_wp2_with fail
            refine (r9Equal_any l l va v w7 (HA7.out.items HQ7.out) (HA.out.items HB7.out)).mono ?_
            rintro e w8 ⟨rfl, hb⟩
            have HQ8 := Lib.hid (HQ7.out.trans (hb.mono HQ7.out.size))
            have HC8 := Lib.hid (HC7.out.trans (hb.mono HC7.out.size))
            have HB8 := Lib.hid (HB7.out.trans (hb.mono HB7.out.size))
            clear hb
            rw [decide_eq_true rfl]
            obtain ⟨c0, c1⟩ := HX.out w8 HC8.out
            obtain ⟨W9, hW9⟩ : ∃ W9, W9 = w8.alloc (.cells #[.string x.name, .slice mo x.marks.length mc] 31) := ⟨_, rfl⟩
            have hb9 : Below w8.heap.size w8 W9 := by rw [hW9]; exact (Below.refl _ _).alloc (Nat.le_refl _) _
            have HB9 := Lib.hid (HB8.out.trans (hb9.mono HB8.out.size))
            have HL9 := Lib.hid (show Arr ItemR 2 W9 (.slice (some ⟨w8.heap.size, 0, none⟩) 1 1) [x] from by rw [hW9]; exact arr_lit 31 hs (HM.out.marks (by rw [← hW9]; exact HB9.out)))
            have HQ9 := Lib.hid (HQ8.out.trans (hb9.mono HQ8.out.size))
            have HW9 := Lib.hid hW9
            clear hW9 hb9
            go_wp2_with fail
            rw [← HW9.out]
            refine (l9of_any _ _).mono ?_
            rintro e wq ⟨rfl, hwq⟩
            rw [hwq]
            clear hwq
            clear c0 c1
            go_wp2_with fail
            refine (r9Equal_any [x] [x] _ _ W9 (HA8.out.items HQ9.out) HL9.out).mono ?_
            rintro e w10 ⟨rfl, hb⟩
            have HB10 := Lib.hid (HB9.out.trans (hb.mono HB9.out.size))
            clear hb
            rw [decide_eq_true rfl]
            go_wp2_with fail
            refine (l9known_any _ (HGL.out.below HB10.out)).mono ?_
            rintro e wk ⟨rfl, hb⟩
            have HBK := Lib.hid (HB10.out.trans (hb.mono HB10.out.size))
            clear hb
            go_wp2_with fail
            go_ret
            exact ⟨rfl, HBK.out⟩
            
          · go_simp
            have hb3 : Below w4.heap.size w4 (w4.drew.alloc (.cells #[.string x.name, .slice mo x.marks.length mc] 31)) := (below_drew1 (Below.refl _ _)).alloc (by simp) _
            have hlit3 := arr_lit 31 hs (HM.out.marks (HB4.out.trans (hb3.mono HB4.out.size)))
            refine Shut.out hK _ _ (HX.out _ (HC4.out.trans (hb3.mono HC4.out.size))) (fun hS2 => ?_)
            clear hK K hS
            have hS := hS2
            clear hS2
            try simp only [Act.put, List.setIfInBounds_toArray, List.set_cons_succ, List.set_cons_zero, List.getElem_toArray, List.getElem_cons_succ, List.getElem_cons_zero]
            refine wpAnyH_ready (rs := [1]) (by decide +kernel) (by simp) ?_
            refine (AllReadyH.cons rfl (fun K hK => ?_) AllReadyH.nil)
            go_simp
            go_at_call 25
            refine (l9own_any l v (w4.drew.alloc (.cells #[.string x.name, .slice mo x.marks.length mc] 31)) (HA.out.items (HB4.out.trans (hb3.mono HB4.out.size))) hlt.1).mono ?_
            rintro e wa ⟨va, rfl, haa, hba⟩
            have hb1 := hb3.trans (hba.mono hb3.size)
            have hlit := hlit3.items hba
            go_simp
            refine Shut.out hK _ _ (HX.out wa (HC4.out.trans (hb1.mono HC4.out.size))) (fun hS2 => ?_)
            clear hK K hS
            have hS := hS2
            clear hS2
            try simp only [Act.put, List.setIfInBounds_toArray, List.set_cons_succ, List.set_cons_zero, List.getElem_toArray, List.getElem_cons_succ, List.getElem_cons_zero]
            refine wpAnyH_ready (rs := [4]) (by decide +kernel) (by simp) ?_
            refine (AllReadyH.cons rfl (fun K hK => ?_) AllReadyH.nil)
            go_simp
            go_at_call 21
            refine (l9of_any _ _).mono ?_
            rintro e wf ⟨rfl, hwf⟩
            subst hwf
            go_simp
            refine Shut.out hK _ _ (HX.out _ (HC4.out.trans (hb1.mono HC4.out.size))) (fun hS2 => ?_)
            clear hK K hS
            have hS := hS2
            clear hS2
            try simp only [Act.put, List.setIfInBounds_toArray, List.set_cons_succ, List.set_cons_zero, List.getElem_toArray, List.getElem_cons_succ, List.getElem_cons_zero]
            refine wpAnyH_ready (rs := [5]) (by decide +kernel) (by simp) ?_
            refine (AllReadyH.cons rfl (fun K hK => ?_) AllReadyH.nil)
            go_simp
            go_at_call 25
            refine (l9own_any [x] _ _ hlit hx1).mono ?_
            rintro e wq ⟨vb, rfl, hab, hbb⟩
            have hbq := hb1.trans (hbb.mono hb1.size)
            have haq := haa.items hbb
            go_simp
            refine Shut.out hK _ _ (HX.out wq (HC4.out.trans (hbq.mono HC4.out.size))) (fun hS2 => ?_)
            clear hK K hS
            have hS := hS2
            clear hS2
            try simp only [Act.put, List.setIfInBounds_toArray, List.set_cons_succ, List.set_cons_zero, List.getElem_toArray, List.getElem_cons_succ, List.getElem_cons_zero]
            refine wpAnyH_take (i := 6) (v := ?v5) rfl (by decide +kernel) (by decide +kernel) (by decide +kernel) (fun _ _ _ h => h) (Or.inl ⟨by kernel_rfl, fun w hSw => ?h5⟩) hS ?_; (case h5 => (refine ok_of (fun z hz => ?_); go_simp; exact hz))
            try simp only [Act.put, List.setIfInBounds_toArray, List.set_cons_succ, List.set_cons_zero, List.getElem_toArray, List.getElem_cons_succ, List.getElem_cons_zero]
            refine wpAnyH_take (i := 7) (v := ?v6) rfl (by decide +kernel) (by decide +kernel) (by decide +kernel) (fun _ _ _ h => h) (Or.inl ⟨by kernel_rfl, fun w hSw => ?h6⟩) hS ?_; (case h6 => (refine ok_of (fun z hz => ?_); go_simp; exact hz))
            try simp only [Act.put, List.setIfInBounds_toArray, List.set_cons_succ, List.set_cons_zero, List.getElem_toArray, List.getElem_cons_succ, List.getElem_cons_zero]
            refine wpAnyH_done (by kernel_rfl) ?_ _
            try simp only [Act.put, List.setIfInBounds_toArray, List.set_cons_succ, List.set_cons_zero, List.getElem_toArray, List.getElem_cons_succ, List.getElem_cons_zero]
            simp only [NQ]
            have HBQ := Lib.hid (HB4.out.trans (hbq.mono HB4.out.size))
            have HCQ := Lib.hid (HC4.out.trans (hbq.mono HC4.out.size))
            have HA7 := Lib.hid haq
            have HA5Q := Lib.hid (HA5.out.items hbq)
            have HA8 := Lib.hid hab
            obtain ⟨ob, cb, rfl, hel8⟩ := hab.itemAt
            obtain ⟨b8, off8, mv8, rfl, hbl8, c80, c81, -, hm8⟩ := hel8 0 (by simp)
            obtain ⟨mo8, mc8, rfl, -⟩ := id hm8
            have d80 : wq.cell? ⟨b8, off8, none⟩ = some (.string x.name) := by simpa using c80
            have d81 : wq.cell? ⟨b8, off8 + 1, none⟩ = some (.slice mo8 x.marks.length mc8) := by simpa using c81
            have HPUT := Lib.hid (itemsPut_any l x va _ wq HA7.out hm8 hs hlt.1 ⟨by omega, by omega⟩ (HGL.out.below HBQ.out))
            clear hS c80 c81 hel8 hm8 hab haq
            go_wp2_with fail
            refine HPUT.out.mono ?_
            intro e w5 hpp
            obtain ⟨oy, ny, cy, gy, rfl, hay, hoy, hgy, hny, hsh, hb⟩ := hpp.all HNM.out
            have HY := Lib.hid hay
            have HOY := Lib.hid hoy
            have HSH := Lib.hid hsh
            have HQ5 := Lib.hid hb
            have HB5 := Lib.hid (HBQ.out.trans (hb.mono HBQ.out.size))
            have HC5 := Lib.hid (HCQ.out.trans (hb.mono HCQ.out.size))
            rw [HPE.out.1]
            rw [HPE.out.2] at HY
            clear d80 d81 hpp hay hoy hsh hb HPUT
            go_wp2_with fail
            refine (r9Equal_any (refPut l x) (refPut l x) _ _ w5 HY.out (HA5Q.out.items HQ5.out)).mono ?_
            rintro e w6 ⟨rfl, hb⟩
            have HQ6 := Lib.hid (HQ5.out.trans (hb.mono HQ5.out.size))
            have HC6 := Lib.hid (HC5.out.trans (hb.mono HC5.out.size))
            have HSH6 := Lib.hid (HSH.out.below hb)
            have HB6 := Lib.hid (HB5.out.trans (hb.mono HB5.out.size))
            clear hb
            rw [decide_eq_true rfl]
            go_wp2_with fail
            refine (l9spoil_any wq.heap.size gy ny cy oy w6 HOY.out hgy hny HSH6.out).mono ?_
            rintro e w7 ⟨rfl, hb⟩
            have HQ7 := Lib.hid (HQ6.out.trans hb)
            have HC7 := Lib.hid (HC6.out.trans (hb.mono HCQ.out.size))
            have HB7 := Lib.hid (HB6.out.trans (hb.mono HBQ.out.size))
            clear hb
            go_wp2_with fail
            refine (r9Equal_any l l va v w7 (HA7.out.items HQ7.out) (HA.out.items HB7.out)).mono ?_
            rintro e w8 ⟨rfl, hb⟩
            have HQ8 := Lib.hid (HQ7.out.trans (hb.mono HQ7.out.size))
            have HC8 := Lib.hid (HC7.out.trans (hb.mono HC7.out.size))
            have HB8 := Lib.hid (HB7.out.trans (hb.mono HB7.out.size))
            clear hb
            rw [decide_eq_true rfl]
            obtain ⟨c0, c1⟩ := HX.out w8 HC8.out
            obtain ⟨W9, hW9⟩ : ∃ W9, W9 = w8.alloc (.cells #[.string x.name, .slice mo x.marks.length mc] 31) := ⟨_, rfl⟩
            have hb9 : Below w8.heap.size w8 W9 := by rw [hW9]; exact (Below.refl _ _).alloc (Nat.le_refl _) _
            have HB9 := Lib.hid (HB8.out.trans (hb9.mono HB8.out.size))
            have HL9 := Lib.hid (show Arr ItemR 2 W9 (.slice (some ⟨w8.heap.size, 0, none⟩) 1 1) [x] from by rw [hW9]; exact arr_lit 31 hs (HM.out.marks (by rw [← hW9]; exact HB9.out)))
            have HQ9 := Lib.hid (HQ8.out.trans (hb9.mono HQ8.out.size))
            have HW9 := Lib.hid hW9
            clear hW9 hb9
            go_wp2_with fail
            rw [← HW9.out]
            refine (l9of_any _ _).mono ?_
            rintro e wq ⟨rfl, hwq⟩
            rw [hwq]
            clear hwq
            clear c0 c1
            go_wp2_with fail
            refine (r9Equal_any [x] [x] _ _ W9 (HA8.out.items HQ9.out) HL9.out).mono ?_
            rintro e w10 ⟨rfl, hb⟩
            have HB10 := Lib.hid (HB9.out.trans (hb.mono HB9.out.size))
            clear hb
            rw [decide_eq_true rfl]
            go_wp2_with fail
            refine (l9known_any _ (HGL.out.below HB10.out)).mono ?_
            rintro e wk ⟨rfl, hb⟩
            have HBK := Lib.hid (HB10.out.trans (hb.mono HB10.out.size))
            clear hb
            go_wp2_with fail
            go_ret
            exact ⟨rfl, HBK.out⟩
            
end Go.Proofs.YtjlhdgmcaiiagaaGreatDoor

