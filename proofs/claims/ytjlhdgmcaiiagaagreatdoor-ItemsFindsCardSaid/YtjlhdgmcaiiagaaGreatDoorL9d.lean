/- ItemsFinds walked for every input. -/
import Derived.Test.YtjlhdgmcaiiagaaGreatDoorL9r
import Derived.Test.YtjlhdgmcaiiagaaGreatDoorR9o
import Derived.Test.YtjlhdgmcaiiagaaGreatDoorR8n
import Derived.Test.YtjlhdgmcaiiagaaGreatDoorR9u
namespace Go.Proofs.YtjlhdgmcaiiagaaGreatDoor
open Go.RowKit Go.Maps

theorem find_bad {l : List ItemD} {nm : ByteArray} (h : l.any (fun x => decide (x.name = nm)) = false) : (decide (findX l nm = kN) && decide (findN l nm = 9)) = true := by
  have e1 : findX l nm = kN := by unfold findX; rw [find_none _ _ h]; rfl
  have e2 : findN l nm = 9 := by unfold findN; rw [h]; rfl
  rw [e1, e2]; rfl
theorem find_good {l : List ItemD} {nm : ByteArray} {k : Nat} (hk : k < l.length) (h1 : decide (l[k].name = nm) = true) (h2 : (l.take k).any (fun x => decide (x.name = nm)) = false) : (decide (findX l nm = l[k]) && decide (findN l nm = 0)) = true := by
  have e1 : findX l nm = l[k] := by unfold findX; rw [find_at _ l k hk h2 h1]; rfl
  have e2 : findN l nm = 0 := by unfold findN; rw [List.any_eq_true.2 ⟨_, List.getElem_mem hk, h1⟩]; rfl
  rw [e1, e2]; simp
theorem own_some {l : List ItemD} {d : DotD} {s : ByteArray} (h : ownerI l d = some s) : (decide (ownerS (ownerI l d) = s) && decide (ownerN (ownerI l d) = 0)) = true := by
  rw [h]; simp [ownerS, ownerN]
theorem own_none {l : List ItemD} {d : DotD} (h : ownerI l d = none) : (decide (ownerS (ownerI l d) = ⟨#[]⟩) && decide (ownerN (ownerI l d) = 9)) = true := by
  rw [h]; simp [ownerS, ownerN]
theorem has_bad {x : ItemD} (h : oneI x = false) : (decide (qtyI x = 0) && decide (qtyIE x = 2)) = true := by
  unfold qtyI qtyIE
  rw [h]; rfl
theorem has_ok {x : ItemD} (h : oneI x = true) : (decide (qtyI x = (newestM x.marks).qty) && decide (qtyIE x = 0)) = true := by
  unfold qtyI qtyIE
  rw [h]; simp
theorem one_marks {x : ItemD} (h : oneI x = true) : x.marks ≠ [] := by
  intro e
  unfold oneI at h
  rw [e] at h
  simp at h
set_option linter.unusedSimpArgs false in
set_option maxRecDepth 100000 in
set_option maxHeartbeats 16000000 in
theorem finds_in (l : List ItemD) (nm : ByteArray) (d : DotD) (v : Value) (w : World) (h : Arr ItemR 2 w v l) (hs : nm.size ≤ maxLen) (hG : GlobIs w) : Calls Tryz.prog 3 #[v, .string nm, dotV d] w fun e w' => e = .returned (.bool true) ∧ Below w.heap.size w w' := by
  have hsz : nm.size ≤ 9223372036854775807 := by unfold maxLen at hs; omega
  have hn := h.len
  obtain ⟨W1, hW1⟩ : ∃ W1, W1 = w.alloc (.cells #[.int .i64 d.rep, .int .i64 d.ctr] 24) := ⟨_, rfl⟩
  have hb1 : Below w.heap.size w W1 := by rw [hW1]; exact (Below.refl _ _).alloc (Nat.le_refl _) _
  have hg1 : W1.heap[w.heap.size]? = some (.cells #[.int .i64 d.rep, .int .i64 d.ctr] 24) := by rw [hW1]; exact alloc_new _ _
  have HX : Hid (∀ wz, Below W1.heap.size W1 wz → wz.cell? ⟨w.heap.size, 0, none⟩ = some (.int .i64 d.rep) ∧ wz.cell? ⟨w.heap.size, 1, none⟩ = some (.int .i64 d.ctr)) := Lib.hid (fun wz hz => ⟨by rw [hz.cell (p := ⟨w.heap.size, 0, none⟩) (lt_of_heap hg1), cell0 hg1 0]; rfl, by rw [hz.cell (p := ⟨w.heap.size, 1, none⟩) (lt_of_heap hg1), cell0 hg1 1]; rfl⟩)
  have HL := Lib.hid (l9light_any l v W1 (h.items hb1))
  obtain ⟨o, c, rfl, hel⟩ := h.itemAt
  have HEL := Lib.hid hel
  have HA := Lib.hid h
  have HDI := Lib.hid h.itemsI
  have HGL := Lib.hid hG
  have HB1 := Lib.hid hb1
  have HC1 := Lib.hid (Below.refl W1.heap.size W1)
  have HW := Lib.hid hW1
  have HLB : Hid (lightI l = true → Lt l ∧ l.length ≤ 20 ∧ ∀ x ∈ l, x.marks.length ≤ 10) := Lib.hid lightI_lt
  clear h hG hg1 hb1 hW1 hs hel
  obtain ⟨r1, hr1⟩ : ∃ r, r = lightI l := ⟨_, rfl⟩
  rw [← hr1] at HL HLB
  clear hr1
  unfold dotV
  go_enter Tryz.func3, Tryz.ntmps3
  go_wp2_with fail
  rw [← HW.out]
  refine (HL.out).mono ?_
  rintro e wq ⟨rfl, hwq⟩
  rw [hwq]
  clear hwq
  cases r1 with
  | false =>
    go_wp2_with fail
    refine (l9known_any _ (HGL.out.below HB1.out)).mono ?_
    rintro e wk ⟨rfl, hb⟩
    have HBK := Lib.hid (HB1.out.trans (hb.mono HB1.out.size))
    clear hb
    go_wp2_with fail
    go_ret
    exact ⟨rfl, HBK.out⟩
  | true =>
    have hlt := HLB.out rfl
    clear HL HLB
    by_cases h100 : nm.size ≤ 100
    · have t1 : decide (100 < (nm.size : Int)) = false := decide_eq_false (by omega)
      go_wp2_with fail
      refine (r9Find_any nm l _ W1 (HA.out.items HB1.out)).mono ?_
      rintro e w2 ⟨i, rfl, hix, hb⟩
      have HC2 := Lib.hid hb
      have HB2 := Lib.hid (HB1.out.trans (hb.mono HB1.out.size))
      clear hb
      rcases hix with ⟨rfl, hno⟩ | ⟨k, hk, rfl, hkn, htk⟩
      · have HNO := Lib.hid hno
        clear hno
        go_wp2_with fail
        refine (kv_finds (want := kN) nm 9 (HA.out.items HB2.out) arr_nil (Nat.zero_le _) hlt.1 (find_bad HNO.out)).mono ?_
        rintro e w5 ⟨rfl, hb⟩
        have HC5 := Lib.hid (HC2.out.trans (hb.mono HC2.out.size))
        have HB5 := Lib.hid (HB2.out.trans (hb.mono HB2.out.size))
        clear hb
        obtain ⟨c0, c1⟩ := HX.out w5 HC5.out
        obtain ⟨ow, how⟩ : ∃ ow, ow = ownerI l d := ⟨_, rfl⟩
        have HOW := Lib.hid how
        clear how
        go_wp2_with fail
        refine (r9Owner_any l d _ w5 (HA.out.items HB5.out)).mono ?_
        rintro e w3 ⟨rfl, hb⟩
        have HC3 := Lib.hid (HC5.out.trans (hb.mono HC5.out.size))
        have HB3 := Lib.hid (HB5.out.trans (hb.mono HB5.out.size))
        clear hb
        rw [← HOW.out]
        clear c0 c1
        obtain ⟨c0, c1⟩ := HX.out w3 HC3.out
        cases ow with
        | none =>
          simp only [refOwnerV]
          go_wp2_with fail
          refine (kv_owns d ⟨#[]⟩ 9 (HA.out.items HB3.out) hlt.1 (own_none HOW.out.symm)).mono ?_
          rintro e w4 ⟨rfl, hb⟩
          have HB4 := Lib.hid (HB3.out.trans (hb.mono HB3.out.size))
          clear hb
          go_wp2_with fail
          refine (itemsDots_any l _ w4 (HA.out.items HB4.out) hlt.1).mono ?_
          rintro e wd1 ⟨vd, rfl, hrow, hb⟩
          have HD1 := Lib.hid (HB4.out.trans (hb.mono HB4.out.size))
          clear hb
          have HAD := Lib.hid (Arr.of_dots hrow (fun x hx => HDI.out x ((setD_mem _ _).1 hx)))
          clear hrow
          go_wp2_with fail
          refine (r9Dots_any l _ wd1 (HA.out.items HD1.out) hlt.1).mono ?_
          rintro e wd2 ⟨ve, rfl, hae, hb⟩
          have HAE := Lib.hid hae
          have HAD2 := Lib.hid (HAD.out.dots hb)
          clear hae
          have HD2 := Lib.hid (HD1.out.trans (hb.mono HD1.out.size))
          clear hb
          go_wp2_with fail
          refine (r1Same_any _ _ vd ve wd2 HAD2.out HAE.out).mono ?_
          rintro e wd3 ⟨rfl, hb⟩
          have HD3 := Lib.hid (HD2.out.trans (hb.mono HD2.out.size))
          clear hb
          rw [decide_eq_true rfl]
          clear HAD HAD2 HAE HDI
          clear c0 c1
          go_wp2_with fail
          go_loopw [81] (fun i wr => ∃ k : Nat, k ≤ l.length ∧ i = .int .i64 k ∧ Below w.heap.size w wr) (fun i _ => l.length - (intOf i).toNat)
          case atStart => exact ⟨0, Nat.zero_le _, rfl, HD3.out⟩
          case round =>
            obtain ⟨k, hk, rfl, hB⟩ := hrel
            have HB := Lib.hid hB
            clear hB HD1 HD2 HD3
            by_cases hlk : k < l.length
            · obtain ⟨b, off, mv, he, hbl, e0, e1, hns, hmk⟩ := HEL.out k hlk
              cases he
              obtain ⟨mo, mc, rfl, -⟩ := id hmk
              have c0 : wr.cell? ⟨b, off + k * 2, none⟩ = some (.string l[k].name) := by rw [HB.out.cell (p := ⟨_, _, _⟩) hbl]; exact e0
              have c1 : wr.cell? ⟨b, off + k * 2 + 1, none⟩ = some (.slice mo l[k].marks.length mc) := by rw [HB.out.cell (p := ⟨_, _, _⟩) hbl]; exact e1
              have hm10 : l[k].marks.length ≤ 1000 := hlt.1.2 _ (List.getElem_mem hlk)
              obtain ⟨x, hx⟩ : ∃ x, x = l[k] := ⟨_, rfl⟩
              rw [← hx] at c0 c1 hns hmk hm10
              have a0 : (0 : Int) ≤ k := by omega
              have a1 : (k : Int) < l.length := by omega
              have hkw : IntKind.i64.wrap ((k : Int) + 1) = (k : Int) + 1 := by rw [IntKind.wrap_i64]; omega
              obtain ⟨W2, hW2⟩ : ∃ W2, W2 = wr.alloc (.cells #[.string x.name, .slice mo x.marks.length mc] 31) := ⟨_, rfl⟩
              have hb2 : Below wr.heap.size wr W2 := by rw [hW2]; exact (Below.refl _ _).alloc (Nat.le_refl _) _
              have hg2 : W2.heap[wr.heap.size]? = some (.cells #[.string x.name, .slice mo x.marks.length mc] 31) := by rw [hW2]; exact alloc_new _ _
              have HS2 : Hid (∀ wz, Below W2.heap.size W2 wz → wz.cell? ⟨wr.heap.size, 0, none⟩ = some (.string x.name) ∧ wz.cell? ⟨wr.heap.size, 1, none⟩ = some (.slice mo x.marks.length mc)) := Lib.hid (fun wz hz => ⟨by rw [hz.cell (p := ⟨wr.heap.size, 0, none⟩) (lt_of_heap hg2), cell0 hg2 0]; rfl, by rw [hz.cell (p := ⟨wr.heap.size, 1, none⟩) (lt_of_heap hg2), cell0 hg2 1]; rfl⟩)
              have HB2 := Lib.hid (HB.out.trans (hb2.mono HB.out.size))
              have HM := Lib.hid hmk
              have HW2 := Lib.hid hW2
              obtain ⟨x0, x1⟩ := HS2.out W2 (Below.refl _ _)
              have HONE := Lib.hid (r9One_any x _ W2 (HM.out.marks HB2.out) hns (by omega))
              obtain ⟨r, hr⟩ : ∃ r, r = oneI x := ⟨_, rfl⟩
              rw [← hr] at HONE
              have HR := Lib.hid hr
              clear e0 e1 hmk hx hr hb2 hg2 hW2
              go_wp2_with fail
              rw [← HW2.out]
              go_wp2_with fail
              refine HONE.out.mono ?_
              rintro e w3 ⟨rfl, hb3⟩
              have HW3 := Lib.hid hb3
              have HB3 := Lib.hid (HB2.out.trans (hb3.mono HB2.out.size))
              clear hb3 c0 c1 x0 x1 HONE
              obtain ⟨x0, x1⟩ := HS2.out w3 HW3.out
              cases r with
              | false =>
                go_wp2_with fail
                refine (kv_has 0 2 (HM.out.marks HB3.out) (HGL.out.below HB3.out) hns (by omega) (has_bad HR.out.symm)).mono ?_
                rintro e w4 ⟨rfl, hb4⟩
                have hbf := HB3.out.trans (hb4.mono HB3.out.size)
                clear hb4 x0 x1
                go_wp2_with fail
                go_roundw
                case rel => exact ⟨k + 1, by omega, by go_num, hbf⟩
                case measure => simp [intOf]; omega
              | true =>
                have HQ := Lib.hid (r9Qty_any x _ w3.drew (HM.out.marks (below_drew1 HB3.out)) (one_marks HR.out.symm))
                have HQ : Hid (Calls Tryz.prog 20 #[.agg #[.string x.name, .slice mo x.marks.length mc]] w3.drew fun e w' => e = .returned (.int .i64 (newestM x.marks).qty) ∧ Below w3.heap.size w3 w') := Lib.hid (HQ.out.mono (fun _ _ ⟨a1, a2⟩ => ⟨a1, (below_drew1 (Below.refl _ _)).trans a2⟩))
                have HHAS : Hid (∀ wz, Below w3.heap.size w3 wz → Calls Tryz.prog 19 #[.agg #[.string x.name, .slice mo x.marks.length mc], .int .i64 (newestM x.marks).qty, .int .i64 0] wz fun e w' => e = .returned (.bool true) ∧ Below wz.heap.size wz w') := Lib.hid (fun wz hz => kv_has _ 0 (HM.out.marks (HB3.out.trans (hz.mono HB3.out.size))) (HGL.out.below (HB3.out.trans (hz.mono HB3.out.size))) hns (by omega) (has_ok HR.out.symm))
                have HS : Hid (∀ wz, Below w3.heap.size w3 wz → wz.cell? ⟨wr.heap.size, 0, none⟩ = some (.string x.name) ∧ wz.cell? ⟨wr.heap.size, 1, none⟩ = some (.slice mo x.marks.length mc)) := Lib.hid (fun wz hz => HS2.out wz (HW3.out.trans (hz.mono HW3.out.size)))
                generalize (newestM x.marks).qty = qn at *
                generalize hnm : x.name = nm' at *
                generalize hml : x.marks.length = ml at *
                go_upto_region 15 with fail
                refine NQ.to ?_
                refine wp_region_held_drew (S := (fun wz => wz.cell? ⟨wr.heap.size, 0, none⟩ = some (.string nm') ∧ wz.cell? ⟨wr.heap.size, 1, none⟩ = some (.slice mo ml mc))) (by kernel_rfl) (HS.out _ (below_drew1 (Below.refl _ _))) (fun hS => ?_)
                try simp only [Act.put, List.setIfInBounds_toArray, List.set_cons_succ, List.set_cons_zero, List.getElem_toArray, List.getElem_cons_succ, List.getElem_cons_zero]
                refine wpAnyH_take (i := 0) (v := ?v1) rfl (by decide +kernel) (by decide +kernel) (by decide +kernel) (fun _ _ _ h => h) (Or.inl ⟨by kernel_rfl, fun w hSw => ?h1⟩) hS ?_; (case h1 => (refine ok_of (fun z hz => ?_); obtain ⟨f1, f2⟩ := hSw; go_simp; exact hz))
                try simp only [Act.put, List.setIfInBounds_toArray, List.set_cons_succ, List.set_cons_zero, List.getElem_toArray, List.getElem_cons_succ, List.getElem_cons_zero]
                refine wpAnyH_take (i := 1) (v := ?v2) rfl (by decide +kernel) (by decide +kernel) (by decide +kernel) (fun _ _ _ h => h) (Or.inl ⟨by kernel_rfl, fun w hSw => ?h2⟩) hS ?_; (case h2 => (refine ok_of (fun z hz => ?_); obtain ⟨f1, f2⟩ := hSw; go_simp; exact hz))
                try simp only [Act.put, List.setIfInBounds_toArray, List.set_cons_succ, List.set_cons_zero, List.getElem_toArray, List.getElem_cons_succ, List.getElem_cons_zero]
                refine wpAnyH_ready (rs := [2]) (by decide +kernel) (by simp) ?_
                refine (AllReadyH.cons rfl (fun K hK => ?_) AllReadyH.nil)
                go_simp
                go_at_call 20
                refine HQ.out.mono ?_
                rintro e w4 ⟨rfl, hb4⟩
                go_simp
                refine Shut.out hK _ _ (HS.out w4 hb4) (fun hS2 => ?_)
                clear hK K hS
                have hS := hS2
                clear hS2
                try simp only [Act.put, List.setIfInBounds_toArray, List.set_cons_succ, List.set_cons_zero, List.getElem_toArray, List.getElem_cons_succ, List.getElem_cons_zero]
                refine wpAnyH_ready (rs := [3]) (by decide +kernel) (by simp) ?_
                refine (AllReadyH.cons rfl (fun K hK => ?_) AllReadyH.nil)
                go_simp
                go_at_call 19
                refine (HHAS.out w4 hb4).mono ?_
                rintro e w5 ⟨rfl, hb5⟩
                have hb35 := hb4.trans (hb5.mono hb4.size)
                go_simp
                refine Shut.out hK _ _ (HS.out w5 hb35) (fun hS2 => ?_)
                clear hK K hS
                have hS := hS2
                clear hS2
                try simp only [Act.put, List.setIfInBounds_toArray, List.set_cons_succ, List.set_cons_zero, List.getElem_toArray, List.getElem_cons_succ, List.getElem_cons_zero]
                refine wpAnyH_take (i := 4) (v := ?v3) rfl (by decide +kernel) (by decide +kernel) (by decide +kernel) (fun _ _ _ h => h) (Or.inl ⟨by kernel_rfl, fun w hSw => ?h3⟩) hS ?_; (case h3 => (refine ok_of (fun z hz => ?_); go_simp; exact hz))
                try simp only [Act.put, List.setIfInBounds_toArray, List.set_cons_succ, List.set_cons_zero, List.getElem_toArray, List.getElem_cons_succ, List.getElem_cons_zero]
                refine wpAnyH_done (by kernel_rfl) ?_ _
                try simp only [Act.put, List.setIfInBounds_toArray, List.set_cons_succ, List.set_cons_zero, List.getElem_toArray, List.getElem_cons_succ, List.getElem_cons_zero]
                simp only [NQ]
                have hbf := HB3.out.trans (hb35.mono HB3.out.size)
                clear hS hb4 hb5 hb35
                go_wp2_with fail
                exact ⟨⟨k + 1, by omega, by go_num, hbf⟩, by simp [intOf]; omega⟩
            · have hke : k = l.length := by omega
              go_wp2_with fail
              refine (l9known_any _ (HGL.out.below HB.out)).mono ?_
              rintro e wk ⟨rfl, hb⟩
              have HBK := Lib.hid (HB.out.trans (hb.mono HB.out.size))
              clear hb
              go_wp2_with fail
              go_ret
              exact ⟨rfl, HBK.out⟩
        | some s =>
          simp only [refOwnerV]
          go_wp2_with fail
          refine (kv_owns d s 0 (HA.out.items HB3.out) hlt.1 (own_some HOW.out.symm)).mono ?_
          rintro e w4 ⟨rfl, hb⟩
          have HB4 := Lib.hid (HB3.out.trans (hb.mono HB3.out.size))
          clear hb
          go_wp2_with fail
          refine (itemsDots_any l _ w4 (HA.out.items HB4.out) hlt.1).mono ?_
          rintro e wd1 ⟨vd, rfl, hrow, hb⟩
          have HD1 := Lib.hid (HB4.out.trans (hb.mono HB4.out.size))
          clear hb
          have HAD := Lib.hid (Arr.of_dots hrow (fun x hx => HDI.out x ((setD_mem _ _).1 hx)))
          clear hrow
          go_wp2_with fail
          refine (r9Dots_any l _ wd1 (HA.out.items HD1.out) hlt.1).mono ?_
          rintro e wd2 ⟨ve, rfl, hae, hb⟩
          have HAE := Lib.hid hae
          have HAD2 := Lib.hid (HAD.out.dots hb)
          clear hae
          have HD2 := Lib.hid (HD1.out.trans (hb.mono HD1.out.size))
          clear hb
          go_wp2_with fail
          refine (r1Same_any _ _ vd ve wd2 HAD2.out HAE.out).mono ?_
          rintro e wd3 ⟨rfl, hb⟩
          have HD3 := Lib.hid (HD2.out.trans (hb.mono HD2.out.size))
          clear hb
          rw [decide_eq_true rfl]
          clear HAD HAD2 HAE HDI
          clear c0 c1
          go_wp2_with fail
          go_loopw [81] (fun i wr => ∃ k : Nat, k ≤ l.length ∧ i = .int .i64 k ∧ Below w.heap.size w wr) (fun i _ => l.length - (intOf i).toNat)
          case atStart => exact ⟨0, Nat.zero_le _, rfl, HD3.out⟩
          case round =>
            obtain ⟨k, hk, rfl, hB⟩ := hrel
            have HB := Lib.hid hB
            clear hB HD1 HD2 HD3
            by_cases hlk : k < l.length
            · obtain ⟨b, off, mv, he, hbl, e0, e1, hns, hmk⟩ := HEL.out k hlk
              cases he
              obtain ⟨mo, mc, rfl, -⟩ := id hmk
              have c0 : wr.cell? ⟨b, off + k * 2, none⟩ = some (.string l[k].name) := by rw [HB.out.cell (p := ⟨_, _, _⟩) hbl]; exact e0
              have c1 : wr.cell? ⟨b, off + k * 2 + 1, none⟩ = some (.slice mo l[k].marks.length mc) := by rw [HB.out.cell (p := ⟨_, _, _⟩) hbl]; exact e1
              have hm10 : l[k].marks.length ≤ 1000 := hlt.1.2 _ (List.getElem_mem hlk)
              obtain ⟨x, hx⟩ : ∃ x, x = l[k] := ⟨_, rfl⟩
              rw [← hx] at c0 c1 hns hmk hm10
              have a0 : (0 : Int) ≤ k := by omega
              have a1 : (k : Int) < l.length := by omega
              have hkw : IntKind.i64.wrap ((k : Int) + 1) = (k : Int) + 1 := by rw [IntKind.wrap_i64]; omega
              obtain ⟨W2, hW2⟩ : ∃ W2, W2 = wr.alloc (.cells #[.string x.name, .slice mo x.marks.length mc] 31) := ⟨_, rfl⟩
              have hb2 : Below wr.heap.size wr W2 := by rw [hW2]; exact (Below.refl _ _).alloc (Nat.le_refl _) _
              have hg2 : W2.heap[wr.heap.size]? = some (.cells #[.string x.name, .slice mo x.marks.length mc] 31) := by rw [hW2]; exact alloc_new _ _
              have HS2 : Hid (∀ wz, Below W2.heap.size W2 wz → wz.cell? ⟨wr.heap.size, 0, none⟩ = some (.string x.name) ∧ wz.cell? ⟨wr.heap.size, 1, none⟩ = some (.slice mo x.marks.length mc)) := Lib.hid (fun wz hz => ⟨by rw [hz.cell (p := ⟨wr.heap.size, 0, none⟩) (lt_of_heap hg2), cell0 hg2 0]; rfl, by rw [hz.cell (p := ⟨wr.heap.size, 1, none⟩) (lt_of_heap hg2), cell0 hg2 1]; rfl⟩)
              have HB2 := Lib.hid (HB.out.trans (hb2.mono HB.out.size))
              have HM := Lib.hid hmk
              have HW2 := Lib.hid hW2
              obtain ⟨x0, x1⟩ := HS2.out W2 (Below.refl _ _)
              have HONE := Lib.hid (r9One_any x _ W2 (HM.out.marks HB2.out) hns (by omega))
              obtain ⟨r, hr⟩ : ∃ r, r = oneI x := ⟨_, rfl⟩
              rw [← hr] at HONE
              have HR := Lib.hid hr
              clear e0 e1 hmk hx hr hb2 hg2 hW2
              go_wp2_with fail
              rw [← HW2.out]
              go_wp2_with fail
              refine HONE.out.mono ?_
              rintro e w3 ⟨rfl, hb3⟩
              have HW3 := Lib.hid hb3
              have HB3 := Lib.hid (HB2.out.trans (hb3.mono HB2.out.size))
              clear hb3 c0 c1 x0 x1 HONE
              obtain ⟨x0, x1⟩ := HS2.out w3 HW3.out
              cases r with
              | false =>
                go_wp2_with fail
                refine (kv_has 0 2 (HM.out.marks HB3.out) (HGL.out.below HB3.out) hns (by omega) (has_bad HR.out.symm)).mono ?_
                rintro e w4 ⟨rfl, hb4⟩
                have hbf := HB3.out.trans (hb4.mono HB3.out.size)
                clear hb4 x0 x1
                go_wp2_with fail
                go_roundw
                case rel => exact ⟨k + 1, by omega, by go_num, hbf⟩
                case measure => simp [intOf]; omega
              | true =>
                have HQ := Lib.hid (r9Qty_any x _ w3.drew (HM.out.marks (below_drew1 HB3.out)) (one_marks HR.out.symm))
                have HQ : Hid (Calls Tryz.prog 20 #[.agg #[.string x.name, .slice mo x.marks.length mc]] w3.drew fun e w' => e = .returned (.int .i64 (newestM x.marks).qty) ∧ Below w3.heap.size w3 w') := Lib.hid (HQ.out.mono (fun _ _ ⟨a1, a2⟩ => ⟨a1, (below_drew1 (Below.refl _ _)).trans a2⟩))
                have HHAS : Hid (∀ wz, Below w3.heap.size w3 wz → Calls Tryz.prog 19 #[.agg #[.string x.name, .slice mo x.marks.length mc], .int .i64 (newestM x.marks).qty, .int .i64 0] wz fun e w' => e = .returned (.bool true) ∧ Below wz.heap.size wz w') := Lib.hid (fun wz hz => kv_has _ 0 (HM.out.marks (HB3.out.trans (hz.mono HB3.out.size))) (HGL.out.below (HB3.out.trans (hz.mono HB3.out.size))) hns (by omega) (has_ok HR.out.symm))
                have HS : Hid (∀ wz, Below w3.heap.size w3 wz → wz.cell? ⟨wr.heap.size, 0, none⟩ = some (.string x.name) ∧ wz.cell? ⟨wr.heap.size, 1, none⟩ = some (.slice mo x.marks.length mc)) := Lib.hid (fun wz hz => HS2.out wz (HW3.out.trans (hz.mono HW3.out.size)))
                generalize (newestM x.marks).qty = qn at *
                generalize hnm : x.name = nm' at *
                generalize hml : x.marks.length = ml at *
                go_upto_region 15 with fail
                refine NQ.to ?_
                refine wp_region_held_drew (S := (fun wz => wz.cell? ⟨wr.heap.size, 0, none⟩ = some (.string nm') ∧ wz.cell? ⟨wr.heap.size, 1, none⟩ = some (.slice mo ml mc))) (by kernel_rfl) (HS.out _ (below_drew1 (Below.refl _ _))) (fun hS => ?_)
                try simp only [Act.put, List.setIfInBounds_toArray, List.set_cons_succ, List.set_cons_zero, List.getElem_toArray, List.getElem_cons_succ, List.getElem_cons_zero]
                refine wpAnyH_take (i := 0) (v := ?v4) rfl (by decide +kernel) (by decide +kernel) (by decide +kernel) (fun _ _ _ h => h) (Or.inl ⟨by kernel_rfl, fun w hSw => ?h4⟩) hS ?_; (case h4 => (refine ok_of (fun z hz => ?_); obtain ⟨f1, f2⟩ := hSw; go_simp; exact hz))
                try simp only [Act.put, List.setIfInBounds_toArray, List.set_cons_succ, List.set_cons_zero, List.getElem_toArray, List.getElem_cons_succ, List.getElem_cons_zero]
                refine wpAnyH_take (i := 1) (v := ?v5) rfl (by decide +kernel) (by decide +kernel) (by decide +kernel) (fun _ _ _ h => h) (Or.inl ⟨by kernel_rfl, fun w hSw => ?h5⟩) hS ?_; (case h5 => (refine ok_of (fun z hz => ?_); obtain ⟨f1, f2⟩ := hSw; go_simp; exact hz))
                try simp only [Act.put, List.setIfInBounds_toArray, List.set_cons_succ, List.set_cons_zero, List.getElem_toArray, List.getElem_cons_succ, List.getElem_cons_zero]
                refine wpAnyH_ready (rs := [2]) (by decide +kernel) (by simp) ?_
                refine (AllReadyH.cons rfl (fun K hK => ?_) AllReadyH.nil)
                go_simp
                go_at_call 20
                refine HQ.out.mono ?_
                rintro e w4 ⟨rfl, hb4⟩
                go_simp
                refine Shut.out hK _ _ (HS.out w4 hb4) (fun hS2 => ?_)
                clear hK K hS
                have hS := hS2
                clear hS2
                try simp only [Act.put, List.setIfInBounds_toArray, List.set_cons_succ, List.set_cons_zero, List.getElem_toArray, List.getElem_cons_succ, List.getElem_cons_zero]
                refine wpAnyH_ready (rs := [3]) (by decide +kernel) (by simp) ?_
                refine (AllReadyH.cons rfl (fun K hK => ?_) AllReadyH.nil)
                go_simp
                go_at_call 19
                refine (HHAS.out w4 hb4).mono ?_
                rintro e w5 ⟨rfl, hb5⟩
                have hb35 := hb4.trans (hb5.mono hb4.size)
                go_simp
                refine Shut.out hK _ _ (HS.out w5 hb35) (fun hS2 => ?_)
                clear hK K hS
                have hS := hS2
                clear hS2
                try simp only [Act.put, List.setIfInBounds_toArray, List.set_cons_succ, List.set_cons_zero, List.getElem_toArray, List.getElem_cons_succ, List.getElem_cons_zero]
                refine wpAnyH_take (i := 4) (v := ?v6) rfl (by decide +kernel) (by decide +kernel) (by decide +kernel) (fun _ _ _ h => h) (Or.inl ⟨by kernel_rfl, fun w hSw => ?h6⟩) hS ?_; (case h6 => (refine ok_of (fun z hz => ?_); go_simp; exact hz))
                try simp only [Act.put, List.setIfInBounds_toArray, List.set_cons_succ, List.set_cons_zero, List.getElem_toArray, List.getElem_cons_succ, List.getElem_cons_zero]
                refine wpAnyH_done (by kernel_rfl) ?_ _
                try simp only [Act.put, List.setIfInBounds_toArray, List.set_cons_succ, List.set_cons_zero, List.getElem_toArray, List.getElem_cons_succ, List.getElem_cons_zero]
                simp only [NQ]
                have hbf := HB3.out.trans (hb35.mono HB3.out.size)
                clear hS hb4 hb5 hb35
                go_wp2_with fail
                exact ⟨⟨k + 1, by omega, by go_num, hbf⟩, by simp [intOf]; omega⟩
            · have hke : k = l.length := by omega
              go_wp2_with fail
              refine (l9known_any _ (HGL.out.below HB.out)).mono ?_
              rintro e wk ⟨rfl, hb⟩
              have HBK := Lib.hid (HB.out.trans (hb.mono HB.out.size))
              clear hb
              go_wp2_with fail
              go_ret
              exact ⟨rfl, HBK.out⟩
      · obtain ⟨b, off, mv, he, hbl, e0, e1, hns, hmk⟩ := HEL.out k hk
        cases he
        obtain ⟨mo, mc, rfl, -⟩ := id hmk
        have c0 : w2.cell? ⟨b, off + k * 2, none⟩ = some (.string l[k].name) := by rw [HB2.out.cell (p := ⟨_, _, _⟩) hbl]; exact e0
        have c1 : w2.cell? ⟨b, off + k * 2 + 1, none⟩ = some (.slice mo l[k].marks.length mc) := by rw [HB2.out.cell (p := ⟨_, _, _⟩) hbl]; exact e1
        have HFG := Lib.hid (find_good hk hkn htk)
        have HMK := Lib.hid hmk
        have a0 : (0 : Int) ≤ k := by omega
        have a1 : (k : Int) < l.length := by omega
        have t2 : decide ((k : Int) < 0) = false := decide_eq_false (by omega)
        clear e0 e1 hkn htk hmk
        go_wp2_with fail
        refine (kv_finds (want := l[k]) nm 0 (HA.out.items HB2.out) (HMK.out.marks HB2.out) hns hlt.1 HFG.out).mono ?_
        rintro e w5 ⟨rfl, hb⟩
        have HC5 := Lib.hid (HC2.out.trans (hb.mono HC2.out.size))
        have HB5 := Lib.hid (HB2.out.trans (hb.mono HB2.out.size))
        clear hb
        clear c0 c1 HMK HFG hns a0 a1 t2
        obtain ⟨c0, c1⟩ := HX.out w5 HC5.out
        obtain ⟨ow, how⟩ : ∃ ow, ow = ownerI l d := ⟨_, rfl⟩
        have HOW := Lib.hid how
        clear how
        go_wp2_with fail
        refine (r9Owner_any l d _ w5 (HA.out.items HB5.out)).mono ?_
        rintro e w3 ⟨rfl, hb⟩
        have HC3 := Lib.hid (HC5.out.trans (hb.mono HC5.out.size))
        have HB3 := Lib.hid (HB5.out.trans (hb.mono HB5.out.size))
        clear hb
        rw [← HOW.out]
        clear c0 c1
        obtain ⟨c0, c1⟩ := HX.out w3 HC3.out
        cases ow with
        | none =>
          simp only [refOwnerV]
          go_wp2_with fail
          refine (kv_owns d ⟨#[]⟩ 9 (HA.out.items HB3.out) hlt.1 (own_none HOW.out.symm)).mono ?_
          rintro e w4 ⟨rfl, hb⟩
          have HB4 := Lib.hid (HB3.out.trans (hb.mono HB3.out.size))
          clear hb
          go_wp2_with fail
          refine (itemsDots_any l _ w4 (HA.out.items HB4.out) hlt.1).mono ?_
          rintro e wd1 ⟨vd, rfl, hrow, hb⟩
          have HD1 := Lib.hid (HB4.out.trans (hb.mono HB4.out.size))
          clear hb
          have HAD := Lib.hid (Arr.of_dots hrow (fun x hx => HDI.out x ((setD_mem _ _).1 hx)))
          clear hrow
          go_wp2_with fail
          refine (r9Dots_any l _ wd1 (HA.out.items HD1.out) hlt.1).mono ?_
          rintro e wd2 ⟨ve, rfl, hae, hb⟩
          have HAE := Lib.hid hae
          have HAD2 := Lib.hid (HAD.out.dots hb)
          clear hae
          have HD2 := Lib.hid (HD1.out.trans (hb.mono HD1.out.size))
          clear hb
          go_wp2_with fail
          refine (r1Same_any _ _ vd ve wd2 HAD2.out HAE.out).mono ?_
          rintro e wd3 ⟨rfl, hb⟩
          have HD3 := Lib.hid (HD2.out.trans (hb.mono HD2.out.size))
          clear hb
          rw [decide_eq_true rfl]
          clear HAD HAD2 HAE HDI
          clear c0 c1
          go_wp2_with fail
          go_loopw [81] (fun i wr => ∃ k : Nat, k ≤ l.length ∧ i = .int .i64 k ∧ Below w.heap.size w wr) (fun i _ => l.length - (intOf i).toNat)
          case atStart => exact ⟨0, Nat.zero_le _, rfl, HD3.out⟩
          case round =>
            obtain ⟨k, hk, rfl, hB⟩ := hrel
            have HB := Lib.hid hB
            clear hB HD1 HD2 HD3
            by_cases hlk : k < l.length
            · obtain ⟨b, off, mv, he, hbl, e0, e1, hns, hmk⟩ := HEL.out k hlk
              cases he
              obtain ⟨mo, mc, rfl, -⟩ := id hmk
              have c0 : wr.cell? ⟨b, off + k * 2, none⟩ = some (.string l[k].name) := by rw [HB.out.cell (p := ⟨_, _, _⟩) hbl]; exact e0
              have c1 : wr.cell? ⟨b, off + k * 2 + 1, none⟩ = some (.slice mo l[k].marks.length mc) := by rw [HB.out.cell (p := ⟨_, _, _⟩) hbl]; exact e1
              have hm10 : l[k].marks.length ≤ 1000 := hlt.1.2 _ (List.getElem_mem hlk)
              obtain ⟨x, hx⟩ : ∃ x, x = l[k] := ⟨_, rfl⟩
              rw [← hx] at c0 c1 hns hmk hm10
              have a0 : (0 : Int) ≤ k := by omega
              have a1 : (k : Int) < l.length := by omega
              have hkw : IntKind.i64.wrap ((k : Int) + 1) = (k : Int) + 1 := by rw [IntKind.wrap_i64]; omega
              obtain ⟨W2, hW2⟩ : ∃ W2, W2 = wr.alloc (.cells #[.string x.name, .slice mo x.marks.length mc] 31) := ⟨_, rfl⟩
              have hb2 : Below wr.heap.size wr W2 := by rw [hW2]; exact (Below.refl _ _).alloc (Nat.le_refl _) _
              have hg2 : W2.heap[wr.heap.size]? = some (.cells #[.string x.name, .slice mo x.marks.length mc] 31) := by rw [hW2]; exact alloc_new _ _
              have HS2 : Hid (∀ wz, Below W2.heap.size W2 wz → wz.cell? ⟨wr.heap.size, 0, none⟩ = some (.string x.name) ∧ wz.cell? ⟨wr.heap.size, 1, none⟩ = some (.slice mo x.marks.length mc)) := Lib.hid (fun wz hz => ⟨by rw [hz.cell (p := ⟨wr.heap.size, 0, none⟩) (lt_of_heap hg2), cell0 hg2 0]; rfl, by rw [hz.cell (p := ⟨wr.heap.size, 1, none⟩) (lt_of_heap hg2), cell0 hg2 1]; rfl⟩)
              have HB2 := Lib.hid (HB.out.trans (hb2.mono HB.out.size))
              have HM := Lib.hid hmk
              have HW2 := Lib.hid hW2
              obtain ⟨x0, x1⟩ := HS2.out W2 (Below.refl _ _)
              have HONE := Lib.hid (r9One_any x _ W2 (HM.out.marks HB2.out) hns (by omega))
              obtain ⟨r, hr⟩ : ∃ r, r = oneI x := ⟨_, rfl⟩
              rw [← hr] at HONE
              have HR := Lib.hid hr
              clear e0 e1 hmk hx hr hb2 hg2 hW2
              go_wp2_with fail
              rw [← HW2.out]
              go_wp2_with fail
              refine HONE.out.mono ?_
              rintro e w3 ⟨rfl, hb3⟩
              have HW3 := Lib.hid hb3
              have HB3 := Lib.hid (HB2.out.trans (hb3.mono HB2.out.size))
              clear hb3 c0 c1 x0 x1 HONE
              obtain ⟨x0, x1⟩ := HS2.out w3 HW3.out
              cases r with
              | false =>
                go_wp2_with fail
                refine (kv_has 0 2 (HM.out.marks HB3.out) (HGL.out.below HB3.out) hns (by omega) (has_bad HR.out.symm)).mono ?_
                rintro e w4 ⟨rfl, hb4⟩
                have hbf := HB3.out.trans (hb4.mono HB3.out.size)
                clear hb4 x0 x1
                go_wp2_with fail
                go_roundw
                case rel => exact ⟨k + 1, by omega, by go_num, hbf⟩
                case measure => simp [intOf]; omega
              | true =>
                have HQ := Lib.hid (r9Qty_any x _ w3.drew (HM.out.marks (below_drew1 HB3.out)) (one_marks HR.out.symm))
                have HQ : Hid (Calls Tryz.prog 20 #[.agg #[.string x.name, .slice mo x.marks.length mc]] w3.drew fun e w' => e = .returned (.int .i64 (newestM x.marks).qty) ∧ Below w3.heap.size w3 w') := Lib.hid (HQ.out.mono (fun _ _ ⟨a1, a2⟩ => ⟨a1, (below_drew1 (Below.refl _ _)).trans a2⟩))
                have HHAS : Hid (∀ wz, Below w3.heap.size w3 wz → Calls Tryz.prog 19 #[.agg #[.string x.name, .slice mo x.marks.length mc], .int .i64 (newestM x.marks).qty, .int .i64 0] wz fun e w' => e = .returned (.bool true) ∧ Below wz.heap.size wz w') := Lib.hid (fun wz hz => kv_has _ 0 (HM.out.marks (HB3.out.trans (hz.mono HB3.out.size))) (HGL.out.below (HB3.out.trans (hz.mono HB3.out.size))) hns (by omega) (has_ok HR.out.symm))
                have HS : Hid (∀ wz, Below w3.heap.size w3 wz → wz.cell? ⟨wr.heap.size, 0, none⟩ = some (.string x.name) ∧ wz.cell? ⟨wr.heap.size, 1, none⟩ = some (.slice mo x.marks.length mc)) := Lib.hid (fun wz hz => HS2.out wz (HW3.out.trans (hz.mono HW3.out.size)))
                generalize (newestM x.marks).qty = qn at *
                generalize hnm : x.name = nm' at *
                generalize hml : x.marks.length = ml at *
                go_upto_region 15 with fail
                refine NQ.to ?_
                refine wp_region_held_drew (S := (fun wz => wz.cell? ⟨wr.heap.size, 0, none⟩ = some (.string nm') ∧ wz.cell? ⟨wr.heap.size, 1, none⟩ = some (.slice mo ml mc))) (by kernel_rfl) (HS.out _ (below_drew1 (Below.refl _ _))) (fun hS => ?_)
                try simp only [Act.put, List.setIfInBounds_toArray, List.set_cons_succ, List.set_cons_zero, List.getElem_toArray, List.getElem_cons_succ, List.getElem_cons_zero]
                refine wpAnyH_take (i := 0) (v := ?v7) rfl (by decide +kernel) (by decide +kernel) (by decide +kernel) (fun _ _ _ h => h) (Or.inl ⟨by kernel_rfl, fun w hSw => ?h7⟩) hS ?_; (case h7 => (refine ok_of (fun z hz => ?_); obtain ⟨f1, f2⟩ := hSw; go_simp; exact hz))
                try simp only [Act.put, List.setIfInBounds_toArray, List.set_cons_succ, List.set_cons_zero, List.getElem_toArray, List.getElem_cons_succ, List.getElem_cons_zero]
                refine wpAnyH_take (i := 1) (v := ?v8) rfl (by decide +kernel) (by decide +kernel) (by decide +kernel) (fun _ _ _ h => h) (Or.inl ⟨by kernel_rfl, fun w hSw => ?h8⟩) hS ?_; (case h8 => (refine ok_of (fun z hz => ?_); obtain ⟨f1, f2⟩ := hSw; go_simp; exact hz))
                try simp only [Act.put, List.setIfInBounds_toArray, List.set_cons_succ, List.set_cons_zero, List.getElem_toArray, List.getElem_cons_succ, List.getElem_cons_zero]
                refine wpAnyH_ready (rs := [2]) (by decide +kernel) (by simp) ?_
                refine (AllReadyH.cons rfl (fun K hK => ?_) AllReadyH.nil)
                go_simp
                go_at_call 20
                refine HQ.out.mono ?_
                rintro e w4 ⟨rfl, hb4⟩
                go_simp
                refine Shut.out hK _ _ (HS.out w4 hb4) (fun hS2 => ?_)
                clear hK K hS
                have hS := hS2
                clear hS2
                try simp only [Act.put, List.setIfInBounds_toArray, List.set_cons_succ, List.set_cons_zero, List.getElem_toArray, List.getElem_cons_succ, List.getElem_cons_zero]
                refine wpAnyH_ready (rs := [3]) (by decide +kernel) (by simp) ?_
                refine (AllReadyH.cons rfl (fun K hK => ?_) AllReadyH.nil)
                go_simp
                go_at_call 19
                refine (HHAS.out w4 hb4).mono ?_
                rintro e w5 ⟨rfl, hb5⟩
                have hb35 := hb4.trans (hb5.mono hb4.size)
                go_simp
                refine Shut.out hK _ _ (HS.out w5 hb35) (fun hS2 => ?_)
                clear hK K hS
                have hS := hS2
                clear hS2
                try simp only [Act.put, List.setIfInBounds_toArray, List.set_cons_succ, List.set_cons_zero, List.getElem_toArray, List.getElem_cons_succ, List.getElem_cons_zero]
                refine wpAnyH_take (i := 4) (v := ?v9) rfl (by decide +kernel) (by decide +kernel) (by decide +kernel) (fun _ _ _ h => h) (Or.inl ⟨by kernel_rfl, fun w hSw => ?h9⟩) hS ?_; (case h9 => (refine ok_of (fun z hz => ?_); go_simp; exact hz))
                try simp only [Act.put, List.setIfInBounds_toArray, List.set_cons_succ, List.set_cons_zero, List.getElem_toArray, List.getElem_cons_succ, List.getElem_cons_zero]
                refine wpAnyH_done (by kernel_rfl) ?_ _
                try simp only [Act.put, List.setIfInBounds_toArray, List.set_cons_succ, List.set_cons_zero, List.getElem_toArray, List.getElem_cons_succ, List.getElem_cons_zero]
                simp only [NQ]
                have hbf := HB3.out.trans (hb35.mono HB3.out.size)
                clear hS hb4 hb5 hb35
                go_wp2_with fail
                exact ⟨⟨k + 1, by omega, by go_num, hbf⟩, by simp [intOf]; omega⟩
            · have hke : k = l.length := by omega
              go_wp2_with fail
              refine (l9known_any _ (HGL.out.below HB.out)).mono ?_
              rintro e wk ⟨rfl, hb⟩
              have HBK := Lib.hid (HB.out.trans (hb.mono HB.out.size))
              clear hb
              go_wp2_with fail
              go_ret
              exact ⟨rfl, HBK.out⟩
        | some s =>
          simp only [refOwnerV]
          go_wp2_with fail
          refine (kv_owns d s 0 (HA.out.items HB3.out) hlt.1 (own_some HOW.out.symm)).mono ?_
          rintro e w4 ⟨rfl, hb⟩
          have HB4 := Lib.hid (HB3.out.trans (hb.mono HB3.out.size))
          clear hb
          go_wp2_with fail
          refine (itemsDots_any l _ w4 (HA.out.items HB4.out) hlt.1).mono ?_
          rintro e wd1 ⟨vd, rfl, hrow, hb⟩
          have HD1 := Lib.hid (HB4.out.trans (hb.mono HB4.out.size))
          clear hb
          have HAD := Lib.hid (Arr.of_dots hrow (fun x hx => HDI.out x ((setD_mem _ _).1 hx)))
          clear hrow
          go_wp2_with fail
          refine (r9Dots_any l _ wd1 (HA.out.items HD1.out) hlt.1).mono ?_
          rintro e wd2 ⟨ve, rfl, hae, hb⟩
          have HAE := Lib.hid hae
          have HAD2 := Lib.hid (HAD.out.dots hb)
          clear hae
          have HD2 := Lib.hid (HD1.out.trans (hb.mono HD1.out.size))
          clear hb
          go_wp2_with fail
          refine (r1Same_any _ _ vd ve wd2 HAD2.out HAE.out).mono ?_
          rintro e wd3 ⟨rfl, hb⟩
          have HD3 := Lib.hid (HD2.out.trans (hb.mono HD2.out.size))
          clear hb
          rw [decide_eq_true rfl]
          clear HAD HAD2 HAE HDI
          clear c0 c1
          go_wp2_with fail
          go_loopw [81] (fun i wr => ∃ k : Nat, k ≤ l.length ∧ i = .int .i64 k ∧ Below w.heap.size w wr) (fun i _ => l.length - (intOf i).toNat)
          case atStart => exact ⟨0, Nat.zero_le _, rfl, HD3.out⟩
          case round =>
            obtain ⟨k, hk, rfl, hB⟩ := hrel
            have HB := Lib.hid hB
            clear hB HD1 HD2 HD3
            by_cases hlk : k < l.length
            · obtain ⟨b, off, mv, he, hbl, e0, e1, hns, hmk⟩ := HEL.out k hlk
              cases he
              obtain ⟨mo, mc, rfl, -⟩ := id hmk
              have c0 : wr.cell? ⟨b, off + k * 2, none⟩ = some (.string l[k].name) := by rw [HB.out.cell (p := ⟨_, _, _⟩) hbl]; exact e0
              have c1 : wr.cell? ⟨b, off + k * 2 + 1, none⟩ = some (.slice mo l[k].marks.length mc) := by rw [HB.out.cell (p := ⟨_, _, _⟩) hbl]; exact e1
              have hm10 : l[k].marks.length ≤ 1000 := hlt.1.2 _ (List.getElem_mem hlk)
              obtain ⟨x, hx⟩ : ∃ x, x = l[k] := ⟨_, rfl⟩
              rw [← hx] at c0 c1 hns hmk hm10
              have a0 : (0 : Int) ≤ k := by omega
              have a1 : (k : Int) < l.length := by omega
              have hkw : IntKind.i64.wrap ((k : Int) + 1) = (k : Int) + 1 := by rw [IntKind.wrap_i64]; omega
              obtain ⟨W2, hW2⟩ : ∃ W2, W2 = wr.alloc (.cells #[.string x.name, .slice mo x.marks.length mc] 31) := ⟨_, rfl⟩
              have hb2 : Below wr.heap.size wr W2 := by rw [hW2]; exact (Below.refl _ _).alloc (Nat.le_refl _) _
              have hg2 : W2.heap[wr.heap.size]? = some (.cells #[.string x.name, .slice mo x.marks.length mc] 31) := by rw [hW2]; exact alloc_new _ _
              have HS2 : Hid (∀ wz, Below W2.heap.size W2 wz → wz.cell? ⟨wr.heap.size, 0, none⟩ = some (.string x.name) ∧ wz.cell? ⟨wr.heap.size, 1, none⟩ = some (.slice mo x.marks.length mc)) := Lib.hid (fun wz hz => ⟨by rw [hz.cell (p := ⟨wr.heap.size, 0, none⟩) (lt_of_heap hg2), cell0 hg2 0]; rfl, by rw [hz.cell (p := ⟨wr.heap.size, 1, none⟩) (lt_of_heap hg2), cell0 hg2 1]; rfl⟩)
              have HB2 := Lib.hid (HB.out.trans (hb2.mono HB.out.size))
              have HM := Lib.hid hmk
              have HW2 := Lib.hid hW2
              obtain ⟨x0, x1⟩ := HS2.out W2 (Below.refl _ _)
              have HONE := Lib.hid (r9One_any x _ W2 (HM.out.marks HB2.out) hns (by omega))
              obtain ⟨r, hr⟩ : ∃ r, r = oneI x := ⟨_, rfl⟩
              rw [← hr] at HONE
              have HR := Lib.hid hr
              clear e0 e1 hmk hx hr hb2 hg2 hW2
              go_wp2_with fail
              rw [← HW2.out]
              go_wp2_with fail
              refine HONE.out.mono ?_
              rintro e w3 ⟨rfl, hb3⟩
              have HW3 := Lib.hid hb3
              have HB3 := Lib.hid (HB2.out.trans (hb3.mono HB2.out.size))
              clear hb3 c0 c1 x0 x1 HONE
              obtain ⟨x0, x1⟩ := HS2.out w3 HW3.out
              cases r with
              | false =>
                go_wp2_with fail
                refine (kv_has 0 2 (HM.out.marks HB3.out) (HGL.out.below HB3.out) hns (by omega) (has_bad HR.out.symm)).mono ?_
                rintro e w4 ⟨rfl, hb4⟩
                have hbf := HB3.out.trans (hb4.mono HB3.out.size)
                clear hb4 x0 x1
                go_wp2_with fail
                go_roundw
                case rel => exact ⟨k + 1, by omega, by go_num, hbf⟩
                case measure => simp [intOf]; omega
              | true =>
                have HQ := Lib.hid (r9Qty_any x _ w3.drew (HM.out.marks (below_drew1 HB3.out)) (one_marks HR.out.symm))
                have HQ : Hid (Calls Tryz.prog 20 #[.agg #[.string x.name, .slice mo x.marks.length mc]] w3.drew fun e w' => e = .returned (.int .i64 (newestM x.marks).qty) ∧ Below w3.heap.size w3 w') := Lib.hid (HQ.out.mono (fun _ _ ⟨a1, a2⟩ => ⟨a1, (below_drew1 (Below.refl _ _)).trans a2⟩))
                have HHAS : Hid (∀ wz, Below w3.heap.size w3 wz → Calls Tryz.prog 19 #[.agg #[.string x.name, .slice mo x.marks.length mc], .int .i64 (newestM x.marks).qty, .int .i64 0] wz fun e w' => e = .returned (.bool true) ∧ Below wz.heap.size wz w') := Lib.hid (fun wz hz => kv_has _ 0 (HM.out.marks (HB3.out.trans (hz.mono HB3.out.size))) (HGL.out.below (HB3.out.trans (hz.mono HB3.out.size))) hns (by omega) (has_ok HR.out.symm))
                have HS : Hid (∀ wz, Below w3.heap.size w3 wz → wz.cell? ⟨wr.heap.size, 0, none⟩ = some (.string x.name) ∧ wz.cell? ⟨wr.heap.size, 1, none⟩ = some (.slice mo x.marks.length mc)) := Lib.hid (fun wz hz => HS2.out wz (HW3.out.trans (hz.mono HW3.out.size)))
                generalize (newestM x.marks).qty = qn at *
                generalize hnm : x.name = nm' at *
                generalize hml : x.marks.length = ml at *
                go_upto_region 15 with fail
                refine NQ.to ?_
                refine wp_region_held_drew (S := (fun wz => wz.cell? ⟨wr.heap.size, 0, none⟩ = some (.string nm') ∧ wz.cell? ⟨wr.heap.size, 1, none⟩ = some (.slice mo ml mc))) (by kernel_rfl) (HS.out _ (below_drew1 (Below.refl _ _))) (fun hS => ?_)
                try simp only [Act.put, List.setIfInBounds_toArray, List.set_cons_succ, List.set_cons_zero, List.getElem_toArray, List.getElem_cons_succ, List.getElem_cons_zero]
                refine wpAnyH_take (i := 0) (v := ?v10) rfl (by decide +kernel) (by decide +kernel) (by decide +kernel) (fun _ _ _ h => h) (Or.inl ⟨by kernel_rfl, fun w hSw => ?h10⟩) hS ?_; (case h10 => (refine ok_of (fun z hz => ?_); obtain ⟨f1, f2⟩ := hSw; go_simp; exact hz))
                try simp only [Act.put, List.setIfInBounds_toArray, List.set_cons_succ, List.set_cons_zero, List.getElem_toArray, List.getElem_cons_succ, List.getElem_cons_zero]
                refine wpAnyH_take (i := 1) (v := ?v11) rfl (by decide +kernel) (by decide +kernel) (by decide +kernel) (fun _ _ _ h => h) (Or.inl ⟨by kernel_rfl, fun w hSw => ?h11⟩) hS ?_; (case h11 => (refine ok_of (fun z hz => ?_); obtain ⟨f1, f2⟩ := hSw; go_simp; exact hz))
                try simp only [Act.put, List.setIfInBounds_toArray, List.set_cons_succ, List.set_cons_zero, List.getElem_toArray, List.getElem_cons_succ, List.getElem_cons_zero]
                refine wpAnyH_ready (rs := [2]) (by decide +kernel) (by simp) ?_
                refine (AllReadyH.cons rfl (fun K hK => ?_) AllReadyH.nil)
                go_simp
                go_at_call 20
                refine HQ.out.mono ?_
                rintro e w4 ⟨rfl, hb4⟩
                go_simp
                refine Shut.out hK _ _ (HS.out w4 hb4) (fun hS2 => ?_)
                clear hK K hS
                have hS := hS2
                clear hS2
                try simp only [Act.put, List.setIfInBounds_toArray, List.set_cons_succ, List.set_cons_zero, List.getElem_toArray, List.getElem_cons_succ, List.getElem_cons_zero]
                refine wpAnyH_ready (rs := [3]) (by decide +kernel) (by simp) ?_
                refine (AllReadyH.cons rfl (fun K hK => ?_) AllReadyH.nil)
                go_simp
                go_at_call 19
                refine (HHAS.out w4 hb4).mono ?_
                rintro e w5 ⟨rfl, hb5⟩
                have hb35 := hb4.trans (hb5.mono hb4.size)
                go_simp
                refine Shut.out hK _ _ (HS.out w5 hb35) (fun hS2 => ?_)
                clear hK K hS
                have hS := hS2
                clear hS2
                try simp only [Act.put, List.setIfInBounds_toArray, List.set_cons_succ, List.set_cons_zero, List.getElem_toArray, List.getElem_cons_succ, List.getElem_cons_zero]
                refine wpAnyH_take (i := 4) (v := ?v12) rfl (by decide +kernel) (by decide +kernel) (by decide +kernel) (fun _ _ _ h => h) (Or.inl ⟨by kernel_rfl, fun w hSw => ?h12⟩) hS ?_; (case h12 => (refine ok_of (fun z hz => ?_); go_simp; exact hz))
                try simp only [Act.put, List.setIfInBounds_toArray, List.set_cons_succ, List.set_cons_zero, List.getElem_toArray, List.getElem_cons_succ, List.getElem_cons_zero]
                refine wpAnyH_done (by kernel_rfl) ?_ _
                try simp only [Act.put, List.setIfInBounds_toArray, List.set_cons_succ, List.set_cons_zero, List.getElem_toArray, List.getElem_cons_succ, List.getElem_cons_zero]
                simp only [NQ]
                have hbf := HB3.out.trans (hb35.mono HB3.out.size)
                clear hS hb4 hb5 hb35
                go_wp2_with fail
                exact ⟨⟨k + 1, by omega, by go_num, hbf⟩, by simp [intOf]; omega⟩
            · have hke : k = l.length := by omega
              go_wp2_with fail
              refine (l9known_any _ (HGL.out.below HB.out)).mono ?_
              rintro e wk ⟨rfl, hb⟩
              have HBK := Lib.hid (HB.out.trans (hb.mono HB.out.size))
              clear hb
              go_wp2_with fail
              go_ret
              exact ⟨rfl, HBK.out⟩
    · have t1 : decide (100 < (nm.size : Int)) = true := decide_eq_true (by omega)
      go_wp2_with fail
      refine (l9known_any _ (HGL.out.below HB1.out)).mono ?_
      rintro e wk ⟨rfl, hb⟩
      have HBK := Lib.hid (HB1.out.trans (hb.mono HB1.out.size))
      clear hb
      go_wp2_with fail
      go_ret
      exact ⟨rfl, HBK.out⟩
end Go.Proofs.YtjlhdgmcaiiagaaGreatDoor

