/- qty.Next and cart.Time walked. -/
import Derived.Test.YtjoljfnlkddfbaaGreatDoorC17
import Derived.Test.YtjoljfnlkddfbaaGreatDoorDeltaK
import Derived.Test.YtjoljfnlkddfbaaGreatDoorC13
import Derived.Test.YtjoljfnlkddfbaaGreatDoorR11k
import Derived.Test.YtjoljfnlkddfbaaGreatDoorIt10
namespace Go.Proofs.YtjoljfnlkddfbaaGreatDoor
open Go.RowKit Go.Maps

theorem find_nth {l : List ItemD} {nm : ByteArray} {k : Nat} (h : k < l.length) (hn : l[k].name = nm) (ht : (l.take k).any (fun x => decide (x.name = nm)) = false) : findX l nm = l[k] ∧ thereB l nm = true := by
  have e : l = l.take k ++ l[k] :: l.drop (k + 1) := by rw [List.getElem_cons_drop, List.take_append_drop]
  have h1 : (l.take k).find? (fun x => decide (x.name = nm)) = none := by
    rw [List.find?_eq_none]
    intro x hx hp
    have := List.any_eq_false.1 ht x hx
    exact this hp
  refine ⟨?_, List.any_eq_true.2 ⟨l[k], List.getElem_mem h, by simp [hn]⟩⟩
  unfold findX
  have h2 : l.find? (fun x => decide (x.name = nm)) = some l[k] := by
    have h3 := congrArg (List.find? (fun x => decide (x.name = nm))) e
    have h4 : List.find? (fun x => decide (x.name = nm)) (l[k] :: l.drop (k + 1)) = some l[k] := List.find?_cons_of_pos (by simp [hn])
    rw [List.find?_append, h1, h4] at h3
    exact h3
  rw [h2]; rfl
theorem name_le {w : World} {v : Value} {l : List ItemD} (h : Arr ItemR 2 w v l) {x : ItemD} (hx : x ∈ l) : x.name.size ≤ maxLen := by
  obtain ⟨i, hi, rfl⟩ := List.mem_iff_getElem.1 hx
  obtain ⟨_, _, _, hel⟩ := h.itemAt
  obtain ⟨_, _, _, _, _, _, _, h5, _⟩ := hel i hi
  exact h5
/-- Find's answer in other words. -/
theorem find_cases {nm : ByteArray} {l : List ItemD} {w : World} {e : Ending} {w' : World} (h : FindPost nm l w e w') :
    (thereB l nm = false ∧ e = .returned (.tuple #[.agg #[.string ⟨#[]⟩, .slice none 0 0], .int .i64 9]) ∧ Below w.heap.size w w') ∨
    (thereB l nm = true ∧ ∃ mo mc, e = .returned (.tuple #[.agg #[.string (findX l nm).name, .slice mo (findX l nm).marks.length mc], .int .i64 0]) ∧ EMark.Row w.heap.size w' (.slice mo (findX l nm).marks.length mc) (findX l nm).marks ∧ Below w.heap.size w w') := by
  obtain ⟨hb, ⟨h1, h2⟩ | ⟨k, hk, hn, ht, mo, mc, he, hr⟩⟩ := h
  · exact Or.inl ⟨h1, h2, hb⟩
  · obtain ⟨e1, e2⟩ := find_nth hk hn ht
    rw [e1]
    exact Or.inr ⟨e2, mo, mc, he, hr, hb⟩
set_option linter.unusedSimpArgs false in
set_option linter.unusedVariables false in
set_option maxRecDepth 100000 in
set_option maxHeartbeats 8000000 in
theorem cartQty_any (c : CartD) (nm : ByteArray) (v1 v2 v3 : Value) (w : World) (h : CartA w v1 v2 v3 c) (hl : Lt c.items) (hG : GlobIs w) :
    Calls Tryz.prog 44 #[.agg #[v1, v2, v3], .string nm] w fun e w' => e = .returned (.tuple #[.int .i64 (qtyC c nm), .int .i64 (qtyCE c nm)]) ∧ Below w.heap.size w w' := by
  obtain ⟨o1, k1, rfl⟩ := h.1.slice
  obtain ⟨o2, k2, rfl⟩ := h.2.1.slice
  obtain ⟨o3, k3, rfl⟩ := h.2.2.slice
  obtain ⟨n1, hn1⟩ : ∃ n, n = c.vec.length := ⟨_, rfl⟩
  obtain ⟨n2, hn2⟩ : ∃ n, n = c.cloud.length := ⟨_, rfl⟩
  obtain ⟨n3, hn3⟩ : ∃ n, n = c.items.length := ⟨_, rfl⟩
  rw [← hn1, ← hn2, ← hn3] at h
  rw [← hn1, ← hn2, ← hn3]
  obtain ⟨W0, HW, HB, HS, HK0⟩ := box1 w #[.slice o1 n1 k1, .slice o2 n2 k2, .slice o3 n3 k3] 28
  have HC := Hd (fun wz (hz : Below W0.heap.size W0 wz) => cel3 (HK0.out wz hz))
  have HA := Hd (h.below HB.out)
  have HGL := Hd (hG.below HB.out)
  have HV := Hd (cartValid_any c _ _ _ W0 HA.out hl HGL.out)
  have HFI : Hid (∀ wz, Below W0.heap.size W0 wz → Calls Tryz.prog 85 #[.slice o3 n3 k3, .string nm] wz (FindPost nm c.items wz)) := Hd (fun wz hz => itemsFind_any nm c.items _ wz (HA.out.below hz).2.2 hl)
  have HMI : Hid (∀ m ∈ (findX c.items nm).marks, MI m) := Hd (marksOf_MI h.2.2 nm)
  have HLM : Hid (thereB c.items nm = true → (findX c.items nm).marks.length ≤ 1000 ∧ (findX c.items nm).name = nm ∧ (findX c.items nm).name.size ≤ maxLen) := Hd (fun ht => by
    obtain ⟨h1, h2⟩ := thereB_find ht
    exact ⟨hl.2 _ h1, h2, name_le h.2.2 h1⟩)
  have HQC : Hid (qtyC c nm = if validC c && thereB c.items nm then qtyI (findX c.items nm) else 0) := Hd rfl
  have HQE : Hid (qtyCE c nm = if validC c then (if thereB c.items nm then 0 else 9) else 2) := Hd rfl
  have HVI : Hid (validC c = true → thereB c.items nm = true → qtyIE (findX c.items nm) = 0) := Hd (fun hv ht => by
    have := (validI_parts (validC_parts hv).2.1).1 _ (thereB_find ht).1
    unfold qtyIE
    rw [if_pos this])
  have HBW := Hd HB.out
  clear HB HS h hl hG hn1 hn2 hn3
  obtain ⟨r, hr⟩ : ∃ r, r = validC c := ⟨_, rfl⟩
  rw [← hr] at HV HQC HQE HVI
  clear hr
  generalize qtyC c nm = Q1 at *
  generalize qtyCE c nm = Q2 at *
  obtain ⟨c0, c1, c2⟩ := HC.out W0 brf
  go_enter Tryz.func44, Tryz.ntmps44
  go_wp2_with fail
  rw [← HW.out]
  go_wp2_with fail
  refine HV.out.mono ?_
  rintro e w1 ⟨rfl, hb1⟩
  have HB1 := Hd hb1
  clear c0 c1 c2 hb1 HV
  obtain ⟨c0, c1, c2⟩ := HC.out w1 HB1.out
  cases r with
  | false =>
    have h1 : Q1 = 0 := HQC.out
    have h2 : Q2 = 2 := HQE.out
    subst h1 h2
    clear HQC HQE HVI
    go_wp2_with fail
    go_ret2
    exact ⟨rfl, btr HBW.out HB1.out⟩
  | true =>
    have HFI1 := Hd (HFI.out w1 HB1.out)
    go_wp2_with fail
    refine HFI1.out.mono ?_
    intro e w2 hp
    rcases find_cases hp with ⟨ht, rfl, hb2⟩ | ⟨ht, mo, mc, rfl, hrow, hb2⟩
    · have HB2 := Hd (btr HB1.out hb2)
      have h1 : Q1 = 0 := by have := HQC.out; rw [ht] at this; exact this
      have h2 : Q2 = 9 := by have := HQE.out; rw [ht] at this; exact this
      subst h1 h2
      clear HQC HQE HVI hp hb2 ht HFI1 c0 c1 c2
      go_wp2_with fail
      go_ret2
      exact ⟨rfl, (btr HBW.out HB2.out).alloc (btr HBW.out HB2.out).size _⟩
    · have HB2 := Hd (btr HB1.out hb2)
      have h1 : Q1 = qtyI (findX c.items nm) := by have := HQC.out; rw [ht] at this; exact this
      have h2 : Q2 = 0 := by have := HQE.out; rw [ht] at this; exact this
      have h3 := HVI.out trivial ht
      obtain ⟨hm1, hm2, hm3⟩ := HLM.out ht
      subst h2
      have HF := Hd h1
      clear h1
      obtain ⟨W3, hW3⟩ : ∃ x, x = w2.alloc (.cells #[.string (findX c.items nm).name, .slice mo (findX c.items nm).marks.length mc] 55) := ⟨_, rfl⟩
      have hb23 : Below w2.heap.size w2 W3 := by rw [hW3]; exact bal
      have HB3 := Hd (btr HB2.out hb23)
      have HQY0 := itemsQty_any (findX c.items nm) _ W3 (Arr.of_marks (hrow.below hb23) HMI.out) hm3 (by omega) (HGL.out.below HB3.out)
      rw [h3] at HQY0
      have HQY := Hd HQY0
      have HW3 := Hd hW3
      clear HQC HQE HVI hp hb2 ht HFI1 c0 c1 c2 hrow hb23 hW3 h3 hm1 hm2 hm3 HQY0 HMI HLM HFI
      obtain ⟨q, hq⟩ : ∃ q, q = qtyI (findX c.items nm) := ⟨_, rfl⟩
      rw [← hq] at HF HQY
      clear hq
      generalize (findX c.items nm).name = nq at *
      generalize (findX c.items nm).marks.length = lq at *
      go_wp2_with fail
      rw [← HW3.out]
      refine HQY.out.mono ?_
      rintro e w4 ⟨rfl, hb4⟩
      have HB4 := Hd (btr HB3.out hb4)
      clear hb4 HQY
      go_wp2_with fail
      go_ret2
      exact ⟨by rw [HF.out]; rfl, btr HBW.out HB4.out⟩
set_option linter.unusedSimpArgs false in
set_option linter.unusedVariables false in
set_option maxRecDepth 100000 in
set_option maxHeartbeats 8000000 in
theorem cartDots_any (c : CartD) (nm : ByteArray) (v1 v2 v3 : Value) (w : World) (h : CartA w v1 v2 v3 c) (hl : Lt c.items) (hG : GlobIs w) :
    Calls Tryz.prog 84 #[.agg #[v1, v2, v3], .string nm] w fun e w' => ∃ v', e = .returned v' ∧ EDot.Row w.heap.size w' v' (dotsC c nm) ∧ Below w.heap.size w w' := by
  obtain ⟨o1, k1, rfl⟩ := h.1.slice
  obtain ⟨o2, k2, rfl⟩ := h.2.1.slice
  obtain ⟨o3, k3, rfl⟩ := h.2.2.slice
  obtain ⟨n1, hn1⟩ : ∃ n, n = c.vec.length := ⟨_, rfl⟩
  obtain ⟨n2, hn2⟩ : ∃ n, n = c.cloud.length := ⟨_, rfl⟩
  obtain ⟨n3, hn3⟩ : ∃ n, n = c.items.length := ⟨_, rfl⟩
  rw [← hn1, ← hn2, ← hn3] at h
  rw [← hn1, ← hn2, ← hn3]
  obtain ⟨W0, HW, HB, HS, HK0⟩ := box1 w #[.slice o1 n1 k1, .slice o2 n2 k2, .slice o3 n3 k3] 28
  have HC := Hd (fun wz (hz : Below W0.heap.size W0 wz) => cel3 (HK0.out wz hz))
  have HA := Hd (h.below HB.out)
  have HGL := Hd (hG.below HB.out)
  have HV := Hd (cartValid_any c _ _ _ W0 HA.out hl HGL.out)
  have HFI : Hid (∀ wz, Below W0.heap.size W0 wz → Calls Tryz.prog 85 #[.slice o3 n3 k3, .string nm] wz (FindPost nm c.items wz)) := Hd (fun wz hz => itemsFind_any nm c.items _ wz (HA.out.below hz).2.2 hl)
  have HMI : Hid (∀ m ∈ (findX c.items nm).marks, MI m) := Hd (marksOf_MI h.2.2 nm)
  have HLM : Hid (thereB c.items nm = true → (findX c.items nm).marks.length ≤ 1000 ∧ (findX c.items nm).name = nm ∧ (findX c.items nm).name.size ≤ maxLen) := Hd (fun ht => by
    obtain ⟨h1, h2⟩ := thereB_find ht
    exact ⟨hl.2 _ h1, h2, name_le h.2.2 h1⟩)
  have HDC : Hid (dotsC c nm = if validC c then (if nm.size = 0 then setD (allDots c.items) else dotsM (marksOf c.items nm)) else []) := Hd rfl
  have HVN : Hid (∀ wz, Below W0.heap.size W0 wz → Calls Tryz.prog 10 #[.agg #[.slice o1 n1 k1, .slice o2 n2 k2, .slice o3 n3 k3]] wz fun e w' => e = .returned (.bool (validC c)) ∧ Below wz.heap.size wz w') := Hd (fun wz hz => cartValid_any c _ _ _ wz (HA.out.below hz) hl (HGL.out.below hz))
  have HIT : Hid (∀ wz, Below W0.heap.size W0 wz → Calls Tryz.prog 37 #[.slice o3 n3 k3] wz fun e w' => ∃ v', e = .returned v' ∧ EDot.Row wz.heap.size w' v' (setD (allDots c.items)) ∧ Below wz.heap.size wz w') := Hd (fun wz hz => itemsDots_any c.items _ wz (HA.out.below hz).2.2 hl)
  have HEM : Hid (thereB c.items nm = false → dotsM (marksOf c.items nm) = []) := Hd (fun ht => by
    rw [marksOf_none (fun x hx e => by have := List.any_eq_false.1 ht x hx; simp [e] at this)]
    rfl)
  have HMO : Hid (marksOf c.items nm = (findX c.items nm).marks) := Hd rfl
  have HBW := Hd HB.out
  have hsz := HS.out
  clear HB HS h hl hG hn1 hn2 hn3 HV
  obtain ⟨r, hr⟩ : ∃ r, r = validC c := ⟨_, rfl⟩
  rw [← hr] at HVN HDC
  clear hr
  obtain ⟨D, hD⟩ : ∃ D, D = dotsC c nm := ⟨_, rfl⟩
  rw [← hD] at HDC ⊢
  clear hD
  obtain ⟨c0, c1, c2⟩ := HC.out W0 brf
  have HFI1 := Hd (HFI.out W0 brf)
  go_enter Tryz.func84, Tryz.ntmps84
  go_wp2_with fail
  rw [← HW.out]
  go_wp2_with fail
  refine HFI1.out.mono ?_
  intro e w2 hp
  rcases find_cases hp with ⟨ht, rfl, hb2⟩ | ⟨ht, mo, mc, rfl, hrow, hb2⟩
  · have hem := HEM.out ht
    rw [hem] at HDC
    have HB2 := Hd hb2
    obtain ⟨W3, hW3⟩ : ∃ x, x = w2.alloc (.cells #[.string ⟨#[]⟩, .slice none 0 0] 55) := ⟨_, rfl⟩
    have hb23 : Below w2.heap.size w2 W3 := by rw [hW3]; exact bal
    have HB3 := Hd (btr HB2.out hb23)
    have HW3 := Hd hW3
    have HV3 := Hd (HVN.out W3 HB3.out)
    clear HFI1 HFI hp hb2 ht hem hb23 hW3 c0 c1 c2 HMI HLM HEM HMO
    obtain ⟨c0, c1, c2⟩ := HC.out w2 HB2.out
    have hlt2 : w.heap.size < w2.heap.size := by have := HB2.out.size; omega
    go_upto_region 3 with fail
    rw [← HW3.out]
    clear HW3
    obtain ⟨d0, d1, d2⟩ := HC.out W3 HB3.out
    go_wp2_with fail
    refine HV3.out.mono ?_
    rintro e w4 ⟨rfl, hb4⟩
    have HB4 := Hd (btr HB3.out hb4)
    clear hb4 HV3 c0 c1 c2
    cases r with
    | false =>
      have HF : Hid (EDot.Row w.heap.size w4 (.slice none 0 0) D) := Hd (by rw [HDC.out]; exact Enc.Row.nil _ _)
      clear HDC
      go_wp2_with fail
      go_ret
      exact ⟨_, rfl, HF.out, btr HBW.out HB4.out⟩
    | true =>
      by_cases hz : nm.size = 0
      · have hnm : (nm.toList == ([] : List UInt8)) = true := by rw [bytes_toList]; have : nm.data.toList = [] := by rw [← List.length_eq_zero_iff, Array.length_toList]; exact hz
                                                                 rw [this]; rfl
        have hne : nm.toList.isEmpty = true := by rw [bytes_isEmpty]; exact decide_eq_true hz
        have HIT4 := Hd (HIT.out w4 HB4.out)
        have HDC2 : Hid (D = setD (allDots c.items)) := Hd (by rw [HDC.out, if_pos rfl, if_pos hz])
        clear HDC HIT
        obtain ⟨c0, c1, c2⟩ := HC.out w4 HB4.out
        go_wp2_with fail
        refine HIT4.out.mono ?_
        rintro e w5 ⟨v5, rfl, hr5, hb5⟩
        have HF : Hid (EDot.Row w.heap.size w5 v5 D) := Hd (by rw [HDC2.out]; exact hr5.mono (Nat.le_trans HBW.out.size HB4.out.size))
        have HB5 := Hd (btr HB4.out hb5)
        clear hr5 hb5 c0 c1 c2
        go_wp2_with fail
        go_ret
        exact ⟨_, rfl, HF.out, btr HBW.out HB5.out⟩
      · have hnm : (nm.toList == ([] : List UInt8)) = false := by
          rw [← Bool.not_eq_true]
          intro e
          have := congrArg List.length (eq_of_beq e)
          rw [bytes_toList] at this
          rw [Array.length_toList] at this
          exact hz this
        have hne : nm.toList.isEmpty = false := by rw [bytes_isEmpty]; exact decide_eq_false hz
        have HF : Hid (EDot.Row w.heap.size w4 (.slice none 0 0) D) := Hd (by rw [HDC.out, if_pos rfl, if_neg hz]; exact Enc.Row.nil _ _)
        clear HDC
        go_wp2_with fail
        go_ret
        exact ⟨_, rfl, HF.out, btr HBW.out HB4.out⟩
  · have HB2 := Hd hb2
    obtain ⟨hm1, hm2, hm3⟩ := HLM.out ht
    rw [HMO.out] at HDC
    obtain ⟨W3, hW3⟩ : ∃ x, x = w2.alloc (.cells #[.string (findX c.items nm).name, .slice mo (findX c.items nm).marks.length mc] 55) := ⟨_, rfl⟩
    have hb23 : Below w2.heap.size w2 W3 := by rw [hW3]; exact bal
    have hx3 : W3.heap[w2.heap.size]? = some (.cells #[.string (findX c.items nm).name, .slice mo (findX c.items nm).marks.length mc] 55) := by rw [hW3]; exact alloc_new _ _
    have HX3 := Hd hx3
    have HB3 := Hd (btr HB2.out hb23)
    have HR3 := Hd (hrow.below hb23)
    have HW3 := Hd hW3
    have HV3 := Hd (HVN.out W3 HB3.out)
    clear HFI1 HFI hp hb2 hb23 hW3 c0 c1 c2 hrow hx3 hm2 hm3 HEM HMO
    obtain ⟨c0, c1, c2⟩ := HC.out w2 HB2.out
    have hlt2 : w.heap.size < w2.heap.size := by have := HB2.out.size; omega
    go_upto_region 3 with fail
    rw [← HW3.out]
    clear HW3
    obtain ⟨d0, d1, d2⟩ := HC.out W3 HB3.out
    go_wp2_with fail
    refine HV3.out.mono ?_
    rintro e w4 ⟨rfl, hb4⟩
    have HB4 := Hd (btr HB3.out hb4)
    have HX4 := Hd ((hb4.block _ (lt_of_heap HX3.out)).trans HX3.out)
    have HR4 := Hd (HR3.out.below hb4)
    clear hb4 HV3 c0 c1 c2 HX3 HR3
    cases r with
    | false =>
      have HF : Hid (EDot.Row w.heap.size w4 (.slice none 0 0) D) := Hd (by rw [HDC.out]; exact Enc.Row.nil _ _)
      clear HDC
      go_wp2_with fail
      go_ret
      exact ⟨_, rfl, HF.out, btr HBW.out HB4.out⟩
    | true =>
      by_cases hz : nm.size = 0
      · have hnm : (nm.toList == ([] : List UInt8)) = true := by rw [bytes_toList]; have : nm.data.toList = [] := by rw [← List.length_eq_zero_iff, Array.length_toList]; exact hz
                                                                 rw [this]; rfl
        have hne : nm.toList.isEmpty = true := by rw [bytes_isEmpty]; exact decide_eq_true hz
        have HIT4 := Hd (HIT.out w4 HB4.out)
        have HDC2 : Hid (D = setD (allDots c.items)) := Hd (by rw [HDC.out, if_pos rfl, if_pos hz])
        clear HDC HIT
        obtain ⟨c0, c1, c2⟩ := HC.out w4 HB4.out
        go_wp2_with fail
        refine HIT4.out.mono ?_
        rintro e w5 ⟨v5, rfl, hr5, hb5⟩
        have HF : Hid (EDot.Row w.heap.size w5 v5 D) := Hd (by rw [HDC2.out]; exact hr5.mono (Nat.le_trans HBW.out.size HB4.out.size))
        have HB5 := Hd (btr HB4.out hb5)
        clear hr5 hb5 c0 c1 c2
        go_wp2_with fail
        go_ret
        exact ⟨_, rfl, HF.out, btr HBW.out HB5.out⟩
      · have hnm : (nm.toList == ([] : List UInt8)) = false := by
          rw [← Bool.not_eq_true]
          intro e
          have := congrArg List.length (eq_of_beq e)
          rw [bytes_toList] at this
          rw [Array.length_toList] at this
          exact hz this
        have hne : nm.toList.isEmpty = false := by rw [bytes_isEmpty]; exact decide_eq_false hz
        have HQD := Hd (qtyDots_any (findX c.items nm).marks _ w4 (Arr.of_marks HR4.out HMI.out) (by omega))
        have HDC2 : Hid (D = dotsM (findX c.items nm).marks) := Hd (by rw [HDC.out, if_pos rfl, if_neg hz])
        have HLD : Hid ((findX c.items nm).marks.length = (dotsM (findX c.items nm).marks).length) := Hd (by rw [dotsM_len])
        have d1 : w4.cell? ⟨w2.heap.size, 1, none⟩ = some (.slice mo (findX c.items nm).marks.length mc) := cl0 HX4.out 1 rfl
        clear HDC HX4 HR4 HMI HLM ht hm1
        go_wp2_with fail
        refine HQD.out.mono ?_
        rintro e w5 ⟨v5, rfl, hr5, hb5⟩
        rw [HLD.out] at hr5
        have HF : Hid (EDot.Row w.heap.size w5 v5 D) := Hd (by rw [HDC2.out]; exact Enc.Row.mono (E := EDot) hr5 (Nat.le_trans HBW.out.size HB4.out.size))
        have HB5 := Hd (btr HB4.out hb5)
        clear hr5 hb5
        go_wp2_with fail
        go_ret
        exact ⟨_, rfl, HF.out, btr HBW.out HB5.out⟩
end Go.Proofs.YtjoljfnlkddfbaaGreatDoor
namespace Go.Proofs.YtjoljfnlkddfbaaGreatDoor
open Go.RowKit Go.Maps

theorem set3c_other {w : World} {b k : Nat} {x y z : Value} (h : k ≠ b) : (set3c w b x y z).heap[k]? = w.heap[k]? := by
  unfold set3c
  rw [setCell_other h, setCell_other h, setCell_other h]
set_option linter.unusedSimpArgs false in
set_option linter.unusedVariables false in
set_option maxRecDepth 100000 in
set_option maxHeartbeats 8000000 in
theorem ctxAdd_any (vs cl l : List DotD) (v1 v2 v3 : Value) (w : World) (h1 : Arr DotR 2 w v1 vs) (h2 : Arr DotR 2 w v2 cl) (h3 : Arr DotR 2 w v3 l) (hv : validX vs cl = true) (hd : l.all validDotD = true) (n1 : vs.length + cl.length + l.length ≤ 20000) :
    Calls Tryz.prog 169 #[.agg #[v1, v2], v3] w (CtxPost (addX (vs, cl) l) 0 w) := by
  obtain ⟨o1, k1, rfl⟩ := h1.slice
  obtain ⟨o2, k2, rfl⟩ := h2.slice
  obtain ⟨o3, k3, rfl⟩ := h3.slice
  have hval : validX vs (setD (cl ++ l)) = true := by
    obtain ⟨a1, a2, a3⟩ := validX_parts hv
    refine validX_of a1 (setD_ss _) ?_
    rw [List.all_eq_true]
    intro d hd'
    rw [setD_mem, List.mem_append] at hd'
    rcases hd' with hd' | hd'
    · exact List.all_eq_true.1 a3 d hd'
    · exact List.all_eq_true.1 hd d hd'
  have HRE : Hid (compactR vs (setD (cl ++ l)) = addX (vs, cl) l ∧ compactE vs (setD (cl ++ l)) = 0) := Hd (by
    unfold compactR compactE addX
    rw [if_pos hval, if_pos hval]
    exact ⟨rfl, rfl⟩)
  have hsl : (setD (cl ++ l)).length ≤ cl.length + l.length := by
    have := setD_leL (cl ++ l)
    rw [List.length_append] at this
    exact this
  obtain ⟨m1, hm1⟩ : ∃ n, n = vs.length := ⟨_, rfl⟩
  obtain ⟨m2, hm2⟩ : ∃ n, n = cl.length := ⟨_, rfl⟩
  obtain ⟨m3, hm3⟩ : ∃ n, n = l.length := ⟨_, rfl⟩
  rw [← hm1] at h1
  rw [← hm2] at h2
  rw [← hm3] at h3
  rw [← hm1, ← hm2, ← hm3]
  obtain ⟨W1, HW, HB, HS, HK0, HK1⟩ := box2 w #[.slice o1 m1 k1, .slice o2 m2 k2] 25 #[.slice none 0 0, .slice none 0 0] 25
  have HC := Hd (fun wz (hz : Below W1.heap.size W1 wz) => And.intro (cel2 (HK0.out wz hz)) (cel2 (HK1.out wz hz)))
  have HV := Hd (ctxValid_any vs cl _ _ W1 (h1.dots HB.out) (h2.dots HB.out))
  rw [hv] at HV
  have HVD : Hid (∀ wz, Below W1.heap.size W1 wz → Calls Tryz.prog 107 #[.slice o3 m3 k3] wz fun e w' => e = .returned (.bool true) ∧ Below wz.heap.size wz w') := Hd (fun wz hz => by
    have := ctxvalid_any l _ wz (h3.dots (btr HB.out hz))
    rw [hd] at this
    exact this)
  have HUN0 : Hid (∀ wz, Below W1.heap.size W1 wz → Calls Tryz.prog 95 #[.slice o2 m2 k2, .slice o3 m3 k3] wz fun e w' => ∃ v', e = .returned v' ∧ EDot.Row wz.heap.size w' v' (setD (cl ++ l)) ∧ Below wz.heap.size wz w') := Hd (fun wz hz => dotUnion_any cl l _ _ wz (h2.dots (btr HB.out hz)) (h3.dots (btr HB.out hz)) (by omega))
  have HCO0 : Hid (∀ wz z, Below W1.heap.size W1 wz → Arr DotR 2 wz z (setD (cl ++ l)) → Calls Tryz.prog 94 #[.agg #[.slice o1 m1 k1, z]] wz (CtxPost (addX (vs, cl) l) 0 wz)) := Hd (fun wz z hz hA => by
    have := ctxCompact_any vs (setD (cl ++ l)) _ _ wz (h1.dots (btr HB.out hz)) hA (by omega)
    rw [HRE.out.1, HRE.out.2] at this
    exact this)
  have HDU : Hid (∀ d ∈ setD (cl ++ l), DI d) := Hd (fun d hd' => by
    rw [setD_mem, List.mem_append] at hd'
    rcases hd' with hd' | hd'
    · exact h2.dotsI d hd'
    · exact h3.dotsI d hd')
  have HSTO : Hid (∀ (w4 : World) (z1 z2 : Value), Below W1.heap.size W1 w4 → (set2 w4 (w.heap.size + 1) z1 z2).cell? ⟨w.heap.size, 0, none⟩ = some (.slice o1 m1 k1) ∧ (set2 w4 (w.heap.size + 1) z1 z2).cell? ⟨w.heap.size, 1, none⟩ = some (.slice o2 m2 k2)) := Hd (fun w4 z1 z2 hz => by
    have hne : w.heap.size ≠ w.heap.size + 1 := by omega
    rw [set2_cell hne, set2_cell hne]
    exact (HC.out w4 hz).1)
  have HBW := Hd HB.out
  obtain ⟨R, hR⟩ : ∃ R, R = addX (vs, cl) l := ⟨_, rfl⟩
  rw [← hR] at HCO0 ⊢
  clear HB h1 h2 h3 hv hd hm1 hm2 hm3 hR HRE n1 hsl hval
  obtain ⟨⟨c0, c1⟩, c2, c3⟩ := HC.out W1 brf
  go_enter Tryz.func169, Tryz.ntmps169
  go_wp2_with fail
  rw [← HW.out]
  go_wp2_with fail
  refine HV.out.mono ?_
  rintro e w2 ⟨rfl, hb2⟩
  have HB2 := Hd hb2
  have HVD2 := Hd (HVD.out w2 hb2)
  clear hb2 HV HVD c0 c1 c2 c3
  go_wp2_with fail
  refine HVD2.out.mono ?_
  rintro e w3 ⟨rfl, hb3⟩
  have HB3 := Hd (btr HB2.out hb3)
  clear hb3 HVD2
  have HUN : Hid (∀ wz, Below w3.heap.size w3 wz → Calls Tryz.prog 95 #[.slice o2 m2 k2, .slice o3 m3 k3] wz fun e w' => ∃ v', e = .returned v' ∧ EDot.Row wz.heap.size w' v' (setD (cl ++ l)) ∧ Below wz.heap.size wz w') := Hd (fun wz hz => HUN0.out wz (btr HB3.out hz))
  have HCO : Hid (∀ wz z, Below w3.heap.size w3 wz → Arr DotR 2 wz z (setD (cl ++ l)) → Calls Tryz.prog 94 #[.agg #[.slice o1 m1 k1, z]] wz (CtxPost R 0 wz)) := Hd (fun wz z hz => HCO0.out wz z (btr HB3.out hz))
  clear HUN0 HCO0
  go_upto_region 3 with fail
  refine NQ.to ?_
  refine wp_region_held_drew (S := (fun wz => wz.cell? ⟨w.heap.size, 0, none⟩ = some (.slice o1 m1 k1) ∧ wz.cell? ⟨w.heap.size, 1, none⟩ = some (.slice o2 m2 k2))) (by kernel_rfl) ((HC.out _ (btr HB3.out bdr)).1) (fun hS => ?_)
  try simp only [Act.put, s1, s2, s3, List.getElem_toArray, List.getElem_cons_succ, List.getElem_cons_zero]
  refine tkN (i := 0) (v := ?v11) rfl (by decide +kernel) (Or.inl ⟨by kernel_rfl, fun w hSw => ok_of fun z hz => ?h11⟩) hS ?_; (case h11 => (go_simp; exact hz))
  try simp only [Act.put, s1, s2, s3, List.getElem_toArray, List.getElem_cons_succ, List.getElem_cons_zero]
  refine tkN (i := 1) (v := ?v12) rfl (by decide +kernel) (Or.inl ⟨by kernel_rfl, fun w hSw => ok_of fun z hz => ?h12⟩) hS ?_; (case h12 => (obtain ⟨f0, f1⟩ := hSw; go_simp; exact hz))
  try simp only [Act.put, s1, s2, s3, List.getElem_toArray, List.getElem_cons_succ, List.getElem_cons_zero]
  refine tkN (i := 2) (v := ?v13) rfl (by decide +kernel) (Or.inl ⟨by kernel_rfl, fun w hSw => ok_of fun z hz => ?h13⟩) hS ?_; (case h13 => (go_simp; exact hz))
  try simp only [Act.put, s1, s2, s3, List.getElem_toArray, List.getElem_cons_succ, List.getElem_cons_zero]
  refine tkN (i := 3) (v := ?v14) rfl (by decide +kernel) (Or.inl ⟨by kernel_rfl, fun w hSw => ok_of fun z hz => ?h14⟩) hS ?_; (case h14 => (obtain ⟨f0, f1⟩ := hSw; go_simp; exact hz))
  try simp only [Act.put, s1, s2, s3, List.getElem_toArray, List.getElem_cons_succ, List.getElem_cons_zero]
  refine tkN (i := 4) (v := ?v15) rfl (by decide +kernel) (Or.inl ⟨by kernel_rfl, fun w hSw => ok_of fun z hz => ?h15⟩) hS ?_; (case h15 => (go_simp; exact hz))
  try simp only [Act.put, s1, s2, s3, List.getElem_toArray, List.getElem_cons_succ, List.getElem_cons_zero]
  refine wpAnyH_ready (rs := [5]) (by decide +kernel) (by simp) ?_
  refine (AllReadyH.cons rfl (fun K hK => ?_) AllReadyH.nil)
  go_simp
  go_at_call 95
  refine (HUN.out _ bdr).mono ?_
  rintro e w4 ⟨x4, rfl, hr4, hb4⟩
  have hb34 := (show Below w3.heap.size w3 _ from bdr).trans (hb4.mono (Nat.le_refl _))
  obtain ⟨p4, q4, rfl⟩ := hr4.slice
  go_simp
  refine Shut.out hK _ _ ((HC.out _ (btr HB3.out hb34)).1) (fun hS2 => ?_)
  clear hK K hS
  have hS := hS2
  clear hS2
  try simp only [Act.put, s1, s2, s3, List.getElem_toArray, List.getElem_cons_succ, List.getElem_cons_zero]
  refine tkN (i := 6) (v := ?v16) rfl (by decide +kernel) (Or.inl ⟨by kernel_rfl, fun w hSw => ok_of fun z hz => ?h16⟩) hS ?_; (case h16 => (go_simp; exact hz))
  try simp only [Act.put, s1, s2, s3, List.getElem_toArray, List.getElem_cons_succ, List.getElem_cons_zero]
  refine wpAnyH_ready (rs := [7]) (by decide +kernel) (by simp) ?_
  refine (AllReadyH.cons rfl (fun K hK => ?_) AllReadyH.nil)
  go_simp
  go_at_call 94
  refine (HCO.out _ _ hb34 (hr4.dots HDU.out)).mono ?_
  rintro e w5 ⟨u1, u2, rfl, hr5, hr6, hb5⟩
  have hb35 := btr hb34 hb5
  obtain ⟨p5, q5, rfl⟩ := hr5.slice
  obtain ⟨p6, q6, rfl⟩ := hr6.slice
  go_simp
  refine Shut.out hK _ _ ((HC.out _ (btr HB3.out hb35)).1) (fun hS2 => ?_)
  clear hK K hS
  have hS := hS2
  clear hS2
  try simp only [Act.put, s1, s2, s3, List.getElem_toArray, List.getElem_cons_succ, List.getElem_cons_zero]
  refine tkN (i := 8) (v := ?v17) rfl (by decide +kernel) (Or.inl ⟨by kernel_rfl, fun w hSw => ok_of fun z hz => ?h17⟩) hS ?_; (case h17 => (go_simp; exact hz))
  try simp only [Act.put, s1, s2, s3, List.getElem_toArray, List.getElem_cons_succ, List.getElem_cons_zero]
  refine tkN (i := 9) (v := ?v18) rfl (by decide +kernel) (Or.inl ⟨by kernel_rfl, fun w hSw => ok_of fun z hz => ?h18⟩) hS ?_; (case h18 => (go_simp; exact hz))
  try simp only [Act.put, s1, s2, s3, List.getElem_toArray, List.getElem_cons_succ, List.getElem_cons_zero]
  refine wpAnyH_ready (rs := [10]) (by decide +kernel) (by simp) ?_
  refine (AllReadyH.cons rfl (fun K hK => ?_) AllReadyH.nil)
  have hz := HK1.out _ (btr HB3.out hb35)
  have f0 := froz0 hz 0
  have f1 := froz0 hz 1
  obtain ⟨e0, e1⟩ := cel2 hz
  go_simp
  refine Shut.out hK _ _ (HSTO.out w5 (.slice p5 R.1.length q5) (.slice p6 R.2.length q6) (btr HB3.out hb35)) (fun hS2 => ?_)
  clear hK K hS
  have hS := hS2
  clear hS2
  try simp only [Act.put, s1, s2, s3, List.getElem_toArray, List.getElem_cons_succ, List.getElem_cons_zero]
  refine tkN (i := 11) (v := ?v19) rfl (by decide +kernel) (Or.inl ⟨by kernel_rfl, fun w hSw => ok_of fun z hz => ?h19⟩) hS ?_; (case h19 => (go_simp; exact hz))
  try simp only [Act.put, s1, s2, s3, List.getElem_toArray, List.getElem_cons_succ, List.getElem_cons_zero]
  refine wpAnyH_done (by kernel_rfl) ?_ _
  try simp only [Act.put, s1, s2, s3, List.getElem_toArray, List.getElem_cons_succ, List.getElem_cons_zero]
  simp only [NQ]
  have hz9 := set2_same (.slice p5 R.1.length q5) (.slice p6 R.2.length q6) (HK1.out _ (btr HB3.out hb35))
  obtain ⟨y0, y1⟩ := cel2 hz9
  have hsz := HS.out
  have hs3 := HB3.out.size
  have hs4 := hb34.size
  have HF1 : Hid (EDot.Row w.heap.size (set2 w5 (w.heap.size + 1) (.slice p5 R.1.length q5) (.slice p6 R.2.length q6)) (.slice p5 R.1.length q5) R.1) := Hd ((hr5.mono (by omega)).stay (fun k hk => set2_other (by have := (hr5.lt k hk).1; omega)))
  have HF2 : Hid (EDot.Row w.heap.size (set2 w5 (w.heap.size + 1) (.slice p5 R.1.length q5) (.slice p6 R.2.length q6)) (.slice p6 R.2.length q6) R.2) := Hd ((hr6.mono (by omega)).stay (fun k hk => set2_other (by have := (hr6.lt k hk).1; omega)))
  have HBF := Hd (set2_below (b := w.heap.size + 1) (.slice p5 R.1.length q5) (.slice p6 R.2.length q6) (btr HBW.out (btr HB3.out hb35)) (by omega))
  clear hS hr4 hr5 hr6 hz9
  (try change Code.wp _ _ _ _ (set2 w5 (w.heap.size + 1) (.slice p5 R.1.length q5) (.slice p6 R.2.length q6)))
  go_wp2_with fail
  (try simp only [Exit.inBlock, Exit.then])
  refine bodyPost_ret (v := .tuple #[.agg #[.slice p5 R.1.length q5, .slice p6 R.2.length q6], .int .i64 0]) ?_ rfl ⟨_, _, rfl, HF1.out, HF2.out, HBF.out⟩
  rw [results_cell_tmp rfl]
  go_simp
end Go.Proofs.YtjoljfnlkddfbaaGreatDoor
namespace Go.Proofs.YtjoljfnlkddfbaaGreatDoor
open Go.RowKit Go.Maps

theorem field_time (a b c d : Int) (W : World) : (Instr.field 85 (.agg #[.int .i64 a, .int .i64 b, .int .i64 c, .int .u64 d]) 2).run Tryz.prog W = .ok (.int .u64 d) W := by
  have hz : Tryz.prog.cellsOf 68 = 1 := by kernel_rfl
  unfold Instr.field
  simp only [Sem.run_bind, run_underlying Tryz.underlying85, Result.andThen_ok]
  go_simp
  simp [asAgg, Result.andThen]
def nextV (l : List MarkD) : Int := if lastT l = 18446744073709551615 then 0 else lastT l + 1
def nextE (l : List MarkD) : Int := if lastT l = 18446744073709551615 then 15 else 0
theorem zM_MI : MI zM := by unfold MI zM I64 U64; decide
theorem lastT_U64 {l : List MarkD} (h : ∀ m ∈ l, MI m) : U64 (lastT l) := by
  unfold lastT
  have hm := (greatM_spec (zM :: l) zM).1
  rcases List.mem_cons.1 hm with h2 | h2
  · rw [h2]; exact zM_MI.2.2.2
  · rcases List.mem_cons.1 h2 with h3 | h3
    · rw [h3]; exact zM_MI.2.2.2
    · exact (h _ h3).2.2.2
set_option linter.unusedSimpArgs false in
set_option linter.unusedVariables false in
set_option maxRecDepth 100000 in
set_option maxHeartbeats 8000000 in
theorem qtyNext_any (l : List MarkD) (v : Value) (w : World) (h : Arr MarkR 4 w v l) (hl : l.length ≤ 10000000) (hv : l.all validMarkD = true) :
    Calls Tryz.prog 168 #[v] w fun e w' => e = .returned (.tuple #[.int .u64 (nextV l), .int .i64 (nextE l)]) ∧ Below w.heap.size w w' := by
  have eg : ∀ args w, (callFunc 129 args).run Tryz.prog w = .ok (.enter 129 args) w := enters_of Tryz.func129 (by kernel_rfl) rfl
  have HI0 := containsMark_any (fun m => !validMarkD m) 129 eg qtyInvalid_any l v w h
  have hall : l.any (fun m => !validMarkD m) = false := by rw [← Bool.not_eq_true', List.not_any_eq_all_not]; simpa using hv
  rw [hall] at HI0
  have HI := Hd HI0
  have HMI := Hd h.marksMI
  have HU := Hd (lastT_U64 h.marksMI)
  have HA := Hd h
  have HL := Hd hl
  have HV : Hid (nextV l = if lastT l = 18446744073709551615 then 0 else lastT l + 1) := Hd rfl
  have HE : Hid (nextE l = if lastT l = 18446744073709551615 then 15 else 0) := Hd rfl
  obtain ⟨o, c, rfl, -⟩ := id h
  clear h hall hv HI0 hl
  go_enter Tryz.func168, Tryz.ntmps168
  go_wp2_with fail
  refine HI.out.mono ?_
  rintro e w1 ⟨rfl, hb1⟩
  obtain ⟨W2, hW2⟩ : ∃ x, x = w1.alloc (.cells #[.int .i64 0, .int .i64 0, .int .i64 0, .int .u64 0] 85) := ⟨_, rfl⟩
  have hb12 : Below w1.heap.size w1 W2 := by rw [hW2]; exact bal
  have hrow : EMark.Row w1.heap.size W2 (.slice (some ⟨w1.heap.size, 0, none⟩) 1 1) [zM] := by rw [hW2]; exact row_lit EMark [zM] w1 (by unfold maxLen; simp)
  have HROW := Hd hrow
  have HSRC : Hid (EMark.Src W2 (.slice o l.length c) l) := Hd (Arr.toSrc (E := EMark) (HA.out.marks (btr hb1 hb12)) (fun a cs h => h.1))
  have hbase : w1.heap.size ≤ W2.heap.size := hb12.size
  have HB2 := Hd (btr hb1 hb12)
  have HW2 := Hd hW2
  have hll := HL.out
  have hw1 : w.heap.size ≤ w1.heap.size := hb1.size
  clear hb1 hb12 hrow hW2
  go_wp2_with (at_builtin; go_loud (rw [← HW2.out]); go_loud (refine wpList_append_row rfl _ _ 53 rfl EMark w1.heap.size (.agg #[.int .i64 0, .int .i64 0, .int .i64 0, .int .u64 0]) 32 Tryz.underlying53 infoMark (by decide) (by decide) _ [zM] rfl HROW.out _ l rfl HSRC.out (by first | omega | (simp; omega)) hbase ?_); intro v3 w3 hown hgr; have hA3 := Arr.of_marks hown (fun m hm => by rcases List.mem_append.1 hm with h | h; (rw [List.mem_singleton.1 h]; exact zM_MI); exact HMI.out m h); have HG3 := Hd (qtyGreatest_any zM l v3 w3 hA3); have HB3 := Hd (HB2.out.grown hgr HB2.out.size (fun j hj => Nat.le_trans hw1 (HROW.out.lt _ hj).1)); clear hown hgr hA3)
  have HT : Hid (lastT l = (greatM zM (zM :: l)).time) := Hd rfl
  obtain ⟨g, hg⟩ : ∃ g, g = greatM zM (zM :: l) := ⟨_, rfl⟩
  have HG4 := HG3.out
  rw [← hg] at HG4 HT
  unfold markV at HG4
  have hfld := fun W => field_time g.dot.rep g.dot.ctr g.qty g.time W
  have HG5 := Hd HG4
  clear HG4 HG3 hg HI HROW HSRC HA HMI
  refine HG5.out.mono ?_
  rintro e w4 ⟨rfl, hb4⟩
  have HB4 := Hd (btr HB3.out hb4)
  have hu := HU.out
  rw [HT.out] at hu HV HE
  unfold U64 at hu
  clear hb4 HG5 HT HU
  by_cases hmax : g.time = 18446744073709551615
  · have h1 : nextV l = 0 := by rw [HV.out, if_pos hmax]
    have h2 : nextE l = 15 := by rw [HE.out, if_pos hmax]
    have hb0 : (g.time == 18446744073709551615) = true := by rw [hmax]; rfl
    have H1 := Hd h1
    have H2 := Hd h2
    clear HV HE h1 h2 hmax
    go_wp2_with fail
    go_ret2
    exact ⟨by rw [H1.out, H2.out]; rfl, HB4.out⟩
  · have h1 : nextV l = g.time + 1 := by rw [HV.out, if_neg hmax]
    have h2 : nextE l = 0 := by rw [HE.out, if_neg hmax]
    have hb0 : (g.time == 18446744073709551615) = false := beq_false_of_ne hmax
    have hwr : IntKind.u64.wrap (g.time + 1) = g.time + 1 := by rw [IntKind.wrap_u64]; omega
    have H1 := Hd h1
    have H2 := Hd h2
    clear HV HE h1 h2 hmax
    go_wp2_with fail
    go_ret2
    exact ⟨by rw [H1.out, H2.out]; rfl, HB4.out⟩
theorem opn4 {w : World} {v1 v2 v3 : Value} {c : CartD} (h : CartA w v1 v2 v3 c) : ∃ o1 n1 k1 o2 n2 k2 o3 n3 k3, v1 = .slice o1 n1 k1 ∧ v2 = .slice o2 n2 k2 ∧ v3 = .slice o3 n3 k3 ∧ n1 = c.vec.length ∧ n2 = c.cloud.length ∧ n3 = c.items.length := by
  obtain ⟨o1, k1, e1⟩ := h.1.slice
  obtain ⟨o2, k2, e2⟩ := h.2.1.slice
  obtain ⟨o3, k3, e3⟩ := h.2.2.slice
  exact ⟨o1, _, k1, o2, _, k2, o3, _, k3, e1, e2, e3, rfl, rfl, rfl⟩
theorem allMarks_snoc (l : List ItemD) (k : Nat) (h : k < l.length) : allMarks (l.take (k + 1)) = allMarks (l.take k) ++ l[k].marks := by
  unfold allMarks
  rw [List.take_succ_eq_append_getElem h, List.flatMap_append]
  simp
theorem allMarks_len (l : List ItemD) (h : ∀ x ∈ l, x.marks.length ≤ 1000) : (allMarks l).length ≤ l.length * 1000 := by
  induction l with
  | nil => simp [allMarks]
  | cons x l ih =>
    unfold allMarks at ih ⊢
    rw [List.flatMap_cons, List.length_append, List.length_cons]
    have := ih (fun y hy => h y (by simp [hy]))
    have := h x (by simp)
    omega
set_option linter.unusedSimpArgs false in
set_option linter.unusedVariables false in
set_option maxRecDepth 100000 in
set_option maxHeartbeats 8000000 in
theorem cartTime_any (c : CartD) (v1 v2 v3 : Value) (w : World) (h : CartA w v1 v2 v3 c) (hl : Lt c.items) (hG : GlobIs w) :
    Calls Tryz.prog 123 #[.agg #[v1, v2, v3]] w fun e w' => e = .returned (.tuple #[.int .u64 (timeC c), .int .i64 (timeCE c)]) ∧ Below w.heap.size w w' := by
  have hit := h.2.2
  obtain ⟨o3', k3', e3', hel⟩ := hit.itemAt
  have HIA : Hid (∀ i (hi : i < c.items.length), ∃ b off mv, o3' = some ⟨b, off, none⟩ ∧ b < w.heap.size ∧ w.cell? ⟨b, off + i * 2, none⟩ = some (.string c.items[i].name) ∧ w.cell? ⟨b, off + i * 2 + 1, none⟩ = some mv ∧ c.items[i].name.size ≤ maxLen ∧ Arr MarkR 4 w mv c.items[i].marks) := Hd (fun i hi => hel i hi)
  clear hel hit
  obtain ⟨o1, n1, k1, o2, n2, k2, o3, n3, k3, rfl, rfl, rfl, hn1, hn2, hn3⟩ := opn4 h
  obtain ⟨W0, HW, HB, HS, HK0⟩ := box1 w #[.slice o1 n1 k1, .slice o2 n2 k2, .slice o3 n3 k3] 28
  have HC := Hd (fun wz (hz : Below W0.heap.size W0 wz) => cel3 (HK0.out wz hz))
  have HA := Hd (h.below HB.out)
  have HV := Hd (cartValid_any c _ _ _ W0 HA.out hl (hG.below HB.out))
  obtain rfl : o3 = o3' := by injection e3'
  have HT1 : Hid (timeC c = (if validC c then nextV (allMarks c.items) else 0)) := Hd rfl
  have HT2 : Hid (timeCE c = (if validC c then nextE (allMarks c.items) else 2)) := Hd rfl
  have HVM : Hid (validC c = true → (allMarks c.items).all validMarkD = true) := Hd (fun hv => by
    rw [List.all_eq_true]
    intro m hm
    unfold allMarks at hm
    obtain ⟨x, hx, hm⟩ := List.mem_flatMap.1 hm
    have := (validI_parts (validC_parts hv).2.1).1 x hx
    unfold oneI at this
    simp only [Bool.and_eq_true] at this
    exact List.all_eq_true.1 this.2 m hm)
  have HSN := Hd (fun k h => allMarks_snoc c.items k h)
  have HMI : Hid (∀ m ∈ allMarks c.items, MI m) := Hd (fun m hm => by
    unfold allMarks at hm
    obtain ⟨x, hx, hm⟩ := List.mem_flatMap.1 hm
    obtain ⟨i, hi, rfl⟩ := List.mem_iff_getElem.1 hx
    obtain ⟨_, _, _, _, _, _, _, _, h6⟩ := HIA.out i hi
    exact h6.marksMI m hm)
  have HLM : Hid (∀ k, (allMarks (c.items.take k)).length ≤ 1000000) := Hd (fun k => by
    have h1 := allMarks_len (c.items.take k) (fun x hx => hl.2 x (List.mem_of_mem_take hx))
    have h2 : (c.items.take k).length ≤ c.items.length := by rw [List.length_take]; omega
    have h3 := hl.1
    have h4 := Nat.mul_le_mul_right 1000 (Nat.le_trans h2 h3)
    omega)
  have HL := Hd hl
  have HBW := Hd HB.out
  have HN3 := Hd hn3
  clear HB HS h hl hG hn1 hn2 hn3 e3'
  obtain ⟨r, hr⟩ : ∃ r, r = validC c := ⟨_, rfl⟩
  rw [← hr] at HV HT1 HT2 HVM
  clear hr
  generalize timeC c = T1 at *
  generalize timeCE c = T2 at *
  obtain ⟨c0, c1, c2⟩ := HC.out W0 brf
  go_enter Tryz.func123, Tryz.ntmps123
  go_wp2_with fail
  rw [← HW.out]
  go_wp2_with fail
  refine HV.out.mono ?_
  rintro e w1 ⟨rfl, hb1⟩
  have HB1 := Hd hb1
  clear c0 c1 c2 hb1 HV
  cases r with
  | false =>
    have h1 : T1 = 0 := HT1.out
    have h2 : T2 = 2 := HT2.out
    have H1 := Hd h1
    have H2 := Hd h2
    clear HT1 HT2 h1 h2 HVM
    go_wp2_with fail
    go_ret2
    exact ⟨by rw [H1.out, H2.out]; rfl, btr HBW.out HB1.out⟩
  | true =>
    obtain ⟨c0, c1, c2⟩ := HC.out w1 HB1.out
    go_wp2_with fail
    clear c0 c1 c2
    go_loopw [4, 13] (fun ov iv wr => ∃ k : Nat, k ≤ n3 ∧ iv = .int .i64 k ∧ EMark.Row W0.heap.size wr ov (allMarks (c.items.take k)) ∧ Below W0.heap.size W0 wr) (fun _ iv _ => n3 - (intOf iv).toNat)
    case atStart => exact ⟨0, Nat.zero_le _, rfl, Enc.Row.nil _ _, HB1.out⟩
    case round =>
      obtain ⟨k, hk, rfl, hrow, hB⟩ := hrel
      have HB := Hd hB
      have HROW := Hd hrow
      clear hB
      obtain ⟨oa, ca, rfl⟩ := hrow.slice
      clear hrow
      by_cases hlt : k < n3
      · have hlt' : k < c.items.length := by have := HN3.out; omega
        obtain ⟨b, off, mv, rfl, hbl, e0, e1, hns, hmk⟩ := HIA.out k hlt'
        have hBw := btr HBW.out HB.out
        have f0 : wr.cell? ⟨b, off + k * 2, none⟩ = some (.string c.items[k].name) := by rw [hBw.cell (p := ⟨_, _, _⟩) hbl]; exact e0
        have f1 : wr.cell? ⟨b, off + k * 2 + 1, none⟩ = some mv := by rw [hBw.cell (p := ⟨_, _, _⟩) hbl]; exact e1
        have HS1 := Hd (HSN.out k hlt')
        have hll := HLM.out k
        have hl2 := HL.out.2 _ (List.getElem_mem hlt')
        obtain ⟨om, cm, rfl⟩ := hmk.slice
        obtain ⟨W2, hW2⟩ : ∃ x, x = wr.alloc (.cells #[.string c.items[k].name, .slice om c.items[k].marks.length cm] 55) := ⟨_, rfl⟩
        have hb2 : Below wr.heap.size wr W2 := by rw [hW2]; exact bal
        have HROW2 := Hd (HROW.out.below hb2)
        have HSRC : Hid (EMark.Src W2 (.slice om c.items[k].marks.length cm) c.items[k].marks) := Hd (Arr.toSrc (E := EMark) (hmk.marks (btr hBw hb2)) (fun a cs h => h.1))
        have HB2 := Hd (btr HB.out hb2)
        have hsz2 : W0.heap.size ≤ W2.heap.size := HB2.out.size
        have HW2 := Hd hW2
        have a0 : (0 : Int) ≤ k := by omega
        have a1 : (k : Int) < (n3 : Int) := by omega
        have hkw : IntKind.i64.wrap ((k : Int) + 1) = (k : Int) + 1 := by rw [IntKind.wrap_i64]; have := HL.out.1; omega
        clear e0 e1 hbl hns hmk hBw hb2 hW2
        generalize c.items[k].name = nm at *
        generalize hML : c.items[k].marks = ML at *
        generalize hAM : allMarks (c.items.take k) = AM at *
        go_wp2_with (at_builtin; go_loud (rw [← HW2.out]); go_loud (refine wpList_append_row rfl _ _ 53 rfl EMark W0.heap.size (.agg #[.int .i64 0, .int .i64 0, .int .i64 0, .int .u64 0]) 32 Tryz.underlying53 infoMark (by decide) (by decide) _ _ rfl HROW2.out _ _ rfl HSRC.out (by first | omega | (simp; omega)) hsz2 ?_); intro v3 w3 hown hgr)
        have HR3 := Hd hown
        have HB3 := Hd (HB2.out.grown hgr hsz2 (fun j hj => (HROW2.out.lt _ hj).1))
        clear hown hgr f0 f1
        go_roundw
        case rel => exact ⟨k + 1, by omega, by go_num, by rw [HS1.out]; exact HR3.out, HB3.out⟩
        case measure => simp [intOf]; omega
      · have hke : k = n3 := by omega
        have a1 : ¬ ((k : Int) < (n3 : Int)) := by omega
        have hfull : c.items.take k = c.items := by rw [hke, HN3.out, List.take_length]
        have hrow := HROW.out
        rw [hfull] at hrow ⊢
        have hlm := HLM.out c.items.length
        rw [List.take_length] at hlm
        have HNX := Hd (qtyNext_any (allMarks c.items) _ wr (Arr.of_marks hrow HMI.out) (by omega) (HVM.out trivial))
        have h1 : T1 = nextV (allMarks c.items) := HT1.out
        have h2 : T2 = nextE (allMarks c.items) := HT2.out
        have H1 := Hd h1
        have H2 := Hd h2
        clear hrow HROW HMI HVM HSN HLM hlm hfull h1 h2 HT1 HT2 HIA
        generalize nextV (allMarks c.items) = x1 at *
        generalize nextE (allMarks c.items) = x2 at *
        go_wp2_with fail
        refine HNX.out.mono ?_
        rintro e w5 ⟨rfl, hb5⟩
        have HB5 := Hd (btr HB.out hb5)
        clear hb5
        go_wp2_with fail
        go_ret2
        exact ⟨by rw [H1.out, H2.out]; rfl, btr HBW.out HB5.out⟩
end Go.Proofs.YtjoljfnlkddfbaaGreatDoor
