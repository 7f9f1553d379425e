/- ItemsRemoves walked for every input. -/
import Derived.Test.YtjlhdgmcaiiagaaGreatDoorL9s
import Derived.Test.YtjlhdgmcaiiagaaGreatDoorL9t
import Derived.Test.YtjlhdgmcaiiagaaGreatDoorL9h
import Derived.Test.YtjlhdgmcaiiagaaGreatDoorR9v
import Derived.Test.YtjlhdgmcaiiagaaGreatDoorR9w
namespace Go.Proofs.YtjlhdgmcaiiagaaGreatDoor
open Go.RowKit Go.Maps

theorem remE_bad {l : List ItemD} {nm : ByteArray} (h : validI l = false) : (decide (remR l nm = []) && decide (remE l nm = 2)) = true := by
  have e : remE l nm = 2 := by unfold remE; rw [h]; rfl
  simp [remR, e]
theorem remE_none {l : List ItemD} {nm : ByteArray} (h : validI l = true) (h2 : l.any (fun x => decide (x.name = nm)) = false) : (decide (remR l nm = []) && decide (remE l nm = 9)) = true := by
  have e : remE l nm = 9 := by unfold remE; rw [h, h2]; rfl
  simp [remR, e]
theorem remE_ok {l : List ItemD} {nm : ByteArray} (h : validI l = true) (h2 : l.any (fun x => decide (x.name = nm)) = true) : remE l nm = 0 := by
  unfold remE; rw [h, h2]; rfl
theorem oneI_name {x : ItemD} (h : oneI x = true) : x.name.size ≤ 64 := by
  simp only [oneI, nameB, Bool.and_eq_true, decide_eq_true_eq] at h
  omega
set_option linter.unusedSimpArgs false in
set_option maxRecDepth 100000 in
set_option maxHeartbeats 8000000 in
theorem removes_in (l : List ItemD) (nm : ByteArray) (v : Value) (w : World) (h : Arr ItemR 2 w v l) (hs : nm.size ≤ maxLen) (hG : GlobIs w) : Calls Tryz.prog 5 #[v, .string nm] w fun e w' => e = .returned (.bool true) ∧ Below w.heap.size w w' := by
  have hsz : nm.size ≤ 9223372036854775807 := by unfold maxLen at hs; omega
  have HA := Lib.hid h
  have HGL := Lib.hid hG
  have HL := Lib.hid (l9light_any l v w h)
  have HB0 := Lib.hid (Below.refl w.heap.size w)
  have HLB : Hid (lightI l = true → Lt l ∧ l.length ≤ 20 ∧ ∀ x ∈ l, x.marks.length ≤ 10) := Lib.hid lightI_lt
  clear h hG hs
  obtain ⟨r1, hr1⟩ : ∃ r, r = lightI l := ⟨_, rfl⟩
  rw [← hr1] at HL HLB
  clear hr1
  go_enter Tryz.func5, Tryz.ntmps5
  go_wp2_with fail
  refine (HL.out).mono ?_
  rintro e wq ⟨rfl, hwq⟩
  rw [hwq]
  clear hwq
  cases r1 with
  | false =>
    go_wp2_with fail
    refine (l9known_any _ (HGL.out.below HB0.out)).mono ?_
    rintro e wk ⟨rfl, hb⟩
    have HBK := Lib.hid (HB0.out.trans (hb.mono HB0.out.size))
    clear hb
    go_wp2_with fail
    go_ret
    exact ⟨rfl, HBK.out⟩
  | true =>
    have hlt := HLB.out rfl
    by_cases h100 : nm.size ≤ 100
    · have t1 : decide (100 < (nm.size : Int)) = false := decide_eq_false (by omega)
      have HV := Lib.hid (r9Valid_any l v w HA.out hlt.1)
      obtain ⟨r2, hr2⟩ : ∃ r, r = validI l := ⟨_, rfl⟩
      rw [← hr2] at HV
      go_wp2_with fail
      refine (HV.out).mono ?_
      rintro e w1 ⟨rfl, hb⟩
      have HB1 := Lib.hid (HB0.out.trans (hb.mono HB0.out.size))
      clear hb
      have HR2 := Lib.hid hr2
      clear hr2 HV HL HLB
      cases r2 with
      | false =>
        go_wp2_with fail
        refine (kv_removes nm 2 (HA.out.items HB1.out) arr_nil (HGL.out.below HB1.out) hlt.1 (remE_bad HR2.out.symm)).mono ?_
        rintro e w2 ⟨rfl, hb⟩
        have HB2 := Lib.hid (HB1.out.trans (hb.mono HB1.out.size))
        clear hb
        go_wp2_with fail
        refine (l9known_any _ (HGL.out.below HB2.out)).mono ?_
        rintro e wk ⟨rfl, hb⟩
        have HBK := Lib.hid (HB2.out.trans (hb.mono HB2.out.size))
        clear hb
        go_wp2_with fail
        go_ret
        exact ⟨rfl, HBK.out⟩
      | true =>
        go_wp2_with fail
        refine (r9Find_any nm l v w1 (HA.out.items HB1.out)).mono ?_
        rintro e w2 ⟨i, rfl, hix, hb⟩
        have HB2 := Lib.hid (HB1.out.trans (hb.mono HB1.out.size))
        clear hb
        rcases hix with ⟨rfl, hno⟩ | ⟨k, hk, rfl, hkn, -⟩
        · have HNO := Lib.hid hno
          clear hno
          go_wp2_with fail
          refine (kv_removes nm 9 (HA.out.items HB2.out) arr_nil (HGL.out.below HB2.out) hlt.1 (remE_none HR2.out.symm HNO.out)).mono ?_
          rintro e w3 ⟨rfl, hb⟩
          have HB3 := Lib.hid (HB2.out.trans (hb.mono HB2.out.size))
          clear hb
          go_wp2_with fail
          refine (l9known_any _ (HGL.out.below HB3.out)).mono ?_
          rintro e wk ⟨rfl, hb⟩
          have HBK := Lib.hid (HB3.out.trans (hb.mono HB3.out.size))
          clear hb
          go_wp2_with fail
          go_ret
          exact ⟨rfl, HBK.out⟩
        · have HANY : Hid (l.any (fun x => decide (x.name = nm)) = true) := Lib.hid (List.any_eq_true.2 ⟨_, List.getElem_mem hk, hkn⟩)
          have HE : Hid (remE l nm = 0) := Lib.hid (remE_ok HR2.out.symm HANY.out)
          have t2 : decide ((k : Int) < 0) = false := decide_eq_false (by omega)
          have HONE : Hid (∀ x ∈ l, oneI x = true) := Lib.hid (validI_parts HR2.out.symm).1
          clear hkn
          go_wp2_with fail
          refine (l9own_any l v w2 (HA.out.items HB2.out) hlt.1).mono ?_
          rintro e w3 ⟨v3, rfl, ha3, hb⟩
          have HB3 := Lib.hid (HB2.out.trans (hb.mono HB2.out.size))
          clear hb
          have HA3 := Lib.hid ha3
          clear ha3
          go_wp2_with fail
          refine (itemsRemove_any l nm v3 w3 HA3.out hlt.1 (HGL.out.below HB3.out)).mono ?_
          rintro e w4 ⟨v4, rfl, hb, -, hrem⟩
          have HB34 := Lib.hid hb
          have HB4 := Lib.hid (HB3.out.trans (hb.mono HB3.out.size))
          clear hb
          obtain ⟨ps, hpm, hfr⟩ := hrem HE.out
          clear hrem
          have hnn : ∀ p ∈ ps, p.x.name.size ≤ 100000 := fun p hp => by
            have h1 : p.x ∈ dropN l nm := by rw [← hpm]; exact List.mem_map_of_mem hp
            have := oneI_name (HONE.out _ (mem_dropN.1 h1).1)
            omega
          have HAY := Lib.hid hfr.arr
          rw [hpm] at HAY
          obtain ⟨o4, c4, g4, rfl, ho4, hg4, hle4, hsh4⟩ := hfr.shp hnn
          have HSH := Lib.hid hsh4
          have HO4 := Lib.hid ho4
          have HS34 := Lib.hid (show Below w3.heap.size w3 w4 from HB34.out)
          rw [HE.out]
          clear hfr hsh4 ho4 hnn hpm
          go_wp2_with fail
          refine (r9Remove_any l nm v w4 (HA.out.items HB4.out) (by have := hlt.2.1; omega)).mono ?_
          rintro e w5 ⟨v5, rfl, ha5, hb⟩
          have HA5 := Lib.hid ha5
          clear ha5
          have HB45 := Lib.hid hb
          have HB5 := Lib.hid (HB4.out.trans (hb.mono HB4.out.size))
          clear hb
          go_wp2_with fail
          refine (r9Equal_any (dropN l nm) (dropN l nm) _ v5 w5 (HAY.out.items HB45.out) HA5.out).mono ?_
          rintro e w6 ⟨rfl, hb⟩
          have HB46 := Lib.hid (HB45.out.trans (hb.mono HB45.out.size))
          have HB6 := Lib.hid (HB5.out.trans (hb.mono HB5.out.size))
          clear hb
          rw [decide_eq_true rfl]
          have hg4' := hg4
          obtain HSH6 : Hid (Shp w3.heap.size w6 g4 ps.length 0) := Lib.hid (HSH.out.below HB46.out)
          go_wp2_with fail
          refine (l9spoil_any w3.heap.size g4 ps.length c4 o4 w6 HO4.out hg4 hle4 HSH6.out).mono ?_
          rintro e w7 ⟨rfl, hb⟩
          have HB37 := Lib.hid ((HS34.out.trans (HB46.out.mono HS34.out.size)).trans hb)
          have HB7 := Lib.hid (HB6.out.trans (hb.mono HB3.out.size))
          clear hb
          go_wp2_with fail
          refine (r9Equal_any l l v3 v w7 (HA3.out.items HB37.out) (HA.out.items HB7.out)).mono ?_
          rintro e w8 ⟨rfl, hb⟩
          have HB8 := Lib.hid (HB7.out.trans (hb.mono HB7.out.size))
          clear hb
          rw [decide_eq_true rfl]
          go_wp2_with fail
          refine (l9known_any _ (HGL.out.below HB8.out)).mono ?_
          rintro e wk ⟨rfl, hb⟩
          have HBK := Lib.hid (HB8.out.trans (hb.mono HB8.out.size))
          clear hb
          go_wp2_with fail
          go_ret
          exact ⟨rfl, HBK.out⟩
    · have t1 : decide (100 < (nm.size : Int)) = true := decide_eq_true (by omega)
      go_wp2_with fail
      refine (l9known_any _ (HGL.out.below HB0.out)).mono ?_
      rintro e wk ⟨rfl, hb⟩
      have HBK := Lib.hid (HB0.out.trans (hb.mono HB0.out.size))
      clear hb
      go_wp2_with fail
      go_ret
      exact ⟨rfl, HBK.out⟩
end Go.Proofs.YtjlhdgmcaiiagaaGreatDoor

