/- JoinHolds and JoinGroups inside. -/
import Derived.Test.YtemfaojmelljpaaGreatDoorC25
import Derived.Test.YtemfaojmelljpaaGreatDoorLawP
namespace Go.Proofs.YtemfaojmelljpaaGreatDoor
open Go.RowKit Go.Maps Go.Sort Go.Shelf

theorem cl3 {n : Nat} {a b c : CartD} (ha : CL n a) (hb : CL n b) (hc : CL n c) : ∀ x ∈ [a, b, c], CL n x := by
  intro x hx
  simp only [List.mem_cons, List.not_mem_nil, or_false] at hx
  rcases hx with rfl | rfl | rfl
  · exact ha
  · exact hb
  · exact hc
set_option linter.unusedSimpArgs false in
set_option linter.unusedVariables false in
set_option maxRecDepth 100000 in
set_option maxHeartbeats 16000000 in
theorem l11Holds_any (a b : CartD) (xa1 xa2 xa3 xb1 xb2 xb3 : Value) (w : World) (ha : CartA w xa1 xa2 xa3 a) (hb : CartA w xb1 xb2 xb3 b) (hG : GlobIs w) :
    Calls Tryz.prog 7 #[.agg #[xa1, xa2, xa3], .agg #[xb1, xb2, xb3]] w fun e w' => e = .returned (.bool true) ∧ Below w.heap.size w w' := by
  obtain ⟨o1, k1, rfl⟩ := ha.1.slice
  obtain ⟨o2, k2, rfl⟩ := ha.2.1.slice
  obtain ⟨o3, k3, rfl⟩ := ha.2.2.slice
  obtain ⟨o4, k4, rfl⟩ := hb.1.slice
  obtain ⟨o5, k5, rfl⟩ := hb.2.1.slice
  obtain ⟨o6, k6, rfl⟩ := hb.2.2.slice
  obtain ⟨n1, hn1⟩ : ∃ n, n = a.vec.length := ⟨_, rfl⟩
  obtain ⟨n2, hn2⟩ : ∃ n, n = a.cloud.length := ⟨_, rfl⟩
  obtain ⟨n3, hn3⟩ : ∃ n, n = a.items.length := ⟨_, rfl⟩
  rw [← hn1, ← hn2, ← hn3] at ha
  rw [← hn1, ← hn2, ← hn3]
  obtain ⟨n4, hn4⟩ : ∃ n, n = b.vec.length := ⟨_, rfl⟩
  obtain ⟨n5, hn5⟩ : ∃ n, n = b.cloud.length := ⟨_, rfl⟩
  obtain ⟨n6, hn6⟩ : ∃ n, n = b.items.length := ⟨_, rfl⟩
  rw [← hn4, ← hn5, ← hn6] at hb
  rw [← hn4, ← hn5, ← hn6]
  obtain ⟨W0, hW0⟩ : ∃ x, x = w.alloc (.cells #[.slice o1 n1 k1, .slice o2 n2 k2, .slice o3 n3 k3] 28) := ⟨_, rfl⟩
  have hs0 : W0.heap.size = w.heap.size + 1 := by rw [hW0, alloc_size]
  have hst0 : Below w.heap.size w W0 := by rw [hW0]; exact (Below.refl _ _).alloc (Nat.le_refl _) _
  have hbb0 : Below w.heap.size w W0 := hst0
  have hx0_0 : W0.heap[w.heap.size]? = some (.cells #[.slice o1 n1 k1, .slice o2 n2 k2, .slice o3 n3 k3] 28) := by rw [hW0]; exact alloc_new _ _
  obtain ⟨W1, hW1⟩ : ∃ x, x = W0.alloc (.cells #[.slice o4 n4 k4, .slice o5 n5 k5, .slice o6 n6 k6] 28) := ⟨_, rfl⟩
  have hs1 : W1.heap.size = w.heap.size + 1 + 1 := by rw [hW1, alloc_size, hs0]
  have hst1 : Below W0.heap.size W0 W1 := by rw [hW1]; exact (Below.refl _ _).alloc (Nat.le_refl _) _
  have hbb1 : Below w.heap.size w W1 := hbb0.trans (hst1.mono hbb0.size)
  have hx1_1 : W1.heap[w.heap.size + 1]? = some (.cells #[.slice o4 n4 k4, .slice o5 n5 k5, .slice o6 n6 k6] 28) := by rw [hW1, ← hs0]; exact alloc_new _ _
  have hx0_1 : W1.heap[w.heap.size]? = _ := (hst1.block _ (lt_of_heap hx0_0)).trans hx0_0
  have HC : Hid (∀ wz, Below W1.heap.size W1 wz → ((wz.cell? ⟨w.heap.size, 0, none⟩ = some (.slice o1 n1 k1)) ∧ (wz.cell? ⟨w.heap.size, 1, none⟩ = some (.slice o2 n2 k2)) ∧ (wz.cell? ⟨w.heap.size, 2, none⟩ = some (.slice o3 n3 k3))) ∧ ((wz.cell? ⟨w.heap.size + 1, 0, none⟩ = some (.slice o4 n4 k4)) ∧ (wz.cell? ⟨w.heap.size + 1, 1, none⟩ = some (.slice o5 n5 k5)) ∧ (wz.cell? ⟨w.heap.size + 1, 2, none⟩ = some (.slice o6 n6 k6)))) := Lib.hid (fun wz hz => by
    have z0 := (hz.block _ (lt_of_heap hx0_1)).trans hx0_1
    have z1 := (hz.block _ (lt_of_heap hx1_1)).trans hx1_1
    exact ⟨⟨by rw [cell0 z0 0]; rfl, by rw [cell0 z0 1]; rfl, by rw [cell0 z0 2]; rfl⟩, ⟨by rw [cell0 z1 0]; rfl, by rw [cell0 z1 1]; rfl, by rw [cell0 z1 2]; rfl⟩⟩)
  have HK0 : Hid (∀ wz, Below W1.heap.size W1 wz → wz.heap[w.heap.size]? = some (.cells #[.slice o1 n1 k1, .slice o2 n2 k2, .slice o3 n3 k3] 28)) := Lib.hid (fun wz hz => (hz.block _ (lt_of_heap hx0_1)).trans hx0_1)
  have HK1 : Hid (∀ wz, Below W1.heap.size W1 wz → wz.heap[w.heap.size + 1]? = some (.cells #[.slice o4 n4 k4, .slice o5 n5 k5, .slice o6 n6 k6] 28)) := Lib.hid (fun wz hz => (hz.block _ (lt_of_heap hx1_1)).trans hx1_1)
  have HB := Lib.hid hbb1
  have HS : Hid (W1.heap.size = w.heap.size + 1 + 1) := Lib.hid hs1
  have HW : Hid (W1 = (w.alloc (.cells #[.slice o1 n1 k1, .slice o2 n2 k2, .slice o3 n3 k3] 28)).alloc (.cells #[.slice o4 n4 k4, .slice o5 n5 k5, .slice o6 n6 k6] 28)) := Lib.hid (by rw [hW1, hW0])
  have HAa := Lib.hid (ha.below hbb1)
  have HAb := Lib.hid (hb.below hbb1)
  have HGL := Lib.hid (hG.below hbb1)
  have HB0 : Hid (Below W1.heap.size W1 W1) := Lib.hid (Below.refl _ _)
  clear hW0 hs0 hst0 hW1 hs1 hst1 hx0_0 hx0_1 hx1_1 hbb0 hbb1 ha hb hG hn1 hn2 hn3 hn4 hn5 hn6
  obtain ⟨⟨c0_0_0, c0_0_1, c0_0_2⟩, ⟨c0_1_0, c0_1_1, c0_1_2⟩⟩ := HC.out W1 (Below.refl _ _)
  go_enter Tryz.func7, Tryz.ntmps7
  go_wp2_with fail
  rw [← HW.out]
  have HX := Lib.hid (l11light_any a _ _ _ W1 (HAa.out.below HB0.out))
  obtain ⟨r1, hr1⟩ : ∃ r, r = lightC a := ⟨_, rfl⟩
  rw [← hr1] at HX
  have HRr1 := Lib.hid hr1
  clear hr1
  refine HX.out.mono ?_
  rintro e w1 ⟨rfl, hb⟩
  clear HX
  have HB1 := Lib.hid (HB0.out.trans (hb.mono HB0.out.size))
  clear c0_0_0 c0_0_1 c0_0_2 c0_1_0 c0_1_1 c0_1_2
  obtain ⟨⟨c1_0_0, c1_0_1, c1_0_2⟩, ⟨c1_1_0, c1_1_1, c1_1_2⟩⟩ := HC.out w1 HB1.out
  clear hb
  cases r1 with
  | false =>
    have HX := Lib.hid (l11known_any w1 (HGL.out.below HB1.out))
    go_wp2_with fail
    refine HX.out.mono ?_
    rintro e wk ⟨rfl, hbk⟩
    clear HX
    have HBK := Lib.hid (HB1.out.trans (hbk.mono HB1.out.size))
    clear hbk
    go_wp2_with fail
    go_ret
    exact ⟨rfl, HB.out.trans (HBK.out.mono HB.out.size)⟩
  | true =>
    have HLa := Lib.hid (lightC_CL HRr1.out.symm)
    clear HRr1
    have HX := Lib.hid (l11light_any b _ _ _ w1 (HAb.out.below HB1.out))
    obtain ⟨r2, hr2⟩ : ∃ r, r = lightC b := ⟨_, rfl⟩
    rw [← hr2] at HX
    have HRr2 := Lib.hid hr2
    clear hr2
    go_wp2_with fail
    refine HX.out.mono ?_
    rintro e w2 ⟨rfl, hb⟩
    clear HX
    have HB2 := Lib.hid (HB1.out.trans (hb.mono HB1.out.size))
    clear c1_0_0 c1_0_1 c1_0_2 c1_1_0 c1_1_1 c1_1_2
    obtain ⟨⟨c2_0_0, c2_0_1, c2_0_2⟩, ⟨c2_1_0, c2_1_1, c2_1_2⟩⟩ := HC.out w2 HB2.out
    clear hb
    cases r2 with
    | false =>
      have HX := Lib.hid (l11known_any w2 (HGL.out.below HB2.out))
      go_wp2_with fail
      refine HX.out.mono ?_
      rintro e wk ⟨rfl, hbk⟩
      clear HX
      have HBK := Lib.hid (HB2.out.trans (hbk.mono HB2.out.size))
      clear hbk
      go_wp2_with fail
      go_ret
      exact ⟨rfl, HB.out.trans (HBK.out.mono HB.out.size)⟩
    | true =>
      have HLb := Lib.hid (lightC_CL HRr2.out.symm)
      clear HRr2
      have HX := Lib.hid (cartValid_any a _ _ _ w2 (HAa.out.below HB2.out) (HLa.out.sz (by omega)).1 (HGL.out.below HB2.out))
      obtain ⟨r3, hr3⟩ : ∃ r, r = validC a := ⟨_, rfl⟩
      rw [← hr3] at HX
      have HRr3 := Lib.hid hr3
      clear hr3
      go_wp2_with fail
      refine HX.out.mono ?_
      rintro e w3 ⟨rfl, hb⟩
      clear HX
      have HB3 := Lib.hid (HB2.out.trans (hb.mono HB2.out.size))
      clear c2_0_0 c2_0_1 c2_0_2 c2_1_0 c2_1_1 c2_1_2
      obtain ⟨⟨c3_0_0, c3_0_1, c3_0_2⟩, ⟨c3_1_0, c3_1_1, c3_1_2⟩⟩ := HC.out w3 HB3.out
      clear hb
      cases r3 with
      | false =>
        have HX := Lib.hid (l11known_any w3 (HGL.out.below HB3.out))
        go_wp2_with fail
        refine HX.out.mono ?_
        rintro e wk ⟨rfl, hbk⟩
        clear HX
        have HBK := Lib.hid (HB3.out.trans (hbk.mono HB3.out.size))
        clear hbk
        go_wp2_with fail
        go_ret
        exact ⟨rfl, HB.out.trans (HBK.out.mono HB.out.size)⟩
      | true =>
        have HVa := Lib.hid HRr3.out.symm
        clear HRr3
        have HX := Lib.hid (cartValid_any b _ _ _ w3 (HAb.out.below HB3.out) (HLb.out.sz (by omega)).1 (HGL.out.below HB3.out))
        obtain ⟨r4, hr4⟩ : ∃ r, r = validC b := ⟨_, rfl⟩
        rw [← hr4] at HX
        have HRr4 := Lib.hid hr4
        clear hr4
        go_wp2_with fail
        refine HX.out.mono ?_
        rintro e w4 ⟨rfl, hb⟩
        clear HX
        have HB4 := Lib.hid (HB3.out.trans (hb.mono HB3.out.size))
        clear c3_0_0 c3_0_1 c3_0_2 c3_1_0 c3_1_1 c3_1_2
        obtain ⟨⟨c4_0_0, c4_0_1, c4_0_2⟩, ⟨c4_1_0, c4_1_1, c4_1_2⟩⟩ := HC.out w4 HB4.out
        clear hb
        cases r4 with
        | false =>
          have HX := Lib.hid (l11known_any w4 (HGL.out.below HB4.out))
          go_wp2_with fail
          refine HX.out.mono ?_
          rintro e wk ⟨rfl, hbk⟩
          clear HX
          have HBK := Lib.hid (HB4.out.trans (hbk.mono HB4.out.size))
          clear hbk
          go_wp2_with fail
          go_ret
          exact ⟨rfl, HB.out.trans (HBK.out.mono HB.out.size)⟩
        | true =>
          have HVb := Lib.hid HRr4.out.symm
          clear HRr4
          have HP := Lib.hid (holds_plain HVa.out HVb.out)
          have HLc : Hid (SzC (joinR a b)) := Lib.hid (by rw [(joinR_true HVa.out HVb.out).1]; exact (refJoin_CL HVa.out HVb.out HLa.out HLb.out).sz (by omega))
          have HX := Lib.hid (joinJoin_any a b _ _ _ _ _ _ w4 (HAa.out.below HB4.out) (HAb.out.below HB4.out) (HLa.out.sz (by omega)) (HLb.out.sz (by omega)) (HGL.out.below HB4.out))
          rw [HP.out.1] at HX
          go_wp2_with fail
          refine HX.out.mono ?_
          rintro e vJ ⟨y1, y2, y3, rfl, hown, hb⟩
          clear HX
          have hRA := hown.cart (joinR_valid a b)
          obtain ⟨pJ1, lJ1, rfl⟩ := hRA.1.slice
          obtain ⟨pJ2, lJ2, rfl⟩ := hRA.2.1.slice
          obtain ⟨pJ3, lJ3, rfl⟩ := hRA.2.2.slice
          obtain ⟨mJ1, hmJ1⟩ : ∃ n, n = (joinR a b).vec.length := ⟨_, rfl⟩
          obtain ⟨mJ2, hmJ2⟩ : ∃ n, n = (joinR a b).cloud.length := ⟨_, rfl⟩
          obtain ⟨mJ3, hmJ3⟩ : ∃ n, n = (joinR a b).items.length := ⟨_, rfl⟩
          rw [← hmJ1, ← hmJ2, ← hmJ3] at hRA
          rw [← hmJ1, ← hmJ2, ← hmJ3]
          obtain ⟨WJ, hW⟩ : ∃ x, x = vJ.alloc (.cells #[.slice pJ1 mJ1 lJ1, .slice pJ2 mJ2 lJ2, .slice pJ3 mJ3 lJ3] 28) := ⟨_, rfl⟩
          have hb56 : Below vJ.heap.size vJ WJ := by rw [hW]; exact (Below.refl _ _).alloc (Nat.le_refl _) _
          have hx6 : WJ.heap[vJ.heap.size]? = some (.cells #[.slice pJ1 mJ1 lJ1, .slice pJ2 mJ2 lJ2, .slice pJ3 mJ3 lJ3] 28) := by rw [hW]; exact alloc_new _ _
          have HCJ : Hid (∀ wz, Below WJ.heap.size WJ wz → wz.cell? ⟨vJ.heap.size, 0, none⟩ = some (.slice pJ1 mJ1 lJ1) ∧ wz.cell? ⟨vJ.heap.size, 1, none⟩ = some (.slice pJ2 mJ2 lJ2) ∧ wz.cell? ⟨vJ.heap.size, 2, none⟩ = some (.slice pJ3 mJ3 lJ3)) := Lib.hid (fun wz hz => by
            have z := (hz.block _ (lt_of_heap hx6)).trans hx6
            exact ⟨by rw [cell0 z 0]; rfl, by rw [cell0 z 1]; rfl, by rw [cell0 z 2]; rfl⟩)
          have HAJ := Lib.hid (hRA.below hb56)
          have HWJ := Lib.hid hW
          have HB5 := Lib.hid (HB4.out.trans ((hb.trans (hb56.mono hb.size)).mono HB4.out.size))
          have HDJ5 : Hid (Below WJ.heap.size WJ WJ) := Lib.hid (Below.refl _ _)
          clear hown hRA hb hb56 hx6 hW hmJ1 hmJ2 hmJ3
          clear c4_0_0 c4_0_1 c4_0_2 c4_1_0 c4_1_1 c4_1_2
          obtain ⟨⟨c5_0_0, c5_0_1, c5_0_2⟩, ⟨c5_1_0, c5_1_1, c5_1_2⟩⟩ := HC.out WJ HB5.out
          obtain ⟨eJ5_0, eJ5_1, eJ5_2⟩ := HCJ.out WJ HDJ5.out
          have HX := Lib.hid (cartValid_any (joinR a b) _ _ _ WJ (HAJ.out.below HDJ5.out) HLc.out.1 (HGL.out.below HB5.out))
          rw [HP.out.2.1] at HX
          go_wp2_with (go_loud (rw [← HWJ.out]))
          refine HX.out.mono ?_
          rintro e w6 ⟨rfl, hb⟩
          clear HX
          have HB6 := Lib.hid (HB5.out.trans (hb.mono HB5.out.size))
          clear c5_0_0 c5_0_1 c5_0_2 c5_1_0 c5_1_1 c5_1_2
          obtain ⟨⟨c6_0_0, c6_0_1, c6_0_2⟩, ⟨c6_1_0, c6_1_1, c6_1_2⟩⟩ := HC.out w6 HB6.out
          have HDJ6 := Lib.hid (HDJ5.out.trans (hb.mono HDJ5.out.size))
          clear eJ5_0 eJ5_1 eJ5_2
          obtain ⟨eJ6_0, eJ6_1, eJ6_2⟩ := HCJ.out w6 HDJ6.out
          clear hb
          have HX := Lib.hid (l11joins_any b a (joinR a b) 0 _ _ _ _ _ _ _ _ _ w6 (HAb.out.below HB6.out) (HAa.out.below HB6.out) (HAJ.out.below HDJ6.out) (HLb.out.sz (by omega)) (HLa.out.sz (by omega)) (HGL.out.below HB6.out))
          rw [HP.out.2.2.1] at HX
          go_wp2_with fail
          refine HX.out.mono ?_
          rintro e w7 ⟨rfl, hb⟩
          clear HX
          have HB7 := Lib.hid (HB6.out.trans (hb.mono HB6.out.size))
          clear c6_0_0 c6_0_1 c6_0_2 c6_1_0 c6_1_1 c6_1_2
          obtain ⟨⟨c7_0_0, c7_0_1, c7_0_2⟩, ⟨c7_1_0, c7_1_1, c7_1_2⟩⟩ := HC.out w7 HB7.out
          have HDJ7 := Lib.hid (HDJ6.out.trans (hb.mono HDJ6.out.size))
          clear eJ6_0 eJ6_1 eJ6_2
          obtain ⟨eJ7_0, eJ7_1, eJ7_2⟩ := HCJ.out w7 HDJ7.out
          clear hb
          have HX := Lib.hid (l11joins_any a a a 0 _ _ _ _ _ _ _ _ _ w7 (HAa.out.below HB7.out) (HAa.out.below HB7.out) (HAa.out.below HB7.out) (HLa.out.sz (by omega)) (HLa.out.sz (by omega)) (HGL.out.below HB7.out))
          rw [HP.out.2.2.2.1] at HX
          go_wp2_with fail
          refine HX.out.mono ?_
          rintro e w8 ⟨rfl, hb⟩
          clear HX
          have HB8 := Lib.hid (HB7.out.trans (hb.mono HB7.out.size))
          clear c7_0_0 c7_0_1 c7_0_2 c7_1_0 c7_1_1 c7_1_2
          obtain ⟨⟨c8_0_0, c8_0_1, c8_0_2⟩, ⟨c8_1_0, c8_1_1, c8_1_2⟩⟩ := HC.out w8 HB8.out
          have HDJ8 := Lib.hid (HDJ7.out.trans (hb.mono HDJ7.out.size))
          clear eJ7_0 eJ7_1 eJ7_2
          obtain ⟨eJ8_0, eJ8_1, eJ8_2⟩ := HCJ.out w8 HDJ8.out
          clear hb
          have HX := Lib.hid (l11within_any a (joinR a b) true 0 _ _ _ _ _ _ w8 (HAa.out.below HB8.out) (HAJ.out.below HDJ8.out) (HLa.out.sz (by omega)) HLc.out (HGL.out.below HB8.out))
          rw [HP.out.2.2.2.2.1] at HX
          go_wp2_with fail
          refine HX.out.mono ?_
          rintro e w9 ⟨rfl, hb⟩
          clear HX
          have HB9 := Lib.hid (HB8.out.trans (hb.mono HB8.out.size))
          clear c8_0_0 c8_0_1 c8_0_2 c8_1_0 c8_1_1 c8_1_2
          obtain ⟨⟨c9_0_0, c9_0_1, c9_0_2⟩, ⟨c9_1_0, c9_1_1, c9_1_2⟩⟩ := HC.out w9 HB9.out
          have HDJ9 := Lib.hid (HDJ8.out.trans (hb.mono HDJ8.out.size))
          clear eJ8_0 eJ8_1 eJ8_2
          obtain ⟨eJ9_0, eJ9_1, eJ9_2⟩ := HCJ.out w9 HDJ9.out
          clear hb
          have HX := Lib.hid (l11within_any b (joinR a b) true 0 _ _ _ _ _ _ w9 (HAb.out.below HB9.out) (HAJ.out.below HDJ9.out) (HLb.out.sz (by omega)) HLc.out (HGL.out.below HB9.out))
          rw [HP.out.2.2.2.2.2.1] at HX
          go_wp2_with fail
          refine HX.out.mono ?_
          rintro e w10 ⟨rfl, hb⟩
          clear HX
          have HB10 := Lib.hid (HB9.out.trans (hb.mono HB9.out.size))
          clear c9_0_0 c9_0_1 c9_0_2 c9_1_0 c9_1_1 c9_1_2
          obtain ⟨⟨c10_0_0, c10_0_1, c10_0_2⟩, ⟨c10_1_0, c10_1_1, c10_1_2⟩⟩ := HC.out w10 HB10.out
          have HDJ10 := Lib.hid (HDJ9.out.trans (hb.mono HDJ9.out.size))
          clear eJ9_0 eJ9_1 eJ9_2
          obtain ⟨eJ10_0, eJ10_1, eJ10_2⟩ := HCJ.out w10 HDJ10.out
          clear hb
          have HQ1 := Lib.hid HP.out.2.2.2.2.2.2.2.1
          have HQ2 := Lib.hid HP.out.2.2.2.2.2.2.2.2
          have HX := Lib.hid (joinWithin_any a b _ _ _ _ _ _ w10 (HAa.out.below HB10.out) (HAb.out.below HB10.out) (HLa.out.sz (by omega)) (HLb.out.sz (by omega)) (HGL.out.below HB10.out))
          rw [HP.out.1] at HX
          obtain ⟨p, hp⟩ : ∃ r, r = withinB a b := ⟨_, rfl⟩
          rw [← hp] at HX
          have HRp := Lib.hid hp
          clear hp
          go_wp2_with fail
          refine HX.out.mono ?_
          rintro e w11 ⟨rfl, hb⟩
          clear HX
          have HB11 := Lib.hid (HB10.out.trans (hb.mono HB10.out.size))
          clear c10_0_0 c10_0_1 c10_0_2 c10_1_0 c10_1_1 c10_1_2
          obtain ⟨⟨c11_0_0, c11_0_1, c11_0_2⟩, ⟨c11_1_0, c11_1_1, c11_1_2⟩⟩ := HC.out w11 HB11.out
          have HDJ11 := Lib.hid (HDJ10.out.trans (hb.mono HDJ10.out.size))
          clear eJ10_0 eJ10_1 eJ10_2
          obtain ⟨eJ11_0, eJ11_1, eJ11_2⟩ := HCJ.out w11 HDJ11.out
          clear hb
          rw [← HRp.out] at HQ1 HQ2
          clear HRp
          have HX := Lib.hid (joinWithin_any b a _ _ _ _ _ _ w11 (HAb.out.below HB11.out) (HAa.out.below HB11.out) (HLb.out.sz (by omega)) (HLa.out.sz (by omega)) (HGL.out.below HB11.out))
          rw [HP.out.2.2.2.2.2.2.1] at HX
          obtain ⟨q, hq⟩ : ∃ r, r = withinB b a := ⟨_, rfl⟩
          rw [← hq] at HX
          have HRq := Lib.hid hq
          clear hq
          go_wp2_with fail
          refine HX.out.mono ?_
          rintro e w12 ⟨rfl, hb⟩
          clear HX
          have HB12 := Lib.hid (HB11.out.trans (hb.mono HB11.out.size))
          clear c11_0_0 c11_0_1 c11_0_2 c11_1_0 c11_1_1 c11_1_2
          obtain ⟨⟨c12_0_0, c12_0_1, c12_0_2⟩, ⟨c12_1_0, c12_1_1, c12_1_2⟩⟩ := HC.out w12 HB12.out
          have HDJ12 := Lib.hid (HDJ11.out.trans (hb.mono HDJ11.out.size))
          clear eJ11_0 eJ11_1 eJ11_2
          obtain ⟨eJ12_0, eJ12_1, eJ12_2⟩ := HCJ.out w12 HDJ12.out
          clear hb
          rw [← HRq.out] at HQ1
          clear HRq
          have e1 : decide (a = b) = (p && q) := (eq_of_beq HQ1.out).symm
          have e2 : decide (joinR a b = b) = p := (eq_of_beq HQ2.out).symm
          have HE1 := Lib.hid e1
          have HE2 := Lib.hid e2
          clear e1 e2 HQ1 HQ2 HP
          have HF1 : Hid (∀ b : Bool, (b == b) = true) := Lib.hid (fun b => by cases b <;> rfl)
          rcases p with _ | _ <;> rcases q with _ | _
          all_goals
            have HX := Lib.hid (r10Equal_any a b _ _ _ _ _ _ w12 (HAa.out.below HB12.out) (HAb.out.below HB12.out))
            rw [HE1.out] at HX
            go_wp2_with fail
            refine HX.out.mono ?_
            rintro e w13 ⟨rfl, hb⟩
            clear HX
            have HB13 := Lib.hid (HB12.out.trans (hb.mono HB12.out.size))
            clear c12_0_0 c12_0_1 c12_0_2 c12_1_0 c12_1_1 c12_1_2
            obtain ⟨⟨c13_0_0, c13_0_1, c13_0_2⟩, ⟨c13_1_0, c13_1_1, c13_1_2⟩⟩ := HC.out w13 HB13.out
            have HDJ13 := Lib.hid (HDJ12.out.trans (hb.mono HDJ12.out.size))
            clear eJ12_0 eJ12_1 eJ12_2
            obtain ⟨eJ13_0, eJ13_1, eJ13_2⟩ := HCJ.out w13 HDJ13.out
            clear hb
            have HX := Lib.hid (r10Equal_any (joinR a b) b _ _ _ _ _ _ w13 (HAJ.out.below HDJ13.out) (HAb.out.below HB13.out))
            rw [HE2.out] at HX
            go_wp2_with fail
            refine HX.out.mono ?_
            rintro e w14 ⟨rfl, hb⟩
            clear HX
            have HB14 := Lib.hid (HB13.out.trans (hb.mono HB13.out.size))
            clear c13_0_0 c13_0_1 c13_0_2 c13_1_0 c13_1_1 c13_1_2
            obtain ⟨⟨c14_0_0, c14_0_1, c14_0_2⟩, ⟨c14_1_0, c14_1_1, c14_1_2⟩⟩ := HC.out w14 HB14.out
            have HDJ14 := Lib.hid (HDJ13.out.trans (hb.mono HDJ13.out.size))
            clear eJ13_0 eJ13_1 eJ13_2
            obtain ⟨eJ14_0, eJ14_1, eJ14_2⟩ := HCJ.out w14 HDJ14.out
            clear hb
            have HX := Lib.hid (l11known_any w14 (HGL.out.below HB14.out))
            go_wp2_with fail
            refine HX.out.mono ?_
            rintro e wk ⟨rfl, hbk⟩
            clear HX
            have HBK := Lib.hid (HB14.out.trans (hbk.mono HB14.out.size))
            clear hbk
            go_wp2_with fail
            go_ret
            exact ⟨rfl, HB.out.trans (HBK.out.mono HB.out.size)⟩
set_option linter.unusedSimpArgs false in
set_option linter.unusedVariables false in
set_option maxRecDepth 100000 in
set_option maxHeartbeats 16000000 in
theorem l11Groups_any (a b c : CartD) (xa1 xa2 xa3 xb1 xb2 xb3 xc1 xc2 xc3 : Value) (w : World) (ha : CartA w xa1 xa2 xa3 a) (hb : CartA w xb1 xb2 xb3 b) (hc : CartA w xc1 xc2 xc3 c) (hG : GlobIs w) :
    Calls Tryz.prog 6 #[.agg #[xa1, xa2, xa3], .agg #[xb1, xb2, xb3], .agg #[xc1, xc2, xc3]] w fun e w' => e = .returned (.bool true) ∧ Below w.heap.size w w' := by
  obtain ⟨o1, k1, rfl⟩ := ha.1.slice
  obtain ⟨o2, k2, rfl⟩ := ha.2.1.slice
  obtain ⟨o3, k3, rfl⟩ := ha.2.2.slice
  obtain ⟨o4, k4, rfl⟩ := hb.1.slice
  obtain ⟨o5, k5, rfl⟩ := hb.2.1.slice
  obtain ⟨o6, k6, rfl⟩ := hb.2.2.slice
  obtain ⟨o7, k7, rfl⟩ := hc.1.slice
  obtain ⟨o8, k8, rfl⟩ := hc.2.1.slice
  obtain ⟨o9, k9, rfl⟩ := hc.2.2.slice
  obtain ⟨n1, hn1⟩ : ∃ n, n = a.vec.length := ⟨_, rfl⟩
  obtain ⟨n2, hn2⟩ : ∃ n, n = a.cloud.length := ⟨_, rfl⟩
  obtain ⟨n3, hn3⟩ : ∃ n, n = a.items.length := ⟨_, rfl⟩
  rw [← hn1, ← hn2, ← hn3] at ha
  rw [← hn1, ← hn2, ← hn3]
  obtain ⟨n4, hn4⟩ : ∃ n, n = b.vec.length := ⟨_, rfl⟩
  obtain ⟨n5, hn5⟩ : ∃ n, n = b.cloud.length := ⟨_, rfl⟩
  obtain ⟨n6, hn6⟩ : ∃ n, n = b.items.length := ⟨_, rfl⟩
  rw [← hn4, ← hn5, ← hn6] at hb
  rw [← hn4, ← hn5, ← hn6]
  obtain ⟨n7, hn7⟩ : ∃ n, n = c.vec.length := ⟨_, rfl⟩
  obtain ⟨n8, hn8⟩ : ∃ n, n = c.cloud.length := ⟨_, rfl⟩
  obtain ⟨n9, hn9⟩ : ∃ n, n = c.items.length := ⟨_, rfl⟩
  rw [← hn7, ← hn8, ← hn9] at hc
  rw [← hn7, ← hn8, ← hn9]
  obtain ⟨W0, hW0⟩ : ∃ x, x = w.alloc (.cells #[.slice o1 n1 k1, .slice o2 n2 k2, .slice o3 n3 k3] 28) := ⟨_, rfl⟩
  have hs0 : W0.heap.size = w.heap.size + 1 := by rw [hW0, alloc_size]
  have hst0 : Below w.heap.size w W0 := by rw [hW0]; exact (Below.refl _ _).alloc (Nat.le_refl _) _
  have hbb0 : Below w.heap.size w W0 := hst0
  have hx0_0 : W0.heap[w.heap.size]? = some (.cells #[.slice o1 n1 k1, .slice o2 n2 k2, .slice o3 n3 k3] 28) := by rw [hW0]; exact alloc_new _ _
  obtain ⟨W1, hW1⟩ : ∃ x, x = W0.alloc (.cells #[.slice o4 n4 k4, .slice o5 n5 k5, .slice o6 n6 k6] 28) := ⟨_, rfl⟩
  have hs1 : W1.heap.size = w.heap.size + 1 + 1 := by rw [hW1, alloc_size, hs0]
  have hst1 : Below W0.heap.size W0 W1 := by rw [hW1]; exact (Below.refl _ _).alloc (Nat.le_refl _) _
  have hbb1 : Below w.heap.size w W1 := hbb0.trans (hst1.mono hbb0.size)
  have hx1_1 : W1.heap[w.heap.size + 1]? = some (.cells #[.slice o4 n4 k4, .slice o5 n5 k5, .slice o6 n6 k6] 28) := by rw [hW1, ← hs0]; exact alloc_new _ _
  have hx0_1 : W1.heap[w.heap.size]? = _ := (hst1.block _ (lt_of_heap hx0_0)).trans hx0_0
  obtain ⟨W2, hW2⟩ : ∃ x, x = W1.alloc (.cells #[.slice o7 n7 k7, .slice o8 n8 k8, .slice o9 n9 k9] 28) := ⟨_, rfl⟩
  have hs2 : W2.heap.size = w.heap.size + 1 + 1 + 1 := by rw [hW2, alloc_size, hs1]
  have hst2 : Below W1.heap.size W1 W2 := by rw [hW2]; exact (Below.refl _ _).alloc (Nat.le_refl _) _
  have hbb2 : Below w.heap.size w W2 := hbb1.trans (hst2.mono hbb1.size)
  have hx2_2 : W2.heap[w.heap.size + 1 + 1]? = some (.cells #[.slice o7 n7 k7, .slice o8 n8 k8, .slice o9 n9 k9] 28) := by rw [hW2, ← hs1]; exact alloc_new _ _
  have hx0_2 : W2.heap[w.heap.size]? = _ := (hst2.block _ (lt_of_heap hx0_1)).trans hx0_1
  have hx1_2 : W2.heap[w.heap.size + 1]? = _ := (hst2.block _ (lt_of_heap hx1_1)).trans hx1_1
  have HC : Hid (∀ wz, Below W2.heap.size W2 wz → ((wz.cell? ⟨w.heap.size, 0, none⟩ = some (.slice o1 n1 k1)) ∧ (wz.cell? ⟨w.heap.size, 1, none⟩ = some (.slice o2 n2 k2)) ∧ (wz.cell? ⟨w.heap.size, 2, none⟩ = some (.slice o3 n3 k3))) ∧ ((wz.cell? ⟨w.heap.size + 1, 0, none⟩ = some (.slice o4 n4 k4)) ∧ (wz.cell? ⟨w.heap.size + 1, 1, none⟩ = some (.slice o5 n5 k5)) ∧ (wz.cell? ⟨w.heap.size + 1, 2, none⟩ = some (.slice o6 n6 k6))) ∧ ((wz.cell? ⟨w.heap.size + 1 + 1, 0, none⟩ = some (.slice o7 n7 k7)) ∧ (wz.cell? ⟨w.heap.size + 1 + 1, 1, none⟩ = some (.slice o8 n8 k8)) ∧ (wz.cell? ⟨w.heap.size + 1 + 1, 2, none⟩ = some (.slice o9 n9 k9)))) := Lib.hid (fun wz hz => by
    have z0 := (hz.block _ (lt_of_heap hx0_2)).trans hx0_2
    have z1 := (hz.block _ (lt_of_heap hx1_2)).trans hx1_2
    have z2 := (hz.block _ (lt_of_heap hx2_2)).trans hx2_2
    exact ⟨⟨by rw [cell0 z0 0]; rfl, by rw [cell0 z0 1]; rfl, by rw [cell0 z0 2]; rfl⟩, ⟨by rw [cell0 z1 0]; rfl, by rw [cell0 z1 1]; rfl, by rw [cell0 z1 2]; rfl⟩, ⟨by rw [cell0 z2 0]; rfl, by rw [cell0 z2 1]; rfl, by rw [cell0 z2 2]; rfl⟩⟩)
  have HK0 : Hid (∀ wz, Below W2.heap.size W2 wz → wz.heap[w.heap.size]? = some (.cells #[.slice o1 n1 k1, .slice o2 n2 k2, .slice o3 n3 k3] 28)) := Lib.hid (fun wz hz => (hz.block _ (lt_of_heap hx0_2)).trans hx0_2)
  have HK1 : Hid (∀ wz, Below W2.heap.size W2 wz → wz.heap[w.heap.size + 1]? = some (.cells #[.slice o4 n4 k4, .slice o5 n5 k5, .slice o6 n6 k6] 28)) := Lib.hid (fun wz hz => (hz.block _ (lt_of_heap hx1_2)).trans hx1_2)
  have HK2 : Hid (∀ wz, Below W2.heap.size W2 wz → wz.heap[w.heap.size + 1 + 1]? = some (.cells #[.slice o7 n7 k7, .slice o8 n8 k8, .slice o9 n9 k9] 28)) := Lib.hid (fun wz hz => (hz.block _ (lt_of_heap hx2_2)).trans hx2_2)
  have HB := Lib.hid hbb2
  have HS : Hid (W2.heap.size = w.heap.size + 1 + 1 + 1) := Lib.hid hs2
  have HW : Hid (W2 = ((w.alloc (.cells #[.slice o1 n1 k1, .slice o2 n2 k2, .slice o3 n3 k3] 28)).alloc (.cells #[.slice o4 n4 k4, .slice o5 n5 k5, .slice o6 n6 k6] 28)).alloc (.cells #[.slice o7 n7 k7, .slice o8 n8 k8, .slice o9 n9 k9] 28)) := Lib.hid (by rw [hW2, hW1, hW0])
  have HAa := Lib.hid (ha.below hbb2)
  have HAb := Lib.hid (hb.below hbb2)
  have HAc := Lib.hid (hc.below hbb2)
  have HGL := Lib.hid (hG.below hbb2)
  have HB0 : Hid (Below W2.heap.size W2 W2) := Lib.hid (Below.refl _ _)
  clear hW0 hs0 hst0 hW1 hs1 hst1 hW2 hs2 hst2 hx0_0 hx0_1 hx1_1 hx0_2 hx1_2 hx2_2 hbb0 hbb1 hbb2 ha hb hc hG hn1 hn2 hn3 hn4 hn5 hn6 hn7 hn8 hn9
  obtain ⟨⟨c0_0_0, c0_0_1, c0_0_2⟩, ⟨c0_1_0, c0_1_1, c0_1_2⟩, ⟨c0_2_0, c0_2_1, c0_2_2⟩⟩ := HC.out W2 (Below.refl _ _)
  go_enter Tryz.func6, Tryz.ntmps6
  go_wp2_with fail
  rw [← HW.out]
  have HX := Lib.hid (l11light_any a _ _ _ W2 (HAa.out.below HB0.out))
  obtain ⟨r0, hr0⟩ : ∃ r, r = lightC a := ⟨_, rfl⟩
  rw [← hr0] at HX
  have HRr0 := Lib.hid hr0
  clear hr0
  refine HX.out.mono ?_
  rintro e w1 ⟨rfl, hb⟩
  clear HX
  have HB1 := Lib.hid (HB0.out.trans (hb.mono HB0.out.size))
  clear c0_0_0 c0_0_1 c0_0_2 c0_1_0 c0_1_1 c0_1_2 c0_2_0 c0_2_1 c0_2_2
  obtain ⟨⟨c1_0_0, c1_0_1, c1_0_2⟩, ⟨c1_1_0, c1_1_1, c1_1_2⟩, ⟨c1_2_0, c1_2_1, c1_2_2⟩⟩ := HC.out w1 HB1.out
  clear hb
  cases r0 with
  | false =>
    have HX := Lib.hid (l11known_any w1 (HGL.out.below HB1.out))
    go_wp2_with fail
    refine HX.out.mono ?_
    rintro e wk ⟨rfl, hbk⟩
    clear HX
    have HBK := Lib.hid (HB1.out.trans (hbk.mono HB1.out.size))
    clear hbk
    go_wp2_with fail
    go_ret
    exact ⟨rfl, HB.out.trans (HBK.out.mono HB.out.size)⟩
  | true =>
    have HLa := Lib.hid (lightC_CL HRr0.out.symm)
    clear HRr0
    have HX := Lib.hid (l11light_any b _ _ _ w1 (HAb.out.below HB1.out))
    obtain ⟨r1, hr1⟩ : ∃ r, r = lightC b := ⟨_, rfl⟩
    rw [← hr1] at HX
    have HRr1 := Lib.hid hr1
    clear hr1
    go_wp2_with fail
    refine HX.out.mono ?_
    rintro e w2 ⟨rfl, hb⟩
    clear HX
    have HB2 := Lib.hid (HB1.out.trans (hb.mono HB1.out.size))
    clear c1_0_0 c1_0_1 c1_0_2 c1_1_0 c1_1_1 c1_1_2 c1_2_0 c1_2_1 c1_2_2
    obtain ⟨⟨c2_0_0, c2_0_1, c2_0_2⟩, ⟨c2_1_0, c2_1_1, c2_1_2⟩, ⟨c2_2_0, c2_2_1, c2_2_2⟩⟩ := HC.out w2 HB2.out
    clear hb
    cases r1 with
    | false =>
      have HX := Lib.hid (l11known_any w2 (HGL.out.below HB2.out))
      go_wp2_with fail
      refine HX.out.mono ?_
      rintro e wk ⟨rfl, hbk⟩
      clear HX
      have HBK := Lib.hid (HB2.out.trans (hbk.mono HB2.out.size))
      clear hbk
      go_wp2_with fail
      go_ret
      exact ⟨rfl, HB.out.trans (HBK.out.mono HB.out.size)⟩
    | true =>
      have HLb := Lib.hid (lightC_CL HRr1.out.symm)
      clear HRr1
      have HX := Lib.hid (l11light_any c _ _ _ w2 (HAc.out.below HB2.out))
      obtain ⟨r2, hr2⟩ : ∃ r, r = lightC c := ⟨_, rfl⟩
      rw [← hr2] at HX
      have HRr2 := Lib.hid hr2
      clear hr2
      go_wp2_with fail
      refine HX.out.mono ?_
      rintro e w3 ⟨rfl, hb⟩
      clear HX
      have HB3 := Lib.hid (HB2.out.trans (hb.mono HB2.out.size))
      clear c2_0_0 c2_0_1 c2_0_2 c2_1_0 c2_1_1 c2_1_2 c2_2_0 c2_2_1 c2_2_2
      obtain ⟨⟨c3_0_0, c3_0_1, c3_0_2⟩, ⟨c3_1_0, c3_1_1, c3_1_2⟩, ⟨c3_2_0, c3_2_1, c3_2_2⟩⟩ := HC.out w3 HB3.out
      clear hb
      cases r2 with
      | false =>
        have HX := Lib.hid (l11known_any w3 (HGL.out.below HB3.out))
        go_wp2_with fail
        refine HX.out.mono ?_
        rintro e wk ⟨rfl, hbk⟩
        clear HX
        have HBK := Lib.hid (HB3.out.trans (hbk.mono HB3.out.size))
        clear hbk
        go_wp2_with fail
        go_ret
        exact ⟨rfl, HB.out.trans (HBK.out.mono HB.out.size)⟩
      | true =>
        have HLc := Lib.hid (lightC_CL HRr2.out.symm)
        clear HRr2
        have HX := Lib.hid (cartValid_any a _ _ _ w3 (HAa.out.below HB3.out) (HLa.out.sz (by omega)).1 (HGL.out.below HB3.out))
        obtain ⟨q0, hq0⟩ : ∃ r, r = validC a := ⟨_, rfl⟩
        rw [← hq0] at HX
        have HRq0 := Lib.hid hq0
        clear hq0
        go_wp2_with fail
        refine HX.out.mono ?_
        rintro e w4 ⟨rfl, hb⟩
        clear HX
        have HB4 := Lib.hid (HB3.out.trans (hb.mono HB3.out.size))
        clear c3_0_0 c3_0_1 c3_0_2 c3_1_0 c3_1_1 c3_1_2 c3_2_0 c3_2_1 c3_2_2
        obtain ⟨⟨c4_0_0, c4_0_1, c4_0_2⟩, ⟨c4_1_0, c4_1_1, c4_1_2⟩, ⟨c4_2_0, c4_2_1, c4_2_2⟩⟩ := HC.out w4 HB4.out
        clear hb
        cases q0 with
        | false =>
          have HX := Lib.hid (l11known_any w4 (HGL.out.below HB4.out))
          go_wp2_with fail
          refine HX.out.mono ?_
          rintro e wk ⟨rfl, hbk⟩
          clear HX
          have HBK := Lib.hid (HB4.out.trans (hbk.mono HB4.out.size))
          clear hbk
          go_wp2_with fail
          go_ret
          exact ⟨rfl, HB.out.trans (HBK.out.mono HB.out.size)⟩
        | true =>
          have HVa := Lib.hid HRq0.out.symm
          clear HRq0
          have HX := Lib.hid (cartValid_any b _ _ _ w4 (HAb.out.below HB4.out) (HLb.out.sz (by omega)).1 (HGL.out.below HB4.out))
          obtain ⟨q1, hq1⟩ : ∃ r, r = validC b := ⟨_, rfl⟩
          rw [← hq1] at HX
          have HRq1 := Lib.hid hq1
          clear hq1
          go_wp2_with fail
          refine HX.out.mono ?_
          rintro e w5 ⟨rfl, hb⟩
          clear HX
          have HB5 := Lib.hid (HB4.out.trans (hb.mono HB4.out.size))
          clear c4_0_0 c4_0_1 c4_0_2 c4_1_0 c4_1_1 c4_1_2 c4_2_0 c4_2_1 c4_2_2
          obtain ⟨⟨c5_0_0, c5_0_1, c5_0_2⟩, ⟨c5_1_0, c5_1_1, c5_1_2⟩, ⟨c5_2_0, c5_2_1, c5_2_2⟩⟩ := HC.out w5 HB5.out
          clear hb
          cases q1 with
          | false =>
            have HX := Lib.hid (l11known_any w5 (HGL.out.below HB5.out))
            go_wp2_with fail
            refine HX.out.mono ?_
            rintro e wk ⟨rfl, hbk⟩
            clear HX
            have HBK := Lib.hid (HB5.out.trans (hbk.mono HB5.out.size))
            clear hbk
            go_wp2_with fail
            go_ret
            exact ⟨rfl, HB.out.trans (HBK.out.mono HB.out.size)⟩
          | true =>
            have HVb := Lib.hid HRq1.out.symm
            clear HRq1
            have HX := Lib.hid (cartValid_any c _ _ _ w5 (HAc.out.below HB5.out) (HLc.out.sz (by omega)).1 (HGL.out.below HB5.out))
            obtain ⟨q2, hq2⟩ : ∃ r, r = validC c := ⟨_, rfl⟩
            rw [← hq2] at HX
            have HRq2 := Lib.hid hq2
            clear hq2
            go_wp2_with fail
            refine HX.out.mono ?_
            rintro e w6 ⟨rfl, hb⟩
            clear HX
            have HB6 := Lib.hid (HB5.out.trans (hb.mono HB5.out.size))
            clear c5_0_0 c5_0_1 c5_0_2 c5_1_0 c5_1_1 c5_1_2 c5_2_0 c5_2_1 c5_2_2
            obtain ⟨⟨c6_0_0, c6_0_1, c6_0_2⟩, ⟨c6_1_0, c6_1_1, c6_1_2⟩, ⟨c6_2_0, c6_2_1, c6_2_2⟩⟩ := HC.out w6 HB6.out
            clear hb
            cases q2 with
            | false =>
              have HX := Lib.hid (l11known_any w6 (HGL.out.below HB6.out))
              go_wp2_with fail
              refine HX.out.mono ?_
              rintro e wk ⟨rfl, hbk⟩
              clear HX
              have HBK := Lib.hid (HB6.out.trans (hbk.mono HB6.out.size))
              clear hbk
              go_wp2_with fail
              go_ret
              exact ⟨rfl, HB.out.trans (HBK.out.mono HB.out.size)⟩
            | true =>
              have HVc := Lib.hid HRq2.out.symm
              clear HRq2
              have HP := Lib.hid (groups_plain HVa.out HVb.out HVc.out)
              have hab : CL 160 (joinR a b) := by rw [(joinR_true HVa.out HVb.out).1]; exact refJoin_CL HVa.out HVb.out HLa.out HLb.out
              have hbc : CL 160 (joinR b c) := by rw [(joinR_true HVb.out HVc.out).1]; exact refJoin_CL HVb.out HVc.out HLb.out HLc.out
              have habc : CL 240 (joinR (joinR a b) c) := by rw [(joinR_true (joinR_valid a b) HVc.out).1]; exact refJoin_CL (joinR_valid a b) HVc.out hab HLc.out
              have HAB := Lib.hid (hab.sz (by omega))
              have HBC := Lib.hid (hbc.sz (by omega))
              have HABC := Lib.hid (habc.sz (by omega))
              clear hab hbc habc
              have HX := Lib.hid (joinJoin_any a b _ _ _ _ _ _ w6 (HAa.out.below HB6.out) (HAb.out.below HB6.out) (HLa.out.sz (by omega)) (HLb.out.sz (by omega)) (HGL.out.below HB6.out))
              rw [HP.out.1] at HX
              go_wp2_with fail
              refine HX.out.mono ?_
              rintro e vP ⟨y1, y2, y3, rfl, hown, hb⟩
              clear HX
              have hRA := hown.cart (joinR_valid a b)
              obtain ⟨pP1, lP1, rfl⟩ := hRA.1.slice
              obtain ⟨pP2, lP2, rfl⟩ := hRA.2.1.slice
              obtain ⟨pP3, lP3, rfl⟩ := hRA.2.2.slice
              obtain ⟨mP1, hmP1⟩ : ∃ n, n = (joinR a b).vec.length := ⟨_, rfl⟩
              obtain ⟨mP2, hmP2⟩ : ∃ n, n = (joinR a b).cloud.length := ⟨_, rfl⟩
              obtain ⟨mP3, hmP3⟩ : ∃ n, n = (joinR a b).items.length := ⟨_, rfl⟩
              rw [← hmP1, ← hmP2, ← hmP3] at hRA
              rw [← hmP1, ← hmP2, ← hmP3]
              obtain ⟨WP, hW⟩ : ∃ x, x = vP.alloc (.cells #[.slice pP1 mP1 lP1, .slice pP2 mP2 lP2, .slice pP3 mP3 lP3] 28) := ⟨_, rfl⟩
              have hb56 : Below vP.heap.size vP WP := by rw [hW]; exact (Below.refl _ _).alloc (Nat.le_refl _) _
              have hx6 : WP.heap[vP.heap.size]? = some (.cells #[.slice pP1 mP1 lP1, .slice pP2 mP2 lP2, .slice pP3 mP3 lP3] 28) := by rw [hW]; exact alloc_new _ _
              have HCP : Hid (∀ wz, Below WP.heap.size WP wz → wz.cell? ⟨vP.heap.size, 0, none⟩ = some (.slice pP1 mP1 lP1) ∧ wz.cell? ⟨vP.heap.size, 1, none⟩ = some (.slice pP2 mP2 lP2) ∧ wz.cell? ⟨vP.heap.size, 2, none⟩ = some (.slice pP3 mP3 lP3)) := Lib.hid (fun wz hz => by
                have z := (hz.block _ (lt_of_heap hx6)).trans hx6
                exact ⟨by rw [cell0 z 0]; rfl, by rw [cell0 z 1]; rfl, by rw [cell0 z 2]; rfl⟩)
              have HAP := Lib.hid (hRA.below hb56)
              have HWP := Lib.hid hW
              have HB7 := Lib.hid (HB6.out.trans ((hb.trans (hb56.mono hb.size)).mono HB6.out.size))
              have HDP7 : Hid (Below WP.heap.size WP WP) := Lib.hid (Below.refl _ _)
              clear hown hRA hb hb56 hx6 hW hmP1 hmP2 hmP3
              clear c6_0_0 c6_0_1 c6_0_2 c6_1_0 c6_1_1 c6_1_2 c6_2_0 c6_2_1 c6_2_2
              obtain ⟨⟨c7_0_0, c7_0_1, c7_0_2⟩, ⟨c7_1_0, c7_1_1, c7_1_2⟩, ⟨c7_2_0, c7_2_1, c7_2_2⟩⟩ := HC.out WP HB7.out
              obtain ⟨eP7_0, eP7_1, eP7_2⟩ := HCP.out WP HDP7.out
              have HX := Lib.hid (joinJoin_any b c _ _ _ _ _ _ WP (HAb.out.below HB7.out) (HAc.out.below HB7.out) (HLb.out.sz (by omega)) (HLc.out.sz (by omega)) (HGL.out.below HB7.out))
              rw [HP.out.2.1] at HX
              go_wp2_with (go_loud (rw [← HWP.out]))
              refine HX.out.mono ?_
              rintro e vQ ⟨y1, y2, y3, rfl, hown, hb⟩
              clear HX
              have hRA := hown.cart (joinR_valid b c)
              obtain ⟨pQ1, lQ1, rfl⟩ := hRA.1.slice
              obtain ⟨pQ2, lQ2, rfl⟩ := hRA.2.1.slice
              obtain ⟨pQ3, lQ3, rfl⟩ := hRA.2.2.slice
              obtain ⟨mQ1, hmQ1⟩ : ∃ n, n = (joinR b c).vec.length := ⟨_, rfl⟩
              obtain ⟨mQ2, hmQ2⟩ : ∃ n, n = (joinR b c).cloud.length := ⟨_, rfl⟩
              obtain ⟨mQ3, hmQ3⟩ : ∃ n, n = (joinR b c).items.length := ⟨_, rfl⟩
              rw [← hmQ1, ← hmQ2, ← hmQ3] at hRA
              rw [← hmQ1, ← hmQ2, ← hmQ3]
              obtain ⟨WQ, hW⟩ : ∃ x, x = vQ.alloc (.cells #[.slice pQ1 mQ1 lQ1, .slice pQ2 mQ2 lQ2, .slice pQ3 mQ3 lQ3] 28) := ⟨_, rfl⟩
              have hb56 : Below vQ.heap.size vQ WQ := by rw [hW]; exact (Below.refl _ _).alloc (Nat.le_refl _) _
              have hx6 : WQ.heap[vQ.heap.size]? = some (.cells #[.slice pQ1 mQ1 lQ1, .slice pQ2 mQ2 lQ2, .slice pQ3 mQ3 lQ3] 28) := by rw [hW]; exact alloc_new _ _
              have HCQ : Hid (∀ wz, Below WQ.heap.size WQ wz → wz.cell? ⟨vQ.heap.size, 0, none⟩ = some (.slice pQ1 mQ1 lQ1) ∧ wz.cell? ⟨vQ.heap.size, 1, none⟩ = some (.slice pQ2 mQ2 lQ2) ∧ wz.cell? ⟨vQ.heap.size, 2, none⟩ = some (.slice pQ3 mQ3 lQ3)) := Lib.hid (fun wz hz => by
                have z := (hz.block _ (lt_of_heap hx6)).trans hx6
                exact ⟨by rw [cell0 z 0]; rfl, by rw [cell0 z 1]; rfl, by rw [cell0 z 2]; rfl⟩)
              have HAQ := Lib.hid (hRA.below hb56)
              have HWQ := Lib.hid hW
              have HB8 := Lib.hid (HB7.out.trans ((hb.trans (hb56.mono hb.size)).mono HB7.out.size))
              have HDP8 := Lib.hid (HDP7.out.trans ((hb.trans (hb56.mono hb.size)).mono HDP7.out.size))
              have HDQ8 : Hid (Below WQ.heap.size WQ WQ) := Lib.hid (Below.refl _ _)
              clear hown hRA hb hb56 hx6 hW hmQ1 hmQ2 hmQ3
              clear c7_0_0 c7_0_1 c7_0_2 c7_1_0 c7_1_1 c7_1_2 c7_2_0 c7_2_1 c7_2_2
              obtain ⟨⟨c8_0_0, c8_0_1, c8_0_2⟩, ⟨c8_1_0, c8_1_1, c8_1_2⟩, ⟨c8_2_0, c8_2_1, c8_2_2⟩⟩ := HC.out WQ HB8.out
              clear eP7_0 eP7_1 eP7_2
              obtain ⟨eP8_0, eP8_1, eP8_2⟩ := HCP.out WQ HDP8.out
              obtain ⟨eQ8_0, eQ8_1, eQ8_2⟩ := HCQ.out WQ HDQ8.out
              have HX := Lib.hid (joinJoin_any (joinR a b) c _ _ _ _ _ _ WQ (HAP.out.below HDP8.out) (HAc.out.below HB8.out) HAB.out (HLc.out.sz (by omega)) (HGL.out.below HB8.out))
              rw [HP.out.2.2.1] at HX
              go_wp2_with (go_loud (rw [← HWQ.out]))
              refine HX.out.mono ?_
              rintro e vT ⟨y1, y2, y3, rfl, hown, hb⟩
              clear HX
              have hRA := hown.cart (joinR_valid (joinR a b) c)
              obtain ⟨pT1, lT1, rfl⟩ := hRA.1.slice
              obtain ⟨pT2, lT2, rfl⟩ := hRA.2.1.slice
              obtain ⟨pT3, lT3, rfl⟩ := hRA.2.2.slice
              obtain ⟨mT1, hmT1⟩ : ∃ n, n = (joinR (joinR a b) c).vec.length := ⟨_, rfl⟩
              obtain ⟨mT2, hmT2⟩ : ∃ n, n = (joinR (joinR a b) c).cloud.length := ⟨_, rfl⟩
              obtain ⟨mT3, hmT3⟩ : ∃ n, n = (joinR (joinR a b) c).items.length := ⟨_, rfl⟩
              rw [← hmT1, ← hmT2, ← hmT3] at hRA
              rw [← hmT1, ← hmT2, ← hmT3]
              obtain ⟨WT, hW⟩ : ∃ x, x = vT.alloc (.cells #[.slice pT1 mT1 lT1, .slice pT2 mT2 lT2, .slice pT3 mT3 lT3] 28) := ⟨_, rfl⟩
              have hb56 : Below vT.heap.size vT WT := by rw [hW]; exact (Below.refl _ _).alloc (Nat.le_refl _) _
              have hx6 : WT.heap[vT.heap.size]? = some (.cells #[.slice pT1 mT1 lT1, .slice pT2 mT2 lT2, .slice pT3 mT3 lT3] 28) := by rw [hW]; exact alloc_new _ _
              have HCT : Hid (∀ wz, Below WT.heap.size WT wz → wz.cell? ⟨vT.heap.size, 0, none⟩ = some (.slice pT1 mT1 lT1) ∧ wz.cell? ⟨vT.heap.size, 1, none⟩ = some (.slice pT2 mT2 lT2) ∧ wz.cell? ⟨vT.heap.size, 2, none⟩ = some (.slice pT3 mT3 lT3)) := Lib.hid (fun wz hz => by
                have z := (hz.block _ (lt_of_heap hx6)).trans hx6
                exact ⟨by rw [cell0 z 0]; rfl, by rw [cell0 z 1]; rfl, by rw [cell0 z 2]; rfl⟩)
              have HAT := Lib.hid (hRA.below hb56)
              have HWT := Lib.hid hW
              have HB9 := Lib.hid (HB8.out.trans ((hb.trans (hb56.mono hb.size)).mono HB8.out.size))
              have HDP9 := Lib.hid (HDP8.out.trans ((hb.trans (hb56.mono hb.size)).mono HDP8.out.size))
              have HDQ9 := Lib.hid (HDQ8.out.trans ((hb.trans (hb56.mono hb.size)).mono HDQ8.out.size))
              have HDT9 : Hid (Below WT.heap.size WT WT) := Lib.hid (Below.refl _ _)
              clear hown hRA hb hb56 hx6 hW hmT1 hmT2 hmT3
              clear c8_0_0 c8_0_1 c8_0_2 c8_1_0 c8_1_1 c8_1_2 c8_2_0 c8_2_1 c8_2_2
              obtain ⟨⟨c9_0_0, c9_0_1, c9_0_2⟩, ⟨c9_1_0, c9_1_1, c9_1_2⟩, ⟨c9_2_0, c9_2_1, c9_2_2⟩⟩ := HC.out WT HB9.out
              clear eP8_0 eP8_1 eP8_2
              obtain ⟨eP9_0, eP9_1, eP9_2⟩ := HCP.out WT HDP9.out
              clear eQ8_0 eQ8_1 eQ8_2
              obtain ⟨eQ9_0, eQ9_1, eQ9_2⟩ := HCQ.out WT HDQ9.out
              obtain ⟨eT9_0, eT9_1, eT9_2⟩ := HCT.out WT HDT9.out
              have HX := Lib.hid (l11joins_any a (joinR b c) (joinR (joinR a b) c) 0 _ _ _ _ _ _ _ _ _ WT (HAa.out.below HB9.out) (HAQ.out.below HDQ9.out) (HAT.out.below HDT9.out) (HLa.out.sz (by omega)) HBC.out (HGL.out.below HB9.out))
              rw [HP.out.2.2.2.1] at HX
              go_wp2_with (go_loud (rw [← HWT.out]))
              refine HX.out.mono ?_
              rintro e w10 ⟨rfl, hb⟩
              clear HX
              have HB10 := Lib.hid (HB9.out.trans (hb.mono HB9.out.size))
              clear c9_0_0 c9_0_1 c9_0_2 c9_1_0 c9_1_1 c9_1_2 c9_2_0 c9_2_1 c9_2_2
              obtain ⟨⟨c10_0_0, c10_0_1, c10_0_2⟩, ⟨c10_1_0, c10_1_1, c10_1_2⟩, ⟨c10_2_0, c10_2_1, c10_2_2⟩⟩ := HC.out w10 HB10.out
              have HDP10 := Lib.hid (HDP9.out.trans (hb.mono HDP9.out.size))
              clear eP9_0 eP9_1 eP9_2
              obtain ⟨eP10_0, eP10_1, eP10_2⟩ := HCP.out w10 HDP10.out
              have HDQ10 := Lib.hid (HDQ9.out.trans (hb.mono HDQ9.out.size))
              clear eQ9_0 eQ9_1 eQ9_2
              obtain ⟨eQ10_0, eQ10_1, eQ10_2⟩ := HCQ.out w10 HDQ10.out
              have HDT10 := Lib.hid (HDT9.out.trans (hb.mono HDT9.out.size))
              clear eT9_0 eT9_1 eT9_2
              obtain ⟨eT10_0, eT10_1, eT10_2⟩ := HCT.out w10 HDT10.out
              clear hb
              have HX := Lib.hid (l11joins_any b (joinR (joinR a b) c) (joinR (joinR a b) c) 0 _ _ _ _ _ _ _ _ _ w10 (HAb.out.below HB10.out) (HAT.out.below HDT10.out) (HAT.out.below HDT10.out) (HLb.out.sz (by omega)) HABC.out (HGL.out.below HB10.out))
              rw [HP.out.2.2.2.2.1] at HX
              go_wp2_with fail
              refine HX.out.mono ?_
              rintro e w11 ⟨rfl, hb⟩
              clear HX
              have HB11 := Lib.hid (HB10.out.trans (hb.mono HB10.out.size))
              clear c10_0_0 c10_0_1 c10_0_2 c10_1_0 c10_1_1 c10_1_2 c10_2_0 c10_2_1 c10_2_2
              obtain ⟨⟨c11_0_0, c11_0_1, c11_0_2⟩, ⟨c11_1_0, c11_1_1, c11_1_2⟩, ⟨c11_2_0, c11_2_1, c11_2_2⟩⟩ := HC.out w11 HB11.out
              have HDP11 := Lib.hid (HDP10.out.trans (hb.mono HDP10.out.size))
              clear eP10_0 eP10_1 eP10_2
              obtain ⟨eP11_0, eP11_1, eP11_2⟩ := HCP.out w11 HDP11.out
              have HDQ11 := Lib.hid (HDQ10.out.trans (hb.mono HDQ10.out.size))
              clear eQ10_0 eQ10_1 eQ10_2
              obtain ⟨eQ11_0, eQ11_1, eQ11_2⟩ := HCQ.out w11 HDQ11.out
              have HDT11 := Lib.hid (HDT10.out.trans (hb.mono HDT10.out.size))
              clear eT10_0 eT10_1 eT10_2
              obtain ⟨eT11_0, eT11_1, eT11_2⟩ := HCT.out w11 HDT11.out
              clear hb
              obtain ⟨WK, hWK⟩ : ∃ x, x = w11.alloc (.cells #[.slice o7 n7 k7, .slice o8 n8 k8, .slice o9 n9 k9, .slice o1 n1 k1, .slice o2 n2 k2, .slice o3 n3 k3, .slice o4 n4 k4, .slice o5 n5 k5, .slice o6 n6 k6] 28) := ⟨_, rfl⟩
              have hbk : Below w11.heap.size w11 WK := by rw [hWK]; exact (Below.refl _ _).alloc (Nat.le_refl _) _
              have hAR : Arr CartR 3 WK (.slice (some ⟨w11.heap.size, 0, none⟩) 3 3) [c, a, b] := by rw [hWK]; exact carts_lit3 _ _ (HAc.out.below HB11.out) (HAa.out.below HB11.out) (HAb.out.below HB11.out)
              have HAR := Lib.hid hAR
              have HWK := Lib.hid hWK
              clear hAR hWK
              have HB12 := Lib.hid (HB11.out.trans (hbk.mono HB11.out.size))
              have HDP12 := Lib.hid (HDP11.out.trans (hbk.mono HDP11.out.size))
              have HDQ12 := Lib.hid (HDQ11.out.trans (hbk.mono HDQ11.out.size))
              have HDT12 := Lib.hid (HDT11.out.trans (hbk.mono HDT11.out.size))
              clear hbk
              obtain ⟨⟨c12_0_0, c12_0_1, c12_0_2⟩, ⟨c12_1_0, c12_1_1, c12_1_2⟩, ⟨c12_2_0, c12_2_1, c12_2_2⟩⟩ := HC.out WK HB12.out
              obtain ⟨eP12_0, eP12_1, eP12_2⟩ := HCP.out WK HDP12.out
              obtain ⟨eQ12_0, eQ12_1, eQ12_2⟩ := HCQ.out WK HDQ12.out
              obtain ⟨eT12_0, eT12_1, eT12_2⟩ := HCT.out WK HDT12.out
              have HX := Lib.hid (l11all_any [c, a, b] (joinR (joinR a b) c) 0 _ _ _ _ WK HAR.out (HAT.out.below HDT12.out) (by simp) (cl3 HLc.out HLa.out HLb.out) (HGL.out.below HB12.out))
              rw [HP.out.2.2.2.2.2] at HX
              go_wp2_with (go_loud (rw [← HWK.out]))
              refine HX.out.mono ?_
              rintro e w13 ⟨rfl, hb⟩
              clear HX
              have HB13 := Lib.hid (HB12.out.trans (hb.mono HB12.out.size))
              clear c11_0_0 c11_0_1 c11_0_2 c11_1_0 c11_1_1 c11_1_2 c11_2_0 c11_2_1 c11_2_2 c12_0_0 c12_0_1 c12_0_2 c12_1_0 c12_1_1 c12_1_2 c12_2_0 c12_2_1 c12_2_2
              obtain ⟨⟨c13_0_0, c13_0_1, c13_0_2⟩, ⟨c13_1_0, c13_1_1, c13_1_2⟩, ⟨c13_2_0, c13_2_1, c13_2_2⟩⟩ := HC.out w13 HB13.out
              have HDP13 := Lib.hid (HDP12.out.trans (hb.mono HDP12.out.size))
              clear eP11_0 eP11_1 eP11_2 eP12_0 eP12_1 eP12_2
              obtain ⟨eP13_0, eP13_1, eP13_2⟩ := HCP.out w13 HDP13.out
              have HDQ13 := Lib.hid (HDQ12.out.trans (hb.mono HDQ12.out.size))
              clear eQ11_0 eQ11_1 eQ11_2 eQ12_0 eQ12_1 eQ12_2
              obtain ⟨eQ13_0, eQ13_1, eQ13_2⟩ := HCQ.out w13 HDQ13.out
              have HDT13 := Lib.hid (HDT12.out.trans (hb.mono HDT12.out.size))
              clear eT11_0 eT11_1 eT11_2 eT12_0 eT12_1 eT12_2
              obtain ⟨eT13_0, eT13_1, eT13_2⟩ := HCT.out w13 HDT13.out
              clear hb
              have HX := Lib.hid (l11known_any w13 (HGL.out.below HB13.out))
              go_wp2_with fail
              refine HX.out.mono ?_
              rintro e wk ⟨rfl, hbk⟩
              clear HX
              have HBK := Lib.hid (HB13.out.trans (hbk.mono HB13.out.size))
              clear hbk
              go_wp2_with fail
              go_ret
              exact ⟨rfl, HB.out.trans (HBK.out.mono HB.out.size)⟩
end Go.Proofs.YtemfaojmelljpaaGreatDoor
