/- CartHolds inside. -/
import Derived.Test.YtadbmineobldbaaGreatDoorCanonP
import Derived.Test.YtadbmineobldbaaGreatDoorD4
import Derived.Test.YtadbmineobldbaaGreatDoorD9m
import Derived.Test.YtadbmineobldbaaGreatDoorD10
namespace Go.Proofs.YtadbmineobldbaaGreatDoor
open Go.RowKit
theorem names_nodup {l : List ItemD} (h : validI l = true) : (l.map (·.name)).Nodup := rising_nodup (risB_iff.1 (validI_parts h).2.1)
theorem item_at {c : CartD} (hv : validC c = true) {k : Nat} (hk : k < c.items.length) : qtyC c c.items[k].name = qtyI c.items[k] ∧ qtyCE c c.items[k].name = 0 ∧ 1 ≤ qtyI c.items[k] ∧ 0 < (dotsC c c.items[k].name).length ∧ dotsC c c.items[k].name = dotsM c.items[k].marks := by
 have hi := (validC_parts hv).2.1;have ho := (validI_parts hi).1 c.items[k] (List.getElem_mem hk);have ht : (c.items.take k).any (fun x => decide (x.name = c.items[k].name)) = false := by
  rw [List.any_eq_false];intro x hx;obtain ⟨j, hj, rfl⟩ := List.mem_take_iff_getElem.1 hx;have hjk : j < k := by omega
  have hn := List.pairwise_iff_getElem.1 (risB_iff.1 (validI_parts hi).2.1) j k (by omega) hk hjk
  simp only [decide_eq_true_eq];intro e;rw [e] at hn;exact absurd hn (ltK_irrefl _)
 obtain ⟨hf, hth⟩ := find_nth hk rfl ht;have hsz : c.items[k].name.size ≠ 0 := by
  simp only [oneI, nameB, Bool.and_eq_true, decide_eq_true_eq] at ho;omega
 have hm := (oneI_marks ho).1;have hd : dotsC c c.items[k].name = dotsM c.items[k].marks := by
  unfold dotsC marksOf;rw [hv, if_pos rfl, if_neg hsz, hf]
 refine ⟨?_, ?_, (qtyI_pos ho).1, ?_, hd⟩
 ·unfold qtyC
  rw [hv, hth, hf]
  rfl
 ·unfold qtyCE
  rw [hv, hth]
  rfl
 ·rw [hd]
  unfold dotsM;rw [List.length_map];exact List.length_pos_iff.2 hm
theorem none_missing {c : CartD} (hv : validC c = true) : (setD (dotsC c ⟨#[]⟩)).filter (fun d => !hasX c.vec c.cloud d) = [] := by
 rw [List.filter_eq_nil_iff];intro d hd;have h1 := (setD_mem _ _).1 hd;unfold dotsC at h1;rw [hv, if_pos rfl] at h1;have h1 : d ∈ setD (allDots c.items) := h1;have := (validC_parts hv).2.2 d ((setD_mem _ _).1 h1);unfold hasC at this
 simpa using this
theorem allDots_leN {n : Nat} {l : List ItemD} (h : ∀ x ∈ l, x.marks.length ≤ n) : (allDots l).length ≤ l.length * n := by
 induction l with
 | nil => simp [allDots]
 | cons x l ih =>
  have h1 := ih (fun y hy => h y (List.mem_cons_of_mem _ hy))
  have h2 := h x List.mem_cons_self;unfold allDots at h1 ⊢;rw [List.flatMap_cons, List.length_append, List.length_cons, Nat.succ_mul];have h3 : (dotsM x.marks).length ≤ n := by unfold dotsM; rw [List.length_map]; exact h2
  omega
theorem CL.dots {n : Nat} {c : CartD} (h : CL n c) : (allDots c.items).length ≤ n * n := Nat.le_trans (allDots_leN h.2.2) (Nat.mul_le_mul_right _ h.2.1)
theorem canonI_CL {n : Nat} {l : List ItemD} (h : ∀ x ∈ l, x.marks.length ≤ n) : (canonI l).length = l.length ∧ ∀ x ∈ canonI l, x.marks.length ≤ n := by
 refine ⟨by rw [(canonI_perm l).length_eq, List.length_map], fun x hx => ?_⟩
 obtain ⟨y, hy, rfl⟩ := List.mem_map.1 ((canonI_perm l).mem_iff.1 hx)
 show (sortedM y.marks).length ≤ n
 rw [(sortedM_perm y.marks).length_eq];exact h y hy
theorem addX_len (a : List DotD × List DotD) (l : List DotD) : (addX a l).1.length + (addX a l).2.length ≤ a.1.length + a.2.length + l.length := by
 have h1 := foldX_len (setD (a.2 ++ l)) (a.1, []);have h3 := setD_leL (a.2 ++ l);rw [List.length_append] at h3;simp only [List.length_nil] at h1
 show ((setD (a.2 ++ l)).foldl stepX (a.1, [])).1.length + ((setD (a.2 ++ l)).foldl stepX (a.1, [])).2.length ≤ _
 omega
theorem canonOf_sizes {c : CartD} (h : CL 80 c) : ((canonOf c).vec.length + (canonOf c).cloud.length ≤ 6480) ∧ (canonOf c).items.length ≤ 80 ∧ (∀ x ∈ (canonOf c).items, x.marks.length ≤ 80) ∧ (allDots (canonOf c).items).length ≤ 6400 := by
 obtain ⟨h1, h2⟩ := canonI_CL h.2.2;have hd : (allDots (canonI c.items)).length ≤ 6400 := by
  rw [(allDots_canonI c.items).length_eq];exact h.dots
 refine ⟨?_, by show (canonI c.items).length ≤ 80; rw [h1]; exact h.2.1, h2, hd⟩
 have := addX_len (ctxC c) (setD (allDots (canonI c.items)));have h4 := setD_leL (allDots (canonI c.items));have h5 : (ctxC c).1.length + (ctxC c).2.length ≤ 80 := h.1
 show (addX (ctxC c) (setD (allDots (canonI c.items)))).1.length + (addX (ctxC c) (setD (allDots (canonI c.items)))).2.length ≤ 6480
 omega
end Go.Proofs.YtadbmineobldbaaGreatDoor
set_option linter.unusedSimpArgs false
set_option linter.unusedVariables false
set_option maxRecDepth 100000
set_option maxHeartbeats 16000000
namespace Go.Proofs.YtadbmineobldbaaGreatDoor
open Go.RowKit Go.Maps Go.Sort Go.Shelf
set_option linter.unusedSimpArgs false in
set_option linter.unusedVariables false in
set_option maxRecDepth 100000 in
set_option maxHeartbeats 16000000 in
theorem l10Holds_any (c : CartD) (xc1 xc2 xc3 : Value) (w : World) (hc : CartA w xc1 xc2 xc3 c) (hG : GlobIs w) :
    Calls Tryz.prog 6 #[.agg #[xc1, xc2, xc3]] w fun e w' => e = .returned (.bool true) ∧ Below w.heap.size w w' := by
  obtain ⟨o1, k1, rfl⟩ := hc.1.slice;obtain ⟨o2, k2, rfl⟩ := hc.2.1.slice;obtain ⟨o3, k3, rfl⟩ := hc.2.2.slice;obtain ⟨n1, hn1⟩ : ∃ n, n = c.vec.length := ⟨_, rfl⟩;obtain ⟨n2, hn2⟩ : ∃ n, n = c.cloud.length := ⟨_, rfl⟩;obtain ⟨n3, hn3⟩ : ∃ n, n = c.items.length := ⟨_, rfl⟩;rw [← hn1, ← hn2, ← hn3] at hc;rw [← hn1, ← hn2, ← hn3];obtain ⟨W0, hW0⟩ : ∃ x, x = w.alloc (.cells #[.slice o1 n1 k1, .slice o2 n2 k2, .slice o3 n3 k3] 28) := ⟨_, rfl⟩;have hs0 : W0.heap.size = w.heap.size + 1 := by rw [hW0, alloc_size]
  have hst0 : Below w.heap.size w W0 := by rw [hW0]; exact (Below.refl _ _).alloc (Nat.le_refl _) _
  have hbb0 : Below w.heap.size w W0 := hst0;have hx0_0 : W0.heap[w.heap.size]? = some (.cells #[.slice o1 n1 k1, .slice o2 n2 k2, .slice o3 n3 k3] 28) := by rw [hW0]; exact alloc_new _ _
  have HC : Hid (∀ wz, Below W0.heap.size W0 wz → (wz.cell? ⟨w.heap.size, 0, none⟩ = some (.slice o1 n1 k1)) ∧ (wz.cell? ⟨w.heap.size, 1, none⟩ = some (.slice o2 n2 k2)) ∧ (wz.cell? ⟨w.heap.size, 2, none⟩ = some (.slice o3 n3 k3))) := Lib.hid (fun wz hz => by
    have z0 := (hz.block _ (lt_of_heap hx0_0)).trans hx0_0;exact ⟨by rw [cell0 z0 0]; rfl, by rw [cell0 z0 1]; rfl, by rw [cell0 z0 2]; rfl⟩)
  have HK0 : Hid (∀ wz, Below W0.heap.size W0 wz → wz.heap[w.heap.size]? = some (.cells #[.slice o1 n1 k1, .slice o2 n2 k2, .slice o3 n3 k3] 28)) := Lib.hid (fun wz hz => (hz.block _ (lt_of_heap hx0_0)).trans hx0_0)
  have HB := Lib.hid hbb0;have HS : Hid (W0.heap.size = w.heap.size + 1) := Lib.hid hs0;have HW : Hid (W0 = w.alloc (.cells #[.slice o1 n1 k1, .slice o2 n2 k2, .slice o3 n3 k3] 28)) := Lib.hid (by rw [hW0])
  have HAc := Lib.hid (hc.below hbb0);have HGL := Lib.hid (hG.below hbb0);have HB0 : Hid (Below W0.heap.size W0 W0) := Lib.hid (Below.refl _ _);clear hW0 hs0 hst0 hx0_0 hbb0 hc hG hn1 hn2 hn3;obtain ⟨c0_0_0, c0_0_1, c0_0_2⟩ := HC.out W0 (Below.refl _ _)
  go_enter Tryz.func6, Tryz.ntmps6
  go_wp2_with fail
  rw [← HW.out];have HX := Lib.hid (l10light_any c _ _ _ W0 (HAc.out.below HB0.out));obtain ⟨r1, hr1⟩ : ∃ r, r = lightC c := ⟨_, rfl⟩;rw [← hr1] at HX;have HRr1 := Lib.hid hr1;clear hr1;refine HX.out.mono ?_;rintro e w1 ⟨rfl, hb⟩;clear HX;have HB1 := Lib.hid (HB0.out.trans (hb.mono HB0.out.size));clear c0_0_0 c0_0_1 c0_0_2;obtain ⟨c1_0_0, c1_0_1, c1_0_2⟩ := HC.out w1 HB1.out;clear hb
  cases r1 with
  | false =>
    have HX := Lib.hid (l10known_any w1 (HGL.out.below HB1.out))
    go_wp2_with fail
    refine HX.out.mono ?_;rintro e wk ⟨rfl, hbk⟩;clear HX;have HBK := Lib.hid (HB1.out.trans (hbk.mono HB1.out.size));clear hbk
    go_wp2_with fail
    go_ret
    exact ⟨rfl, HB.out.trans (HBK.out.mono HB.out.size)⟩
  | true =>
    have HLc := Hd (lightC_CL HRr1.out.symm);clear HRr1
    cases hk : canonOk c with
    | false =>
      have e1 : canonC c = zeroC := by unfold canonC; rw [hk]; rfl
      have e2 : canonE c = 2 := by unfold canonE; rw [hk]; rfl
      have HV : Hid (validC c = false) := Hd (by cases h : validC c with | false => rfl | true => rw [(canon_self h).1] at hk; cases hk)
      clear hk;have HP := Hd (And.intro e1 e2);clear e1 e2;have HX := Lib.hid (cartCanon_any c _ _ _ w1 (HAc.out.below HB1.out) (HLc.out.sz (by omega)) (Nat.le_trans HLc.out.dots (by omega)) (HGL.out.below HB1.out))
      rw [HP.out.1, HP.out.2] at HX
      go_wp2_with fail
      refine HX.out.mono ?_;rintro e vX ⟨y1, y2, y3, rfl, hown, hb⟩;clear HX;have hRA := hown.cart zeroC_valid;obtain ⟨pX1, mX1, lX1, pX2, mX2, lX2, pX3, mX3, lX3, rfl, rfl, rfl, hm1, hm2, hm3⟩ := opn4 hRA;obtain ⟨WX, HWX, HBX0, HSWX, HCX⟩ := box1 vX #[.slice pX1 mX1 lX1, .slice pX2 mX2 lX2, .slice pX3 mX3 lX3] 28;have HCX := Hd (fun wz hz => cel3 (HCX.out wz hz))
      have HAX := Hd (hRA.below HBX0.out);have HOX := Hd (hown.below HBX0.out);have HMX := Hd hm3;have HB2 := Lib.hid (HB1.out.trans ((btr hb HBX0.out).mono HB1.out.size));have HDX2 : Hid (Below WX.heap.size WX WX) := Lib.hid (Below.refl _ _);clear hown hRA hb HBX0 hm1 hm2 hm3;clear c1_0_0 c1_0_1 c1_0_2;obtain ⟨c2_0_0, c2_0_1, c2_0_2⟩ := HC.out WX HB2.out;obtain ⟨eX2_0, eX2_1, eX2_2⟩ := HCX.out WX HDX2.out;have HX := Lib.hid (cartValid_any c _ _ _ WX (HAc.out.below HB2.out) (HLc.out.sz (by omega)).1 (HGL.out.below HB2.out))
      rw [HV.out] at HX
      go_wp2_with (go_loud (rw [← HWX.out]))
      refine HX.out.mono ?_;rintro e w3 ⟨rfl, hb⟩;clear HX;have HB3 := Lib.hid (HB2.out.trans (hb.mono HB2.out.size));clear c2_0_0 c2_0_1 c2_0_2;obtain ⟨c3_0_0, c3_0_1, c3_0_2⟩ := HC.out w3 HB3.out;have HDX3 := Lib.hid (HDX2.out.trans (hb.mono HDX2.out.size));clear eX2_0 eX2_1 eX2_2;obtain ⟨eX3_0, eX3_1, eX3_2⟩ := HCX.out w3 HDX3.out;clear hb;have HX := Lib.hid (l10known_any w3 (HGL.out.below HB3.out))
      go_wp2_with fail
      refine HX.out.mono ?_;rintro e wk ⟨rfl, hbk⟩;clear HX;have HBK := Lib.hid (HB3.out.trans (hbk.mono HB3.out.size));clear hbk
      go_wp2_with fail
      go_ret
      exact ⟨rfl, HB.out.trans (HBK.out.mono HB.out.size)⟩
    | true =>
      obtain ⟨X, hX⟩ : ∃ X, X = canonOf c := ⟨_, rfl⟩;have e1 : canonC c = X := by unfold canonC; rw [hk, hX]; rfl
      have e2 : canonE c = 0 := by unfold canonE; rw [hk]; rfl
      have HP := Hd (And.intro e1 e2);have hsz := canonOf_sizes HLc.out;rw [← hX] at hsz;have hvx : validC X = true := by rw [hX]; exact canonOf_valid hk
      have HVX := Hd hvx;have HSX : Hid (SzC X) := Hd ⟨⟨by have := hsz.2.1; omega, fun x hx => by have := hsz.2.2.1 x hx; omega⟩, by have := hsz.1; omega⟩
      have HDX : Hid ((allDots X.items).length ≤ 9000) := Hd (by have := hsz.2.2.2; omega)
      have HIX : Hid (X.items.length ≤ 80) := Hd hsz.2.1;have HSELF : Hid ((decide (canonC X = X) && (canonE X == 0)) = true) := Hd (by unfold canonC canonE; rw [(canon_self hvx).1, (canon_self hvx).2]; simp)
      have HEQ : Hid (validC c = true → X = c) := Hd (fun h => by rw [hX]; exact (canon_self h).2)
      clear e1 e2 hk hsz hvx hX;have HX := Lib.hid (cartCanon_any c _ _ _ w1 (HAc.out.below HB1.out) (HLc.out.sz (by omega)) (Nat.le_trans HLc.out.dots (by omega)) (HGL.out.below HB1.out))
      rw [HP.out.1, HP.out.2] at HX
      go_wp2_with fail
      refine HX.out.mono ?_;rintro e vX ⟨y1, y2, y3, rfl, hown, hb⟩;clear HX;have hRA := hown.cart HVX.out;obtain ⟨pX1, mX1, lX1, pX2, mX2, lX2, pX3, mX3, lX3, rfl, rfl, rfl, hm1, hm2, hm3⟩ := opn4 hRA;obtain ⟨WX, HWX, HBX0, HSWX, HCX⟩ := box1 vX #[.slice pX1 mX1 lX1, .slice pX2 mX2 lX2, .slice pX3 mX3 lX3] 28;have HCX := Hd (fun wz hz => cel3 (HCX.out wz hz))
      have HAX := Hd (hRA.below HBX0.out);have HOX := Hd (hown.below HBX0.out);have HMX := Hd hm3;have HB2 := Lib.hid (HB1.out.trans ((btr hb HBX0.out).mono HB1.out.size));have HDX2 : Hid (Below WX.heap.size WX WX) := Lib.hid (Below.refl _ _);clear hown hRA hb HBX0 hm1 hm2 hm3;clear c1_0_0 c1_0_1 c1_0_2;obtain ⟨c2_0_0, c2_0_1, c2_0_2⟩ := HC.out WX HB2.out;obtain ⟨eX2_0, eX2_1, eX2_2⟩ := HCX.out WX HDX2.out;clear HP;have HX := Lib.hid (cartValid_any X _ _ _ WX (HAX.out.below HDX2.out) HSX.out.1 (HGL.out.below HB2.out));rw [HVX.out] at HX
      go_wp2_with (go_loud (rw [← HWX.out]))
      refine HX.out.mono ?_;rintro e w3 ⟨rfl, hb⟩;clear HX;have HB3 := Lib.hid (HB2.out.trans (hb.mono HB2.out.size));clear c2_0_0 c2_0_1 c2_0_2;obtain ⟨c3_0_0, c3_0_1, c3_0_2⟩ := HC.out w3 HB3.out;have HDX3 := Lib.hid (HDX2.out.trans (hb.mono HDX2.out.size));clear eX2_0 eX2_1 eX2_2;obtain ⟨eX3_0, eX3_1, eX3_2⟩ := HCX.out w3 HDX3.out;clear hb;have HX := Lib.hid (l10canon_any X X 0 _ _ _ _ _ _ w3 (HAX.out.below HDX3.out) (HAX.out.below HDX3.out) HSX.out HDX.out (HGL.out.below HB3.out));rw [HSELF.out] at HX
      go_wp2_with fail
      refine HX.out.mono ?_;rintro e w4 ⟨rfl, hb⟩;clear HX;have HB4 := Lib.hid (HB3.out.trans (hb.mono HB3.out.size));clear c3_0_0 c3_0_1 c3_0_2;obtain ⟨c4_0_0, c4_0_1, c4_0_2⟩ := HC.out w4 HB4.out;have HDX4 := Lib.hid (HDX3.out.trans (hb.mono HDX3.out.size));clear eX3_0 eX3_1 eX3_2;obtain ⟨eX4_0, eX4_1, eX4_2⟩ := HCX.out w4 HDX4.out;clear hb;have HX := Lib.hid (cartValid_any c _ _ _ w4 (HAc.out.below HB4.out) (HLc.out.sz (by omega)).1 (HGL.out.below HB4.out))
      obtain ⟨r2, hr2⟩ : ∃ r, r = validC c := ⟨_, rfl⟩;rw [← hr2] at HX;have HRr2 := Lib.hid hr2;clear hr2
      go_wp2_with fail
      refine HX.out.mono ?_;rintro e w5 ⟨rfl, hb⟩;clear HX;have HB5 := Lib.hid (HB4.out.trans (hb.mono HB4.out.size));clear c4_0_0 c4_0_1 c4_0_2;obtain ⟨c5_0_0, c5_0_1, c5_0_2⟩ := HC.out w5 HB5.out;have HDX5 := Lib.hid (HDX4.out.trans (hb.mono HDX4.out.size));clear eX4_0 eX4_1 eX4_2;obtain ⟨eX5_0, eX5_1, eX5_2⟩ := HCX.out w5 HDX5.out;clear hb;have HEC := Hd (r10Equal_any X c _ _ _ _ _ _ w5 (HAX.out.below HDX5.out) (HAc.out.below HB5.out))
      rcases r2 with _ | _
      all_goals first
        | (have hf : Hid (false = validC c) := HRr2
           clear hf HEC;have HB6 := Lib.hid (HB5.out.trans ((Below.refl _ _).mono HB5.out.size));clear c5_0_0 c5_0_1 c5_0_2;obtain ⟨c6_0_0, c6_0_1, c6_0_2⟩ := HC.out _ HB6.out;have HDX6 := Lib.hid (HDX5.out.trans ((Below.refl _ _).mono HDX5.out.size));clear eX5_0 eX5_1 eX5_2;obtain ⟨eX6_0, eX6_1, eX6_2⟩ := HCX.out _ HDX6.out)
        | (have HX := Hd (show _ from HEC.out)
           clear HEC;rw [HEQ.out HRr2.out.symm, decide_eq_true rfl] at HX
           go_wp2_with fail
           refine HX.out.mono ?_;rintro e w99 ⟨rfl, hb⟩;clear HX;have HB6 := Lib.hid (HB5.out.trans (hb.mono HB5.out.size));clear c5_0_0 c5_0_1 c5_0_2;obtain ⟨c6_0_0, c6_0_1, c6_0_2⟩ := HC.out w99 HB6.out;have HDX6 := Lib.hid (HDX5.out.trans (hb.mono HDX5.out.size));clear eX5_0 eX5_1 eX5_2;obtain ⟨eX6_0, eX6_1, eX6_2⟩ := HCX.out w99 HDX6.out;clear hb)
      all_goals
        clear HRr2 HEQ HSELF;have HX := Hd (cartNames_any X _ _ _ _ (HAX.out.below HDX6.out) HSX.out.1 (HGL.out.below HB6.out))
        go_wp2_with fail
        refine HX.out.mono ?_;rintro e wn ⟨vn, rfl, hrow, hb⟩;clear HX;have HB7 := Lib.hid (HB6.out.trans (hb.mono HB6.out.size));clear c6_0_0 c6_0_1 c6_0_2;obtain ⟨c7_0_0, c7_0_1, c7_0_2⟩ := HC.out wn HB7.out;have HDX7 := Lib.hid (HDX6.out.trans (hb.mono HDX6.out.size));clear eX6_0 eX6_1 eX6_2;obtain ⟨eX7_0, eX7_1, eX7_2⟩ := HCX.out wn HDX7.out;clear hb;have hst := StrS.of_row hrow;have hnm : namesV X = X.items.map (·.name) := by unfold namesV; rw [HVX.out]; rfl
        rw [hnm] at hst;obtain ⟨on, cn, rfl, hnl, hne⟩ := hst;have hne2 : ∀ k (h : k < X.items.length), ∃ b off, on = some ⟨b, off, none⟩ ∧ b < wn.heap.size ∧ wn.cell? ⟨b, off + k, none⟩ = some (.string X.items[k].name) := fun k h => by
          obtain ⟨b, off, e1, e2, e3⟩ := hne k (by rw [List.length_map]; exact h)
          exact ⟨b, off, e1, e2, by rw [e3, List.getElem_map]⟩
        have HNE := Hd hne2;rw [List.length_map, ← HMX.out];clear hnm hnl hne hne2 hrow;have HDW := Hd (HDX7.out);have HBW := Hd (HB.out.trans (HB7.out.mono HB.out.size));have HGW := Hd (HGL.out.below HB7.out);have HIT := Hd (fun k hk => item_at HVX.out (k := k) hk)
        have HUS := Hd (fun k h => unitsI_snoc X.items k h)
        have HON : Hid (∀ x ∈ X.items, oneI x = true) := Hd (validI_parts (validC_parts HVX.out).2.1).1;have HUX : Hid (unitsC X = unitsI X.items) := Hd (by unfold unitsC; rw [HVX.out]; rfl)
        go_wp2_with fail
        clear c7_0_0 c7_0_1 c7_0_2 eX7_0 eX7_1 eX7_2
        go_loopw [5, 51] (fun sv iv wr => ∃ k : Nat, k ≤ mX3 ∧ iv = .int .i64 k ∧ sv = .int .i64 (unitsI (X.items.take k)) ∧ Below wn.heap.size wn wr) (fun _ iv _ => mX3 - (intOf iv).toNat)
        case atStart => exact ⟨0, Nat.zero_le _, rfl, rfl, Below.refl _ _⟩
        case round =>
          obtain ⟨k, hk, rfl, rfl, hB⟩ := hrel;have HBR := Hd hB;have HDR := Hd (btr HDW.out hB);clear hB
          by_cases hlt : k < mX3
          · have hlt' : k < X.items.length := by have := HMX.out; omega
            obtain ⟨b, off, rfl, hbl, e0⟩ := HNE.out k hlt';have f0 : wr.cell? ⟨b, off + k, none⟩ = some (.string X.items[k].name) := by rw [HBR.out.cell (p := ⟨_, _, _⟩) hbl]; exact e0
            obtain ⟨q1, q2, q3, q4, -⟩ := HIT.out k hlt';have HQ := cartQty_any X X.items[k].name _ _ _ wr (HAX.out.below HDR.out) HSX.out.1 (HGW.out.below HBR.out);rw [q1, q2] at HQ;have HQ := Hd HQ;have HD := Hd (fun (w2 : World) (hb2 : Below wr.heap.size wr w2) => cartDots_any X X.items[k].name _ _ _ w2 (HAX.out.below (btr HDR.out hb2)) HSX.out.1 (HGW.out.below (btr HBR.out hb2)))
            have hbd := unitsI_bound HON.out k (by omega)
            have hbq := qtyI_bound (HON.out _ (List.getElem_mem hlt'));have HU1 := Hd (HUS.out k hlt');have hix := HIX.out;have hmx := HMX.out;generalize X.items[k].name = nm at *
            generalize qtyI X.items[k] = q at *
            generalize unitsI (X.items.take k) = u at *
            have hwr : IntKind.i64.wrap (u + q) = u + q := by rw [IntKind.wrap_i64]; omega
            have hkw : IntKind.i64.wrap ((k : Int) + 1) = (k : Int) + 1 := by rw [IntKind.wrap_i64]; omega
            have a0 : (0 : Int) ≤ k := by omega
            have a1 : (k : Int) < (mX3 : Int) := by omega
            have a2 : ¬ (q < 1) := by omega
            have t0 : (((dotsC X nm).length : Int) == 0) = false := by rw [beq_eq_false_iff_ne]; omega
            clear q1 q2 q3 q4 hbd hbq hix hmx e0 hbl;obtain ⟨g0, g1, g2⟩ := HCX.out wr HDR.out
            go_wp2_with fail
            refine HQ.out.mono ?_;rintro e w2 ⟨rfl, hb2⟩;have HB2 := Hd (btr HBR.out hb2);have HD2 := Hd (HD.out w2 hb2);clear g0 g1 g2;obtain ⟨g0, g1, g2⟩ := HCX.out w2 (btr HDR.out hb2);clear hb2 HQ HD f0
            go_wp2_with fail
            refine HD2.out.mono ?_;rintro e w3 ⟨v3, rfl, hr3, hb3⟩;obtain ⟨o3', c3', rfl⟩ := hr3.slice;have HB3 := Hd (btr HB2.out hb3);clear hb3 hr3 HD2 g0 g1 g2
            go_wp2_with fail
            go_roundw
            case rel => exact ⟨k + 1, by omega, by go_num, by rw [HU1.out], HB3.out⟩
            case measure => simp [intOf]; omega
          · have hke : k = mX3 := by omega
            have a1 : ¬ ((k : Int) < (mX3 : Int)) := by omega
            have hU : unitsI (X.items.take k) = unitsC X := by rw [HUX.out, hke, HMX.out, List.take_length]
            rw [hU];have HUN := Hd (cartUnits_any X _ _ _ wr.drew (HAX.out.below (btr HDR.out bdr)) HSX.out.1 (HGW.out.below (btr HBR.out bdr)));have HCR := Hd (fun wz (hz : Below wr.heap.size wr wz) => HCX.out wz (btr HDR.out hz))
            have HAR := Hd (fun wz (hz : Below wr.heap.size wr wz) => HAX.out.below (btr HDR.out hz))
            have HGR := Hd (fun wz (hz : Below wr.heap.size wr wz) => HGW.out.below (btr HBR.out hz))
            have HMS := Hd (none_missing HVX.out);generalize unitsC X = U at *
            clear hU HUS HIT HNE hke HON HUX
            go_upto_region 18 with fail
            refine NQ.to ?_;refine wp_region_held_drew (S := (fun wz => Below wr.heap.size wr wz)) (by kernel_rfl) (bdr) (fun hS => ?_)
            refine tkR (n := 2) [0, 1] rfl (by decide +kernel) hS ?_
            iterate 2 ((try simp only [Act.put, s1, s2, s3, s4, s5, s6]); refine ⟨_, ?_, rfl, Or.inl ⟨by kernel_rfl, fun w hSw => ok_of fun z hz => ?_⟩, ?_⟩; rotate_left; · (obtain ⟨f0, f1, f2⟩ := HCR.out _ hSw; go_simp; exact hz))
            refine RunOK.done ?_
            try simp only [Act.put, s1, s2, s3, s4, s5, s6]
            refine rd1 2 (by decide +kernel) rfl (fun K hK => ?_)
            go_simp
            go_at_call 19
            refine HUN.out.mono ?_;rintro e x1 ⟨rfl, hx1⟩;have hx1 := btr (show Below wr.heap.size wr wr.drew from bdr) hx1
            go_simp;refine Shut.out hK _ _ (hx1) (fun hS2 => ?_); clear hK K hS; have hS := hS2; clear hS2
            try simp only [Act.put, s1, s2, s3, s4, s5, s6]
            refine tkR (n := 13) [3, 4, 5, 6, 7, 8, 9, 10, 11, 12, 13, 14, 15] rfl (by decide +kernel) hS ?_
            iterate 13 ((try simp only [Act.put, s1, s2, s3, s4, s5, s6]); refine ⟨_, ?_, rfl, Or.inl ⟨by kernel_rfl, fun w hSw => ok_of fun z hz => ?_⟩, ?_⟩; rotate_left; · (obtain ⟨f0, f1, f2⟩ := HCR.out _ hSw; go_simp; exact hz))
            refine RunOK.done ?_
            try simp only [Act.put, s1, s2, s3, s4, s5, s6]
            refine rd1 16 (by decide +kernel) rfl (fun K hK => ?_)
            go_simp
            go_at_call 20
            refine (cartDots_any X ⟨#[]⟩ _ _ _ x1 (HAR.out _ hx1) HSX.out.1 (HGR.out _ hx1)).mono ?_;rintro e x2 ⟨v2, rfl, hr2, hx2⟩;have hx2 := btr hx1 hx2;have hA2 := hr2.dots (dotsC_DI (HAR.out _ hx2) ⟨#[]⟩);obtain ⟨oo2, cc2, rfl⟩ := hr2.slice;clear hr2;go_simp;refine Shut.out hK _ _ (hx2) (fun hS2 => ?_); clear hK K hS; have hS := hS2; clear hS2
            try simp only [Act.put, s1, s2, s3, s4, s5, s6]
            refine rd1 17 (by decide +kernel) rfl (fun K hK => ?_)
            go_simp
            go_at_call 31
            refine (ctxMissing_any X.vec X.cloud _ _ _ _ x2 (HAR.out _ hx2).1 (HAR.out _ hx2).2.1 hA2 (by have := HDX.out; have := dotsC_len X ⟨#[]⟩; omega)).mono ?_
            rw [HMS.out];rintro e x3 ⟨v3, rfl, hr3, hx3⟩;have hx3 := btr hx2 hx3;obtain ⟨oo3, cc3, rfl⟩ := hr3.slice;clear hr3;go_simp;refine Shut.out hK _ _ (hx3) (fun hS2 => ?_); clear hK K hS; have hS := hS2; clear hS2
            try simp only [Act.put, s1, s2, s3, s4, s5, s6]
            refine tkR (n := 4) [18, 19, 20, 21] rfl (by decide +kernel) hS ?_
            iterate 4 ((try simp only [Act.put, s1, s2, s3, s4, s5, s6]); refine ⟨_, ?_, rfl, Or.inl ⟨by kernel_rfl, fun w hSw => ok_of fun z hz => ?_⟩, ?_⟩; rotate_left; · (obtain ⟨f0, f1, f2⟩ := HCR.out _ hSw; go_simp; exact hz))
            refine RunOK.done ?_
            try simp only [Act.put, s1, s2, s3, s4, s5, s6]
            refine rd1 22 (by decide +kernel) rfl (fun K hK => ?_)
            go_simp
            go_at_call 9
            refine (l10known_any x3 (HGR.out _ hx3)).mono ?_;rintro e x4 ⟨rfl, hx4⟩;have hx4 := btr hx3 hx4;go_simp;refine Shut.out hK _ _ (hx4) (fun hS2 => ?_); clear hK K hS; have hS := hS2; clear hS2
            try simp only [Act.put, s1, s2, s3, s4, s5, s6]
            refine tkR (n := 2) [23, 24] rfl (by decide +kernel) hS ?_
            iterate 2 ((try simp only [Act.put, s1, s2, s3, s4, s5, s6]); refine ⟨_, ?_, rfl, Or.inl ⟨by kernel_rfl, fun w hSw => ok_of fun z hz => ?_⟩, ?_⟩; rotate_left; · (obtain ⟨f0, f1, f2⟩ := HCR.out _ hSw; go_simp; exact hz))
            refine RunOK.done ?_
            try simp only [Act.put, s1, s2, s3, s4, s5, s6]
            refine wpAnyH_done (by kernel_rfl) ?_ _
            try simp only [Act.put, s1, s2, s3, s4, s5, s6]
            simp only [NQ];have HFI := Hd (btr HBR.out hx4);clear hx1 hx2 hx3 hx4 hA2 hS
            go_wp2_with fail
            go_ret
            exact ⟨rfl, btr HBW.out HFI.out⟩
end Go.Proofs.YtadbmineobldbaaGreatDoor
