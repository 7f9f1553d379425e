/- slices.Contains at marks; all of the law. -/
import Derived.Test.YtemfaojmelljpaaGreatDoorC19
import Derived.Test.YtemfaojmelljpaaGreatDoorIt6
import Derived.Test.YtemfaojmelljpaaGreatDoorIt10
set_option linter.unusedSimpArgs false
set_option linter.unusedVariables false
set_option maxRecDepth 100000
set_option maxHeartbeats 8000000
namespace Go.Proofs.YtemfaojmelljpaaGreatDoor
open Go.RowKit Go.Maps Go.Sort Go.Shelf

theorem Arr.cartAt {w : World} {v : Value} {l : List CartD} (h : Arr CartR 3 w v l) : ∃ (o : Option Addr) (c : Nat), v = .slice o l.length c ∧ ∀ i (hi : i < l.length), ∃ b off v1 v2 v3, o = some ⟨b, off, none⟩ ∧ b < w.heap.size ∧ w.cell? ⟨b, off + i * 3, none⟩ = some v1 ∧ w.cell? ⟨b, off + i * 3 + 1, none⟩ = some v2 ∧ w.cell? ⟨b, off + i * 3 + 2, none⟩ = some v3 ∧ CartA w v1 v2 v3 l[i] := by
 obtain ⟨o, c, rfl, h2, h3, hel⟩ := h;refine ⟨o, c, rfl, fun i hi => ?_⟩
 obtain ⟨b, off, cs, h1, h4, h5, hR, h9⟩ := hel i hi;obtain ⟨v1, v2, v3, rfl, hA⟩ := hR.cart;exact ⟨b, off, v1, v2, v3, h1, h4, h9 0 (by decide), h9 1 (by decide), h9 2 (by decide), hA⟩
theorem Arr.carts {w w' : World} {v : Value} {l : List CartD} (h : Arr CartR 3 w v l) (hb : Below w.heap.size w w') : Arr CartR 3 w' v l := h.mono (fun _ _ h => h.below hb) hb
theorem OwnC.stay {base : Nat} {w w' : World} {x1 x2 x3 : Value} {c : CartD} (h : OwnC base w x1 x2 x3 c) (hb : ∀ k, base ≤ k → w'.heap[k]? = w.heap[k]?) : OwnC base w' x1 x2 x3 c := by
 obtain ⟨h1, h2, ps, h3, h4⟩ := h;exact ⟨h1.stay (fun k hk => hb k (h1.lt k hk).1), h2.stay (fun k hk => hb k (h2.lt k hk).1), ps, h3, h4.stayF (fun k hk _ _ => hb k hk)⟩
theorem joinR_true {a b : CartD} (ha : validC a = true) (hb : validC b = true) : joinR a b = refJoin a b ∧ joinE a b = 0 := by
 unfold joinR joinE;rw [ha, hb]; exact ⟨rfl, rfl⟩
theorem joinR_false {a b : CartD} (hb : validC b = false) : joinR a b = zeroC ∧ joinE a b = 2 := by
 unfold joinR joinE;rw [hb, Bool.and_false]; exact ⟨rfl, rfl⟩
theorem set3_alloc (w : World) (o : Obj) (n : Nat) (a b c : Value) (hn : n < w.heap.size) : (((w.alloc o).setCell ⟨n, 0, none⟩ a).setCell ⟨n, 1, none⟩ b).setCell ⟨n, 2, none⟩ c = (((w.setCell ⟨n, 0, none⟩ a).setCell ⟨n, 1, none⟩ b).setCell ⟨n, 2, none⟩ c).alloc o := by
 rw [World.setCell_alloc_past _ _ _ _ hn, World.setCell_alloc_past _ _ _ _ (by rw [setCell_size]; exact hn), World.setCell_alloc_past _ _ _ _ (by rw [setCell_size, setCell_size]; exact hn)]
def allV (l : List CartD) : Bool := l.all validC
def allR (l : List CartD) : CartD := if allV l then allC l else zeroC
def allE (l : List CartD) : Int := if allV l then 0 else 2
theorem allC_snoc (l : List CartD) (k : Nat) (h : k < l.length) : allC (l.take (k + 1)) = refJoin (allC (l.take k)) l[k] := by
 unfold allC;rw [List.take_succ_eq_append_getElem h, List.foldl_append]; rfl
theorem allV_snoc (l : List CartD) (k : Nat) (h : k < l.length) : allV (l.take (k + 1)) = (allV (l.take k) && validC l[k]) := by
 unfold allV;rw [List.take_succ_eq_append_getElem h, List.all_append]; simp
theorem allV_valid {l : List CartD} (h : allV l = true) : validC (allC l) = true := allC_valid (fun c hc => List.all_eq_true.1 h c hc)
theorem allR_valid (l : List CartD) : validC (allR l) = true := by
 unfold allR
 by_cases h : allV l = true
 ·rw [if_pos h]; exact allV_valid h
 ·rw [if_neg h]; exact zeroC_valid
theorem joinAll_any (l : List CartD) (v : Value) (w : World) (h : Arr CartR 3 w v l) (hl : l.length ≤ 10) (hs : ∀ c ∈ l, CL 80 c) (hG : GlobIs w) : Calls Tryz.prog 45 #[v] w (CartPost (allR l) (allE l) w) := by
 have hn := h.len;obtain ⟨o, cc, rfl, hel⟩ := h.cartAt;obtain ⟨W0, hW0⟩ : ∃ x, x = w.alloc (.cells #[.slice none 0 0, .slice none 0 0, .slice none 0 0] 28) := ⟨_, rfl⟩;have hs0 : W0.heap.size = w.heap.size + 1 := by rw [hW0, alloc_size]
 have hst0 : Below w.heap.size w W0 := by rw [hW0]; exact bal
 have hbb0 : Below w.heap.size w W0 := hst0;have hx0_0 : W0.heap[w.heap.size]? = some (.cells #[.slice none 0 0, .slice none 0 0, .slice none 0 0] 28) := by rw [hW0]; exact alloc_new _ _
 obtain ⟨W1, hW1⟩ : ∃ x, x = W0.alloc (.cells #[.slice none 0 0, .slice none 0 0, .slice none 0 0] 28) := ⟨_, rfl⟩;have hs1 : W1.heap.size = w.heap.size + 1 + 1 := by rw [hW1, alloc_size, hs0]
 have hst1 : Below W0.heap.size W0 W1 := by rw [hW1]; exact bal
 have hbb1 : Below w.heap.size w W1 := btr hbb0 hst1;have hx1_1 : W1.heap[w.heap.size + 1]? = some (.cells #[.slice none 0 0, .slice none 0 0, .slice none 0 0] 28) := by rw [hW1, ← hs0]; exact alloc_new _ _
 have hx0_1 : W1.heap[w.heap.size]? = _ := (hst1.block _ (lt_of_heap hx0_0)).trans hx0_0;have HC := Hd (fun wz (hz : Below W1.heap.size W1 wz) => And.intro (cel3 ((hz.block _ (lt_of_heap hx0_1)).trans hx0_1)) (cel3 ((hz.block _ (lt_of_heap hx1_1)).trans hx1_1)))
 have HK0 : Hid (∀ wz, Below W1.heap.size W1 wz → wz.heap[w.heap.size]? = some (.cells #[.slice none 0 0, .slice none 0 0, .slice none 0 0] 28)) := Hd (fun wz hz => (hz.block _ (lt_of_heap hx0_1)).trans hx0_1)
 have HK1 : Hid (∀ wz, Below W1.heap.size W1 wz → wz.heap[w.heap.size + 1]? = some (.cells #[.slice none 0 0, .slice none 0 0, .slice none 0 0] 28)) := Hd (fun wz hz => (hz.block _ (lt_of_heap hx1_1)).trans hx1_1)
 have hbbL := hbb1;have HB := Hd hbb1;have HS : Hid (W1.heap.size = w.heap.size + 1 + 1) := Hd hs1;have HW : Hid (W1 = (w.alloc (.cells #[.slice none 0 0, .slice none 0 0, .slice none 0 0] 28)).alloc (.cells #[.slice none 0 0, .slice none 0 0, .slice none 0 0] 28)) := Hd (by rw [hW1, hW0])
 have HEL := Hd hel;have HG0 := Hd hG;have HSZ := Hd hs;have HFF : Hid (allV l = false → ∀ w', Below w.heap.size w w' → CartPost (allR l) (allE l) w (.returned (.tuple #[.agg #[.slice none 0 0, .slice none 0 0, .slice none 0 0], .int .i64 2])) w') := Hd (fun hv w' hb => by
  unfold allR allE;rw [hv];exact ⟨_, _, _, rfl, OwnC.zero _ _, hb⟩)
 have HFT : Hid (allV l = true → ∀ w' y1 y2 y3, OwnC w.heap.size w' y1 y2 y3 (allC l) → Below w.heap.size w w' → CartPost (allR l) (allE l) w (.returned (.tuple #[.agg #[y1, y2, y3], .int .i64 0])) w') := Hd (fun hv w' y1 y2 y3 ho hb => by
  unfold allR allE;rw [hv];exact ⟨_, _, _, rfl, ho, hb⟩)
 generalize allR l = R at *
 generalize allE l = E at *
 clear hbbL hW0 hs0 hst0 hW1 hs1 hst1 hx0_0 hx0_1 hx1_1 hbb0 hbb1 hG hs h hel
 go_enter Tryz.func45, Tryz.ntmps45
 go_wp2_with fail
 rw [← HW.out];have hbo0 := HK1.out W1 brf;have hre0 := HK0.out W1 brf;have HBO0 := Hd hbo0;have HRE0 := Hd hre0;clear hbo0 hre0
 go_loopw [11] (fun i wr => ∃ k y1 y2 y3, k ≤ l.length ∧ i = .int .i64 ((k : Nat) : Int) ∧ allV (l.take k) = true ∧ CL (80 * k) (allC (l.take k)) ∧ wr.heap[w.heap.size + 1]? = some (.cells #[y1, y2, y3] 28) ∧ OwnC (w.heap.size + 1 + 1) wr y1 y2 y3 (allC (l.take k)) ∧ wr.heap[w.heap.size]? = some (.cells #[.slice none 0 0, .slice none 0 0, .slice none 0 0] 28) ∧ Below w.heap.size w wr ∧ w.heap.size + 1 + 1 ≤ wr.heap.size) (fun i _ => l.length - (intOf i).toNat)
 case atStart => exact ⟨0, _, _, _, Nat.zero_le _, rfl, rfl, ⟨by simp [allC, zeroC], by simp [allC, zeroC], by simp [allC, zeroC]⟩, HBO0.out, OwnC.zero _ _, HRE0.out, HB.out, Nat.le_of_eq HS.out.symm⟩
 case round =>
  obtain ⟨k, y1, y2, y3, hk, rfl, hav, hcl, hbo, hown, hre, hB, hsz⟩ := hrel;have hCv := allV_valid hav;have hoA := hown.cart hCv;obtain ⟨q1, e1, rfl⟩ := hoA.1.slice;obtain ⟨q2, e2, rfl⟩ := hoA.2.1.slice;obtain ⟨q3, e3, rfl⟩ := hoA.2.2.slice
  by_cases hlt : k < l.length
  ·obtain ⟨b, off, v1, v2, v3, rfl, hbl, z0, z1, z2, hAc⟩ := HEL.out k hlt
   obtain ⟨o7, k7, rfl⟩ := hAc.1.slice;obtain ⟨o8, k8, rfl⟩ := hAc.2.1.slice;obtain ⟨o9, k9, rfl⟩ := hAc.2.2.slice;have HCS := Hd (allC_snoc l k hlt);have HVS := Hd (allV_snoc l k hlt);have hcl80 := HSZ.out l[k] (List.getElem_mem hlt);have HVF : Hid (validC l[k] = false → allV l = false) := Hd (fun h => by
    rw [← Bool.not_eq_true];intro hh;rw [List.all_eq_true.1 hh _ (List.getElem_mem hlt)] at h
    cases h)
   have hbr : b < wr.heap.size := Nat.lt_of_lt_of_le hbl hB.size;have hAc' := hAc.below hB;have c0 : wr.cell? ⟨b, off + k * 3, none⟩ = some (.slice o7 l[k].vec.length k7) := by rw [hB.cell (p := ⟨_, _, _⟩) hbl]; exact z0
   have c1 : wr.cell? ⟨b, off + k * 3 + 1, none⟩ = some (.slice o8 l[k].cloud.length k8) := by rw [hB.cell (p := ⟨_, _, _⟩) hbl]; exact z1
   have c2 : wr.cell? ⟨b, off + k * 3 + 2, none⟩ = some (.slice o9 l[k].items.length k9) := by rw [hB.cell (p := ⟨_, _, _⟩) hbl]; exact z2
   generalize l[k] = c at *
   generalize allC (l.take k) = C at *
   obtain ⟨W2, hW2⟩ : ∃ x, x = wr.alloc (.cells #[.slice o7 c.vec.length k7, .slice o8 c.cloud.length k8, .slice o9 c.items.length k9] 28) := ⟨_, rfl⟩;have hb2 : Below wr.heap.size wr W2 := by rw [hW2]; exact bal
   have hx2 : W2.heap[wr.heap.size]? = some (.cells #[.slice o7 c.vec.length k7, .slice o8 c.cloud.length k8, .slice o9 c.items.length k9] 28) := by rw [hW2]; exact alloc_new _ _
   have hcb := lt_of_heap hbo;have hrb := lt_of_heap hre;have HJ := Hd (joinJoin_any C c _ _ _ _ _ _ W2 (hoA.below hb2) (hAc'.below hb2) (hcl.sz (by omega)) (hcl80.sz (by omega)) ((HG0.out.below hB).below hb2))
   have t0 : wr.cell? ⟨w.heap.size + 1, 0, none⟩ = some (.slice q1 C.vec.length e1) := cl0 hbo 0 rfl;have t1 : wr.cell? ⟨w.heap.size + 1, 1, none⟩ = some (.slice q2 C.cloud.length e2) := cl0 hbo 1 rfl;have t2 : wr.cell? ⟨w.heap.size + 1, 2, none⟩ = some (.slice q3 C.items.length e3) := cl0 hbo 2 rfl;have hz2 : W2.heap.size = wr.heap.size + 1 := by rw [hW2]; simp
   have HW2 := Hd hW2;have HBO2 := Hd ((hb2.block _ hcb).trans hbo);have HRE2 := Hd ((hb2.block _ hrb).trans hre);have HBW2 := Hd (btr hB hb2);have HCL1 := Hd hcl;have HCL2 := Hd hcl80;have HCV := Hd hCv;have HAV := Hd hav;have a0 : (0 : Int) ≤ k := by omega
   have a1 : (k : Int) < l.length := by omega
   have hkw := wr1 k (by omega)
   clear hW2 hx2 hAc hAc' hoA hown hav hcl hcl80 hbo hre hB hb2 z0 z1 z2
   by_cases hcv : validC c = true
   ·obtain ⟨hR1, hR2⟩ := joinR_true HCV.out hcv
    rw [hR1, hR2] at HJ;have HV1 : Hid (allV (l.take (k + 1)) = true) := Hd (by rw [HVS.out, HAV.out, hcv]; rfl)
    have HC1 : Hid (CL (80 * (k + 1)) (allC (l.take (k + 1)))) := Hd (by rw [HCS.out]; exact (refJoin_CL HCV.out hcv HCL1.out HCL2.out).mono (by omega))
    have HRV := Hd (join_valid HCV.out hcv);clear hR1 hR2 HVF HVS hcv
    go_wp2_with fail
    rw [← HW2.out];refine HJ.out.mono ?_;rintro e w5 ⟨x1, x2, x3, rfl, hown5, hb5⟩;have hRA := hown5.cart HRV.out;obtain ⟨x1, f1, rfl⟩ := hRA.1.slice;obtain ⟨x2, f2, rfl⟩ := hRA.2.1.slice;obtain ⟨x3, f3, rfl⟩ := hRA.2.2.slice;obtain ⟨W6, hW6⟩ : ∃ x, x = w5.alloc (.cells #[.slice x1 (refJoin C c).vec.length f1, .slice x2 (refJoin C c).cloud.length f2, .slice x3 (refJoin C c).items.length f3] 28) := ⟨_, rfl⟩;have hb56 : Below w5.heap.size w5 W6 := by rw [hW6]; exact bal
    have hb6 := btr hb5 hb56;have hbo5 := (hb5.block _ (lt_of_heap HBO2.out)).trans HBO2.out;have hbo6 := (hb6.block _ (lt_of_heap HBO2.out)).trans HBO2.out;have hre6 := (hb6.block _ (lt_of_heap HRE2.out)).trans HRE2.out;have hz5 := hb5.size;have hz6 := hb6.size;have hlt5 : w.heap.size + 1 < w5.heap.size := lt_of_heap hbo5;have HOF : Hid (OwnC (w.heap.size + 1 + 1) (((W6.setCell ⟨w.heap.size + 1, 0, none⟩ (.slice x1 (refJoin C c).vec.length f1)).setCell ⟨w.heap.size + 1, 1, none⟩ (.slice x2 (refJoin C c).cloud.length f2)).setCell ⟨w.heap.size + 1, 2, none⟩ (.slice x3 (refJoin C c).items.length f3)) (.slice x1 (refJoin C c).vec.length f1) (.slice x2 (refJoin C c).cloud.length f2) (.slice x3 (refJoin C c).items.length f3) (refJoin C c)) := Hd (((hown5.below hb56).mono (by omega)).stay (fun k hk => by rw [setCell_other (by omega), setCell_other (by omega), setCell_other (by omega)]))
    have HBOF : Hid ((((W6.setCell ⟨w.heap.size + 1, 0, none⟩ (.slice x1 (refJoin C c).vec.length f1)).setCell ⟨w.heap.size + 1, 1, none⟩ (.slice x2 (refJoin C c).cloud.length f2)).setCell ⟨w.heap.size + 1, 2, none⟩ (.slice x3 (refJoin C c).items.length f3)).heap[w.heap.size + 1]? = some (.cells #[.slice x1 (refJoin C c).vec.length f1, .slice x2 (refJoin C c).cloud.length f2, .slice x3 (refJoin C c).items.length f3] 28)) := Hd (setCell_same (setCell_same (setCell_same hbo6 0 _) 1 _) 2 _);have HREF : Hid ((((W6.setCell ⟨w.heap.size + 1, 0, none⟩ (.slice x1 (refJoin C c).vec.length f1)).setCell ⟨w.heap.size + 1, 1, none⟩ (.slice x2 (refJoin C c).cloud.length f2)).setCell ⟨w.heap.size + 1, 2, none⟩ (.slice x3 (refJoin C c).items.length f3)).heap[w.heap.size]? = some (.cells #[.slice none 0 0, .slice none 0 0, .slice none 0 0] 28)) := Hd (by rw [setCell_other (by omega), setCell_other (by omega), setCell_other (by omega)]; exact hre6)
    have hle : w.heap.size ≤ w.heap.size + 1 := by omega
    have HBF : Hid (Below w.heap.size w (((W6.setCell ⟨w.heap.size + 1, 0, none⟩ (.slice x1 (refJoin C c).vec.length f1)).setCell ⟨w.heap.size + 1, 1, none⟩ (.slice x2 (refJoin C c).cloud.length f2)).setCell ⟨w.heap.size + 1, 2, none⟩ (.slice x3 (refJoin C c).items.length f3))) := Hd (((((btr HBW2.out hb6).setCell (p := ⟨w.heap.size + 1, 0, none⟩) hle (.slice x1 (refJoin C c).vec.length f1)).setCell (p := ⟨w.heap.size + 1, 1, none⟩) hle (.slice x2 (refJoin C c).cloud.length f2)).setCell (p := ⟨w.heap.size + 1, 2, none⟩) hle (.slice x3 (refJoin C c).items.length f3)));have HSF : Hid (w.heap.size + 1 + 1 ≤ (((W6.setCell ⟨w.heap.size + 1, 0, none⟩ (.slice x1 (refJoin C c).vec.length f1)).setCell ⟨w.heap.size + 1, 1, none⟩ (.slice x2 (refJoin C c).cloud.length f2)).setCell ⟨w.heap.size + 1, 2, none⟩ (.slice x3 (refJoin C c).items.length f3)).heap.size) := Hd (by rw [setCell_size, setCell_size, setCell_size]; omega)
    rw [hW6] at HOF HBOF HREF HBF HSF;rw [set3_alloc _ _ _ _ _ _ hlt5] at HOF HBOF HREF HBF HSF;have u0 : w5.cell? ⟨w.heap.size + 1, 0, none⟩ = some (.slice q1 C.vec.length e1) := cl0 hbo5 0 rfl;have u1 : w5.cell? ⟨w.heap.size + 1, 1, none⟩ = some (.slice q2 C.cloud.length e2) := cl0 hbo5 1 rfl;have u2 : w5.cell? ⟨w.heap.size + 1, 2, none⟩ = some (.slice q3 C.items.length e3) := cl0 hbo5 2 rfl;have uf0 : w5.frozen? ⟨w.heap.size + 1, 0, none⟩ = false := froz0 hbo5 0;have uf1 : w5.frozen? ⟨w.heap.size + 1, 1, none⟩ = false := froz0 hbo5 1;have uf2 : w5.frozen? ⟨w.heap.size + 1, 2, none⟩ = false := froz0 hbo5 2;rw [HCS.out] at HC1;clear hW6 hb56 hb6 hb5 hbo5 hbo6 hre6 hown5 hRA HJ hz5 hz6 hz2;generalize refJoin C c = JJ at *
    go_wp2_with fail
    go_roundw
    case rel => exact ⟨k + 1, _, _, _, by omega, by go_num, HV1.out, by rw [HCS.out]; exact HC1.out, HBOF.out, by rw [HCS.out]; exact HOF.out, HREF.out, HBF.out, HSF.out⟩
    case measure => simp [intOf]; omega
   ·have hcf : validC c = false := by simpa using hcv
    obtain ⟨hR1, hR2⟩ := joinR_false (a := C) hcf;rw [hR1, hR2] at HJ;have HF0 := Hd (HFF.out (HVF.out hcf));clear hR1 hR2 HVF HVS hcv hcf HFT HFF
    go_wp2_with fail
    rw [← HW2.out];refine HJ.out.mono ?_;rintro e w5 ⟨x1, x2, x3, rfl, hown5, hb5⟩;have hRA := hown5.cart zeroC_valid;obtain ⟨x1, f1, rfl⟩ := hRA.1.slice;obtain ⟨x2, f2, rfl⟩ := hRA.2.1.slice;obtain ⟨x3, f3, rfl⟩ := hRA.2.2.slice;have hre5 := (hb5.block _ (lt_of_heap HRE2.out)).trans HRE2.out;have hlt5 : w.heap.size < w5.heap.size := lt_of_heap hre5;have hb5w := btr HBW2.out hb5;have HBF := Hd (hb5w.alloc hb5w.size (.cells #[.slice x1 zeroC.vec.length f1, .slice x2 zeroC.cloud.length f2, .slice x3 zeroC.items.length f3] 28));have u0 : w5.cell? ⟨w.heap.size, 0, none⟩ = some (.slice none 0 0) := cl0 hre5 0 rfl;have u1 : w5.cell? ⟨w.heap.size, 1, none⟩ = some (.slice none 0 0) := cl0 hre5 1 rfl;have u2 : w5.cell? ⟨w.heap.size, 2, none⟩ = some (.slice none 0 0) := cl0 hre5 2 rfl;have uf0 : w5.frozen? ⟨w.heap.size, 0, none⟩ = false := froz0 hre5 0;have uf1 : w5.frozen? ⟨w.heap.size, 1, none⟩ = false := froz0 hre5 1;have uf2 : w5.frozen? ⟨w.heap.size, 2, none⟩ = false := froz0 hre5 2;clear hre5 hown5 hRA HJ hb5 hb5w;have HFIN : Hid (CartPost R E w (.returned (.tuple #[.agg #[.slice none 0 0, .slice none 0 0, .slice none 0 0], .int .i64 2])) ((((w5.alloc (.cells #[.slice x1 zeroC.vec.length f1, .slice x2 zeroC.cloud.length f2, .slice x3 zeroC.items.length f3] 28)).setCell ⟨w.heap.size, 0, none⟩ (.slice none 0 0)).setCell ⟨w.heap.size, 1, none⟩ (.slice none 0 0)).setCell ⟨w.heap.size, 2, none⟩ (.slice none 0 0))) := Hd (HF0.out _ ((((HBF.out.setCell (p := ⟨w.heap.size, 0, none⟩) (Nat.le_refl _) (.slice none 0 0)).setCell (p := ⟨w.heap.size, 1, none⟩) (Nat.le_refl _) (.slice none 0 0)).setCell (p := ⟨w.heap.size, 2, none⟩) (Nat.le_refl _) (.slice none 0 0))));rw [set3_alloc _ _ _ _ _ _ hlt5] at HFIN
    go_wp2_with fail
    (try simp only [Exit.inBlock, Exit.then])
    refine bodyPost_ret (v := .tuple #[.agg #[.slice none 0 0, .slice none 0 0, .slice none 0 0], .int .i64 2]) ?_ rfl HFIN.out;rw [results_cell_tmp rfl];go_simp
  ·have hke : k = l.length := by omega
   subst hke;rw [List.take_length] at hav hown hcl hCv hoA hbo;have HFIN0 := Hd (HFT.out hav);have hrb := lt_of_heap hre;have hcb := lt_of_heap hbo;have u0 : wr.cell? ⟨w.heap.size + 1, 0, none⟩ = some (.slice q1 (allC l).vec.length e1) := cl0 hbo 0 rfl;have u1 : wr.cell? ⟨w.heap.size + 1, 1, none⟩ = some (.slice q2 (allC l).cloud.length e2) := cl0 hbo 1 rfl;have u2 : wr.cell? ⟨w.heap.size + 1, 2, none⟩ = some (.slice q3 (allC l).items.length e3) := cl0 hbo 2 rfl;have d0 : wr.cell? ⟨w.heap.size, 0, none⟩ = some (.slice none 0 0) := cl0 hre 0 rfl;have d1 : wr.cell? ⟨w.heap.size, 1, none⟩ = some (.slice none 0 0) := cl0 hre 1 rfl;have d2 : wr.cell? ⟨w.heap.size, 2, none⟩ = some (.slice none 0 0) := cl0 hre 2 rfl;have df0 : wr.frozen? ⟨w.heap.size, 0, none⟩ = false := froz0 hre 0;have df1 : wr.frozen? ⟨w.heap.size, 1, none⟩ = false := froz0 hre 1;have df2 : wr.frozen? ⟨w.heap.size, 2, none⟩ = false := froz0 hre 2;have HFIN : Hid (CartPost R E w (.returned (.tuple #[.agg #[.slice q1 (allC l).vec.length e1, .slice q2 (allC l).cloud.length e2, .slice q3 (allC l).items.length e3], .int .i64 0])) (((wr.setCell ⟨w.heap.size, 0, none⟩ (.slice q1 (allC l).vec.length e1)).setCell ⟨w.heap.size, 1, none⟩ (.slice q2 (allC l).cloud.length e2)).setCell ⟨w.heap.size, 2, none⟩ (.slice q3 (allC l).items.length e3))) := Hd (HFIN0.out _ _ _ _ ((hown.stay (fun k hk => by rw [setCell_other (by omega), setCell_other (by omega), setCell_other (by omega)])).mono (by omega)) ((((hB.setCell (p := ⟨w.heap.size, 0, none⟩) (Nat.le_refl _) (.slice q1 (allC l).vec.length e1)).setCell (p := ⟨w.heap.size, 1, none⟩) (Nat.le_refl _) (.slice q2 (allC l).cloud.length e2)).setCell (p := ⟨w.heap.size, 2, none⟩) (Nat.le_refl _) (.slice q3 (allC l).items.length e3))))
   clear hav hown hcl hbo hre hB hoA HFT HFF HFIN0
   go_wp2_with fail
   (try simp only [Exit.inBlock, Exit.then])
   refine bodyPost_ret (v := .tuple #[.agg #[.slice q1 (allC l).vec.length e1, .slice q2 (allC l).cloud.length e2, .slice q3 (allC l).items.length e3], .int .i64 0]) ?_ rfl HFIN.out;rw [results_cell_tmp rfl];go_simp
end Go.Proofs.YtemfaojmelljpaaGreatDoor
namespace Go.Proofs.YtemfaojmelljpaaGreatDoor
open Go.RowKit Go.Maps Go.Sort Go.Shelf

theorem indexMarks_any (l : List MarkD) (d : MarkD) (v : Value) (w : World) (h : Arr MarkR 4 w v l) : Calls Tryz.prog 134 #[v, markV d] w (IdxPost (decide (d ∈ l)) w) := by
 have hn := h.len;obtain ⟨o, c, rfl, hel⟩ := h.markAt;have HEL := Hd hel;have HEQ := Hd (fun x y wz => eqMark x y wz)
 obtain ⟨W1, hW1⟩ : ∃ W1, W1 = w.alloc (.cells #[.int .i64 d.dot.rep, .int .i64 d.dot.ctr, .int .i64 d.qty, .int .u64 d.time] 54) := ⟨_, rfl⟩;have hb1 : Below w.heap.size w W1 := by rw [hW1]; exact bal
 have hg1 : W1.heap[w.heap.size]? = some (.cells #[.int .i64 d.dot.rep, .int .i64 d.dot.ctr, .int .i64 d.qty, .int .u64 d.time] 54) := by rw [hW1]; exact alloc_new _ _
 have hgl1 := lt_of_heap hg1;have HD0 : Hid (W1.cell? ⟨w.heap.size, 0, none⟩ = some (.int .i64 d.dot.rep) ∧ W1.cell? ⟨w.heap.size, 1, none⟩ = some (.int .i64 d.dot.ctr) ∧ W1.cell? ⟨w.heap.size, 2, none⟩ = some (.int .i64 d.qty) ∧ W1.cell? ⟨w.heap.size, 3, none⟩ = some (.int .u64 d.time)) := Hd ⟨cl0 hg1 0 rfl, cl0 hg1 1 rfl, cl0 hg1 2 rfl, cl0 hg1 3 rfl⟩;have HB1 := Hd hb1;have HW := Hd hW1;clear hel h hg1 hb1 hW1;unfold markV
 go_enter Tryz.func134, Tryz.ntmps134
 go_wp2_with fail
 rw [← HW.out]
 go_loopw [8] (fun i wr => ∃ k : Nat, k ≤ l.length ∧ i = .int .i64 k ∧ d ∉ l.take k ∧ Below W1.heap.size W1 wr) (fun i _ => l.length - (intOf i).toNat)
 case atStart => exact ⟨0, Nat.zero_le _, rfl, by simp, Below.refl _ _⟩
 case round =>
  obtain ⟨k, hk, rfl, hnot, hB⟩ := hrel;have HNOT := Hd hnot;have HB := Hd hB;clear hnot hB
  by_cases hlt : k < l.length
  ·obtain ⟨b, off, rfl, hbl, e0, e1, e2, e3, -⟩ := HEL.out k hlt
   have hbl1 : b < W1.heap.size := Nat.lt_of_lt_of_le hbl HB1.out.size;have d0 : wr.cell? ⟨w.heap.size, 0, none⟩ = some (.int .i64 d.dot.rep) := by rw [HB.out.cell (p := ⟨w.heap.size, 0, none⟩) hgl1]; exact HD0.out.1
   have d1 : wr.cell? ⟨w.heap.size, 1, none⟩ = some (.int .i64 d.dot.ctr) := by rw [HB.out.cell (p := ⟨w.heap.size, 1, none⟩) hgl1]; exact HD0.out.2.1
   have d2 : wr.cell? ⟨w.heap.size, 2, none⟩ = some (.int .i64 d.qty) := by rw [HB.out.cell (p := ⟨w.heap.size, 2, none⟩) hgl1]; exact HD0.out.2.2.1
   have d3 : wr.cell? ⟨w.heap.size, 3, none⟩ = some (.int .u64 d.time) := by rw [HB.out.cell (p := ⟨w.heap.size, 3, none⟩) hgl1]; exact HD0.out.2.2.2
   have HTK : Hid (l.take (k + 1) = l.take k ++ [l[k]]) := Hd (List.take_succ_eq_append_getElem hlt);have HMEM : Hid (l[k] ∈ l) := Hd (List.getElem_mem hlt);have c0 : wr.cell? ⟨b, off + k * 4, none⟩ = some (.int .i64 l[k].dot.rep) := by rw [HB.out.cell (p := ⟨_, _, _⟩) hbl1, HB1.out.cell (p := ⟨_, _, _⟩) hbl]; exact e0
   have c1 : wr.cell? ⟨b, off + k * 4 + 1, none⟩ = some (.int .i64 l[k].dot.ctr) := by rw [HB.out.cell (p := ⟨_, _, _⟩) hbl1, HB1.out.cell (p := ⟨_, _, _⟩) hbl]; exact e1
   have c2 : wr.cell? ⟨b, off + k * 4 + 2, none⟩ = some (.int .i64 l[k].qty) := by rw [HB.out.cell (p := ⟨_, _, _⟩) hbl1, HB1.out.cell (p := ⟨_, _, _⟩) hbl]; exact e2
   have c3 : wr.cell? ⟨b, off + k * 4 + 3, none⟩ = some (.int .u64 l[k].time) := by rw [HB.out.cell (p := ⟨_, _, _⟩) hbl1, HB1.out.cell (p := ⟨_, _, _⟩) hbl]; exact e3
   generalize l[k] = x at *
   have heq : ∀ wz : World, Sem.run Tryz.prog (binOp .eql 54 (.agg #[.int .i64 d.dot.rep, .int .i64 d.dot.ctr, .int .i64 d.qty, .int .u64 d.time]) (.agg #[.int .i64 x.dot.rep, .int .i64 x.dot.ctr, .int .i64 x.qty, .int .u64 x.time])) wz = .ok (.bool (decide (d = x))) wz := fun wz => HEQ.out d x wz
   have hgd : ∀ (op : BinOp) (a b : Operand) (wz : World), Sem.run Tryz.prog (eqGuard op 54 a b (.agg #[.int .i64 d.dot.rep, .int .i64 d.dot.ctr, .int .i64 d.qty, .int .u64 d.time]) (.agg #[.int .i64 x.dot.rep, .int .i64 x.dot.ctr, .int .i64 x.qty, .int .u64 x.time])) wz = .ok () wz := fun op a b wz => guardMark op a b d x wz
   have a0 : (0 : Int) ≤ k := by omega
   have a1 : (k : Int) < l.length := by omega
   have hkw := wr1 k (by omega)
   clear e0 e1 e2 e3 HEQ HW
   by_cases hxy : d = x
   ·have hd : decide (d = x) = true := decide_eq_true hxy
    rw [hd] at heq;have HF : Hid (decide (d ∈ l) = true) := Hd (decide_eq_true (hxy.symm ▸ HMEM.out));clear HMEM HTK HNOT hxy hd
    go_upto_region 4 with fail
    go_quiet (fail)
    go_wp2_with fail
    go_ret
    exact ⟨(k : Int), rfl, by rw [HF.out]; exact decide_eq_true (by omega), below_drewN _ (HB1.out.trans (HB.out.mono HB1.out.size))⟩
   ·have hd : decide (d = x) = false := decide_eq_false hxy
    rw [hd] at heq;have HF : Hid (d ∉ l.take (k + 1)) := Hd (by rw [HTK.out, List.mem_append, List.mem_singleton]; exact fun h => h.elim HNOT.out (fun e => hxy e))
    clear HMEM HTK HNOT hxy hd
    go_upto_region 4 with fail
    go_quiet (fail)
    go_wp2_with fail
    go_roundw
    case rel => exact ⟨k + 1, by omega, by go_num, HF.out, below_drewN _ HB.out⟩
    case measure => simp [intOf]; omega
  ·have hke : k = l.length := by omega
   have HF : Hid (decide (d ∈ l) = false) := Hd (decide_eq_false (by have := HNOT.out; rw [hke, List.take_length] at this; exact this))
   clear HNOT
   go_wp2_with fail
   go_ret
   exact ⟨-1, rfl, by rw [HF.out]; rfl, HB1.out.trans (HB.out.mono HB1.out.size)⟩
theorem containsMarks_any (l : List MarkD) (d : MarkD) (v : Value) (w : World) (h : Arr MarkR 4 w v l) : Calls Tryz.prog 83 #[v, markV d] w fun e w' => e = .returned (.bool (decide (d ∈ l))) ∧ Below w.heap.size w w' := by
 obtain ⟨W1, hW1⟩ : ∃ W1, W1 = w.alloc (.cells #[.int .i64 d.dot.rep, .int .i64 d.dot.ctr, .int .i64 d.qty, .int .u64 d.time] 54) := ⟨_, rfl⟩;have hb1 : Below w.heap.size w W1 := by rw [hW1]; exact bal
 have hg1 : W1.heap[w.heap.size]? = some (.cells #[.int .i64 d.dot.rep, .int .i64 d.dot.ctr, .int .i64 d.qty, .int .u64 d.time] 54) := by rw [hW1]; exact alloc_new _ _
 have hgl1 := lt_of_heap hg1;have HD0 : Hid (W1.cell? ⟨w.heap.size, 0, none⟩ = some (.int .i64 d.dot.rep) ∧ W1.cell? ⟨w.heap.size, 1, none⟩ = some (.int .i64 d.dot.ctr) ∧ W1.cell? ⟨w.heap.size, 2, none⟩ = some (.int .i64 d.qty) ∧ W1.cell? ⟨w.heap.size, 3, none⟩ = some (.int .u64 d.time)) := Hd ⟨cl0 hg1 0 rfl, cl0 hg1 1 rfl, cl0 hg1 2 rfl, cl0 hg1 3 rfl⟩;have HB1 := Hd hb1;have HW := Hd hW1;have HI := Hd (indexMarks_any l d v W1 (h.marks hb1));have d0 := HD0.out.1;have d1 := HD0.out.2.1;have d2 := HD0.out.2.2.1;have d3 := HD0.out.2.2.2;clear hg1 hb1 hW1 h;unfold markV at *
 go_enter Tryz.func83, Tryz.ntmps83
 go_wp2_with fail
 rw [← HW.out]
 go_wp2_with fail
 refine HI.out.mono ?_;rintro e w2 ⟨i, rfl, hi, hb2⟩;have HF := Hd hi;clear hi
 go_wp2_with fail
 go_ret
 exact ⟨by rw [← HF.out]; rfl, btr HB1.out hb2⟩
theorem l11all_any (l : List CartD) (c : CartD) (no : Int) (v t1 t2 t3 : Value) (w : World) (h : Arr CartR 3 w v l) (f : CartA w t1 t2 t3 c) (hl : l.length ≤ 10) (hs : ∀ c ∈ l, CL 80 c) (hG : GlobIs w) :
  Calls Tryz.prog 17 #[v, .agg #[t1, t2, t3], .int .i64 no] w fun e w' => e = .returned (.bool (decide (allR l = c) && (allE l == no))) ∧ Below w.heap.size w w' := by
 obtain ⟨o7, n7, k7, o8, n8, k8, o9, n9, k9, rfl, rfl, rfl, hn7, hn8, hn9⟩ := opn f;obtain ⟨o, cc, rfl, -⟩ := h.cartAt;obtain ⟨W0, hW0⟩ : ∃ x, x = w.alloc (.cells #[.slice o7 n7 k7, .slice o8 n8 k8, .slice o9 n9 k9] 28) := ⟨_, rfl⟩;have hs0 : W0.heap.size = w.heap.size + 1 := by rw [hW0, alloc_size]
 have hst0 : Below w.heap.size w W0 := by rw [hW0]; exact bal
 have hbb0 : Below w.heap.size w W0 := hst0;have hx0_0 : W0.heap[w.heap.size]? = some (.cells #[.slice o7 n7 k7, .slice o8 n8 k8, .slice o9 n9 k9] 28) := by rw [hW0]; exact alloc_new _ _
 have HC := Hd (fun wz (hz : Below W0.heap.size W0 wz) => cel3 ((hz.block _ (lt_of_heap hx0_0)).trans hx0_0))
 have HK0 : Hid (∀ wz, Below W0.heap.size W0 wz → wz.heap[w.heap.size]? = some (.cells #[.slice o7 n7 k7, .slice o8 n8 k8, .slice o9 n9 k9] 28)) := Hd (fun wz hz => (hz.block _ (lt_of_heap hx0_0)).trans hx0_0)
 have hbbL := hbb0;have HB := Hd hbb0;have HS : Hid (W0.heap.size = w.heap.size + 1) := Hd hs0;have HW : Hid (W0 = w.alloc (.cells #[.slice o7 n7 k7, .slice o8 n8 k8, .slice o9 n9 k9] 28)) := Hd (by rw [hW0])
 have HJ := Hd (joinAll_any l _ W0 (h.carts hbbL) hl hs (hG.below hbbL));have HF2 := Hd (f.below hbbL);have HEQ : Hid (∀ wz y1 y2 y3, Below W0.heap.size W0 wz → CartA wz y1 y2 y3 (allR l) → Calls Tryz.prog 14 #[.agg #[y1, y2, y3], .agg #[.slice o7 n7 k7, .slice o8 n8 k8, .slice o9 n9 k9]] wz fun e w' => e = .returned (.bool (decide (allR l = c))) ∧ Below wz.heap.size wz w') := Hd (fun wz y1 y2 y3 hz hy => r10Equal_any _ c _ _ _ _ _ _ wz hy (HF2.out.below hz))
 clear hbbL hW0 hs0 hst0 hx0_0 f hn7 hn8 hn9 hbb0 hG hs h;obtain ⟨E, hE0⟩ : ∃ E, E = allE l := ⟨_, rfl⟩;rw [← hE0] at HJ;have HE0 := Hd hE0;clear hE0
 go_enter Tryz.func17, Tryz.ntmps17
 go_wp2_with fail
 rw [← HW.out];refine HJ.out.mono ?_;rintro e w5 ⟨x1, x2, x3, rfl, hown, hb5⟩;have hRA := hown.cart (allR_valid l);obtain ⟨p1, l1, rfl⟩ := hRA.1.slice;obtain ⟨p2, l2, rfl⟩ := hRA.2.1.slice;obtain ⟨p3, l3, rfl⟩ := hRA.2.2.slice;obtain ⟨W6, hW6⟩ : ∃ x, x = w5.alloc (.cells #[.slice p1 (allR l).vec.length l1, .slice p2 (allR l).cloud.length l2, .slice p3 (allR l).items.length l3] 28) := ⟨_, rfl⟩;have hb56 : Below w5.heap.size w5 W6 := by rw [hW6]; exact bal
 have hb6 := btr hb5 hb56;have hx6 : W6.heap[w5.heap.size]? = some (.cells #[.slice p1 (allR l).vec.length l1, .slice p2 (allR l).cloud.length l2, .slice p3 (allR l).items.length l3] 28) := by rw [hW6]; exact alloc_new _ _
 have HE6 := Hd (HEQ.out W6 _ _ _ hb6 (hRA.below hb56));obtain ⟨y0_0, y0_1, y0_2⟩ := HC.out W6 hb6;have c0 : W6.cell? ⟨w5.heap.size, 0, none⟩ = some (.slice p1 (allR l).vec.length l1) := cl0 hx6 0 rfl;have c1 : W6.cell? ⟨w5.heap.size, 1, none⟩ = some (.slice p2 (allR l).cloud.length l2) := cl0 hx6 1 rfl;have c2 : W6.cell? ⟨w5.heap.size, 2, none⟩ = some (.slice p3 (allR l).items.length l3) := cl0 hx6 2 rfl;have HB6 := Hd (btr HB.out hb6);have HW6 := Hd hW6;clear hown hRA hb5 hb56 hb6 hx6 hW6 HEQ HJ;generalize (allR l).vec.length = m1 at *
 generalize (allR l).cloud.length = m2 at *
 generalize (allR l).items.length = m3 at *
 obtain ⟨r, hr⟩ : ∃ r, r = decide (allR l = c) := ⟨_, rfl⟩;rw [← hr] at HE6;have HR := Hd hr;clear hr
 go_wp2_with (go_loud (rw [← HW6.out]))
 refine HE6.out.mono ?_;rintro e w7 ⟨rfl, hb7⟩;have HBF := Hd (btr HB6.out hb7);clear hb7 HE6
 cases r with
 | false =>
  go_wp2_with fail
  go_ret
  exact ⟨by rw [← HR.out, ← HE0.out]; rfl, HBF.out⟩
 | true =>
  go_wp2_with fail
  go_ret
  exact ⟨by rw [← HR.out, ← HE0.out]; rfl, HBF.out⟩
end Go.Proofs.YtemfaojmelljpaaGreatDoor

