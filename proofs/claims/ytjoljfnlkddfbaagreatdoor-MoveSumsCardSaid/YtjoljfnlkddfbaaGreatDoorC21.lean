/- slices.Contains at marks; all of the law. -/
import Derived.Test.YtjoljfnlkddfbaaGreatDoorC19
import Derived.Test.YtjoljfnlkddfbaaGreatDoorIt6
import Derived.Test.YtjoljfnlkddfbaaGreatDoorIt10
set_option linter.unusedSimpArgs false
set_option linter.unusedVariables false
set_option maxRecDepth 100000
set_option maxHeartbeats 8000000
namespace Go.Proofs.YtjoljfnlkddfbaaGreatDoor
open Go.RowKit Go.Maps Go.Sort Go.Shelf

/-- Element i of a slice of carts. -/
theorem Arr.cartAt {w : World} {v : Value} {l : List CartD} (h : Arr CartR 3 w v l) : ∃ (o : Option Addr) (c : Nat), v = .slice o l.length c ∧ ∀ i (hi : i < l.length), ∃ b off v1 v2 v3, o = some ⟨b, off, none⟩ ∧ b < w.heap.size ∧ w.cell? ⟨b, off + i * 3, none⟩ = some v1 ∧ w.cell? ⟨b, off + i * 3 + 1, none⟩ = some v2 ∧ w.cell? ⟨b, off + i * 3 + 2, none⟩ = some v3 ∧ CartA w v1 v2 v3 l[i] := by
 obtain ⟨o, c, rfl, h2, h3, hel⟩ := h
 refine ⟨o, c, rfl, fun i hi => ?_⟩
 obtain ⟨b, off, cs, h1, h4, h5, hR, h9⟩ := hel i hi
 obtain ⟨v1, v2, v3, rfl, hA⟩ := hR.cart
 exact ⟨b, off, v1, v2, v3, h1, h4, h9 0 (by decide), h9 1 (by decide), h9 2 (by decide), hA⟩
theorem Arr.carts {w w' : World} {v : Value} {l : List CartD} (h : Arr CartR 3 w v l) (hb : Below w.heap.size w w') : Arr CartR 3 w' v l := h.mono (fun _ _ h => h.below hb) hb
theorem OwnC.stay {base : Nat} {w w' : World} {x1 x2 x3 : Value} {c : CartD} (h : OwnC base w x1 x2 x3 c) (hb : ∀ k, base ≤ k → w'.heap[k]? = w.heap[k]?) : OwnC base w' x1 x2 x3 c := by
 obtain ⟨h1, h2, ps, h3, h4⟩ := h
 exact ⟨h1.stay (fun k hk => hb k (h1.lt k hk).1), h2.stay (fun k hk => hb k (h2.lt k hk).1), ps, h3, h4.stayF (fun k hk _ _ => hb k hk)⟩
theorem joinR_true {a b : CartD} (ha : validC a = true) (hb : validC b = true) : joinR a b = refJoin a b ∧ joinE a b = 0 := by
 unfold joinR joinE
 rw [ha, hb]; exact ⟨rfl, rfl⟩
theorem joinR_false {a b : CartD} (hb : validC b = false) : joinR a b = zeroC ∧ joinE a b = 2 := by
 unfold joinR joinE
 rw [hb, Bool.and_false]; exact ⟨rfl, rfl⟩
theorem set3_alloc (w : World) (o : Obj) (n : Nat) (a b c : Value) (hn : n < w.heap.size) : (((w.alloc o).setCell ⟨n, 0, none⟩ a).setCell ⟨n, 1, none⟩ b).setCell ⟨n, 2, none⟩ c = (((w.setCell ⟨n, 0, none⟩ a).setCell ⟨n, 1, none⟩ b).setCell ⟨n, 2, none⟩ c).alloc o := by
 rw [World.setCell_alloc_past _ _ _ _ hn, World.setCell_alloc_past _ _ _ _ (by rw [setCell_size]; exact hn), World.setCell_alloc_past _ _ _ _ (by rw [setCell_size, setCell_size]; exact hn)]
def allV (l : List CartD) : Bool := l.all validC
def allR (l : List CartD) : CartD := if allV l then allC l else zeroC
def allE (l : List CartD) : Int := if allV l then 0 else 2
theorem allC_snoc (l : List CartD) (k : Nat) (h : k < l.length) : allC (l.take (k + 1)) = refJoin (allC (l.take k)) l[k] := by
 unfold allC
 rw [List.take_succ_eq_append_getElem h, List.foldl_append]; rfl
theorem allV_snoc (l : List CartD) (k : Nat) (h : k < l.length) : allV (l.take (k + 1)) = (allV (l.take k) && validC l[k]) := by
 unfold allV
 rw [List.take_succ_eq_append_getElem h, List.all_append]; simp
theorem allV_valid {l : List CartD} (h : allV l = true) : validC (allC l) = true := allC_valid (fun c hc => List.all_eq_true.1 h c hc)
theorem joinAllN_any (nc : Nat) (l : List CartD) (v : Value) (w : World) (h : Arr CartR 3 w v l) (hl : nc * l.length ≤ 1000) (hs : ∀ c ∈ l, CL nc c) (hG : GlobIs w) : Calls Tryz.prog 51 #[v] w (CartPost (allR l) (allE l) w) := by
 have hn := h.len
 obtain ⟨o, cc, rfl, hel⟩ := h.cartAt
 obtain ⟨W0, hW0⟩ : ∃ x, x = w.alloc (.cells #[.slice none 0 0, .slice none 0 0, .slice none 0 0] 28) := ⟨_, rfl⟩
 have hs0 : W0.heap.size = w.heap.size + 1 := by rw [hW0, alloc_size]
 have hst0 : Below w.heap.size w W0 := by rw [hW0]; exact bal
 have hbb0 : Below w.heap.size w W0 := hst0
 have hx0_0 : W0.heap[w.heap.size]? = some (.cells #[.slice none 0 0, .slice none 0 0, .slice none 0 0] 28) := by rw [hW0]; exact alloc_new _ _
 obtain ⟨W1, hW1⟩ : ∃ x, x = W0.alloc (.cells #[.slice none 0 0, .slice none 0 0, .slice none 0 0] 28) := ⟨_, rfl⟩
 have hs1 : W1.heap.size = w.heap.size + 1 + 1 := by rw [hW1, alloc_size, hs0]
 have hst1 : Below W0.heap.size W0 W1 := by rw [hW1]; exact bal
 have hbb1 : Below w.heap.size w W1 := btr hbb0 hst1
 have hx1_1 : W1.heap[w.heap.size + 1]? = some (.cells #[.slice none 0 0, .slice none 0 0, .slice none 0 0] 28) := by rw [hW1, ← hs0]; exact alloc_new _ _
 have hx0_1 : W1.heap[w.heap.size]? = _ := (hst1.block _ (lt_of_heap hx0_0)).trans hx0_0
 have HC := Hd (fun wz (hz : Below W1.heap.size W1 wz) => And.intro (cel3 ((hz.block _ (lt_of_heap hx0_1)).trans hx0_1)) (cel3 ((hz.block _ (lt_of_heap hx1_1)).trans hx1_1)))
 have HK0 : Hid (∀ wz, Below W1.heap.size W1 wz → wz.heap[w.heap.size]? = some (.cells #[.slice none 0 0, .slice none 0 0, .slice none 0 0] 28)) := Hd (fun wz hz => (hz.block _ (lt_of_heap hx0_1)).trans hx0_1)
 have HK1 : Hid (∀ wz, Below W1.heap.size W1 wz → wz.heap[w.heap.size + 1]? = some (.cells #[.slice none 0 0, .slice none 0 0, .slice none 0 0] 28)) := Hd (fun wz hz => (hz.block _ (lt_of_heap hx1_1)).trans hx1_1)
 have hbbL := hbb1
 have HB := Hd hbb1
 have HS : Hid (W1.heap.size = w.heap.size + 1 + 1) := Hd hs1
 have HW : Hid (W1 = (w.alloc (.cells #[.slice none 0 0, .slice none 0 0, .slice none 0 0] 28)).alloc (.cells #[.slice none 0 0, .slice none 0 0, .slice none 0 0] 28)) := Hd (by rw [hW1, hW0])
 have HEL := Hd hel
 have HG0 := Hd hG
 have HSZ := Hd hs
 have HFF : Hid (allV l = false → ∀ w', Below w.heap.size w w' → CartPost (allR l) (allE l) w (.returned (.tuple #[.agg #[.slice none 0 0, .slice none 0 0, .slice none 0 0], .int .i64 2])) w') := Hd (fun hv w' hb => by
  unfold allR allE
  rw [hv]
  exact ⟨_, _, _, rfl, OwnC.zero _ _, hb⟩)
 have HFT : Hid (allV l = true → ∀ w' y1 y2 y3, OwnC w.heap.size w' y1 y2 y3 (allC l) → Below w.heap.size w w' → CartPost (allR l) (allE l) w (.returned (.tuple #[.agg #[y1, y2, y3], .int .i64 0])) w') := Hd (fun hv w' y1 y2 y3 ho hb => by
  unfold allR allE
  rw [hv]
  exact ⟨_, _, _, rfl, ho, hb⟩)
 generalize allR l = R at *
 generalize allE l = E at *
 clear hbbL hW0 hs0 hst0 hW1 hs1 hst1 hx0_0 hx0_1 hx1_1 hbb0 hbb1 hG hs h hel
 go_enter Tryz.func51, Tryz.ntmps51
 go_wp2_with fail
 rw [← HW.out]
 have hbo0 := HK1.out W1 brf
 have hre0 := HK0.out W1 brf
 have HBO0 := Hd hbo0
 have HRE0 := Hd hre0
 clear hbo0 hre0
 go_loopw [11] (fun i wr => ∃ k y1 y2 y3, k ≤ l.length ∧ i = .int .i64 ((k : Nat) : Int) ∧ allV (l.take k) = true ∧ CL (nc * k) (allC (l.take k)) ∧ wr.heap[w.heap.size + 1]? = some (.cells #[y1, y2, y3] 28) ∧ OwnC (w.heap.size + 1 + 1) wr y1 y2 y3 (allC (l.take k)) ∧ wr.heap[w.heap.size]? = some (.cells #[.slice none 0 0, .slice none 0 0, .slice none 0 0] 28) ∧ Below w.heap.size w wr ∧ w.heap.size + 1 + 1 ≤ wr.heap.size) (fun i _ => l.length - (intOf i).toNat)
 case atStart => exact ⟨0, _, _, _, Nat.zero_le _, rfl, rfl, ⟨by simp [allC, zeroC], by simp [allC, zeroC], by simp [allC, zeroC]⟩, HBO0.out, OwnC.zero _ _, HRE0.out, HB.out, Nat.le_of_eq HS.out.symm⟩
 case round =>
  obtain ⟨k, y1, y2, y3, hk, rfl, hav, hcl, hbo, hown, hre, hB, hsz⟩ := hrel
  have hCv := allV_valid hav
  have hoA := hown.cart hCv
  obtain ⟨q1, e1, rfl⟩ := hoA.1.slice
  obtain ⟨q2, e2, rfl⟩ := hoA.2.1.slice
  obtain ⟨q3, e3, rfl⟩ := hoA.2.2.slice
  by_cases hlt : k < l.length
  ·have hnk : nc * k ≤ 1000 := Nat.le_trans (Nat.mul_le_mul_left nc hk) hl
   have hn1 : nc ≤ 1000 := by have := Nat.mul_le_mul_left nc (show 1 ≤ l.length by omega); omega
   obtain ⟨b, off, v1, v2, v3, rfl, hbl, z0, z1, z2, hAc⟩ := HEL.out k hlt
   obtain ⟨o7, k7, rfl⟩ := hAc.1.slice
   obtain ⟨o8, k8, rfl⟩ := hAc.2.1.slice
   obtain ⟨o9, k9, rfl⟩ := hAc.2.2.slice
   have HCS := Hd (allC_snoc l k hlt)
   have HVS := Hd (allV_snoc l k hlt)
   have hcl80 := HSZ.out l[k] (List.getElem_mem hlt)
   have HVF : Hid (validC l[k] = false → allV l = false) := Hd (fun h => by
    rw [← Bool.not_eq_true]
    intro hh
    rw [List.all_eq_true.1 hh _ (List.getElem_mem hlt)] at h
    cases h)
   have hbr : b < wr.heap.size := Nat.lt_of_lt_of_le hbl hB.size
   have hAc' := hAc.below hB
   have c0 : wr.cell? ⟨b, off + k * 3, none⟩ = some (.slice o7 l[k].vec.length k7) := by rw [hB.cell (p := ⟨_, _, _⟩) hbl]; exact z0
   have c1 : wr.cell? ⟨b, off + k * 3 + 1, none⟩ = some (.slice o8 l[k].cloud.length k8) := by rw [hB.cell (p := ⟨_, _, _⟩) hbl]; exact z1
   have c2 : wr.cell? ⟨b, off + k * 3 + 2, none⟩ = some (.slice o9 l[k].items.length k9) := by rw [hB.cell (p := ⟨_, _, _⟩) hbl]; exact z2
   generalize l[k] = c at *
   generalize allC (l.take k) = C at *
   obtain ⟨W2, hW2⟩ : ∃ x, x = wr.alloc (.cells #[.slice o7 c.vec.length k7, .slice o8 c.cloud.length k8, .slice o9 c.items.length k9] 28) := ⟨_, rfl⟩
   have hb2 : Below wr.heap.size wr W2 := by rw [hW2]; exact bal
   have hx2 : W2.heap[wr.heap.size]? = some (.cells #[.slice o7 c.vec.length k7, .slice o8 c.cloud.length k8, .slice o9 c.items.length k9] 28) := by rw [hW2]; exact alloc_new _ _
   have hcb := lt_of_heap hbo
   have hrb := lt_of_heap hre
   have HJ := Hd (joinJoin_any C c _ _ _ _ _ _ W2 (hoA.below hb2) (hAc'.below hb2) (hcl.sz hnk) (hcl80.sz hn1) ((HG0.out.below hB).below hb2))
   have t0 : wr.cell? ⟨w.heap.size + 1, 0, none⟩ = some (.slice q1 C.vec.length e1) := cl0 hbo 0 rfl
   have t1 : wr.cell? ⟨w.heap.size + 1, 1, none⟩ = some (.slice q2 C.cloud.length e2) := cl0 hbo 1 rfl
   have t2 : wr.cell? ⟨w.heap.size + 1, 2, none⟩ = some (.slice q3 C.items.length e3) := cl0 hbo 2 rfl
   have hz2 : W2.heap.size = wr.heap.size + 1 := by rw [hW2]; simp
   have HW2 := Hd hW2
   have HBO2 := Hd ((hb2.block _ hcb).trans hbo)
   have HRE2 := Hd ((hb2.block _ hrb).trans hre)
   have HBW2 := Hd (btr hB hb2)
   have HCL1 := Hd hcl
   have HCL2 := Hd hcl80
   have HCV := Hd hCv
   have HAV := Hd hav
   have a0 : (0 : Int) ≤ k := by omega
   have a1 : (k : Int) < l.length := by omega
   have hkw := wr1 k (by first | omega | (unfold maxLen at hn; omega))
   clear hW2 hx2 hAc hAc' hoA hown hav hcl hcl80 hbo hre hB hb2 z0 z1 z2
   by_cases hcv : validC c = true
   ·obtain ⟨hR1, hR2⟩ := joinR_true HCV.out hcv
    rw [hR1, hR2] at HJ
    have HV1 : Hid (allV (l.take (k + 1)) = true) := Hd (by rw [HVS.out, HAV.out, hcv]; rfl)
    have HC1 : Hid (CL (nc * (k + 1)) (allC (l.take (k + 1)))) := Hd (by rw [HCS.out]; exact (refJoin_CL HCV.out hcv HCL1.out HCL2.out).mono (by rw [Nat.mul_succ]; exact Nat.le_refl _))
    have HRV := Hd (join_valid HCV.out hcv)
    clear hR1 hR2 HVF HVS hcv
    go_wp2_with fail
    rw [← HW2.out]
    refine HJ.out.mono ?_
    rintro e w5 ⟨x1, x2, x3, rfl, hown5, hb5⟩
    have hRA := hown5.cart HRV.out
    obtain ⟨x1, f1, rfl⟩ := hRA.1.slice
    obtain ⟨x2, f2, rfl⟩ := hRA.2.1.slice
    obtain ⟨x3, f3, rfl⟩ := hRA.2.2.slice
    obtain ⟨W6, hW6⟩ : ∃ x, x = w5.alloc (.cells #[.slice x1 (refJoin C c).vec.length f1, .slice x2 (refJoin C c).cloud.length f2, .slice x3 (refJoin C c).items.length f3] 28) := ⟨_, rfl⟩
    have hb56 : Below w5.heap.size w5 W6 := by rw [hW6]; exact bal
    have hb6 := btr hb5 hb56
    have hbo5 := (hb5.block _ (lt_of_heap HBO2.out)).trans HBO2.out
    have hbo6 := (hb6.block _ (lt_of_heap HBO2.out)).trans HBO2.out
    have hre6 := (hb6.block _ (lt_of_heap HRE2.out)).trans HRE2.out
    have hz5 := hb5.size
    have hz6 := hb6.size
    have hlt5 : w.heap.size + 1 < w5.heap.size := lt_of_heap hbo5
    have HOF : Hid (OwnC (w.heap.size + 1 + 1) (((W6.setCell ⟨w.heap.size + 1, 0, none⟩ (.slice x1 (refJoin C c).vec.length f1)).setCell ⟨w.heap.size + 1, 1, none⟩ (.slice x2 (refJoin C c).cloud.length f2)).setCell ⟨w.heap.size + 1, 2, none⟩ (.slice x3 (refJoin C c).items.length f3)) (.slice x1 (refJoin C c).vec.length f1) (.slice x2 (refJoin C c).cloud.length f2) (.slice x3 (refJoin C c).items.length f3) (refJoin C c)) := Hd (((hown5.below hb56).mono (by omega)).stay (fun k hk => by rw [setCell_other (by omega), setCell_other (by omega), setCell_other (by omega)]))
    have HBOF : Hid ((((W6.setCell ⟨w.heap.size + 1, 0, none⟩ (.slice x1 (refJoin C c).vec.length f1)).setCell ⟨w.heap.size + 1, 1, none⟩ (.slice x2 (refJoin C c).cloud.length f2)).setCell ⟨w.heap.size + 1, 2, none⟩ (.slice x3 (refJoin C c).items.length f3)).heap[w.heap.size + 1]? = some (.cells #[.slice x1 (refJoin C c).vec.length f1, .slice x2 (refJoin C c).cloud.length f2, .slice x3 (refJoin C c).items.length f3] 28)) := Hd (setCell_same (setCell_same (setCell_same hbo6 0 _) 1 _) 2 _)
    have HREF : Hid ((((W6.setCell ⟨w.heap.size + 1, 0, none⟩ (.slice x1 (refJoin C c).vec.length f1)).setCell ⟨w.heap.size + 1, 1, none⟩ (.slice x2 (refJoin C c).cloud.length f2)).setCell ⟨w.heap.size + 1, 2, none⟩ (.slice x3 (refJoin C c).items.length f3)).heap[w.heap.size]? = some (.cells #[.slice none 0 0, .slice none 0 0, .slice none 0 0] 28)) := Hd (by rw [setCell_other (by omega), setCell_other (by omega), setCell_other (by omega)]; exact hre6)
    have hle : w.heap.size ≤ w.heap.size + 1 := by omega
    have HBF : Hid (Below w.heap.size w (((W6.setCell ⟨w.heap.size + 1, 0, none⟩ (.slice x1 (refJoin C c).vec.length f1)).setCell ⟨w.heap.size + 1, 1, none⟩ (.slice x2 (refJoin C c).cloud.length f2)).setCell ⟨w.heap.size + 1, 2, none⟩ (.slice x3 (refJoin C c).items.length f3))) := Hd (((((btr HBW2.out hb6).setCell (p := ⟨w.heap.size + 1, 0, none⟩) hle (.slice x1 (refJoin C c).vec.length f1)).setCell (p := ⟨w.heap.size + 1, 1, none⟩) hle (.slice x2 (refJoin C c).cloud.length f2)).setCell (p := ⟨w.heap.size + 1, 2, none⟩) hle (.slice x3 (refJoin C c).items.length f3)))
    have HSF : Hid (w.heap.size + 1 + 1 ≤ (((W6.setCell ⟨w.heap.size + 1, 0, none⟩ (.slice x1 (refJoin C c).vec.length f1)).setCell ⟨w.heap.size + 1, 1, none⟩ (.slice x2 (refJoin C c).cloud.length f2)).setCell ⟨w.heap.size + 1, 2, none⟩ (.slice x3 (refJoin C c).items.length f3)).heap.size) := Hd (by rw [setCell_size, setCell_size, setCell_size]; omega)
    rw [hW6] at HOF HBOF HREF HBF HSF
    rw [set3_alloc _ _ _ _ _ _ hlt5] at HOF HBOF HREF HBF HSF
    have u0 : w5.cell? ⟨w.heap.size + 1, 0, none⟩ = some (.slice q1 C.vec.length e1) := cl0 hbo5 0 rfl
    have u1 : w5.cell? ⟨w.heap.size + 1, 1, none⟩ = some (.slice q2 C.cloud.length e2) := cl0 hbo5 1 rfl
    have u2 : w5.cell? ⟨w.heap.size + 1, 2, none⟩ = some (.slice q3 C.items.length e3) := cl0 hbo5 2 rfl
    have uf0 : w5.frozen? ⟨w.heap.size + 1, 0, none⟩ = false := froz0 hbo5 0
    have uf1 : w5.frozen? ⟨w.heap.size + 1, 1, none⟩ = false := froz0 hbo5 1
    have uf2 : w5.frozen? ⟨w.heap.size + 1, 2, none⟩ = false := froz0 hbo5 2
    rw [HCS.out] at HC1
    clear hW6 hb56 hb6 hb5 hbo5 hbo6 hre6 hown5 hRA HJ hz5 hz6 hz2
    generalize refJoin C c = JJ at *
    go_wp2_with fail
    go_roundw
    case rel => exact ⟨k + 1, _, _, _, by omega, by go_num, HV1.out, by rw [HCS.out]; exact HC1.out, HBOF.out, by rw [HCS.out]; exact HOF.out, HREF.out, HBF.out, HSF.out⟩
    case measure => simp [intOf]; omega
   ·have hcf : validC c = false := by simpa using hcv
    obtain ⟨hR1, hR2⟩ := joinR_false (a := C) hcf
    rw [hR1, hR2] at HJ
    have HF0 := Hd (HFF.out (HVF.out hcf))
    clear hR1 hR2 HVF HVS hcv hcf HFT HFF
    go_wp2_with fail
    rw [← HW2.out]
    refine HJ.out.mono ?_
    rintro e w5 ⟨x1, x2, x3, rfl, hown5, hb5⟩
    have hRA := hown5.cart zeroC_valid
    obtain ⟨x1, f1, rfl⟩ := hRA.1.slice
    obtain ⟨x2, f2, rfl⟩ := hRA.2.1.slice
    obtain ⟨x3, f3, rfl⟩ := hRA.2.2.slice
    have hre5 := (hb5.block _ (lt_of_heap HRE2.out)).trans HRE2.out
    have hlt5 : w.heap.size < w5.heap.size := lt_of_heap hre5
    have hb5w := btr HBW2.out hb5
    have HBF := Hd (hb5w.alloc hb5w.size (.cells #[.slice x1 zeroC.vec.length f1, .slice x2 zeroC.cloud.length f2, .slice x3 zeroC.items.length f3] 28))
    have u0 : w5.cell? ⟨w.heap.size, 0, none⟩ = some (.slice none 0 0) := cl0 hre5 0 rfl
    have u1 : w5.cell? ⟨w.heap.size, 1, none⟩ = some (.slice none 0 0) := cl0 hre5 1 rfl
    have u2 : w5.cell? ⟨w.heap.size, 2, none⟩ = some (.slice none 0 0) := cl0 hre5 2 rfl
    have uf0 : w5.frozen? ⟨w.heap.size, 0, none⟩ = false := froz0 hre5 0
    have uf1 : w5.frozen? ⟨w.heap.size, 1, none⟩ = false := froz0 hre5 1
    have uf2 : w5.frozen? ⟨w.heap.size, 2, none⟩ = false := froz0 hre5 2
    clear hre5 hown5 hRA HJ hb5 hb5w
    have HFIN : Hid (CartPost R E w (.returned (.tuple #[.agg #[.slice none 0 0, .slice none 0 0, .slice none 0 0], .int .i64 2])) ((((w5.alloc (.cells #[.slice x1 zeroC.vec.length f1, .slice x2 zeroC.cloud.length f2, .slice x3 zeroC.items.length f3] 28)).setCell ⟨w.heap.size, 0, none⟩ (.slice none 0 0)).setCell ⟨w.heap.size, 1, none⟩ (.slice none 0 0)).setCell ⟨w.heap.size, 2, none⟩ (.slice none 0 0))) := Hd (HF0.out _ ((((HBF.out.setCell (p := ⟨w.heap.size, 0, none⟩) (Nat.le_refl _) (.slice none 0 0)).setCell (p := ⟨w.heap.size, 1, none⟩) (Nat.le_refl _) (.slice none 0 0)).setCell (p := ⟨w.heap.size, 2, none⟩) (Nat.le_refl _) (.slice none 0 0))))
    rw [set3_alloc _ _ _ _ _ _ hlt5] at HFIN
    go_wp2_with fail
    (try simp only [Exit.inBlock, Exit.then])
    refine bodyPost_ret (v := .tuple #[.agg #[.slice none 0 0, .slice none 0 0, .slice none 0 0], .int .i64 2]) ?_ rfl HFIN.out
    rw [results_cell_tmp rfl]
    go_simp
  ·have hke : k = l.length := by omega
   subst hke
   rw [List.take_length] at hav hown hcl hCv hoA hbo
   have HFIN0 := Hd (HFT.out hav)
   have hrb := lt_of_heap hre
   have hcb := lt_of_heap hbo
   have u0 : wr.cell? ⟨w.heap.size + 1, 0, none⟩ = some (.slice q1 (allC l).vec.length e1) := cl0 hbo 0 rfl
   have u1 : wr.cell? ⟨w.heap.size + 1, 1, none⟩ = some (.slice q2 (allC l).cloud.length e2) := cl0 hbo 1 rfl
   have u2 : wr.cell? ⟨w.heap.size + 1, 2, none⟩ = some (.slice q3 (allC l).items.length e3) := cl0 hbo 2 rfl
   have d0 : wr.cell? ⟨w.heap.size, 0, none⟩ = some (.slice none 0 0) := cl0 hre 0 rfl
   have d1 : wr.cell? ⟨w.heap.size, 1, none⟩ = some (.slice none 0 0) := cl0 hre 1 rfl
   have d2 : wr.cell? ⟨w.heap.size, 2, none⟩ = some (.slice none 0 0) := cl0 hre 2 rfl
   have df0 : wr.frozen? ⟨w.heap.size, 0, none⟩ = false := froz0 hre 0
   have df1 : wr.frozen? ⟨w.heap.size, 1, none⟩ = false := froz0 hre 1
   have df2 : wr.frozen? ⟨w.heap.size, 2, none⟩ = false := froz0 hre 2
   have HFIN : Hid (CartPost R E w (.returned (.tuple #[.agg #[.slice q1 (allC l).vec.length e1, .slice q2 (allC l).cloud.length e2, .slice q3 (allC l).items.length e3], .int .i64 0])) (((wr.setCell ⟨w.heap.size, 0, none⟩ (.slice q1 (allC l).vec.length e1)).setCell ⟨w.heap.size, 1, none⟩ (.slice q2 (allC l).cloud.length e2)).setCell ⟨w.heap.size, 2, none⟩ (.slice q3 (allC l).items.length e3))) := Hd (HFIN0.out _ _ _ _ ((hown.stay (fun k hk => by rw [setCell_other (by omega), setCell_other (by omega), setCell_other (by omega)])).mono (by omega)) ((((hB.setCell (p := ⟨w.heap.size, 0, none⟩) (Nat.le_refl _) (.slice q1 (allC l).vec.length e1)).setCell (p := ⟨w.heap.size, 1, none⟩) (Nat.le_refl _) (.slice q2 (allC l).cloud.length e2)).setCell (p := ⟨w.heap.size, 2, none⟩) (Nat.le_refl _) (.slice q3 (allC l).items.length e3))))
   clear hav hown hcl hbo hre hB hoA HFT HFF HFIN0
   go_wp2_with fail
   (try simp only [Exit.inBlock, Exit.then])
   refine bodyPost_ret (v := .tuple #[.agg #[.slice q1 (allC l).vec.length e1, .slice q2 (allC l).cloud.length e2, .slice q3 (allC l).items.length e3], .int .i64 0]) ?_ rfl HFIN.out
   rw [results_cell_tmp rfl]
   go_simp
end Go.Proofs.YtjoljfnlkddfbaaGreatDoor
namespace Go.Proofs.YtjoljfnlkddfbaaGreatDoor
open Go.RowKit Go.Maps Go.Sort Go.Shelf

end Go.Proofs.YtjoljfnlkddfbaaGreatDoor

