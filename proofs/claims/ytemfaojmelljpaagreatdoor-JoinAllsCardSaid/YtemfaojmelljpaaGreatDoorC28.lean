/- JoinAlls inside. -/
import Derived.Test.YtemfaojmelljpaaGreatDoorC25
import Derived.Test.YtemfaojmelljpaaGreatDoorLawP
import Derived.Test.YtemfaojmelljpaaGreatDoorR11m
import Derived.Test.YtemfaojmelljpaaGreatDoorCt
set_option linter.unusedSimpArgs false
set_option linter.unusedVariables false
set_option maxRecDepth 100000
set_option maxHeartbeats 16000000
namespace Go.Proofs.YtemfaojmelljpaaGreatDoor
open Go.RowKit Go.Maps Go.Sort Go.Shelf

theorem alls_bad {l : List CartD} (h : allV l = false) : (decide (allR l = zeroC) && (allE l == 2)) = true := by
 unfold allR allE;rw [h]
 simp
theorem alls_good {l m : List CartD} (h : allV l = true) (hm : ∀ c, c ∈ m ↔ c ∈ l) : (decide (allR m = allC l) && (allE m == 0)) = true := by
 have h1 : ∀ c ∈ l, validC c = true := fun c hc => List.all_eq_true.1 h c hc
 have h2 : allV m = true := List.all_eq_true.2 (fun c hc => h1 c ((hm c).1 hc))
 unfold allR allE;rw [h2, allC_eq (l := m) (m := l) (fun c hc => h1 c ((hm c).1 hc)) hm]
 simp
theorem turned_mem {l : List CtW} {k : Nat} (hk : k < l.length) (c : CartD) : c ∈ ([] ++ l.drop k ++ l.take k ++ [l[k]] : List CtW).map (fun p => p.c) ↔ c ∈ l.map (fun p => p.c) := by
 have e : ∀ p, p ∈ ([] ++ l.drop k ++ l.take k ++ [l[k]] : List CtW) ↔ p ∈ l := fun p => by
  have h2 : p ∈ l ↔ p ∈ l.take k ∨ p ∈ l.drop k := by rw [← List.mem_append, List.take_append_drop]
  simp only [List.nil_append, List.mem_append, List.mem_singleton]
  constructor
  ·rintro ((h | h) | rfl)
   ·exact List.mem_of_mem_drop h
   ·exact List.mem_of_mem_take h
   ·exact List.getElem_mem hk
  ·intro h
   rcases h2.1 h with h | h
   ·exact Or.inl (Or.inr h)
   ·exact Or.inl (Or.inl h)
 simp only [List.mem_map, e]
theorem l11Alls_any (l : List CartD) (turn : Int) (v : Value) (w : World) (h : Arr CartR 3 w v l) (ht0 : 0 ≤ turn) (ht1 : turn < 256) (hG : GlobIs w) :
  Calls Tryz.prog 4 #[v, .int .u8 turn] w fun e w' => e = .returned (.bool true) ∧ Below w.heap.size w w' := by
 obtain ⟨ps, rfl, hps⟩ := h.ctw;obtain ⟨⟨o, cc, rfl, hel⟩, hcs⟩ := hps.ctwAt;have hcap := hps;have hcl : ps.length ≤ cc := by
  obtain ⟨o', c', e, h2, -⟩ := hcap
  cases e
  exact h2
 have HPS := Hd hps;have HEL : Hid (∀ wz, Below w.heap.size w wz → ∀ i (hi : i < ps.length), ∃ b off, o = some ⟨b, off, none⟩ ∧ b < w.heap.size ∧ wz.cell? ⟨b, off + i * 3, none⟩ = some ps[i].v1 ∧ wz.cell? ⟨b, off + i * 3 + 1, none⟩ = some ps[i].v2 ∧ wz.cell? ⟨b, off + i * 3 + 2, none⟩ = some ps[i].v3) := Hd (fun wz hz i hi => by
  obtain ⟨b, off, e, hb, e1, e2, e3⟩ := hel i hi;exact ⟨b, off, e, hb, by rw [hz.cell (p := ⟨_, _, _⟩) hb]; exact e1, by rw [hz.cell (p := ⟨_, _, _⟩) hb]; exact e2, by rw [hz.cell (p := ⟨_, _, _⟩) hb]; exact e3⟩)
 have HCS : Hid (∀ p ∈ ps, CartA w p.v1 p.v2 p.v3 p.c) := Hd hcs;have HG := Hd hG;have HARR := Hd hps.of_ctw;have HCL := Hd hcl;clear h hps hel hcs hG hcap hcl
 go_enter Tryz.func4, Tryz.ntmps4
 by_cases h6 : 6 < ps.length
 ·have a6 : (6 : Int) < (ps.length : Int) := by omega
  go_wp2_with fail
  refine (l11known_any _ (HG.out.below (Below.refl w.heap.size w))).mono ?_;rintro e wk ⟨rfl, hbk⟩;have HBK := Hd ((Below.refl w.heap.size w).trans (hbk.mono (Below.refl w.heap.size w).size));clear hbk
  go_wp2_with fail
  go_ret
  exact ⟨rfl, HBK.out⟩
 ·have a6 : ¬ (6 : Int) < (ps.length : Int) := by omega
  have hl6 : ps.length ≤ 6 := by omega
  have HL6 := Hd hl6
  go_wp2_with fail
  go_loopw [5, 16] (fun fv iv wr => ∃ k : Nat, k ≤ ps.length ∧ iv = .int .i64 k ∧ fv = .bool ((ps.take k).all (fun p => validC p.c)) ∧ (ps.take k).all (fun p => lightC p.c) = true ∧ Below w.heap.size w wr) (fun _ iv _ => ps.length - (intOf iv).toNat)
  case atStart => exact ⟨0, Nat.zero_le _, rfl, rfl, rfl, Below.refl _ _⟩
  case round =>
   obtain ⟨k, hk, rfl, rfl, hli, hB⟩ := hrel;have HB := Hd hB;have HLI := Hd hli;clear hB hli;obtain ⟨F, hF⟩ : ∃ F, F = (ps.take k).all (fun p => validC p.c) := ⟨_, rfl⟩
   rw [← hF];have HF := Hd hF;clear hF
   by_cases hlt : k < ps.length
   ·obtain ⟨b, off, rfl, hbl, e1, e2, e3⟩ := HEL.out wr HB.out k hlt
    have hca := (HCS.out _ (List.getElem_mem hlt)).below HB.out;have HT1 : Hid ((ps.take (k + 1)).all (fun p => validC p.c) = ((ps.take k).all (fun p => validC p.c) && validC ps[k].c)) := Hd (by rw [List.take_succ_eq_append_getElem hlt, List.all_append]; simp)
    have HT2 : Hid ((ps.take (k + 1)).all (fun p => lightC p.c) = ((ps.take k).all (fun p => lightC p.c) && lightC ps[k].c)) := Hd (by rw [List.take_succ_eq_append_getElem hlt, List.all_append]; simp)
    generalize ps[k] = p at *
    obtain ⟨c, o1, k1, o2, k2, o3, k3⟩ := p;simp only [CtW.v1, CtW.v2, CtW.v3] at e1 e2 e3 hca;obtain ⟨n1, hn1⟩ : ∃ n, n = c.vec.length := ⟨_, rfl⟩;obtain ⟨n2, hn2⟩ : ∃ n, n = c.cloud.length := ⟨_, rfl⟩;obtain ⟨n3, hn3⟩ : ∃ n, n = c.items.length := ⟨_, rfl⟩;rw [← hn1] at e1 hca;rw [← hn2] at e2 hca;rw [← hn3] at e3 hca;obtain ⟨W, hW⟩ : ∃ x, x = wr.alloc (.cells #[.slice o1 n1 k1, .slice o2 n2 k2, .slice o3 n3 k3] 28) := ⟨_, rfl⟩;have hbW : Below wr.heap.size wr W := by rw [hW]; exact bal
    have hxW : W.heap[wr.heap.size]? = some (.cells #[.slice o1 n1 k1, .slice o2 n2 k2, .slice o3 n3 k3] 28) := by rw [hW]; exact alloc_new _ _
    have HA := Hd (hca.below hbW);have HBW := Hd (btr HB.out hbW);have HX := Hd hxW;have HW := Hd hW;have x0 : W.cell? ⟨wr.heap.size, 0, none⟩ = some (.slice o1 n1 k1) := cl0 hxW 0 rfl;have x1 : W.cell? ⟨wr.heap.size, 1, none⟩ = some (.slice o2 n2 k2) := cl0 hxW 1 rfl;have x2 : W.cell? ⟨wr.heap.size, 2, none⟩ = some (.slice o3 n3 k3) := cl0 hxW 2 rfl;have HLT := Hd (l11light_any c _ _ _ W HA.out);obtain ⟨r, hr⟩ : ∃ r, r = lightC c := ⟨_, rfl⟩;rw [← hr] at HLT;have HR := Hd hr;have a0 : (0 : Int) ≤ k := by omega
    have a1 : (k : Int) < (ps.length : Int) := by omega
    have hkw := wr1 k (by omega)
    clear hca hn1 hn2 hn3 hbW hxW hW hr
    go_upto_region 7 with fail
    rw [← HW.out]
    go_wp2_with fail
    refine HLT.out.mono ?_;rintro e w2 ⟨rfl, hb2⟩;have HB2 := Hd (btr HBW.out hb2);have HA2 := Hd (HA.out.below hb2);have hx2 := (hb2.block _ (lt_of_heap HX.out)).trans HX.out;have y0 : w2.cell? ⟨wr.heap.size, 0, none⟩ = some (.slice o1 n1 k1) := cl0 hx2 0 rfl;have y1 : w2.cell? ⟨wr.heap.size, 1, none⟩ = some (.slice o2 n2 k2) := cl0 hx2 1 rfl;have y2 : w2.cell? ⟨wr.heap.size, 2, none⟩ = some (.slice o3 n3 k3) := cl0 hx2 2 rfl;clear hb2 hx2 x0 x1 x2 e1 e2 e3
    cases r with
    | false =>
     go_wp2_with fail
     refine (l11known_any _ (HG.out.below HB2.out)).mono ?_;rintro e wk ⟨rfl, hbk⟩;have HBK := Hd (btr HB2.out hbk);clear hbk
     go_wp2_with fail
     go_ret
     exact ⟨rfl, HBK.out⟩
    | true =>
     have HL2 : Hid ((ps.take (k + 1)).all (fun p => lightC p.c) = true) := Hd (by rw [HT2.out, HLI.out, ← HR.out]; rfl)
     have hsz := ((lightC_CL HR.out.symm).sz (by omega)).1
     cases F with
     | false =>
      have HT : Hid ((ps.take (k + 1)).all (fun p => validC p.c) = false) := Hd (by rw [HT1.out, ← HF.out]; rfl)
      go_wp2_with fail
      go_roundw
      case rel => exact ⟨k + 1, by omega, by go_num, by rw [HT.out], HL2.out, HB2.out⟩
      case measure => simp [intOf]; omega
     | true =>
      have HV := Hd (r10Valid_any c _ _ _ w2 HA2.out hsz);have HT : Hid ((ps.take (k + 1)).all (fun p => validC p.c) = validC c) := Hd (by rw [HT1.out, ← HF.out]; rfl)
      generalize validC c = vc at *
      go_wp2_with fail
      refine HV.out.mono ?_;rintro e w3 ⟨rfl, hb3⟩;have HB3 := Hd (btr HB2.out hb3);clear hb3 y0 y1 y2
      go_wp2_with fail
      go_roundw
      case rel => exact ⟨k + 1, by omega, by go_num, by rw [HT.out], HL2.out, HB3.out⟩
      case measure => simp [intOf]; omega
   ·have hke : k = ps.length := by omega
    have a1 : ¬ ((k : Int) < (ps.length : Int)) := by omega
    have HLA : Hid (∀ c ∈ ps.map (·.c), CL 80 c) := Hd (fun c hc => by
     obtain ⟨p, hp, rfl⟩ := List.mem_map.1 hc;have := HLI.out;rw [hke, List.take_length] at this;exact lightC_CL (List.all_eq_true.1 this p hp))
    have HFV : Hid (allV (ps.map (·.c)) = F) := Hd (by
     rw [HF.out, hke, List.take_length];unfold allV;rw [List.all_map]
     rfl)
    have hA3 := HARR.out.carts HB.out;have hll : (ps.map (·.c)).length ≤ 10 := by rw [List.length_map]; omega
    have HA3 := Hd hA3;have HGR := Hd (HG.out.below HB.out);clear hA3
    cases F with
    | false =>
     have HAL := Hd (l11all_any (ps.map (·.c)) zeroC 2 _ (.slice none 0 0) (.slice none 0 0) (.slice none 0 0) wr HA3.out ⟨arr_nil, arr_nil, arr_nil⟩ hll HLA.out HGR.out);rw [alls_bad HFV.out] at HAL
     go_wp2_with fail
     refine HAL.out.mono ?_;rintro e w2 ⟨rfl, hb2⟩;have HB2 := Hd (btr HB.out hb2);clear hb2
     go_wp2_with fail
     refine (l11known_any _ (HG.out.below HB2.out)).mono ?_;rintro e wk ⟨rfl, hbk⟩;have HBK := Hd (btr HB2.out hbk);clear hbk
     go_wp2_with fail
     go_ret
     exact ⟨rfl, HBK.out⟩
    | true =>
     have hval : ∀ c ∈ ps.map (·.c), validC c = true := fun c hc => List.all_eq_true.1 HFV.out c hc
     have HAA := Hd (r11All_any (ps.map (·.c)) _ wr HA3.out hll HLA.out hval);clear hval
     go_wp2_with fail
     refine HAA.out.mono ?_;rintro e w2 ⟨z1, z2, z3, rfl, hz, hb2⟩;obtain ⟨i1, l1, rfl⟩ := hz.1.slice;obtain ⟨i2, l2, rfl⟩ := hz.2.1.slice;obtain ⟨i3, l3, rfl⟩ := hz.2.2.slice;obtain ⟨C, hC⟩ : ∃ C, C = allC (ps.map (·.c)) := ⟨_, rfl⟩;rw [← hC] at hz ⊢;obtain ⟨m1, hm1⟩ : ∃ n, n = C.vec.length := ⟨_, rfl⟩;obtain ⟨m2, hm2⟩ : ∃ n, n = C.cloud.length := ⟨_, rfl⟩;obtain ⟨m3, hm3⟩ : ∃ n, n = C.items.length := ⟨_, rfl⟩;rw [← hm1, ← hm2, ← hm3] at hz ⊢;obtain ⟨W, hW⟩ : ∃ x, x = w2.alloc (.cells #[.slice i1 m1 l1, .slice i2 m2 l2, .slice i3 m3 l3] 28) := ⟨_, rfl⟩;have hbW : Below w2.heap.size w2 W := by rw [hW]; exact bal
     have hxW : W.heap[w2.heap.size]? = some (.cells #[.slice i1 m1 l1, .slice i2 m2 l2, .slice i3 m3 l3] 28) := by rw [hW]; exact alloc_new _ _
     have HZ := Hd (hz.below hbW);have HB0 := Hd (HB.out.trans ((btr hb2 hbW).mono HB.out.size));have HX := Hd hxW;have HW := Hd hW;have x0 : W.cell? ⟨w2.heap.size, 0, none⟩ = some (.slice i1 m1 l1) := cl0 hxW 0 rfl;have x1 : W.cell? ⟨w2.heap.size, 1, none⟩ = some (.slice i2 m2 l2) := cl0 hxW 1 rfl;have x2 : W.cell? ⟨w2.heap.size, 2, none⟩ = some (.slice i3 m3 l3) := cl0 hxW 2 rfl;have hA4 := HARR.out.carts HB0.out;have HALL := Hd (l11all_any (ps.map (·.c)) C 0 _ _ _ _ W hA4 HZ.out hll HLA.out (HG.out.below HB0.out));have hgood := alls_good (m := ps.map (·.c)) HFV.out (fun _ => Iff.rfl)
     rw [← hC] at hgood;rw [hgood] at HALL;have HC := Hd hC;clear hz hb2 hbW hxW hW hA4 hm1 hm2 hm3 HAA hgood hC HA3
     go_upto_region 14 with fail
     rw [← HW.out]
     go_wp2_with fail
     refine HALL.out.mono ?_;rintro e w3 ⟨rfl, hb3⟩;have HB3 := Hd (btr HB0.out hb3);have HX3 := Hd ((hb3.block _ (lt_of_heap HX.out)).trans HX.out);have HZ3 := Hd (HZ.out.below hb3);clear hb3 x0 x1 x2 HX HZ HW HALL HGR
     by_cases hn0 : ps.length = 0
     ·have b0 : ((ps.length : Int) == 0) = true := by rw [hn0]; rfl
      go_wp2_with fail
      refine (l11known_any _ (HG.out.below HB3.out)).mono ?_;rintro e wk ⟨rfl, hbk⟩;have HBK := Hd (btr HB3.out hbk);clear hbk
      go_wp2_with fail
      go_ret
      exact ⟨rfl, HBK.out⟩
     ·have b0 : ((ps.length : Int) == 0) = false := by rw [beq_eq_false_iff_ne]; omega
      have hn1 : 0 < ps.length := by omega
      obtain ⟨k, hk9⟩ : ∃ k : Nat, turn % (ps.length : Int) = k := ⟨(turn % (ps.length : Int)).toNat, (Int.toNat_of_nonneg (Int.emod_nonneg _ (by omega))).symm⟩
      have hkl : k < ps.length := by have := Int.emod_lt_of_pos turn (show (0 : Int) < (ps.length : Int) by omega); omega
      obtain ⟨wq, rfl⟩ : ∃ x, x = w3 := ⟨w3, rfl⟩;obtain ⟨b, off, rfl, hbl, e1, e2, e3⟩ := HEL.out wq HB3.out k hkl;have HEL2 : Hid (∀ wz, Below wq.heap.size wq wz → wz.cell? ⟨b, off + k * 3, none⟩ = some ps[k].v1 ∧ wz.cell? ⟨b, off + k * 3 + 1, none⟩ = some ps[k].v2 ∧ wz.cell? ⟨b, off + k * 3 + 2, none⟩ = some ps[k].v3) := Hd (fun wz hz => by
       have hb2 : b < wq.heap.size := Nat.lt_of_lt_of_le hbl HB3.out.size;exact ⟨by rw [hz.cell (p := ⟨_, _, _⟩) hb2]; exact e1, by rw [hz.cell (p := ⟨_, _, _⟩) hb2]; exact e2, by rw [hz.cell (p := ⟨_, _, _⟩) hb2]; exact e3⟩)
      have hcl := HCL.out;have HSRC : Hid (∀ wz, Below wq.heap.size wq wz → ECart.Src wz (.slice (some ⟨b, off, none⟩) ps.length cc) ps) := Hd (fun wz hz => Arr.toSrc (E := ECart) (HPS.out.ctws (btr HB3.out hz)) (fun a cs h => h.1))
      have HSA : Hid (∀ wz, Below wq.heap.size wq wz → ECart.Src wz (.slice (some ⟨b, off, none⟩) k cc) (ps.take k)) := Hd (fun wz hz => by
       have := (HSRC.out wz hz).sliced hcl 0 k (Nat.zero_le _) (by omega) 3 rfl
       rw [List.drop_zero, sliced_zero] at this;exact this)
      have HSB : Hid (∀ wz, Below wq.heap.size wq wz → ECart.Src wz (.slice (some ⟨b, off + k * 3, none⟩) (ps.length - k) (cc - k)) (ps.drop k)) := Hd (fun wz hz => by
       have := (HSRC.out wz hz).sliced hcl k ps.length (by omega) (Nat.le_refl _) 3 rfl
       rw [List.take_length] at this;unfold Go.sliced at this;rw [if_neg (by omega)] at this
       simp only [Option.map_some, addr_add] at this;exact this)
      have HAL : Hid (∀ v' w', ECart.Row wq.heap.size w' v' ([] ++ ps.drop k ++ ps.take k ++ [ps[k]]) → Below wq.heap.size wq w' → Calls Tryz.prog 17 #[v', .agg #[.slice i1 m1 l1, .slice i2 m2 l2, .slice i3 m3 l3], .int .i64 0] w' fun e w'' => e = .returned (.bool true) ∧ Below w'.heap.size w' w'') := Hd (fun v' w' hr hb => by
       have hmem := turned_mem (l := ps) hkl;have hA := Arr.ctwOf hr (HPS.out.ctws HB3.out) hb (fun q hq => by
        simp only [List.nil_append, List.mem_append, List.mem_singleton] at hq
        rcases hq with (hq | hq) | hq
        ·exact List.mem_of_mem_drop hq
        ·exact List.mem_of_mem_take hq
        ·rw [hq]; exact List.getElem_mem _)
       have := l11all_any _ C 0 v' _ _ _ w' hA (HZ3.out.below hb) (by simp; omega) (fun c hc => HLA.out c ((hmem c).1 hc)) (HG.out.below (btr HB3.out hb))
       rw [HC.out, alls_good HFV.out hmem] at this;exact this)
      have HBW := Hd HB3.out;have HB8 : Hid (∀ wz, Below wq.heap.size wq wz → wz.cell? ⟨w2.heap.size, 0, none⟩ = some (.slice i1 m1 l1) ∧ wz.cell? ⟨w2.heap.size, 1, none⟩ = some (.slice i2 m2 l2) ∧ wz.cell? ⟨w2.heap.size, 2, none⟩ = some (.slice i3 m3 l3)) := Hd (fun wz hz => cel3 ((hz.block _ (lt_of_heap HX3.out)).trans HX3.out))
      have HGW := Hd (HG.out.below HB3.out);obtain ⟨p, hp⟩ : ∃ p, p = ps[k] := ⟨_, rfl⟩;rw [← hp] at HAL HEL2;obtain ⟨c, o1, k1, o2, k2, o3, k3⟩ := p;obtain ⟨p, hp2⟩ : ∃ p : CtW, p = ⟨c, o1, k1, o2, k2, o3, k3⟩ := ⟨_, rfl⟩;have HEP : Hid (∀ wz, Below wq.heap.size wq wz → wz.cell? ⟨b, off + k * 3, none⟩ = some (.slice o1 c.vec.length k1) ∧ wz.cell? ⟨b, off + k * 3 + 1, none⟩ = some (.slice o2 c.cloud.length k2) ∧ wz.cell? ⟨b, off + k * 3 + 2, none⟩ = some (.slice o3 c.items.length k3)) := Hd (fun wz hz => HEL2.out wz hz)
      rw [← hp2] at HAL;have HP := Hd hp2;have HLE := Hd hl6;have hcc : ¬ cc = k := by omega
      have a0 : (0 : Int) ≤ k := by omega
      have a2 : (k : Int) < (ps.length : Int) := by omega
      have a3 : (k : Int) ≤ (ps.length : Int) := by omega
      have a4 : (ps.length : Int) ≤ (cc : Int) := by omega
      have a5 : (k : Int) ≤ (cc : Int) := by omega
      clear e1 e2 e3 hp hp2 HEL2 HSRC HEL HCS HZ3 HX3 HFV HLA HC HARR hcl hbl HLI HF
      go_upto_region 19 with fail
      rw [hk9];clear hk9;refine NQ.to ?_;refine wp_region_held_drew (S := (fun wz => Below wq.heap.size wq wz)) (by kernel_rfl) ((below_drew1 (Below.refl wq.heap.size wq))) (fun hS => ?_)
      refine tkR (n := 11) [0, 1, 2, 4, 5, 6, 8, 9, 10, 11, 14] rfl (by decide +kernel) hS ?_
      iterate 11 ((try simp only [Act.put, s1, s2, s3, s4, s5, s6]); refine ⟨_, ?_, rfl, Or.inl ⟨by kernel_rfl, fun w hSw => ok_of fun z hz => ?_⟩, ?_⟩; rotate_left; · (have HEX := HEP.out _ hSw; obtain ⟨f0, f1, f2⟩ := HEX; have HBX := HB8.out _ hSw; obtain ⟨f3, f4, f5⟩ := HBX; go_simp; exact hz))
      refine RunOK.done ?_
      try simp only [Act.put, s1, s2, s3, s4, s5, s6]
      refine wpAnyH_ready (rs := [3, 12]) (by decide +kernel) (by simp) ?_
      refine (AllReadyH.cons rfl (fun K hK => ?_) (AllReadyH.cons rfl (fun K hK => ?_) AllReadyH.nil))
      ·refine step_append_row rfl _ _ 39 rfl ECart (wq.drew.heap.size) (.agg #[.slice none 0 0, .slice none 0 0, .slice none 0 0]) 72 Tryz.underlying39 infoCart (by decide) (by decide) _ [] rfl (Enc.Row.nil _ _) _ (ps.drop k) rfl (HSB.out _ (below_drew1 (Below.refl wq.heap.size wq))) (by have := HLE.out; simp; omega) (Nat.le_refl _) ?_
       intro v3 w3 hrow3 hgr3;have hl3 : Below wq.drew.heap.size wq.drew w3 := brf.grown hgr3 (Nat.le_refl _) (fun j hj => by cases hj)
       have hb3 := (below_drew1 (Below.refl wq.heap.size wq)).trans (hl3.mono (below_drew1 (Below.refl wq.heap.size wq)).size);have hr3 : wq.heap.size ≤ wq.drew.heap.size := (below_drew1 (Below.refl wq.heap.size wq)).size;refine Shut.out hK _ _ (hb3) (fun hS2 => ?_); clear hK K hS; have hS := hS2; clear hS2
       try simp only [Act.put, s1, s2, s3, s4, s5, s6]
       refine wpAnyH_ready (rs := [7, 12]) (by decide +kernel) (by simp) ?_
       refine (AllReadyH.cons rfl (fun K hK => ?_) (AllReadyH.cons rfl (fun K hK => ?_) AllReadyH.nil))
       ·refine step_append_row rfl _ _ 39 rfl ECart (wq.heap.size) (.agg #[.slice none 0 0, .slice none 0 0, .slice none 0 0]) 72 Tryz.underlying39 infoCart (by decide) (by decide) _ ([] ++ ps.drop k) rfl (hrow3.mono hr3) _ (ps.take k) rfl (HSA.out _ hb3) (by have := HLE.out; simp; omega) (hb3.size) ?_
        intro v7 w7 hrow7 hgr7;have hb7 := hb3.grown hgr7 hb3.size (fun j hj => Nat.le_trans hr3 (hrow3.lt _ hj).1)
        refine Shut.out hK _ _ (hb7) (fun hS2 => ?_); clear hK K hS; have hS := hS2; clear hS2
        try simp only [Act.put, s1, s2, s3, s4, s5, s6]
        refine rd1 12 (by decide +kernel) rfl (fun K hK => ?_)
        go_simp;have hal12 : Below w7.heap.size w7 (w7.alloc (.cells #[.slice o1 c.vec.length k1, .slice o2 c.cloud.length k2, .slice o3 c.items.length k3] 28)) := bal;have hb12 := btr hb7 hal12;have hrow12 : ECart.Row w7.heap.size (w7.alloc (.cells #[.slice o1 c.vec.length k1, .slice o2 c.cloud.length k2, .slice o3 c.items.length k3] 28)) (.slice (some ⟨w7.heap.size, 0, none⟩) 1 1) [p] := by rw [HP.out]; exact row_lit ECart [⟨c, o1, k1, o2, k2, o3, k3⟩] w7 (by unfold maxLen; simp)
        have hrow7 := hrow7.below hal12;refine Shut.out hK _ _ (hb12) (fun hS2 => ?_); clear hK K hS; have hS := hS2; clear hS2
        try simp only [Act.put, s1, s2, s3, s4, s5, s6]
        refine rd1 13 (by decide +kernel) rfl (fun K hK => ?_)
        refine step_append_row rfl _ _ 39 rfl ECart (wq.heap.size) (.agg #[.slice none 0 0, .slice none 0 0, .slice none 0 0]) 72 Tryz.underlying39 infoCart (by decide) (by decide) _ ([] ++ ps.drop k ++ ps.take k) rfl (hrow7) _ [p] rfl (hrow12.toSrc) (by have := HLE.out; simp; omega) (hb12.size) ?_
        intro v13 w13 hrow13 hgr13;have hb13 := hb12.grown hgr13 hb12.size (fun j hj => (hrow7.lt _ hj).1)
        refine Shut.out hK _ _ (hb13) (fun hS2 => ?_); clear hK K hS; have hS := hS2; clear hS2
        try simp only [Act.put, s1, s2, s3, s4, s5, s6]
        refine rd1 15 (by decide +kernel) rfl (fun K hK => ?_)
        go_simp
        go_at_call 17
        refine (HAL.out _ _ hrow13 hb13).mono ?_;rintro e w15 ⟨rfl, hb15⟩;have hb135 := btr hb13 hb15;go_simp;refine Shut.out hK _ _ (hb135) (fun hS2 => ?_); clear hK K hS; have hS := hS2; clear hS2
        refine tkR (n := 1) [16] rfl (by decide +kernel) hS ?_
        ((try simp only [Act.put, s1, s2, s3, s4, s5, s6]); refine ⟨_, ?_, rfl, Or.inl ⟨by kernel_rfl, fun w hSw => ok_of fun z hz => ?_⟩, ?_⟩; rotate_left; · (go_simp; exact hz))
        refine RunOK.done ?_
        try simp only [Act.put, s1, s2, s3, s4, s5, s6]
        refine rd1 17 (by decide +kernel) rfl (fun K hK => ?_)
        go_simp
        go_at_call 9
        refine (l11known_any _ (HGW.out.below hb135)).mono ?_;rintro e w17 ⟨rfl, hb17⟩;have hb137 := btr hb135 hb17;go_simp;refine Shut.out hK _ _ (hb137) (fun hS2 => ?_); clear hK K hS; have hS := hS2; clear hS2
        refine tkR (n := 2) [18, 19] rfl (by decide +kernel) hS ?_
        iterate 2 ((try simp only [Act.put, s1, s2, s3, s4, s5, s6]); refine ⟨_, ?_, rfl, Or.inl ⟨by kernel_rfl, fun w hSw => ok_of fun z hz => ?_⟩, ?_⟩; rotate_left; · (go_simp; exact hz))
        refine RunOK.done ?_
        try simp only [Act.put, s1, s2, s3, s4, s5, s6]
        refine wpAnyH_done (by kernel_rfl) ?_ _
        try simp only [Act.put, s1, s2, s3, s4, s5, s6]
        simp only [NQ]
        go_wp2_with fail
        go_ret
        exact ⟨rfl, btr HBW.out hb137⟩
       ·go_simp
        have hal12 : Below w3.heap.size w3 (w3.alloc (.cells #[.slice o1 c.vec.length k1, .slice o2 c.cloud.length k2, .slice o3 c.items.length k3] 28)) := bal;have hb12 := btr hb3 hal12;have hrow12 : ECart.Row w3.heap.size (w3.alloc (.cells #[.slice o1 c.vec.length k1, .slice o2 c.cloud.length k2, .slice o3 c.items.length k3] 28)) (.slice (some ⟨w3.heap.size, 0, none⟩) 1 1) [p] := by rw [HP.out]; exact row_lit ECart [⟨c, o1, k1, o2, k2, o3, k3⟩] w3 (by unfold maxLen; simp)
        have hnn : ∀ j, v3.ownBlock = some j → ∀ i, (Value.slice (some ⟨w3.heap.size, 0, none⟩) 1 1).ownBlock = some i → i ≠ j := fun j hj i hi e => by have := (hrow3.lt j hj).2; have := (hrow12.lt i hi).1; omega
        have hrow3 := hrow3.below hal12;refine Shut.out hK _ _ (hb12) (fun hS2 => ?_); clear hK K hS; have hS := hS2; clear hS2
        try simp only [Act.put, s1, s2, s3, s4, s5, s6]
        refine rd1 7 (by decide +kernel) rfl (fun K hK => ?_)
        refine step_append_row rfl _ _ 39 rfl ECart (wq.heap.size) (.agg #[.slice none 0 0, .slice none 0 0, .slice none 0 0]) 72 Tryz.underlying39 infoCart (by decide) (by decide) _ ([] ++ ps.drop k) rfl (hrow3.mono hr3) _ (ps.take k) rfl (HSA.out _ hb12) (by have := HLE.out; simp; omega) (hb12.size) ?_
        intro v7 w7 hrow7 hgr7;have hb7 := hb12.grown hgr7 hb12.size (fun j hj => Nat.le_trans hr3 (hrow3.lt _ hj).1)
        have hrow12 := hrow12.stay (fun j hj => hgr7.block j (hrow12.lt j hj).2 (fun e => hnn _ e.symm j hj rfl))
        refine Shut.out hK _ _ (hb7) (fun hS2 => ?_); clear hK K hS; have hS := hS2; clear hS2
        try simp only [Act.put, s1, s2, s3, s4, s5, s6]
        refine rd1 13 (by decide +kernel) rfl (fun K hK => ?_)
        refine step_append_row rfl _ _ 39 rfl ECart (wq.heap.size) (.agg #[.slice none 0 0, .slice none 0 0, .slice none 0 0]) 72 Tryz.underlying39 infoCart (by decide) (by decide) _ ([] ++ ps.drop k ++ ps.take k) rfl (hrow7) _ [p] rfl (hrow12.toSrc) (by have := HLE.out; simp; omega) (hb7.size) ?_
        intro v13 w13 hrow13 hgr13;have hb13 := hb7.grown hgr13 hb7.size (fun j hj => (hrow7.lt _ hj).1)
        refine Shut.out hK _ _ (hb13) (fun hS2 => ?_); clear hK K hS; have hS := hS2; clear hS2
        try simp only [Act.put, s1, s2, s3, s4, s5, s6]
        refine rd1 15 (by decide +kernel) rfl (fun K hK => ?_)
        go_simp
        go_at_call 17
        refine (HAL.out _ _ hrow13 hb13).mono ?_;rintro e w15 ⟨rfl, hb15⟩;have hb135 := btr hb13 hb15;go_simp;refine Shut.out hK _ _ (hb135) (fun hS2 => ?_); clear hK K hS; have hS := hS2; clear hS2
        refine tkR (n := 1) [16] rfl (by decide +kernel) hS ?_
        ((try simp only [Act.put, s1, s2, s3, s4, s5, s6]); refine ⟨_, ?_, rfl, Or.inl ⟨by kernel_rfl, fun w hSw => ok_of fun z hz => ?_⟩, ?_⟩; rotate_left; · (go_simp; exact hz))
        refine RunOK.done ?_
        try simp only [Act.put, s1, s2, s3, s4, s5, s6]
        refine rd1 17 (by decide +kernel) rfl (fun K hK => ?_)
        go_simp
        go_at_call 9
        refine (l11known_any _ (HGW.out.below hb135)).mono ?_;rintro e w17 ⟨rfl, hb17⟩;have hb137 := btr hb135 hb17;go_simp;refine Shut.out hK _ _ (hb137) (fun hS2 => ?_); clear hK K hS; have hS := hS2; clear hS2
        refine tkR (n := 2) [18, 19] rfl (by decide +kernel) hS ?_
        iterate 2 ((try simp only [Act.put, s1, s2, s3, s4, s5, s6]); refine ⟨_, ?_, rfl, Or.inl ⟨by kernel_rfl, fun w hSw => ok_of fun z hz => ?_⟩, ?_⟩; rotate_left; · (go_simp; exact hz))
        refine RunOK.done ?_
        try simp only [Act.put, s1, s2, s3, s4, s5, s6]
        refine wpAnyH_done (by kernel_rfl) ?_ _
        try simp only [Act.put, s1, s2, s3, s4, s5, s6]
        simp only [NQ]
        go_wp2_with fail
        go_ret
        exact ⟨rfl, btr HBW.out hb137⟩
      ·go_simp
       have hal12 : Below wq.drew.heap.size wq.drew (wq.drew.alloc (.cells #[.slice o1 c.vec.length k1, .slice o2 c.cloud.length k2, .slice o3 c.items.length k3] 28)) := bal;have hb12 := (below_drew1 (Below.refl wq.heap.size wq)).trans (hal12.mono (below_drew1 (Below.refl wq.heap.size wq)).size);have hrow12 : ECart.Row wq.drew.heap.size (wq.drew.alloc (.cells #[.slice o1 c.vec.length k1, .slice o2 c.cloud.length k2, .slice o3 c.items.length k3] 28)) (.slice (some ⟨wq.drew.heap.size, 0, none⟩) 1 1) [p] := by rw [HP.out]; exact row_lit ECart [⟨c, o1, k1, o2, k2, o3, k3⟩] wq.drew (by unfold maxLen; simp)
       refine Shut.out hK _ _ (hb12) (fun hS2 => ?_); clear hK K hS; have hS := hS2; clear hS2
       try simp only [Act.put, s1, s2, s3, s4, s5, s6]
       refine rd1 3 (by decide +kernel) rfl (fun K hK => ?_)
       refine step_append_row rfl _ _ 39 rfl ECart ((wq.drew.alloc (.cells #[.slice o1 c.vec.length k1, .slice o2 c.cloud.length k2, .slice o3 c.items.length k3] 28)).heap.size) (.agg #[.slice none 0 0, .slice none 0 0, .slice none 0 0]) 72 Tryz.underlying39 infoCart (by decide) (by decide) _ [] rfl (Enc.Row.nil _ _) _ (ps.drop k) rfl (HSB.out _ hb12) (by have := HLE.out; simp; omega) (Nat.le_refl _) ?_
       intro v3 w3 hrow3 hgr3;have hl3 : Below (wq.drew.alloc (.cells #[.slice o1 c.vec.length k1, .slice o2 c.cloud.length k2, .slice o3 c.items.length k3] 28)).heap.size (wq.drew.alloc (.cells #[.slice o1 c.vec.length k1, .slice o2 c.cloud.length k2, .slice o3 c.items.length k3] 28)) w3 := brf.grown hgr3 (Nat.le_refl _) (fun j hj => by cases hj)
       have hb3 := btr hb12 hl3;have hnn : ∀ j, v3.ownBlock = some j → ∀ i, (Value.slice (some ⟨wq.drew.heap.size, 0, none⟩) 1 1).ownBlock = some i → i ≠ j := fun j hj i hi e => by have := (hrow3.lt j hj).1; have := (hrow12.lt i hi).2; omega
       have hrow12 := hrow12.below hl3;have hr3 : wq.heap.size ≤ (wq.drew.alloc (.cells #[.slice o1 c.vec.length k1, .slice o2 c.cloud.length k2, .slice o3 c.items.length k3] 28)).heap.size := hb12.size;refine Shut.out hK _ _ (hb3) (fun hS2 => ?_); clear hK K hS; have hS := hS2; clear hS2
       try simp only [Act.put, s1, s2, s3, s4, s5, s6]
       refine rd1 7 (by decide +kernel) rfl (fun K hK => ?_)
       refine step_append_row rfl _ _ 39 rfl ECart (wq.heap.size) (.agg #[.slice none 0 0, .slice none 0 0, .slice none 0 0]) 72 Tryz.underlying39 infoCart (by decide) (by decide) _ ([] ++ ps.drop k) rfl (hrow3.mono hr3) _ (ps.take k) rfl (HSA.out _ hb3) (by have := HLE.out; simp; omega) (hb3.size) ?_
       intro v7 w7 hrow7 hgr7;have hb7 := hb3.grown hgr7 hb3.size (fun j hj => Nat.le_trans hr3 (hrow3.lt _ hj).1)
       have hrow12 := hrow12.stay (fun j hj => hgr7.block j (hrow12.lt j hj).2 (fun e => hnn _ e.symm j hj rfl))
       refine Shut.out hK _ _ (hb7) (fun hS2 => ?_); clear hK K hS; have hS := hS2; clear hS2
       try simp only [Act.put, s1, s2, s3, s4, s5, s6]
       refine rd1 13 (by decide +kernel) rfl (fun K hK => ?_)
       refine step_append_row rfl _ _ 39 rfl ECart (wq.heap.size) (.agg #[.slice none 0 0, .slice none 0 0, .slice none 0 0]) 72 Tryz.underlying39 infoCart (by decide) (by decide) _ ([] ++ ps.drop k ++ ps.take k) rfl (hrow7) _ [p] rfl (hrow12.toSrc) (by have := HLE.out; simp; omega) (hb7.size) ?_
       intro v13 w13 hrow13 hgr13;have hb13 := hb7.grown hgr13 hb7.size (fun j hj => (hrow7.lt _ hj).1)
       refine Shut.out hK _ _ (hb13) (fun hS2 => ?_); clear hK K hS; have hS := hS2; clear hS2
       try simp only [Act.put, s1, s2, s3, s4, s5, s6]
       refine rd1 15 (by decide +kernel) rfl (fun K hK => ?_)
       go_simp
       go_at_call 17
       refine (HAL.out _ _ hrow13 hb13).mono ?_;rintro e w15 ⟨rfl, hb15⟩;have hb135 := btr hb13 hb15;go_simp;refine Shut.out hK _ _ (hb135) (fun hS2 => ?_); clear hK K hS; have hS := hS2; clear hS2
       refine tkR (n := 1) [16] rfl (by decide +kernel) hS ?_
       ((try simp only [Act.put, s1, s2, s3, s4, s5, s6]); refine ⟨_, ?_, rfl, Or.inl ⟨by kernel_rfl, fun w hSw => ok_of fun z hz => ?_⟩, ?_⟩; rotate_left; · (go_simp; exact hz))
       refine RunOK.done ?_
       try simp only [Act.put, s1, s2, s3, s4, s5, s6]
       refine rd1 17 (by decide +kernel) rfl (fun K hK => ?_)
       go_simp
       go_at_call 9
       refine (l11known_any _ (HGW.out.below hb135)).mono ?_;rintro e w17 ⟨rfl, hb17⟩;have hb137 := btr hb135 hb17;go_simp;refine Shut.out hK _ _ (hb137) (fun hS2 => ?_); clear hK K hS; have hS := hS2; clear hS2
       refine tkR (n := 2) [18, 19] rfl (by decide +kernel) hS ?_
       iterate 2 ((try simp only [Act.put, s1, s2, s3, s4, s5, s6]); refine ⟨_, ?_, rfl, Or.inl ⟨by kernel_rfl, fun w hSw => ok_of fun z hz => ?_⟩, ?_⟩; rotate_left; · (go_simp; exact hz))
       refine RunOK.done ?_
       try simp only [Act.put, s1, s2, s3, s4, s5, s6]
       refine wpAnyH_done (by kernel_rfl) ?_ _
       try simp only [Act.put, s1, s2, s3, s4, s5, s6]
       simp only [NQ]
       go_wp2_with fail
       go_ret
       exact ⟨rfl, btr HBW.out hb137⟩
end Go.Proofs.YtemfaojmelljpaaGreatDoor
