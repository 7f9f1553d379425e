/- The references 14 (Same, Small) and 22 (Rises). -/
import Derived.Test.YtjoljfnlkddfbaaGreatDoorC19
import Derived.Test.YtjoljfnlkddfbaaGreatDoorD4
import Derived.Test.YtjoljfnlkddfbaaGreatDoorMoveP
set_option linter.unusedSimpArgs false
set_option linter.unusedVariables false
set_option maxRecDepth 100000
set_option maxHeartbeats 8000000
namespace Go.Proofs.YtjoljfnlkddfbaaGreatDoor
open Go.RowKit Go.Maps Go.Sort Go.Shelf

theorem r14sameDots_any (l m : List DotD) (v u : Value) (w : World) (h : Arr DotR 2 w v l) (h2 : Arr DotR 2 w u m) : Calls Tryz.prog 46 #[v, u] w fun e w' => e = .returned (.bool (decide (l = m))) ∧ Below w.heap.size w w' := by
 have hn := h.len
 have hn2 := h2.len
 obtain ⟨o, c, rfl, hel⟩ := h.dotAt
 obtain ⟨o2, c2, rfl, hel2⟩ := h2.dotAt
 have HEL := Hd hel
 have HEL2 := Hd hel2
 have HNQ := Hd (fun x y wz => neqDot x y wz)
 clear hel hel2 h h2
 by_cases hll : l.length = m.length
 ·have tl : ((l.length : Int) != m.length) = false := by simp [hll]
  have tl2 : ((l.length : Int) == m.length) = true := by simp [hll]
  go_enter Tryz.func46, Tryz.ntmps46
  go_wp2_with fail
  go_loopw [5] (fun i wr => ∃ k : Nat, k ≤ l.length ∧ i = .int .i64 k ∧ l.take k = m.take k ∧ Below w.heap.size w wr) (fun i _ => l.length - (intOf i).toNat)
  case atStart => exact ⟨0, Nat.zero_le _, rfl, by simp, Below.refl _ _⟩
  case round =>
   obtain ⟨k, hk, rfl, htk, hB⟩ := hrel
   have HTK := Hd htk
   have HB := Hd hB
   clear htk hB
   by_cases hlt : k < l.length
   ·have hlt2 : k < m.length := by omega
    obtain ⟨b, off, rfl, hbl, e0, e1⟩ := HEL.out k hlt
    obtain ⟨b2, off2, rfl, hbl2, f0, f1⟩ := HEL2.out k hlt2
    have c0 : wr.cell? ⟨b, off + k * 2, none⟩ = some (.int .i64 l[k].rep) := by rw [HB.out.cell (p := ⟨_, _, _⟩) hbl]; exact e0
    have c1 : wr.cell? ⟨b, off + k * 2 + 1, none⟩ = some (.int .i64 l[k].ctr) := by rw [HB.out.cell (p := ⟨_, _, _⟩) hbl]; exact e1
    have d0 : wr.cell? ⟨b2, off2 + k * 2, none⟩ = some (.int .i64 m[k].rep) := by rw [HB.out.cell (p := ⟨_, _, _⟩) hbl2]; exact f0
    have d1 : wr.cell? ⟨b2, off2 + k * 2 + 1, none⟩ = some (.int .i64 m[k].ctr) := by rw [HB.out.cell (p := ⟨_, _, _⟩) hbl2]; exact f1
    have HSN : Hid (l[k] = m[k] → l.take (k + 1) = m.take (k + 1)) := Hd (fun he => take_snoc_eq hlt hlt2 HTK.out he)
    have HNE : Hid (l = m → l[k] = m[k]) := Hd (fun e => by subst e; rfl)
    generalize l[k] = x at *
    generalize m[k] = y at *
    have hnq : ∀ wz : World, Sem.run Tryz.prog (binOp .neq 39 (.agg #[.int .i64 x.rep, .int .i64 x.ctr]) (.agg #[.int .i64 y.rep, .int .i64 y.ctr])) wz = .ok (.bool (!decide (x = y))) wz := fun wz => HNQ.out x y wz
    have hgd : ∀ (op : BinOp) (a b : Operand) (wz : World), Sem.run Tryz.prog (eqGuard op 39 a b (.agg #[.int .i64 x.rep, .int .i64 x.ctr]) (.agg #[.int .i64 y.rep, .int .i64 y.ctr])) wz = .ok () wz := fun op a b wz => guardDot op a b x y wz
    have a0 : (0 : Int) ≤ k := by omega
    have a1 : (k : Int) < l.length := by omega
    have hkw := wr1 k (by omega)
    have a2 : (k : Int) < m.length := by omega
    clear e0 e1 f0 f1 HNQ HTK
    by_cases hxy : x = y
    ·have hd : decide (x = y) = true := decide_eq_true hxy
     rw [hd] at hnq
     have HF := Hd (HSN.out hxy)
     clear HSN HNE hxy hd
     go_upto_region 6 with fail
     go_quiet (fail)
     go_wp2_with fail
     go_roundw
     case rel => exact ⟨k + 1, by omega, by go_num, HF.out, below_drewN _ HB.out⟩
     case measure => simp [intOf]; omega
    ·have hd : decide (x = y) = false := decide_eq_false hxy
     rw [hd] at hnq
     have HF : Hid (decide (l = m) = false) := Hd (decide_eq_false (fun e => hxy (HNE.out e)))
     clear HSN HNE hxy hd
     go_upto_region 6 with fail
     go_quiet (fail)
     go_wp2_with fail
     go_ret
     exact ⟨by rw [HF.out]; rfl, below_drewN _ HB.out⟩
   ·have hke : k = l.length := by omega
    have HF : Hid (decide (l = m) = true) := Hd (decide_eq_true (take_eq_of hll hke HTK.out))
    clear HTK
    go_wp2_with fail
    go_ret
    exact ⟨by rw [HF.out]; rfl, HB.out⟩
 ·have tl : ((l.length : Int) != m.length) = true := by simp; omega
  have tl2 : ((l.length : Int) == m.length) = false := by simp; omega
  have HF : Hid (decide (l = m) = false) := Hd (decide_eq_false (fun e => hll (by rw [e])))
  go_enter Tryz.func46, Tryz.ntmps46
  go_wp2_with fail
  go_ret
  exact ⟨by rw [HF.out]; rfl, Below.refl _ _⟩
/-- Two blocks laid by a region that may lay either of them first. -/
def TwoB (w wx : World) (g1 g2 : Nat) (C1 C2 : Obj) : Prop := Below w.heap.size w wx ∧ wx.heap[g1]? = some C1 ∧ wx.heap[g2]? = some C2 ∧ w.heap.size ≤ g1 ∧ w.heap.size ≤ g2 ∧ g1 ≠ g2
theorem twoA (w : World) (C1 C2 : Obj) : TwoB w ((w.drew.alloc C1).alloc C2) w.heap.size (w.heap.size + 1) C1 C2 := by
 have h1 : (w.drew.alloc C1).heap[w.heap.size]? = some C1 := alloc_new _ _
 have hb : Below (w.drew.alloc C1).heap.size (w.drew.alloc C1) ((w.drew.alloc C1).alloc C2) := bal
 refine ⟨btr (show Below w.heap.size w w.drew from bdr) (btr bal bal), (hb.block _ (lt_of_heap h1)).trans h1, ?_, Nat.le_refl _, Nat.le_succ _, by omega⟩
 have := alloc_new (w.drew.alloc C1) C2
 rw [show (w.drew.alloc C1).heap.size = w.heap.size + 1 by rw [alloc_size]; rfl] at this
 exact this
theorem twoB (w : World) (C1 C2 : Obj) : TwoB w ((w.drew.alloc C2).alloc C1) (w.heap.size + 1) w.heap.size C1 C2 := by
 obtain ⟨h1, h2, h3, h4, h5, h6⟩ := twoA w C2 C1
 exact ⟨h1, h3, h2, h5, h4, h6.symm⟩
set_option maxHeartbeats 16000000 in
theorem same6 (b1 b2 ba bb oa ob : Nat) (i : Nat) (n3 n6 c3 c6 : Nat) (nx ny : ByteArray) (xo yo : Option Addr) (xm ym xc yc : Nat) (z0 z1 z4 z6 z7 z8 z9 z10 z11 z12 z13 z14 z15 z16 z17 z18 z19 z20 z21 z22 z23 z24 z25 z26 z27 z28 z29 z30 z31 z32 z33 z34 z35 z36 z37 z38 z39 z40 z41 z42 z43 z44 z45 z46 z47 z48 z49 z50 z51 z52 z53 z54 z55 z56 z57 z58 z59 z60 z61 z62 z63 z64 z65 z66 z67 z68 z69 z70 z71 z72 z73 z74 z75 z76 z77 z78 z79 z80 z81 z82 z83 z84 : Value) (WL : World) (HSS : Hid (∀ wz, Below WL.heap.size WL wz → (wz.cell? ⟨b1, 2, none⟩ = some (.slice (some ⟨ba, oa, none⟩) n3 c3) ∧ wz.cell? ⟨b2, 2, none⟩ = some (.slice (some ⟨bb, ob, none⟩) n6 c6)) ∧ (wz.cell? ⟨ba, oa + i * 2, none⟩ = some (.string nx) ∧ wz.cell? ⟨ba, oa + i * 2 + 1, none⟩ = some (.slice xo xm xc)) ∧ wz.cell? ⟨bb, ob + i * 2, none⟩ = some (.string ny) ∧ wz.cell? ⟨bb, ob + i * 2 + 1, none⟩ = some (.slice yo ym yc))) (a0 : (0 : Int) ≤ i) (a1 : (i : Int) < n3) (a2 : (i : Int) < n6) (R : Act → World → Prop)
  (hQ : ∀ (u43 u44 u45 u46 u47 u48 u49 u50 u51 u52 : Value) (g1 g2 : Nat) (wx : World), TwoB WL wx g1 g2 (.cells #[.string nx, .slice xo xm xc] 55) (.cells #[.string ny, .slice yo ym yc] 55) → R { tmps := #[z0, z1, .pointer (some ⟨b1, 0, none⟩), .pointer (some ⟨b2, 0, none⟩), z4, .int .i64 i, .pointer (some ⟨g1, 0, none⟩), .pointer (some ⟨g2, 0, none⟩), z8, z9, z10, z11, z12, z13, z14, z15, z16, z17, z18, z19, z20, z21, z22, z23, z24, z25, z26, z27, z28, z29, z30, z31, z32, z33, z34, z35, z36, z37, z38, z39, z40, z41, z42, u43, u44, u45, u46, u47, u48, u49, u50, u51, u52, z53, z54, z55, z56, z57, z58, z59, z60, z61, z62, z63, z64, z65, z66, z67, z68, z69, z70, z71, z72, z73, z74, z75, z76, z77, z78, z79, z80, z81, z82, z83, z84], defers := [] } wx) :
  (codeAt [1, 1, 0, 1, 0, 0, 1, 0, 0, 0] (Tryz.f21.body.getD .skip)).wp Tryz.prog (NQ R) { tmps := #[z0, z1, .pointer (some ⟨b1, 0, none⟩), .pointer (some ⟨b2, 0, none⟩), z4, .int .i64 i, z6, z7, z8, z9, z10, z11, z12, z13, z14, z15, z16, z17, z18, z19, z20, z21, z22, z23, z24, z25, z26, z27, z28, z29, z30, z31, z32, z33, z34, z35, z36, z37, z38, z39, z40, z41, z42, z43, z44, z45, z46, z47, z48, z49, z50, z51, z52, z53, z54, z55, z56, z57, z58, z59, z60, z61, z62, z63, z64, z65, z66, z67, z68, z69, z70, z71, z72, z73, z74, z75, z76, z77, z78, z79, z80, z81, z82, z83, z84], defers := [] } WL := by
 simp only [codeAt, codeL, codeR, Tryz.f21, Option.getD_some]
 refine wp_region_held_drew (S := (fun wz => (wz.cell? ⟨b1, 2, none⟩ = some (.slice (some ⟨ba, oa, none⟩) n3 c3) ∧ wz.cell? ⟨b2, 2, none⟩ = some (.slice (some ⟨bb, ob, none⟩) n6 c6)) ∧ (wz.cell? ⟨ba, oa + i * 2, none⟩ = some (.string nx) ∧ wz.cell? ⟨ba, oa + i * 2 + 1, none⟩ = some (.slice xo xm xc)) ∧ wz.cell? ⟨bb, ob + i * 2, none⟩ = some (.string ny) ∧ wz.cell? ⟨bb, ob + i * 2 + 1, none⟩ = some (.slice yo ym yc))) (by kernel_rfl) (HSS.out _ bdr) (fun hS => ?_)
 try simp only [Act.put, s1, s2, s3, List.getElem_toArray, List.getElem_cons_succ, List.getElem_cons_zero]
 refine tkN (i := 0) (v := ?v1) rfl (by decide +kernel) (Or.inl ⟨by kernel_rfl, fun w hSw => ok_of fun z hz => ?h1⟩) hS ?_; (case h1 => (go_simp; exact hz))
 try simp only [Act.put, s1, s2, s3, List.getElem_toArray, List.getElem_cons_succ, List.getElem_cons_zero]
 refine tkN (i := 1) (v := ?v2) rfl (by decide +kernel) (Or.inl ⟨by kernel_rfl, fun w hSw => ok_of fun z hz => ?h2⟩) hS ?_; (case h2 => (obtain ⟨⟨f0, f1⟩, ⟨f2, f3⟩, f4, f5⟩ := hSw; go_simp; exact hz))
 try simp only [Act.put, s1, s2, s3, List.getElem_toArray, List.getElem_cons_succ, List.getElem_cons_zero]
 refine tkN (i := 2) (v := ?v3) rfl (by decide +kernel) (Or.inl ⟨by kernel_rfl, fun w hSw => ok_of fun z hz => ?h3⟩) hS ?_; (case h3 => (go_simp; exact hz))
 try simp only [Act.put, s1, s2, s3, List.getElem_toArray, List.getElem_cons_succ, List.getElem_cons_zero]
 refine tkN (i := 3) (v := ?v4) rfl (by decide +kernel) (Or.inl ⟨by kernel_rfl, fun w hSw => ok_of fun z hz => ?h4⟩) hS ?_; (case h4 => (go_simp; exact hz))
 try simp only [Act.put, s1, s2, s3, List.getElem_toArray, List.getElem_cons_succ, List.getElem_cons_zero]
 refine tkN (i := 4) (v := ?v5) rfl (by decide +kernel) (Or.inl ⟨by kernel_rfl, fun w hSw => ok_of fun z hz => ?h5⟩) hS ?_; (case h5 => (obtain ⟨⟨f0, f1⟩, ⟨f2, f3⟩, f4, f5⟩ := hSw; go_simp; exact hz))
 try simp only [Act.put, s1, s2, s3, List.getElem_toArray, List.getElem_cons_succ, List.getElem_cons_zero]
 refine tkN (i := 5) (v := ?v6) rfl (by decide +kernel) (Or.inl ⟨by kernel_rfl, fun w hSw => ok_of fun z hz => ?h6⟩) hS ?_; (case h6 => (go_simp; exact hz))
 try simp only [Act.put, s1, s2, s3, List.getElem_toArray, List.getElem_cons_succ, List.getElem_cons_zero]
 refine tkN (i := 6) (v := ?v7) rfl (by decide +kernel) (Or.inl ⟨by kernel_rfl, fun w hSw => ok_of fun z hz => ?h7⟩) hS ?_; (case h7 => (obtain ⟨⟨f0, f1⟩, ⟨f2, f3⟩, f4, f5⟩ := hSw; go_simp; exact hz))
 try simp only [Act.put, s1, s2, s3, List.getElem_toArray, List.getElem_cons_succ, List.getElem_cons_zero]
 refine tkN (i := 7) (v := ?v8) rfl (by decide +kernel) (Or.inl ⟨by kernel_rfl, fun w hSw => ok_of fun z hz => ?h8⟩) hS ?_; (case h8 => (go_simp; exact hz))
 try simp only [Act.put, s1, s2, s3, List.getElem_toArray, List.getElem_cons_succ, List.getElem_cons_zero]
 refine tkN (i := 8) (v := ?v9) rfl (by decide +kernel) (Or.inl ⟨by kernel_rfl, fun w hSw => ok_of fun z hz => ?h9⟩) hS ?_; (case h9 => (go_simp; exact hz))
 try simp only [Act.put, s1, s2, s3, List.getElem_toArray, List.getElem_cons_succ, List.getElem_cons_zero]
 refine tkN (i := 9) (v := ?v10) rfl (by decide +kernel) (Or.inl ⟨by kernel_rfl, fun w hSw => ok_of fun z hz => ?h10⟩) hS ?_; (case h10 => (obtain ⟨⟨f0, f1⟩, ⟨f2, f3⟩, f4, f5⟩ := hSw; go_simp; exact hz))
 try simp only [Act.put, s1, s2, s3, List.getElem_toArray, List.getElem_cons_succ, List.getElem_cons_zero]
 refine wpAnyH_ready (rs := [10, 11]) (by decide +kernel) (by simp) ?_
 refine (AllReadyH.cons rfl (fun K hK => ?_) (AllReadyH.cons rfl (fun K hK => ?_) AllReadyH.nil))
 · go_simp
   refine Shut.out hK _ _ (HSS.out _ (btr (show Below WL.heap.size WL WL.drew from bdr) bal)) (fun hS2 => ?_)
   clear hK K hS
   have hS := hS2
   clear hS2
   try simp only [Act.put, s1, s2, s3, List.getElem_toArray, List.getElem_cons_succ, List.getElem_cons_zero]
   refine wpAnyH_ready (rs := [11]) (by decide +kernel) (by simp) ?_
   refine (AllReadyH.cons rfl (fun K hK => ?_) AllReadyH.nil)
   go_simp
   refine Shut.out hK _ _ (HSS.out _ (btr (show Below WL.heap.size WL WL.drew from bdr) (btr bal bal))) (fun hS2 => ?_)
   clear hK K hS
   have hS := hS2
   clear hS2
   try simp only [Act.put, s1, s2, s3, List.getElem_toArray, List.getElem_cons_succ, List.getElem_cons_zero]
   refine wpAnyH_ready (rs := [12]) (by decide +kernel) (by simp) ?_
   refine (AllReadyH.cons rfl (fun K hK => ?_) AllReadyH.nil)
   go_simp
   refine Shut.out hK _ _ (HSS.out _ (btr (show Below WL.heap.size WL WL.drew from bdr) (btr bal bal))) (fun hS2 => ?_)
   clear hK K hS
   have hS := hS2
   clear hS2
   try simp only [Act.put, s1, s2, s3, List.getElem_toArray, List.getElem_cons_succ, List.getElem_cons_zero]
   refine wpAnyH_ready (rs := [13]) (by decide +kernel) (by simp) ?_
   refine (AllReadyH.cons rfl (fun K hK => ?_) AllReadyH.nil)
   go_simp
   refine Shut.out hK _ _ (HSS.out _ (btr (show Below WL.heap.size WL WL.drew from bdr) (btr bal bal))) (fun hS2 => ?_)
   clear hK K hS
   have hS := hS2
   clear hS2
   try simp only [Act.put, s1, s2, s3, List.getElem_toArray, List.getElem_cons_succ, List.getElem_cons_zero]
   refine wpAnyH_done (by kernel_rfl) ?_ _
   try simp only [Act.put, s1, s2, s3, List.getElem_toArray, List.getElem_cons_succ, List.getElem_cons_zero]
   simp only [NQ]
   first | exact hQ _ _ _ _ _ _ _ _ _ _ _ _ _ (twoA WL _ _) | exact hQ _ _ _ _ _ _ _ _ _ _ _ _ _ (twoB WL _ _)
 · go_simp
   refine Shut.out hK _ _ (HSS.out _ (btr (show Below WL.heap.size WL WL.drew from bdr) bal)) (fun hS2 => ?_)
   clear hK K hS
   have hS := hS2
   clear hS2
   try simp only [Act.put, s1, s2, s3, List.getElem_toArray, List.getElem_cons_succ, List.getElem_cons_zero]
   refine wpAnyH_ready (rs := [10]) (by decide +kernel) (by simp) ?_
   refine (AllReadyH.cons rfl (fun K hK => ?_) AllReadyH.nil)
   go_simp
   refine Shut.out hK _ _ (HSS.out _ (btr (show Below WL.heap.size WL WL.drew from bdr) (btr bal bal))) (fun hS2 => ?_)
   clear hK K hS
   have hS := hS2
   clear hS2
   try simp only [Act.put, s1, s2, s3, List.getElem_toArray, List.getElem_cons_succ, List.getElem_cons_zero]
   refine wpAnyH_ready (rs := [12]) (by decide +kernel) (by simp) ?_
   refine (AllReadyH.cons rfl (fun K hK => ?_) AllReadyH.nil)
   go_simp
   refine Shut.out hK _ _ (HSS.out _ (btr (show Below WL.heap.size WL WL.drew from bdr) (btr bal bal))) (fun hS2 => ?_)
   clear hK K hS
   have hS := hS2
   clear hS2
   try simp only [Act.put, s1, s2, s3, List.getElem_toArray, List.getElem_cons_succ, List.getElem_cons_zero]
   refine wpAnyH_ready (rs := [13]) (by decide +kernel) (by simp) ?_
   refine (AllReadyH.cons rfl (fun K hK => ?_) AllReadyH.nil)
   go_simp
   refine Shut.out hK _ _ (HSS.out _ (btr (show Below WL.heap.size WL WL.drew from bdr) (btr bal bal))) (fun hS2 => ?_)
   clear hK K hS
   have hS := hS2
   clear hS2
   try simp only [Act.put, s1, s2, s3, List.getElem_toArray, List.getElem_cons_succ, List.getElem_cons_zero]
   refine wpAnyH_done (by kernel_rfl) ?_ _
   try simp only [Act.put, s1, s2, s3, List.getElem_toArray, List.getElem_cons_succ, List.getElem_cons_zero]
   simp only [NQ]
   first | exact hQ _ _ _ _ _ _ _ _ _ _ _ _ _ (twoA WL _ _) | exact hQ _ _ _ _ _ _ _ _ _ _ _ _ _ (twoB WL _ _)
theorem r14Same_any (c d : CartD) (v1 v2 v3 u1 u2 u3 : Value) (w : World) (h : CartA w v1 v2 v3 c) (g : CartA w u1 u2 u3 d) : Calls Tryz.prog 21 #[.agg #[v1, v2, v3], .agg #[u1, u2, u3]] w fun e w' => e = .returned (.bool (decide (c = d))) ∧ Below w.heap.size w w' := by
 rw [cart_dec]
 have hl3 := h.2.2.len
 have hl6 := g.2.2.len
 obtain ⟨o3', k3', e3', hel⟩ := h.2.2.itemAt
 obtain ⟨o6', k6', e6', hel2⟩ := g.2.2.itemAt
 obtain ⟨o1, n1, k1, o2, n2, k2, o3, n3, k3, rfl, rfl, rfl, hn1, hn2, hn3⟩ := opn4 h
 obtain ⟨o4, n4, k4, o5, n5, k5, o6, n6, k6, rfl, rfl, rfl, hn4, hn5, hn6⟩ := opn4 g
 injection e3' with e31 e32 e33
 injection e6' with e61 e62 e63
 subst e31 e33 e61 e63
 clear e32 e62
 obtain ⟨W1, HW, HB, HS, HK0, HK1⟩ := box2 w #[.slice o1 n1 k1, .slice o2 n2 k2, .slice o3 n3 k3] 28 #[.slice o4 n4 k4, .slice o5 n5 k5, .slice o6 n6 k6] 28
 have HC := Hd (fun wz (hz : Below W1.heap.size W1 wz) => And.intro (cel3 (HK0.out wz hz)) (cel3 (HK1.out wz hz)))
 have HV : Hid (∀ wz, Below W1.heap.size W1 wz → Calls Tryz.prog 46 #[.slice o1 n1 k1, .slice o4 n4 k4] wz fun e w' => e = .returned (.bool (decide (c.vec = d.vec))) ∧ Below wz.heap.size wz w') := Hd (fun wz hz => r14sameDots_any _ _ _ _ wz (h.1.dots (btr HB.out hz)) (g.1.dots (btr HB.out hz)))
 have HD : Hid (∀ wz, Below W1.heap.size W1 wz → Calls Tryz.prog 46 #[.slice o2 n2 k2, .slice o5 n5 k5] wz fun e w' => e = .returned (.bool (decide (c.cloud = d.cloud))) ∧ Below wz.heap.size wz w') := Hd (fun wz hz => r14sameDots_any _ _ _ _ wz (h.2.1.dots (btr HB.out hz)) (g.2.1.dots (btr HB.out hz)))
 have HEL := Hd hel
 have HEL2 := Hd hel2
 have HBW := Hd HB.out
 have HN3 := Hd hn3
 have HN6 := Hd hn6
 have HNQ := Hd (fun x y wz => neqMark x y wz)
 have hsz := HS.out
 rw [← hn3] at hl3
 rw [← hn6] at hl6
 clear h g hel hel2 hn1 hn2 hn3 hn4 hn5 hn6 HB HS
 generalize c.items = L at *
 generalize d.items = M at *
 obtain ⟨r1, hr1⟩ : ∃ r, r = decide (c.vec = d.vec) := ⟨_, rfl⟩
 obtain ⟨r2, hr2⟩ : ∃ r, r = decide (c.cloud = d.cloud) := ⟨_, rfl⟩
 rw [← hr1] at HV ⊢
 rw [← hr2] at HD ⊢
 clear hr1 hr2
 have H1 := Hd (HV.out W1 brf)
 obtain ⟨⟨x0, x1, x2⟩, x3, x4, x5⟩ := HC.out W1 brf
 go_enter Tryz.func21, Tryz.ntmps21
 go_wp2_with fail
 rw [← HW.out]
 go_wp2_with fail
 refine H1.out.mono ?_
 rintro e w2 ⟨rfl, hb2⟩
 have HB2 := Hd hb2
 clear hb2 H1 x0 x1 x2 x3 x4 x5
 obtain ⟨⟨x0, x1, x2⟩, x3, x4, x5⟩ := HC.out w2 HB2.out
 cases r1 with
 | false =>
  go_wp2_with fail
  go_ret
  exact ⟨rfl, btr HBW.out HB2.out⟩
 | true =>
 have H2 := Hd (HD.out w2 HB2.out)
 go_wp2_with fail
 refine H2.out.mono ?_
 rintro e w3 ⟨rfl, hb3⟩
 have HB3 := Hd (btr HB2.out hb3)
 clear hb3 H2 x0 x1 x2 x3 x4 x5
 obtain ⟨⟨x0, x1, x2⟩, x3, x4, x5⟩ := HC.out w3 HB3.out
 cases r2 with
 | false =>
  go_wp2_with fail
  go_ret
  exact ⟨rfl, btr HBW.out HB3.out⟩
 | true =>
 by_cases hll : n3 = n6
 rotate_left
 ·have tl : ((n3 : Int) != n6) = true := by simp; omega
  have HF : Hid (decide (L = M) = false) := Hd (decide_eq_false (fun e => hll (by rw [HN3.out, HN6.out, e])))
  go_wp2_with fail
  go_ret
  exact ⟨by rw [HF.out]; rfl, btr HBW.out HB3.out⟩
 have tl : ((n3 : Int) != n6) = false := by simp [hll]
 have HLL := Hd hll
 clear hll
 go_wp2_with fail
 go_loopw [5] (fun i wr => ∃ k : Nat, k ≤ n3 ∧ i = .int .i64 k ∧ L.take k = M.take k ∧ Below W1.heap.size W1 wr) (fun i _ => n3 - (intOf i).toNat)
 case atStart => exact ⟨0, Nat.zero_le _, rfl, by simp, HB3.out⟩
 case round =>
  obtain ⟨k, hk, rfl, htk, hB⟩ := hrel
  have HTK := Hd htk
  have HB := Hd hB
  clear htk hB x0 x1 x2 x3 x4 x5
  obtain ⟨⟨x0, x1, x2⟩, x3, x4, x5⟩ := HC.out wr HB.out
  by_cases hlt : k < n3
  rotate_left
  ·have hke : k = n3 := by omega
   have HF : Hid (decide (L = M) = true) := Hd (decide_eq_true (take_eq_of (by rw [← HN3.out, ← HN6.out]; exact HLL.out) (hke.trans HN3.out) HTK.out))
   have a1 : ¬ (k : Int) < (n3 : Int) := by omega
   clear HTK
   go_wp2_with fail
   go_ret
   exact ⟨by rw [HF.out]; rfl, btr HBW.out HB.out⟩
  ·have hlt1 : k < L.length := by rw [← HN3.out]; exact hlt
   have hlt2 : k < M.length := by rw [← HN6.out, ← HLL.out]; exact hlt
   obtain ⟨b, off, mv, rfl, hbl, e0, e1, -, hm1⟩ := HEL.out k hlt1
   obtain ⟨b2, off2, nv, rfl, hbl2, f0, f1, -, hm2⟩ := HEL2.out k hlt2
   obtain ⟨o7, k7, rfl⟩ := hm1.slice
   obtain ⟨o8, k8, rfl⟩ := hm2.slice
   have HSN : Hid (L[k] = M[k] → L.take (k + 1) = M.take (k + 1)) := Hd (fun he => take_snoc_eq hlt1 hlt2 HTK.out he)
   have HNE : Hid (L = M → L[k] = M[k]) := Hd (fun e => by subst e; rfl)
   have hq1 := hm1.len
   have hq2 := hm2.len
   have HM1 := Hd (hm1.marks (btr HBW.out HB.out))
   have HM2 := Hd (hm2.marks (btr HBW.out HB.out))
   have HSS : Hid (∀ wz, Below wr.heap.size wr wz → (wz.cell? ⟨w.heap.size, 2, none⟩ = some (.slice (some ⟨b, off, none⟩) n3 k3) ∧ wz.cell? ⟨w.heap.size + 1, 2, none⟩ = some (.slice (some ⟨b2, off2, none⟩) n6 k6)) ∧ (wz.cell? ⟨b, off + k * 2, none⟩ = some (.string L[k].name) ∧ wz.cell? ⟨b, off + k * 2 + 1, none⟩ = some (.slice o7 L[k].marks.length k7)) ∧ wz.cell? ⟨b2, off2 + k * 2, none⟩ = some (.string M[k].name) ∧ wz.cell? ⟨b2, off2 + k * 2 + 1, none⟩ = some (.slice o8 M[k].marks.length k8)) := Hd (fun wz hz => by
    have h1 := btr HB.out hz
    have h2 := btr HBW.out h1
    obtain ⟨⟨-, -, y2⟩, -, -, y5⟩ := HC.out wz h1
    exact ⟨⟨y2, y5⟩, ⟨by rw [h2.cell (p := ⟨_, _, _⟩) hbl]; exact e0, by rw [h2.cell (p := ⟨_, _, _⟩) hbl]; exact e1⟩, by rw [h2.cell (p := ⟨_, _, _⟩) hbl2]; exact f0, by rw [h2.cell (p := ⟨_, _, _⟩) hbl2]; exact f1⟩)
   clear e0 e1 f0 f1 hm1 hm2 HTK
   generalize L[k] = x at *
   generalize M[k] = y at *
   have hse := strDec x.name y.name
   have a0 : (0 : Int) ≤ k := by omega
   have a1 : (k : Int) < n3 := by omega
   have a2 : (k : Int) < n6 := by have := HLL.out; omega
   have hkw := wr1 k (by omega)
   go_upto_region 6 with fail
   refine NQ.to (same6 w.heap.size (w.heap.size + 1) b b2 off off2 k n3 n6 k3 k6 x.name y.name o7 o8 x.marks.length y.marks.length k7 k8 _ _ _ _ _ _ _ _ _ _ _ _ _ _ _ _ _ _ _ _ _ _ _ _ _ _ _ _ _ _ _ _ _ _ _ _ _ _ _ _ _ _ _ _ _ _ _ _ _ _ _ _ _ _ _ _ _ _ _ _ _ _ _ _ _ _ _ _ _ _ _ _ _ _ _ _ _ _ _ _ _ _ wr HSS a0 a1 a2 _ ?_)
   intro u43 u44 u45 u46 u47 u48 u49 u50 u51 u52 g1 g2 wx htb
   obtain ⟨hbx, hg1, hg2, -, -, -⟩ := htb
   have HBX := Hd hbx
   have HG1 := Hd (fun wz (hz : Below wx.heap.size wx wz) => cel2 ((hz.block _ (lt_of_heap hg1)).trans hg1))
   have HG2 := Hd (fun wz (hz : Below wx.heap.size wx wz) => cel2 ((hz.block _ (lt_of_heap hg2)).trans hg2))
   clear hbx hg1 hg2 x0 x1 x2 x3 x4 x5
   have HBXF := Hd (btr HBW.out (btr HB.out HBX.out))
   obtain ⟨⟨x0, x1, x2⟩, x3, x4, x5⟩ := HC.out wx (btr HB.out HBX.out)
   obtain ⟨p0, p1⟩ := HG1.out wx brf
   obtain ⟨p2, p3⟩ := HG2.out wx brf
   by_cases hnm : x.name = y.name
   rotate_left
   ·rw [decide_eq_false hnm] at hse
    have HF : Hid (decide (L = M) = false) := Hd (decide_eq_false (fun e => hnm (by rw [HNE.out e])))
    clear HSN HNE hnm
    go_wp2_with fail
    go_ret
    exact ⟨by rw [HF.out]; rfl, HBXF.out⟩
   rw [decide_eq_true hnm] at hse
   by_cases hml : x.marks.length = y.marks.length
   rotate_left
   ·have tm : ((x.marks.length : Int) != y.marks.length) = true := by simp; omega
    have HF : Hid (decide (L = M) = false) := Hd (decide_eq_false (fun e => hml (by rw [HNE.out e])))
    clear HSN HNE hnm
    go_wp2_with fail
    go_ret
    exact ⟨by rw [HF.out]; rfl, HBXF.out⟩
   have tm : ((x.marks.length : Int) != y.marks.length) = false := by simp [hml]
   have HNM := Hd hnm
   have HML := Hd hml
   clear hnm hml
   have HNE2 : Hid (L = M → x.marks = y.marks) := Hd (fun e => by rw [HNE.out e])
   have HSN2 : Hid (x.marks = y.marks → L.take (k + 1) = M.take (k + 1)) := Hd (fun e => HSN.out (item_eq.2 ⟨HNM.out, e⟩))
   clear HNE HSN HNM
   obtain ⟨ox, kx, ex, helx⟩ := HM1.out.markAt
   obtain ⟨oy, ky, ey, hely⟩ := HM2.out.markAt
   injection ex with ex1 ex2 ex3
   injection ey with ey1 ey2 ey3
   subst ex1 ex3 ey1 ey3
   have HX := Hd helx
   have HY := Hd hely
   clear helx hely ex2 ey2 HM1 HM2 HSS
   generalize x.marks = xs at *
   generalize y.marks = ys at *
   obtain ⟨m1, hm1⟩ : ∃ n, n = xs.length := ⟨_, rfl⟩
   obtain ⟨m2, hm2⟩ : ∃ n, n = ys.length := ⟨_, rfl⟩
   rw [← hm1] at tm HG1 p1 HML hq1
   rw [← hm2] at tm HG2 p3 HML hq2
   have HH1 := Hd hm1
   have HH2 := Hd hm2
   clear hm1 hm2
   go_wp2_with fail
   obtain ⟨wo, rfl⟩ : ∃ wo : World, wo = wr := ⟨_, rfl⟩
   go_loopw [8] (fun i wr => ∃ j : Nat, j ≤ m1 ∧ i = .int .i64 j ∧ xs.take j = ys.take j ∧ Below wx.heap.size wx wr) (fun i _ => m1 - (intOf i).toNat)
   case atStart => exact ⟨0, Nat.zero_le _, rfl, by simp, brf⟩
   case round =>
    obtain ⟨j, hj, rfl, htj, hBj⟩ := hrel
    have HTJ := Hd htj
    have HBJ := Hd hBj
    clear htj hBj p0 p1 p2 p3
    obtain ⟨p0, p1⟩ := HG1.out wr HBJ.out
    obtain ⟨p2, p3⟩ := HG2.out wr HBJ.out
    by_cases hjt : j < m1
    rotate_left
    ·have hje : j = m1 := by omega
     have HF := Hd (HSN2.out (take_eq_of (by rw [← HH1.out, ← HH2.out]; exact HML.out) (hje.trans HH1.out) HTJ.out))
     have b1 : ¬ (j : Int) < (m1 : Int) := by omega
     have HBN := Hd (btr HB.out (btr HBX.out HBJ.out))
     clear HTJ HSN2 HNE2
     go_wp2_with fail
     go_roundw
     case rel => exact ⟨k + 1, by omega, by go_num, HF.out, HBN.out⟩
     case measure => simp [intOf]; omega
    ·have hj1 : j < xs.length := by rw [← HH1.out]; exact hjt
     have hj2 : j < ys.length := by rw [← HH2.out, ← HML.out]; exact hjt
     obtain ⟨bx, offx, rfl, hblx, e0, e1, e2, e3, -⟩ := HX.out j hj1
     obtain ⟨by', offy, rfl, hbly, f0, f1, f2, f3, -⟩ := HY.out j hj2
     have hbxj := btr HBX.out HBJ.out
     have c0 : wr.cell? ⟨bx, offx + j * 4, none⟩ = some (.int .i64 xs[j].dot.rep) := by rw [hbxj.cell (p := ⟨_, _, _⟩) hblx]; exact e0
     have c1 : wr.cell? ⟨bx, offx + j * 4 + 1, none⟩ = some (.int .i64 xs[j].dot.ctr) := by rw [hbxj.cell (p := ⟨_, _, _⟩) hblx]; exact e1
     have c2 : wr.cell? ⟨bx, offx + j * 4 + 2, none⟩ = some (.int .i64 xs[j].qty) := by rw [hbxj.cell (p := ⟨_, _, _⟩) hblx]; exact e2
     have c3 : wr.cell? ⟨bx, offx + j * 4 + 3, none⟩ = some (.int .u64 xs[j].time) := by rw [hbxj.cell (p := ⟨_, _, _⟩) hblx]; exact e3
     have d0 : wr.cell? ⟨by', offy + j * 4, none⟩ = some (.int .i64 ys[j].dot.rep) := by rw [hbxj.cell (p := ⟨_, _, _⟩) hbly]; exact f0
     have d1 : wr.cell? ⟨by', offy + j * 4 + 1, none⟩ = some (.int .i64 ys[j].dot.ctr) := by rw [hbxj.cell (p := ⟨_, _, _⟩) hbly]; exact f1
     have d2 : wr.cell? ⟨by', offy + j * 4 + 2, none⟩ = some (.int .i64 ys[j].qty) := by rw [hbxj.cell (p := ⟨_, _, _⟩) hbly]; exact f2
     have d3 : wr.cell? ⟨by', offy + j * 4 + 3, none⟩ = some (.int .u64 ys[j].time) := by rw [hbxj.cell (p := ⟨_, _, _⟩) hbly]; exact f3
     have HSJ : Hid (xs[j] = ys[j] → xs.take (j + 1) = ys.take (j + 1)) := Hd (fun he => take_snoc_eq hj1 hj2 HTJ.out he)
     have HNJ : Hid (xs = ys → xs[j] = ys[j]) := Hd (fun e => by subst e; rfl)
     have HSX : Hid (∀ wz, Below wr.heap.size wr wz → True) := Hd (fun _ _ => trivial)
     generalize xs[j] = xm at *
     generalize ys[j] = ym at *
     have hnq : ∀ wz : World, Sem.run Tryz.prog (binOp .neq 85 (.agg #[.int .i64 xm.dot.rep, .int .i64 xm.dot.ctr, .int .i64 xm.qty, .int .u64 xm.time]) (.agg #[.int .i64 ym.dot.rep, .int .i64 ym.dot.ctr, .int .i64 ym.qty, .int .u64 ym.time])) wz = .ok (.bool (!decide (xm = ym))) wz := fun wz => HNQ.out xm ym wz
     have hgd : ∀ (op : BinOp) (a b : Operand) (wz : World), Sem.run Tryz.prog (eqGuard op 85 a b (.agg #[.int .i64 xm.dot.rep, .int .i64 xm.dot.ctr, .int .i64 xm.qty, .int .u64 xm.time]) (.agg #[.int .i64 ym.dot.rep, .int .i64 ym.dot.ctr, .int .i64 ym.qty, .int .u64 ym.time])) wz = .ok () wz := fun op a b wz => guardMark op a b xm ym wz
     have b0 : (0 : Int) ≤ j := by omega
     have b1 : (j : Int) < m1 := by omega
     have b2' : (j : Int) < m2 := by have := HML.out; omega
     have hjw := wr1 j (by omega)
     clear e0 e1 e2 e3 f0 f1 f2 f3 HTJ x0 x1 x2 x3 x4 x5 hbxj HSX
     by_cases hxy : xm = ym
     ·have hd : decide (xm = ym) = true := decide_eq_true hxy
      rw [hd] at hnq
      have HF := Hd (HSJ.out hxy)
      clear HSJ HNJ hxy hd
      go_upto_region 12 with fail
      go_quiet (fail)
      go_wp2_with fail
      go_roundw
      case rel => exact ⟨j + 1, by omega, by go_num, HF.out, below_drewN _ HBJ.out⟩
      case measure => simp [intOf]; omega
     ·have hd : decide (xm = ym) = false := decide_eq_false hxy
      rw [hd] at hnq
      have HF : Hid (decide (L = M) = false) := Hd (decide_eq_false (fun e => hxy (HNJ.out (HNE2.out e))))
      have HBN := Hd (btr HBXF.out HBJ.out)
      clear HSJ HNJ hxy hd
      go_upto_region 12 with fail
      go_quiet (fail)
      go_wp2_with fail
      go_ret
      exact ⟨by rw [HF.out]; rfl, below_drewN _ HBN.out⟩
/-- What Small says. -/
def okS (x : ItemD) : Bool := decide (x.marks.length ≤ 20) && decide (x.name.size ≤ 100)
def smallC (c : CartD) : Bool := decide (c.vec.length ≤ 40) && decide (c.cloud.length ≤ 40) && decide (c.items.length ≤ 20) && c.items.all okS
theorem smallC_parts {c : CartD} (h : smallC c = true) : c.vec.length ≤ 40 ∧ c.cloud.length ≤ 40 ∧ c.items.length ≤ 20 ∧ ∀ x ∈ c.items, x.marks.length ≤ 20 ∧ x.name.size ≤ 100 := by
 unfold smallC at h
 simp only [Bool.and_eq_true, decide_eq_true_iff, List.all_eq_true] at h
 refine ⟨h.1.1.1, h.1.1.2, h.1.2, fun x hx => ?_⟩
 have := h.2 x hx
 unfold okS at this
 simp only [Bool.and_eq_true, decide_eq_true_iff] at this
 exact this
theorem r14Small_any (c : CartD) (v1 v2 v3 : Value) (w : World) (h : CartA w v1 v2 v3 c) : Calls Tryz.prog 8 #[.agg #[v1, v2, v3]] w fun e w' => e = .returned (.bool (smallC c)) ∧ Below w.heap.size w w' := by
 have hl3 := h.2.2.len
 obtain ⟨o3', k3', e3', hel⟩ := h.2.2.itemAt
 obtain ⟨o1, n1, k1, o2, n2, k2, o3, n3, k3, rfl, rfl, rfl, hn1, hn2, hn3⟩ := opn4 h
 injection e3' with e31 e32 e33
 subst e31 e33
 clear e32
 obtain ⟨W0, HW, HB, HS, HK0⟩ := box1 w #[.slice o1 n1 k1, .slice o2 n2 k2, .slice o3 n3 k3] 28
 have HC := Hd (fun wz (hz : Below W0.heap.size W0 wz) => cel3 (HK0.out wz hz))
 have HEL := Hd hel
 have HLC : Hid (smallC c = (decide (n1 ≤ 40) && decide (n2 ≤ 40) && decide (n3 ≤ 20) && c.items.all okS)) := Hd (by unfold smallC; rw [hn1, hn2, hn3])
 have HN3 := Hd hn3
 rw [← hn3] at hl3
 clear h hel hn1 hn2 hn3
 generalize smallC c = R at *
 generalize c.items = L at *
 obtain ⟨x0, x1, x2⟩ := HC.out W0 brf
 go_enter Tryz.func8, Tryz.ntmps8
 go_wp2_with fail
 rw [← HW.out]
 go_loopw [3] (fun i wr => ∃ k : Nat, k ≤ n3 ∧ k ≤ 21 ∧ i = .int .i64 k ∧ (L.take k).all okS = true ∧ Below W0.heap.size W0 wr) (fun i _ => n3 - (intOf i).toNat)
 case atStart => exact ⟨0, Nat.zero_le _, Nat.zero_le _, rfl, rfl, Below.refl _ _⟩
 case round =>
  obtain ⟨k, hk, hk21, rfl, hall, hB0⟩ := hrel
  have HBF := Hd (btr HB.out hB0)
  have HB0 := Hd hB0
  have HALL := Hd hall
  clear hall hB0 x0 x1 x2
  obtain ⟨x0, x1, x2⟩ := HC.out wr HB0.out
  have HFIN : Hid ((k = n3 ∨ k = 21) → R = (decide (n1 ≤ 40) && decide (n2 ≤ 40) && decide (n3 ≤ 20))) := Hd (fun hh => by
   rw [HLC.out]
   by_cases h20 : n3 ≤ 20
   ·have hkn : k = n3 := by omega
    have : L.all okS = true := by have := HALL.out; rw [hkn, HN3.out, List.take_length] at this; exact this
    rw [this, Bool.and_true]
   ·rw [decide_eq_false h20]; simp)
  by_cases hgo : k < n3 ∧ k < 21
  rotate_left
  ·have HR := Hd (HFIN.out (by omega))
   clear HFIN HALL
   have hex : ¬ (k : Int) < (n3 : Int) ∨ ((k : Int) < (n3 : Int) ∧ ¬ (k : Int) < 21) := by omega
   rcases hex with a1 | ⟨a1, a2⟩
   all_goals
    by_cases q1 : n1 ≤ 40
    rotate_left
    ·have t1 : ¬ (n1 : Int) ≤ 40 := by omega
     go_wp2_with fail
     go_ret
     exact ⟨by rw [HR.out, decide_eq_false q1]; rfl, HBF.out⟩
    have t1 : (n1 : Int) ≤ 40 := by omega
    by_cases q2 : n2 ≤ 40
    rotate_left
    ·have t2 : ¬ (n2 : Int) ≤ 40 := by omega
     go_wp2_with fail
     go_ret
     exact ⟨by rw [HR.out, decide_eq_false q2]; simp, HBF.out⟩
    have t2 : (n2 : Int) ≤ 40 := by omega
    by_cases q3 : n3 ≤ 20
    ·have t3 : (n3 : Int) ≤ 20 := by omega
     first
     | (exfalso; omega)
     | (go_wp2_with fail
        go_ret
        exact ⟨by rw [HR.out, decide_eq_true q1, decide_eq_true q2, decide_eq_true q3]; rfl, HBF.out⟩)
    ·have t3 : ¬ (n3 : Int) ≤ 20 := by omega
     go_wp2_with fail
     go_ret
     exact ⟨by rw [HR.out, decide_eq_false q3]; simp, HBF.out⟩
  ·obtain ⟨hlt, hlt21⟩ := hgo
   have hlt' : k < L.length := by rw [← HN3.out]; exact hlt
   obtain ⟨b, off, mv, rfl, hbl, e0, e1, -, hmk⟩ := HEL.out k hlt'
   obtain ⟨mo, mc, rfl⟩ := hmk.slice
   have c0 : wr.cell? ⟨b, off + k * 2, none⟩ = some (.string L[k].name) := by rw [HBF.out.cell (p := ⟨_, _, _⟩) hbl]; exact e0
   have c1 : wr.cell? ⟨b, off + k * 2 + 1, none⟩ = some (.slice mo L[k].marks.length mc) := by rw [HBF.out.cell (p := ⟨_, _, _⟩) hbl]; exact e1
   have HST : Hid ((L.take (k + 1)).all okS = ((L.take k).all okS && okS L[k])) := Hd (by rw [List.take_succ_eq_append_getElem hlt', List.all_append]; simp)
   have HOK : Hid (okS L[k] = (decide (L[k].marks.length ≤ 20) && decide (L[k].name.size ≤ 100))) := Hd rfl
   have HAF : Hid (okS L[k] = false → L.all okS = false) := Hd (fun h => by
    rw [← Bool.not_eq_true, List.all_eq_true]
    intro hh
    rw [hh _ (List.getElem_mem hlt')] at h
    cases h)
   generalize L[k] = x at *
   have a0 : (0 : Int) ≤ k := by omega
   have a1 : (k : Int) < n3 := by omega
   have a2 : (k : Int) < 21 := by omega
   have hkw := wr1 k (by omega)
   clear e0 e1 hmk HFIN
   by_cases p2 : x.marks.length ≤ 20
   rotate_left
   ·have s1 : (20 : Int) < x.marks.length := by omega
    have HF := Hd (HAF.out (by rw [HOK.out, decide_eq_false p2]; rfl))
    clear HST HOK HAF HALL
    go_wp2_with fail
    go_ret
    exact ⟨by rw [HLC.out, HF.out]; simp, HBF.out⟩
   have s1 : ¬ (20 : Int) < x.marks.length := by omega
   by_cases p1 : x.name.size ≤ 100
   ·have s2 : ¬ (100 : Int) < x.name.size := by omega
    have HF : Hid ((L.take (k + 1)).all okS = true) := Hd (by rw [HST.out, HALL.out, HOK.out, decide_eq_true p1, decide_eq_true p2]; rfl)
    clear HST HOK HAF HALL
    go_wp2_with fail
    go_roundw
    case rel => exact ⟨k + 1, by omega, by omega, by go_num, HF.out, HB0.out⟩
    case measure => simp [intOf]; omega
   ·have s2 : (100 : Int) < x.name.size := by omega
    have HF := Hd (HAF.out (by rw [HOK.out, decide_eq_false p1]; simp))
    clear HST HOK HAF HALL
    go_wp2_with fail
    go_ret
    exact ⟨by rw [HLC.out, HF.out]; simp, HBF.out⟩
/-- The numbers that the reference compares, in their order. -/
def mkey (m : MarkD) : Nat → Int
 | 0 => m.time
 | 1 => m.dot.rep
 | 2 => m.dot.ctr
 | _ => m.qty
theorem better_gt {m b : MarkD} {k : Nat} (hk : k < 4) (h : ∀ j, j < k → mkey m j = mkey b j) (hg : mkey b k < mkey m k) : better b m = m := by
 unfold better
 rw [if_pos]
 rw [mcmp_iff]
 unfold NewP
 have h0 : 0 < k → m.time = b.time := h 0
 have h1 : 1 < k → m.dot.rep = b.dot.rep := h 1
 have h2 : 2 < k → m.dot.ctr = b.dot.ctr := h 2
 rcases (show k = 0 ∨ k = 1 ∨ k = 2 ∨ k = 3 by omega) with rfl | rfl | rfl | rfl
 all_goals (simp only [mkey] at hg; omega)
theorem better_lt {m b : MarkD} {k : Nat} (hk : k < 4) (h : ∀ j, j < k → mkey m j = mkey b j) (hg : mkey m k < mkey b k) : better b m = b := by
 unfold better
 rw [if_neg]
 rw [mcmp_iff]
 unfold NewP
 have h0 : 0 < k → m.time = b.time := h 0
 have h1 : 1 < k → m.dot.rep = b.dot.rep := h 1
 have h2 : 2 < k → m.dot.ctr = b.dot.ctr := h 2
 rcases (show k = 0 ∨ k = 1 ∨ k = 2 ∨ k = 3 by omega) with rfl | rfl | rfl | rfl
 all_goals (simp only [mkey] at hg; omega)
theorem better_eq4 {m b : MarkD} (h : ∀ j, j < 4 → mkey m j = mkey b j) : better b m = b := by
 unfold better
 rw [if_neg]
 rw [mcmp_iff]
 unfold NewP
 have h0 : m.time = b.time := h 0 (by omega)
 have h1 : m.dot.rep = b.dot.rep := h 1 (by omega)
 have h2 : m.dot.ctr = b.dot.ctr := h 2 (by omega)
 have h3 : m.qty = b.qty := h 3 (by omega)
 omega
theorem set4_oth {w : World} {b k : Nat} {x0 x1 x2 x3 : Value} (h : k ≠ b) : (set4 w b x0 x1 x2 x3).heap[k]? = w.heap[k]? := by
 unfold set4
 rw [setCell_other h, setCell_other h, setCell_other h, setCell_other h]
def mcells (m : MarkD) : Obj := .cells #[.int .i64 m.dot.rep, .int .i64 m.dot.ctr, .int .i64 m.qty, .int .u64 m.time] 85
def kcells (m : MarkD) : Obj := .cells #[.int .u64 m.time, .int .u64 m.dot.rep, .int .u64 m.dot.ctr, .int .u64 m.qty] 68
theorem kcell {w : World} {g q : Nat} {m : MarkD} (h : w.heap[g]? = some (kcells m)) (hq : q < 4) : w.cell? ⟨g, q, none⟩ = some (.int .u64 (mkey m q)) := by
 unfold kcells at h
 obtain ⟨h0, h1, h2, h3⟩ := cel4 h
 rcases (show q = 0 ∨ q = 1 ∨ q = 2 ∨ q = 3 by omega) with rfl | rfl | rfl | rfl
 ·exact h0
 ·exact h1
 ·exact h2
 ·exact h3
theorem u64_wrap {x : Int} (h0 : 0 ≤ x) (h1 : x ≤ 18446744073709551615) : IntKind.u64.wrap x = x := by rw [IntKind.wrap_u64]; omega
theorem validM_wraps {m : MarkD} (h : validMarkD m = true) : IntKind.u64.wrap m.dot.rep = m.dot.rep ∧ IntKind.u64.wrap m.dot.ctr = m.dot.ctr ∧ IntKind.u64.wrap m.qty = m.qty := by
 obtain ⟨h1, h2, h3, -⟩ := validMark_parts h
 rw [validDot_iff] at h1
 exact ⟨u64_wrap (by omega) (by omega), u64_wrap (by omega) (by omega), u64_wrap (by omega) (by omega)⟩
theorem r22Newest_any (l : List MarkD) (v : Value) (w : World) (h : Arr MarkR 4 w v l) (hne : l ≠ []) (hv : ∀ m ∈ l, validMarkD m = true) : Calls Tryz.prog 41 #[v] w fun e w' => e = .returned (.int .i64 (newestM l).qty) ∧ Below w.heap.size w w' := by
 have hn := h.len
 obtain ⟨a, t, hlt0⟩ : ∃ a t, l = a :: t := by
  cases l with
  | nil => exact absurd rfl hne
  | cons a t => exact ⟨a, t, rfl⟩
 have h0l : 0 < l.length := by rw [hlt0]; simp
 have HNW : Hid (∀ k (hk : k < l.length), greatM a (l.take (k + 1)) = better (greatM a (l.take k)) l[k]) := Hd (fun k hk => greatM_take a l k hk)
 have HN1 : Hid (greatM a (l.take 1) = a) := Hd (by rw [hlt0]; exact better_self a)
 have HNE : Hid (newestM l = greatM a (l.take l.length)) := Hd (by rw [List.take_length, hlt0]; rfl)
 have HA0 : Hid (l[0] = a) := Hd (by subst hlt0; rfl)
 have HVA : Hid (∀ k, greatM a (l.take k) ∈ l) := Hd (fun k => by
  rcases List.mem_cons.1 (greatM_spec (l.take k) a).1 with h | h
  ·rw [h, hlt0]; simp
  ·exact List.mem_of_mem_take h)
 obtain ⟨o, c, rfl, hel⟩ := h.markAt
 have HEL := Hd hel
 have HV := Hd hv
 obtain ⟨n, hnn⟩ : ∃ n, n = l.length := ⟨_, rfl⟩
 rw [← hnn] at hn h0l HNE ⊢
 have HN := Hd hnn
 clear h hel hne hv hnn hlt0
 obtain ⟨b, off, rfl, hbl, e0, e1, e2, e3, -⟩ := HEL.out 0 (by rw [← HN.out]; exact h0l)
 rw [HA0.out] at e0 e1 e2 e3
 simp only [Nat.zero_mul, Nat.add_zero] at e0 e1 e2 e3
 obtain ⟨W1, HW, HB, HS, HK⟩ := box1 w #[.int .i64 a.dot.rep, .int .i64 a.dot.ctr, .int .i64 a.qty, .int .u64 a.time] 85
 have hx1 := HK.out W1 brf
 have hsz := HS.out
 have a1 : (0 : Int) < n := by omega
 go_enter Tryz.func41, Tryz.ntmps41
 go_wp2_with fail
 rw [← HW.out]
 clear e0 e1 e2 e3 a1
 go_loopw [4] (fun i wr => ∃ k : Nat, k + 1 ≤ n ∧ i = .int .i64 ((k + 1 : Nat) : Int) ∧ wr.heap[w.heap.size]? = some (mcells (greatM a (l.take (k + 1)))) ∧ Below w.heap.size w wr) (fun i _ => n + 1 - (intOf i).toNat)
 case atStart => exact ⟨0, by omega, rfl, by rw [HN1.out]; exact hx1, HB.out⟩
 case round =>
  obtain ⟨k, hk, rfl, hxb, hB⟩ := hrel
  have hBsz := hB.size
  have HBR := Hd hB
  have HXB := Hd hxb
  clear hB hxb hx1
  by_cases hlt : k + 1 < n
  rotate_left
  ·have hke : k + 1 = n := by omega
   have HF : Hid (greatM a (l.take (k + 1)) = newestM l) := Hd (by rw [HNE.out, hke])
   have hxb := HXB.out
   rw [HF.out] at hxb
   unfold mcells at hxb
   obtain ⟨p0, p1, p2, p3⟩ := cel4 hxb
   have a1 : ¬ ((k + 1 : Nat) : Int) < (n : Int) := by omega
   clear hxb
   go_wp2_with fail
   go_ret
   exact ⟨rfl, HBR.out⟩
  ·have h1 : k + 1 < l.length := by rw [← HN.out]; exact hlt
   have HST := Hd (HNW.out (k + 1) h1)
   obtain ⟨b', off', eq, -, f0, f1, f2, f3, -⟩ := HEL.out (k + 1) h1
   cases eq
   have hvm := HV.out _ (List.getElem_mem h1)
   have hvb := HV.out _ (HVA.out (k + 1))
   obtain ⟨m1, m2, m3⟩ := validM_wraps hvm
   obtain ⟨n1, n2, n3⟩ := validM_wraps hvb
   have c0 : wr.cell? ⟨b, off + (k + 1) * 4, none⟩ = some (.int .i64 l[k + 1].dot.rep) := by rw [HBR.out.cell (p := ⟨_, _, _⟩) hbl]; exact f0
   have c1 : wr.cell? ⟨b, off + (k + 1) * 4 + 1, none⟩ = some (.int .i64 l[k + 1].dot.ctr) := by rw [HBR.out.cell (p := ⟨_, _, _⟩) hbl]; exact f1
   have c2 : wr.cell? ⟨b, off + (k + 1) * 4 + 2, none⟩ = some (.int .i64 l[k + 1].qty) := by rw [HBR.out.cell (p := ⟨_, _, _⟩) hbl]; exact f2
   have c3 : wr.cell? ⟨b, off + (k + 1) * 4 + 3, none⟩ = some (.int .u64 l[k + 1].time) := by rw [HBR.out.cell (p := ⟨_, _, _⟩) hbl]; exact f3
   have HXN : Hid (∀ wz : World, better (greatM a (l.take (k + 1))) l[k + 1] = greatM a (l.take (k + 1)) → wz.heap[w.heap.size]? = some (mcells (greatM a (l.take (k + 1)))) → wz.heap[w.heap.size]? = some (mcells (greatM a (l.take (k + 1 + 1))))) := Hd (fun wz h1 h2 => by rw [HST.out, h1]; exact h2)
   have HXM : Hid (∀ wz : World, better (greatM a (l.take (k + 1))) l[k + 1] = l[k + 1] → wz.heap[w.heap.size]? = some (mcells l[k + 1]) → wz.heap[w.heap.size]? = some (mcells (greatM a (l.take (k + 1 + 1))))) := Hd (fun wz h1 h2 => by rw [HST.out, h1]; exact h2)
   clear f0 f1 f2 f3 hvm hvb HST
   generalize l[k + 1] = m at *
   generalize hgb : greatM a (l.take (k + 1)) = g at *
   clear hgb
   have hxb := HXB.out
   unfold mcells at hxb
   obtain ⟨p0, p1, p2, p3⟩ := cel4 hxb
   obtain ⟨W4, HW4, HB4, HS4, HK0, HK1, HK2⟩ := box3 wr #[.int .i64 m.dot.rep, .int .i64 m.dot.ctr, .int .i64 m.qty, .int .u64 m.time] 85 #[.int .u64 m.time, .int .u64 m.dot.rep, .int .u64 m.dot.ctr, .int .u64 m.qty] 68 #[.int .u64 g.time, .int .u64 g.dot.rep, .int .u64 g.dot.ctr, .int .u64 g.qty] 68
   have hltb : w.heap.size < wr.heap.size := lt_of_heap HXB.out
   have a0 : (0 : Int) ≤ ((k + 1 : Nat) : Int) := by omega
   have a1 : ((k + 1 : Nat) : Int) < (n : Int) := by omega
   have hkw := wr1 (k + 1) (by omega)
   go_wp2_with fail
   rw [← HW4.out]
   clear c0 c1 c2 c3 p0 p1 p2 p3 m1 m2 m3 n1 n2 n3 hxb a0 a1
   have HXB4 : Hid (∀ wz, Below W4.heap.size W4 wz → wz.heap[w.heap.size]? = some (mcells g)) := Hd (fun wz hz => by
    have h5 := lt_of_heap HXB.out
    have h6 := HB4.out.size
    rw [hz.block _ (by omega), HB4.out.block _ h5]
    exact HXB.out)
   obtain ⟨wo, rfl⟩ : ∃ wo : World, wo = wr := ⟨_, rfl⟩
   go_loopw [8] (fun i wr => ∃ q : Nat, q ≤ 4 ∧ i = .int .i64 q ∧ (∀ j, j < q → mkey m j = mkey g j) ∧ Below W4.heap.size W4 wr) (fun i _ => 4 - (intOf i).toNat)
   case atStart => exact ⟨0, by omega, rfl, fun j hj => by omega, brf⟩
   case round =>
    obtain ⟨q, hq, rfl, heq, hBq⟩ := hrel
    have HQ := Hd heq
    have HBQ := Hd hBq
    have HBN := Hd (btr HBR.out (btr HB4.out hBq))
    have HXQ := Hd (HXB4.out wr hBq)
    clear heq hBq
    by_cases hq4 : q < 4
    rotate_left
    ·have HF := Hd (HXN.out wr (better_eq4 (fun j hj => HQ.out j (by omega))) HXQ.out)
     have a1 : ¬ (q : Int) < 4 := by omega
     clear HXN HXM HQ
     go_wp2_with fail
     go_roundw
     case rel => exact ⟨k + 1, by omega, by go_num, HF.out, HBN.out⟩
     case measure => simp [intOf]; omega
    ·have hlo : wo.heap.size + 1 + 1 < W4.heap.size := by have := HS4.out; omega
     have HG1 : Hid (wr.heap[wo.heap.size + 1]? = some (kcells m)) := Hd (HK1.out wr HBQ.out)
     have HG2 : Hid (wr.heap[wo.heap.size + 1 + 1]? = some (kcells g)) := Hd (HK2.out wr HBQ.out)
     have HSS : Hid (∀ wz : World, wz.heap[wo.heap.size + 1]? = wr.heap[wo.heap.size + 1]? → wz.heap[wo.heap.size + 1 + 1]? = wr.heap[wo.heap.size + 1 + 1]? → wz.cell? ⟨wo.heap.size + 1, q, none⟩ = some (.int .u64 (mkey m q)) ∧ wz.cell? ⟨wo.heap.size + 1 + 1, q, none⟩ = some (.int .u64 (mkey g q))) := Hd (fun wz h1 h2 => ⟨kcell (h1.trans HG1.out) hq4, kcell (h2.trans HG2.out) hq4⟩)
     have HGT : Hid (mkey g q < mkey m q → better g m = m) := Hd (better_gt hq4 HQ.out)
     have HLT : Hid (mkey m q < mkey g q → better g m = g) := Hd (better_lt hq4 HQ.out)
     have HEQ : Hid (mkey m q = mkey g q → ∀ j, j < q + 1 → mkey m j = mkey g j) := Hd (fun h j hj => by
      rcases Nat.lt_succ_iff_lt_or_eq.1 hj with h2 | rfl
      ·exact HQ.out j h2
      ·exact h)
     have hmb := HK0.out wr HBQ.out
     obtain ⟨p0, p1, p2, p3⟩ := cel4 hmb
     have hne1 : wo.heap.size + 1 ≠ w.heap.size := by omega
     have hne2 : wo.heap.size + 1 + 1 ≠ w.heap.size := by omega
     have a0 : (0 : Int) ≤ (q : Int) := by omega
     have a1 : (q : Int) < 4 := by omega
     have hqw := wr1 q (by omega)
     clear hmb HQ
     have HXG := Hd (HXN.out wr)
     have hxbq := HXQ.out
     unfold mcells at hxbq
     have z0 := froz0 hxbq 0
     have z1 := froz0 hxbq 1
     have z2 := froz0 hxbq 2
     have z3 := froz0 hxbq 3
     obtain ⟨y0, y1, y2, y3⟩ := cel4 hxbq
     clear hxbq
     generalize mkey m q = A at *
     generalize mkey g q = B at *
     by_cases hAB : A = B
     ·have t1 : ¬ B < A := by omega
      have t2 : (A != B) = false := by simp [hAB]
      have HF := Hd (HEQ.out hAB)
      have HFB : Hid (Below W4.heap.size W4 wr.drew.drew) := Hd (btr HBQ.out (btr (show Below wr.heap.size wr wr.drew from bdr) bdr))
      clear HGT HLT HEQ HXN HXM HXG hAB
      go_upto_region 11 with fail
      refine NQ.to ?_
      refine wp_region_held_drew (S := (fun wz => wz.cell? ⟨wo.heap.size + 1, q, none⟩ = some (.int .u64 A) ∧ wz.cell? ⟨wo.heap.size + 1 + 1, q, none⟩ = some (.int .u64 B))) (by kernel_rfl) (HSS.out _ rfl rfl) (fun hS => ?_)
      refine tkR (n := 9) [0, 1, 2, 3, 4, 5, 6, 7, 8] rfl (by decide +kernel) hS ?_
      iterate 9 ((try simp only [Act.put, s1, s2, s3, s4, s5, s6]); refine ⟨_, ?_, rfl, Or.inl ⟨by kernel_rfl, fun w hSw => ok_of fun z hz => ?_⟩, ?_⟩; rotate_left; · (obtain ⟨f0, f1⟩ := hSw; go_simp; exact hz))
      refine RunOK.done ?_
      try simp only [Act.put, s1, s2, s3, s4, s5, s6]
      refine wpAnyH_done (by kernel_rfl) ?_ _
      try simp only [Act.put, s1, s2, s3, s4, s5, s6]
      simp only [NQ]
      (try simp only [NQ])
      go_upto_region 13 with fail
      refine NQ.to ?_
      refine wp_region_held_drew (S := (fun wz => wz.cell? ⟨wo.heap.size + 1, q, none⟩ = some (.int .u64 A) ∧ wz.cell? ⟨wo.heap.size + 1 + 1, q, none⟩ = some (.int .u64 B))) (by kernel_rfl) (HSS.out _ rfl rfl) (fun hS => ?_)
      refine tkR (n := 9) [0, 1, 2, 3, 4, 5, 6, 7, 8] rfl (by decide +kernel) hS ?_
      iterate 9 ((try simp only [Act.put, s1, s2, s3, s4, s5, s6]); refine ⟨_, ?_, rfl, Or.inl ⟨by kernel_rfl, fun w hSw => ok_of fun z hz => ?_⟩, ?_⟩; rotate_left; · (obtain ⟨f0, f1⟩ := hSw; go_simp; exact hz))
      refine RunOK.done ?_
      try simp only [Act.put, s1, s2, s3, s4, s5, s6]
      refine wpAnyH_done (by kernel_rfl) ?_ _
      try simp only [Act.put, s1, s2, s3, s4, s5, s6]
      simp only [NQ]
      go_wp2_with fail
      go_roundw
      case rel => exact ⟨q + 1, by omega, by go_num, HF.out, HFB.out⟩
      case measure => simp [intOf]; omega
     ·by_cases hgt : B < A
      ·have t2 : (A != B) = true := by simp [hAB]
       have HF0 := HGT.out hgt
       clear HGT HLT HEQ HXN HXG hAB
       go_upto_region 11 with fail
       refine NQ.to ?_
       refine wp_region_held_drew (S := (fun wz => wz.cell? ⟨wo.heap.size + 1, q, none⟩ = some (.int .u64 A) ∧ wz.cell? ⟨wo.heap.size + 1 + 1, q, none⟩ = some (.int .u64 B))) (by kernel_rfl) (HSS.out _ rfl rfl) (fun hS => ?_)
       refine tkR (n := 9) [0, 1, 2, 3, 4, 5, 6, 7, 8] rfl (by decide +kernel) hS ?_
       iterate 9 ((try simp only [Act.put, s1, s2, s3, s4, s5, s6]); refine ⟨_, ?_, rfl, Or.inl ⟨by kernel_rfl, fun w hSw => ok_of fun z hz => ?_⟩, ?_⟩; rotate_left; · (obtain ⟨f0, f1⟩ := hSw; go_simp; exact hz))
       refine RunOK.done ?_
       try simp only [Act.put, s1, s2, s3, s4, s5, s6]
       refine wpAnyH_done (by kernel_rfl) ?_ _
       try simp only [Act.put, s1, s2, s3, s4, s5, s6]
       simp only [NQ]
       go_upto_region 13 with fail
       obtain ⟨W9, hW9⟩ : ∃ x, x = set4 wr.drew w.heap.size (.int .i64 m.dot.rep) (.int .i64 m.dot.ctr) (.int .i64 m.qty) (.int .u64 m.time) := ⟨_, rfl⟩
       have hs9 : W9.heap[w.heap.size]? = some (mcells m) := by rw [hW9]; exact set4_same _ _ _ _ (show wr.drew.heap[w.heap.size]? = some _ from HXQ.out)
       have ho1 : W9.heap[wo.heap.size + 1]? = wr.heap[wo.heap.size + 1]? := by rw [hW9]; exact set4_oth hne1
       have ho2 : W9.heap[wo.heap.size + 1 + 1]? = wr.heap[wo.heap.size + 1 + 1]? := by rw [hW9]; exact set4_oth hne2
       have hb9 : Below w.heap.size w W9 := by rw [hW9]; exact set4_below _ _ _ _ (btr HBN.out bdr) (Nat.le_refl _)
       have HF := Hd (HXM.out W9.drew HF0 hs9)
       have HFB : Hid (Below w.heap.size w W9.drew) := Hd (btr hb9 bdr)
       have HSS9 := Hd (HSS.out W9.drew ho1 ho2)
       clear HF0 hs9 ho1 ho2 hb9 HXM y0 y1 y2 y3 z0 z1 z2 z3
       refine NQ.to ?_
       change (Code.region _ _ _).wp _ _ _ (set4 wr.drew w.heap.size (.int .i64 m.dot.rep) (.int .i64 m.dot.ctr) (.int .i64 m.qty) (.int .u64 m.time))
       rw [← hW9]
       clear hW9
       refine wp_region_held_drew (S := (fun wz => wz.cell? ⟨wo.heap.size + 1, q, none⟩ = some (.int .u64 A) ∧ wz.cell? ⟨wo.heap.size + 1 + 1, q, none⟩ = some (.int .u64 B))) (by kernel_rfl) (HSS9.out) (fun hS => ?_)
       refine tkR (n := 9) [0, 1, 2, 3, 4, 5, 6, 7, 8] rfl (by decide +kernel) hS ?_
       iterate 9 ((try simp only [Act.put, s1, s2, s3, s4, s5, s6]); refine ⟨_, ?_, rfl, Or.inl ⟨by kernel_rfl, fun w hSw => ok_of fun z hz => ?_⟩, ?_⟩; rotate_left; · (obtain ⟨f0, f1⟩ := hSw; go_simp; exact hz))
       refine RunOK.done ?_
       try simp only [Act.put, s1, s2, s3, s4, s5, s6]
       refine wpAnyH_done (by kernel_rfl) ?_ _
       try simp only [Act.put, s1, s2, s3, s4, s5, s6]
       simp only [NQ]
       go_wp2_with fail
       go_roundw
       case rel => exact ⟨k + 1, by omega, by go_num, HF.out, HFB.out⟩
       case measure => simp [intOf]; omega
      ·have t2 : (A != B) = true := by simp [hAB]
       have HF := Hd (HXG.out (HLT.out (by omega)) HXQ.out)
       have HFB : Hid (Below w.heap.size w wr.drew.drew) := Hd (btr HBN.out (btr (show Below wr.heap.size wr wr.drew from bdr) bdr))
       clear HGT HLT HEQ HXN HXM HXG hAB
       go_upto_region 11 with fail
       refine NQ.to ?_
       refine wp_region_held_drew (S := (fun wz => wz.cell? ⟨wo.heap.size + 1, q, none⟩ = some (.int .u64 A) ∧ wz.cell? ⟨wo.heap.size + 1 + 1, q, none⟩ = some (.int .u64 B))) (by kernel_rfl) (HSS.out _ rfl rfl) (fun hS => ?_)
       refine tkR (n := 9) [0, 1, 2, 3, 4, 5, 6, 7, 8] rfl (by decide +kernel) hS ?_
       iterate 9 ((try simp only [Act.put, s1, s2, s3, s4, s5, s6]); refine ⟨_, ?_, rfl, Or.inl ⟨by kernel_rfl, fun w hSw => ok_of fun z hz => ?_⟩, ?_⟩; rotate_left; · (obtain ⟨f0, f1⟩ := hSw; go_simp; exact hz))
       refine RunOK.done ?_
       try simp only [Act.put, s1, s2, s3, s4, s5, s6]
       refine wpAnyH_done (by kernel_rfl) ?_ _
       try simp only [Act.put, s1, s2, s3, s4, s5, s6]
       simp only [NQ]
       (try simp only [NQ])
       go_upto_region 13 with fail
       refine NQ.to ?_
       refine wp_region_held_drew (S := (fun wz => wz.cell? ⟨wo.heap.size + 1, q, none⟩ = some (.int .u64 A) ∧ wz.cell? ⟨wo.heap.size + 1 + 1, q, none⟩ = some (.int .u64 B))) (by kernel_rfl) (HSS.out _ rfl rfl) (fun hS => ?_)
       refine tkR (n := 9) [0, 1, 2, 3, 4, 5, 6, 7, 8] rfl (by decide +kernel) hS ?_
       iterate 9 ((try simp only [Act.put, s1, s2, s3, s4, s5, s6]); refine ⟨_, ?_, rfl, Or.inl ⟨by kernel_rfl, fun w hSw => ok_of fun z hz => ?_⟩, ?_⟩; rotate_left; · (obtain ⟨f0, f1⟩ := hSw; go_simp; exact hz))
       refine RunOK.done ?_
       try simp only [Act.put, s1, s2, s3, s4, s5, s6]
       refine wpAnyH_done (by kernel_rfl) ?_ _
       try simp only [Act.put, s1, s2, s3, s4, s5, s6]
       simp only [NQ]
       go_wp2_with fail
       go_roundw
       case rel => exact ⟨k + 1, by omega, by go_num, HF.out, HFB.out⟩
       case measure => simp [intOf]; omega
end Go.Proofs.YtjoljfnlkddfbaaGreatDoor
