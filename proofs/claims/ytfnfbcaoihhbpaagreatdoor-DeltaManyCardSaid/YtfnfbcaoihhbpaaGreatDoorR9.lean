/- The reference's items: Equal, Find, has, Owner. -/
import Derived.Test.YtfnfbcaoihhbpaaGreatDoorDot2
import Derived.Test.YtfnfbcaoihhbpaaGreatDoorR1b
import Derived.Test.YtfnfbcaoihhbpaaGreatDoorIt6
import Derived.Test.YtfnfbcaoihhbpaaGreatDoorIt10
set_option linter.unusedSimpArgs false
set_option linter.unusedVariables false
set_option maxRecDepth 100000
set_option maxHeartbeats 4000000
namespace Go.Proofs.YtfnfbcaoihhbpaaGreatDoor
open Go.RowKit Go.Maps

theorem r8Same_any (l m : List MarkD) (v u : Value) (w : World) (h : Arr MarkR 4 w v l) (h2 : Arr MarkR 4 w u m) : Calls Tryz.prog 93 #[v, u] w fun e w' => e = .returned (.bool (decide (l = m))) ∧ Below w.heap.size w w' := by
 have hn := h.len
 have hn2 := h2.len
 obtain ⟨o, c, rfl, hel⟩ := h.markAt
 obtain ⟨o2, c2, rfl, hel2⟩ := h2.markAt
 have HEL := Hd hel
 have HEL2 := Hd hel2
 have HNQ := Hd (fun x y wz => neqMark x y wz)
 clear hel hel2 h h2
 by_cases hll : l.length = m.length
 ·have tl : ((l.length : Int) != m.length) = false := by simp [hll]
  have tl2 : ((l.length : Int) == m.length) = true := by simp [hll]
  go_enter Tryz.func93, Tryz.ntmps93
  go_wp2_with fail
  go_loopw [5] (fun i wr => ∃ k : Nat, k ≤ l.length ∧ i = .int .i64 k ∧ l.take k = m.take k ∧ Below w.heap.size w wr) (fun i _ => l.length - (intOf i).toNat)
  case atStart => exact ⟨0, Nat.zero_le _, rfl, by simp, Below.refl _ _⟩
  case round =>
   obtain ⟨k, hk, rfl, htk, hB⟩ := hrel
   have HTK := Hd htk
   have HB := Hd hB
   clear htk hB
   by_cases hlt : k < l.length
   ·have hlt2 : k < m.length := by omega
    obtain ⟨b, off, rfl, hbl, e0, e1, e2, e3, -⟩ := HEL.out k hlt
    obtain ⟨b2, off2, rfl, hbl2, f0, f1, f2, f3, -⟩ := HEL2.out k hlt2
    have c0 : wr.cell? ⟨b, off + k * 4, none⟩ = some (.int .i64 l[k].dot.rep) := by rw [HB.out.cell (p := ⟨_, _, _⟩) hbl]; exact e0
    have c1 : wr.cell? ⟨b, off + k * 4 + 1, none⟩ = some (.int .i64 l[k].dot.ctr) := by rw [HB.out.cell (p := ⟨_, _, _⟩) hbl]; exact e1
    have c2 : wr.cell? ⟨b, off + k * 4 + 2, none⟩ = some (.int .i64 l[k].qty) := by rw [HB.out.cell (p := ⟨_, _, _⟩) hbl]; exact e2
    have c3 : wr.cell? ⟨b, off + k * 4 + 3, none⟩ = some (.int .u64 l[k].time) := by rw [HB.out.cell (p := ⟨_, _, _⟩) hbl]; exact e3
    have d0 : wr.cell? ⟨b2, off2 + k * 4, none⟩ = some (.int .i64 m[k].dot.rep) := by rw [HB.out.cell (p := ⟨_, _, _⟩) hbl2]; exact f0
    have d1 : wr.cell? ⟨b2, off2 + k * 4 + 1, none⟩ = some (.int .i64 m[k].dot.ctr) := by rw [HB.out.cell (p := ⟨_, _, _⟩) hbl2]; exact f1
    have d2 : wr.cell? ⟨b2, off2 + k * 4 + 2, none⟩ = some (.int .i64 m[k].qty) := by rw [HB.out.cell (p := ⟨_, _, _⟩) hbl2]; exact f2
    have d3 : wr.cell? ⟨b2, off2 + k * 4 + 3, none⟩ = some (.int .u64 m[k].time) := by rw [HB.out.cell (p := ⟨_, _, _⟩) hbl2]; exact f3
    have HSN : Hid (l[k] = m[k] → l.take (k + 1) = m.take (k + 1)) := Hd (fun he => take_snoc_eq hlt hlt2 HTK.out he)
    have HNE : Hid (l = m → l[k] = m[k]) := Hd (fun e => by subst e; rfl)
    generalize l[k] = x at *
    generalize m[k] = y at *
    have hnq : ∀ wz : World, Sem.run Tryz.prog (binOp .neq 55 (.agg #[.int .i64 x.dot.rep, .int .i64 x.dot.ctr, .int .i64 x.qty, .int .u64 x.time]) (.agg #[.int .i64 y.dot.rep, .int .i64 y.dot.ctr, .int .i64 y.qty, .int .u64 y.time])) wz = .ok (.bool (!decide (x = y))) wz := fun wz => HNQ.out x y wz
    have hgd : ∀ (op : BinOp) (a b : Operand) (wz : World), Sem.run Tryz.prog (eqGuard op 55 a b (.agg #[.int .i64 x.dot.rep, .int .i64 x.dot.ctr, .int .i64 x.qty, .int .u64 x.time]) (.agg #[.int .i64 y.dot.rep, .int .i64 y.dot.ctr, .int .i64 y.qty, .int .u64 y.time])) wz = .ok () wz := fun op a b wz => guardMark op a b x y wz
    have a0 : (0 : Int) ≤ k := by omega
    have a1 : (k : Int) < l.length := by omega
    have hkw := wr1 k (by omega)
    have a2 : (k : Int) < m.length := by omega
    clear e0 e1 e2 e3 f0 f1 f2 f3 HNQ HTK
    by_cases hxy : x = y
    ·have hd : decide (x = y) = true := decide_eq_true hxy
     rw [hd] at hnq
     have HF := Hd (HSN.out hxy)
     clear HSN HNE hxy hd
     go_upto_region 6 with fail
     go_quiet (fail)
     go_wp2_with fail
     go_roundw
     case rel => exact ⟨k + 1, by omega, by go_num, HF.out, below_drewN _ HB.out⟩
     case measure => simp [intOf]; omega
    ·have hd : decide (x = y) = false := decide_eq_false hxy
     rw [hd] at hnq
     have HF : Hid (decide (l = m) = false) := Hd (decide_eq_false (fun e => hxy (HNE.out e)))
     clear HSN HNE hxy hd
     go_upto_region 6 with fail
     go_quiet (fail)
     go_wp2_with fail
     go_ret
     exact ⟨by rw [HF.out]; rfl, below_drewN _ HB.out⟩
   ·have hke : k = l.length := by omega
    have HF : Hid (decide (l = m) = true) := Hd (decide_eq_true (take_eq_of hll hke HTK.out))
    clear HTK
    go_wp2_with fail
    go_ret
    exact ⟨by rw [HF.out]; rfl, HB.out⟩
 ·have tl : ((l.length : Int) != m.length) = true := by simp; omega
  have tl2 : ((l.length : Int) == m.length) = false := by simp; omega
  have HF : Hid (decide (l = m) = false) := Hd (decide_eq_false (fun e => hll (by rw [e])))
  go_enter Tryz.func93, Tryz.ntmps93
  go_wp2_with fail
  go_ret
  exact ⟨by rw [HF.out]; rfl, Below.refl _ _⟩

end Go.Proofs.YtfnfbcaoihhbpaaGreatDoor
namespace Go.Proofs.YtfnfbcaoihhbpaaGreatDoor
open Go.RowKit Go.Maps

theorem r9Equal_any (l m : List ItemD) (v u : Value) (w : World) (h : Arr ItemR 2 w v l) (h2 : Arr ItemR 2 w u m) : Calls Tryz.prog 48 #[v, u] w fun e w' => e = .returned (.bool (decide (l = m))) ∧ Below w.heap.size w w' := by
 have hn := h.len
 have hn2 := h2.len
 obtain ⟨o, c, rfl, hel⟩ := h.itemAt
 obtain ⟨o2, c2, rfl, hel2⟩ := h2.itemAt
 have HEL := Hd hel
 have HEL2 := Hd hel2
 clear hel hel2 h h2
 by_cases hll : l.length = m.length
 ·have tl : ((l.length : Int) != m.length) = false := by simp [hll]
  have tl2 : ((l.length : Int) == m.length) = true := by simp [hll]
  have HLL := Hd hll
  clear hll
  go_enter Tryz.func48, Tryz.ntmps48
  go_wp2_with fail
  go_loopw [5] (fun i wr => ∃ k : Nat, k ≤ l.length ∧ i = .int .i64 k ∧ l.take k = m.take k ∧ Below w.heap.size w wr) (fun i _ => l.length - (intOf i).toNat)
  case atStart => exact ⟨0, Nat.zero_le _, rfl, by simp, Below.refl _ _⟩
  case round =>
   obtain ⟨k, hk, rfl, htk, hB⟩ := hrel
   have HTK := Hd htk
   have HB := Hd hB
   clear htk hB
   by_cases hlt : k < l.length
   ·have hlt2 : k < m.length := by have := HLL.out; omega
    obtain ⟨b, off, mv, rfl, hbl, e0, e1, -, hm1⟩ := HEL.out k hlt
    obtain ⟨b2, off2, nv, rfl, hbl2, f0, f1, -, hm2⟩ := HEL2.out k hlt2
    obtain ⟨o3, k3, rfl, -⟩ := id hm1
    obtain ⟨o4, k4, rfl, -⟩ := id hm2
    have c0 : wr.cell? ⟨b, off + k * 2, none⟩ = some (.string l[k].name) := by rw [HB.out.cell (p := ⟨_, _, _⟩) hbl]; exact e0
    have c1 : wr.cell? ⟨b, off + k * 2 + 1, none⟩ = some (.slice o3 l[k].marks.length k3) := by rw [HB.out.cell (p := ⟨_, _, _⟩) hbl]; exact e1
    have d0 : wr.cell? ⟨b2, off2 + k * 2, none⟩ = some (.string m[k].name) := by rw [HB.out.cell (p := ⟨_, _, _⟩) hbl2]; exact f0
    have d1 : wr.cell? ⟨b2, off2 + k * 2 + 1, none⟩ = some (.slice o4 m[k].marks.length k4) := by rw [HB.out.cell (p := ⟨_, _, _⟩) hbl2]; exact f1
    have hbr : b < wr.heap.size := Nat.lt_of_lt_of_le hbl HB.out.size
    have hbr2 : b2 < wr.heap.size := Nat.lt_of_lt_of_le hbl2 HB.out.size
    have HS : Hid (∀ w2, Below wr.heap.size wr w2 → w2.cell? ⟨b, off + k * 2, none⟩ = some (.string l[k].name) ∧ w2.cell? ⟨b, off + k * 2 + 1, none⟩ = some (.slice o3 l[k].marks.length k3) ∧ w2.cell? ⟨b2, off2 + k * 2, none⟩ = some (.string m[k].name) ∧ w2.cell? ⟨b2, off2 + k * 2 + 1, none⟩ = some (.slice o4 m[k].marks.length k4)) := Hd (fun w2 h2 => ⟨by rw [h2.cell (p := ⟨_, _, _⟩) hbr]; exact c0, by rw [h2.cell (p := ⟨_, _, _⟩) hbr]; exact c1, by rw [h2.cell (p := ⟨_, _, _⟩) hbr2]; exact d0, by rw [h2.cell (p := ⟨_, _, _⟩) hbr2]; exact d1⟩)
    have HSA : Hid (Calls Tryz.prog 93 #[.slice o3 l[k].marks.length k3, .slice o4 m[k].marks.length k4] wr.drew fun e w' => e = .returned (.bool (decide (l[k].marks = m[k].marks))) ∧ Below wr.heap.size wr w') := Hd ((r8Same_any l[k].marks m[k].marks _ _ wr.drew ((hm1.marks HB.out).marks bdr) ((hm2.marks HB.out).marks bdr)).mono (fun _ _ ⟨a1, a2⟩ => ⟨a1, bdr.trans a2⟩))
    have HSN : Hid (l[k] = m[k] → l.take (k + 1) = m.take (k + 1)) := Hd (fun he => take_snoc_eq hlt hlt2 HTK.out he)
    have HNE : Hid (l = m → l[k] = m[k]) := Hd (fun e => by subst e; rfl)
    have hse := strDec l[k].name m[k].name
    generalize l[k] = x at *
    generalize m[k] = y at *
    have a0 : (0 : Int) ≤ k := by omega
    have a1 : (k : Int) < l.length := by omega
    have hkw := wr1 k (by omega)
    have a2 : (k : Int) < m.length := by have := HLL.out; omega
    clear e0 e1 f0 f1 HTK hm1 hm2 c0 c1 d0 d1
    by_cases hnm : x.name = y.name
    ·rw [decide_eq_true hnm] at hse
     obtain ⟨r, hr⟩ : ∃ r, r = decide (x.marks = y.marks) := ⟨_, rfl⟩
     rw [← hr] at HSA
     have HR := Hd hr
     have HNM := Hd hnm
     clear hr hnm
     cases r with
     | true =>
      have HF := Hd (HSN.out (item_eq.2 ⟨HNM.out, of_decide_eq_true HR.out.symm⟩))
      clear HSN HNE HR HNM
      go_upto_region 6 with fail
      refine NQ.to ?_
      refine wp_region_held_drew (S := (fun w' => w'.cell? ⟨b, off + k * 2, none⟩ = some (.string x.name) ∧ w'.cell? ⟨b, off + k * 2 + 1, none⟩ = some (.slice o3 x.marks.length k3) ∧ w'.cell? ⟨b2, off2 + k * 2, none⟩ = some (.string y.name) ∧ w'.cell? ⟨b2, off2 + k * 2 + 1, none⟩ = some (.slice o4 y.marks.length k4))) (by kernel_rfl) (HS.out _ bdr) (fun hS => ?_)
      refine tkR (n := 22) [0, 1, 2, 3, 4, 5, 6, 7, 8, 9, 10, 11, 12, 13, 14, 15, 16, 17, 18, 19, 20, 21] rfl (by decide +kernel) hS ?_
      iterate 22 ((try simp only [Act.put, s1, s2, s3, s4, s5, s6]); refine ⟨_, ?_, rfl, Or.inl ⟨by kernel_rfl, fun w hSw => ok_of fun z hz => ?_⟩, ?_⟩; rotate_left; · (obtain ⟨f1, f2, f3, f4⟩ := hSw; go_simp; exact hz))
      refine RunOK.done ?_
      try simp only [Act.put, s1, s2, s3, s4, s5, s6]
      refine rd1 22 (by decide +kernel) rfl (fun K hK => ?_)
      go_simp
      go_at_call 93
      refine HSA.out.mono ?_
      rintro e w2 ⟨rfl, hb2⟩
      go_simp
      refine Shut.out hK _ _ (HS.out w2 hb2) (fun hS2 => ?_); clear hK K hS; have hS := hS2; clear hS2
      refine tkR (n := 2) [23, 24] rfl (by decide +kernel) hS ?_
      iterate 2 ((try simp only [Act.put, s1, s2, s3, s4, s5, s6]); refine ⟨_, ?_, rfl, Or.inl ⟨by kernel_rfl, fun w hSw => ok_of fun z hz => ?_⟩, ?_⟩; rotate_left; · (go_simp; exact hz))
      refine RunOK.done ?_
      try simp only [Act.put, s1, s2, s3, s4, s5, s6]
      refine wpAnyH_done (by kernel_rfl) ?_ _
      try simp only [Act.put, s1, s2, s3, s4, s5, s6]
      simp only [NQ]
      have hbf := btr HB.out hb2
      go_wp2_with fail
      go_roundw
      case rel => exact ⟨k + 1, by omega, by go_num, HF.out, hbf⟩
      case measure => simp [intOf]; omega
     | false =>
      have HF : Hid (decide (l = m) = false) := Hd (decide_eq_false (fun e => of_decide_eq_false HR.out.symm (item_eq.1 (HNE.out e)).2))
      clear HSN HNE HR HNM
      go_upto_region 6 with fail
      refine NQ.to ?_
      refine wp_region_held_drew (S := (fun w' => w'.cell? ⟨b, off + k * 2, none⟩ = some (.string x.name) ∧ w'.cell? ⟨b, off + k * 2 + 1, none⟩ = some (.slice o3 x.marks.length k3) ∧ w'.cell? ⟨b2, off2 + k * 2, none⟩ = some (.string y.name) ∧ w'.cell? ⟨b2, off2 + k * 2 + 1, none⟩ = some (.slice o4 y.marks.length k4))) (by kernel_rfl) (HS.out _ bdr) (fun hS => ?_)
      refine tkR (n := 22) [0, 1, 2, 3, 4, 5, 6, 7, 8, 9, 10, 11, 12, 13, 14, 15, 16, 17, 18, 19, 20, 21] rfl (by decide +kernel) hS ?_
      iterate 22 ((try simp only [Act.put, s1, s2, s3, s4, s5, s6]); refine ⟨_, ?_, rfl, Or.inl ⟨by kernel_rfl, fun w hSw => ok_of fun z hz => ?_⟩, ?_⟩; rotate_left; · (obtain ⟨f1, f2, f3, f4⟩ := hSw; go_simp; exact hz))
      refine RunOK.done ?_
      try simp only [Act.put, s1, s2, s3, s4, s5, s6]
      refine rd1 22 (by decide +kernel) rfl (fun K hK => ?_)
      go_simp
      go_at_call 93
      refine HSA.out.mono ?_
      rintro e w2 ⟨rfl, hb2⟩
      go_simp
      refine Shut.out hK _ _ (HS.out w2 hb2) (fun hS2 => ?_); clear hK K hS; have hS := hS2; clear hS2
      refine tkR (n := 2) [23, 24] rfl (by decide +kernel) hS ?_
      iterate 2 ((try simp only [Act.put, s1, s2, s3, s4, s5, s6]); refine ⟨_, ?_, rfl, Or.inl ⟨by kernel_rfl, fun w hSw => ok_of fun z hz => ?_⟩, ?_⟩; rotate_left; · (go_simp; exact hz))
      refine RunOK.done ?_
      try simp only [Act.put, s1, s2, s3, s4, s5, s6]
      refine wpAnyH_done (by kernel_rfl) ?_ _
      try simp only [Act.put, s1, s2, s3, s4, s5, s6]
      simp only [NQ]
      go_wp2_with fail
      go_ret
      exact ⟨by rw [HF.out]; rfl, btr HB.out hb2⟩
    ·rw [decide_eq_false hnm] at hse
     have HF : Hid (decide (l = m) = false) := Hd (decide_eq_false (fun e => hnm (item_eq.1 (HNE.out e)).1))
     clear HSN HNE hnm HSA
     go_upto_region 6 with fail
     refine NQ.to ?_
     refine wp_region_held_drew (S := (fun w' => w'.cell? ⟨b, off + k * 2, none⟩ = some (.string x.name) ∧ w'.cell? ⟨b, off + k * 2 + 1, none⟩ = some (.slice o3 x.marks.length k3) ∧ w'.cell? ⟨b2, off2 + k * 2, none⟩ = some (.string y.name) ∧ w'.cell? ⟨b2, off2 + k * 2 + 1, none⟩ = some (.slice o4 y.marks.length k4))) (by kernel_rfl) (HS.out _ bdr) (fun hS => ?_)
     refine tkR (n := 25) [0, 1, 2, 3, 4, 5, 6, 7, 8, 9, 10, 11, 12, 13, 14, 15, 16, 17, 18, 19, 20, 21, 22, 23, 24] rfl (by decide +kernel) hS ?_
     iterate 12 ((try simp only [Act.put, s1, s2, s3, s4, s5, s6]); refine ⟨_, ?_, rfl, Or.inl ⟨by kernel_rfl, fun w hSw => ok_of fun z hz => ?_⟩, ?_⟩; rotate_left; · (obtain ⟨f1, f2, f3, f4⟩ := hSw; go_simp; exact hz))
     iterate 12 ((try simp only [Act.put, s1, s2, s3, s4, s5, s6]); refine ⟨_, undef, rfl, Or.inr ⟨by kernel_rfl, rfl⟩, ?_⟩)
     ((try simp only [Act.put, s1, s2, s3, s4, s5, s6]); refine ⟨_, ?_, rfl, Or.inl ⟨by kernel_rfl, fun w hSw => ok_of fun z hz => ?_⟩, ?_⟩; rotate_left; · (go_simp; exact hz))
     refine RunOK.done ?_
     try simp only [Act.put, s1, s2, s3, s4, s5, s6]
     refine wpAnyH_done (by kernel_rfl) ?_ _
     try simp only [Act.put, s1, s2, s3, s4, s5, s6]
     simp only [NQ]
     go_wp2_with fail
     go_ret
     exact ⟨by rw [HF.out]; rfl, below_drew1 HB.out⟩
   ·have hke : k = l.length := by omega
    have HF : Hid (decide (l = m) = true) := Hd (decide_eq_true (take_eq_of HLL.out hke HTK.out))
    clear HTK
    go_wp2_with fail
    go_ret
    exact ⟨by rw [HF.out]; rfl, HB.out⟩
 ·have tl : ((l.length : Int) != m.length) = true := by simp; omega
  have tl2 : ((l.length : Int) == m.length) = false := by simp; omega
  have HF : Hid (decide (l = m) = false) := Hd (decide_eq_false (fun e => hll (by rw [e])))
  go_enter Tryz.func48, Tryz.ntmps48
  go_wp2_with fail
  go_ret
  exact ⟨by rw [HF.out]; rfl, Below.refl _ _⟩

end Go.Proofs.YtfnfbcaoihhbpaaGreatDoor

