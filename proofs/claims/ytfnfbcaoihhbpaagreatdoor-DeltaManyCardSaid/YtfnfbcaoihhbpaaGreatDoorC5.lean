/- cart.Names walked. -/
import Derived.Test.YtfnfbcaoihhbpaaGreatDoorC1
import Derived.Test.YtfnfbcaoihhbpaaGreatDoorIt6
set_option linter.unusedSimpArgs false
set_option linter.unusedVariables false
set_option maxRecDepth 100000
set_option maxHeartbeats 4000000
namespace Go.Proofs.YtfnfbcaoihhbpaaGreatDoor
open Go.RowKit Go.Maps Go.Sort Go.Shelf

theorem equalVec_any (l m : List DotD) (v u : Value) (w : World) (h : Arr DotR 2 w v l) (h2 : Arr DotR 2 w u m) : Calls Tryz.prog 153 #[v, u] w fun e w' => e = .returned (.bool (decide (l = m))) ∧ Below w.heap.size w w' := by
 have hn := h.len
 have hn2 := h2.len
 obtain ⟨o, c, rfl, hel⟩ := h.dotAt
 obtain ⟨o2, c2, rfl, hel2⟩ := h2.dotAt
 have HEL := Hd hel
 have HEL2 := Hd hel2
 clear hel hel2 h h2
 by_cases hll : l.length = m.length
 ·have tl : ((l.length : Int) != m.length) = false := by simp [hll]
  have tl2 : ((l.length : Int) == m.length) = true := by simp [hll]
  go_enter Tryz.func153, Tryz.ntmps153
  go_wp2_with fail
  go_loopw [13] (fun i wr => ∃ k : Nat, k ≤ l.length ∧ i = .int .i64 k ∧ l.take k = m.take k ∧ Below w.heap.size w wr) (fun i _ => l.length - (intOf i).toNat)
  case atStart => exact ⟨0, Nat.zero_le _, rfl, by simp, Below.refl _ _⟩
  case round =>
   obtain ⟨k, hk, rfl, htk, hB⟩ := hrel
   have HTK := Hd htk
   have HB := Hd hB
   clear htk hB
   by_cases hlt : k < l.length
   ·have hlt2 : k < m.length := by omega
    obtain ⟨b, off, rfl, hbl, e0, e1⟩ := HEL.out k hlt
    obtain ⟨b2, off2, rfl, hbl2, f0, f1⟩ := HEL2.out k hlt2
    have c0 : wr.cell? ⟨b, off + k * 2, none⟩ = some (.int .i64 l[k].rep) := by rw [HB.out.cell (p := ⟨_, _, _⟩) hbl]; exact e0
    have c1 : wr.cell? ⟨b, off + k * 2 + 1, none⟩ = some (.int .i64 l[k].ctr) := by rw [HB.out.cell (p := ⟨_, _, _⟩) hbl]; exact e1
    have d0 : wr.cell? ⟨b2, off2 + k * 2, none⟩ = some (.int .i64 m[k].rep) := by rw [HB.out.cell (p := ⟨_, _, _⟩) hbl2]; exact f0
    have d1 : wr.cell? ⟨b2, off2 + k * 2 + 1, none⟩ = some (.int .i64 m[k].ctr) := by rw [HB.out.cell (p := ⟨_, _, _⟩) hbl2]; exact f1
    have HSN : Hid (l[k] = m[k] → l.take (k + 1) = m.take (k + 1)) := Hd (fun he => take_snoc_eq hlt hlt2 HTK.out he)
    have HNE : Hid (l = m → l[k] = m[k]) := Hd (fun e => by subst e; rfl)
    generalize l[k] = x at *
    generalize m[k] = y at *
    have hnq : ∀ wz : World, Sem.run Tryz.prog (binOp .neq 30 (.agg #[.int .i64 x.rep, .int .i64 x.ctr]) (.agg #[.int .i64 y.rep, .int .i64 y.ctr])) wz = .ok (.bool (!decide (x = y))) wz := fun wz => neqDot x y wz
    have hgd : ∀ (op : BinOp) (a b : Operand) (wz : World), Sem.run Tryz.prog (eqGuard op 30 a b (.agg #[.int .i64 x.rep, .int .i64 x.ctr]) (.agg #[.int .i64 y.rep, .int .i64 y.ctr])) wz = .ok () wz := fun op a b wz => guardDot op a b x y wz
    have a0 : (0 : Int) ≤ k := by omega
    have a1 : (k : Int) < l.length := by omega
    have hkw := wr1 k (by omega)
    have a2 : (k : Int) < m.length := by omega
    clear e0 e1 f0 f1 HTK
    by_cases hxy : x = y
    ·have hd : decide (x = y) = true := decide_eq_true hxy
     rw [hd] at hnq
     have HF := Hd (HSN.out hxy)
     clear HSN HNE hxy hd
     go_upto_region 6 with fail
     go_quiet (fail)
     go_wp2_with fail
     go_roundw
     case rel => exact ⟨k + 1, by omega, by go_num, HF.out, below_drewN _ HB.out⟩
     case measure => simp [intOf]; omega
    ·have hd : decide (x = y) = false := decide_eq_false hxy
     rw [hd] at hnq
     have HF : Hid (decide (l = m) = false) := Hd (decide_eq_false (fun e => hxy (HNE.out e)))
     clear HSN HNE hxy hd
     go_upto_region 6 with fail
     go_quiet (fail)
     go_wp2_with fail
     go_ret
     exact ⟨by rw [HF.out]; rfl, below_drewN _ HB.out⟩
   ·have hke : k = l.length := by omega
    have HF : Hid (decide (l = m) = true) := Hd (decide_eq_true (take_eq_of hll hke HTK.out))
    clear HTK
    go_wp2_with fail
    go_ret
    exact ⟨by rw [HF.out]; rfl, HB.out⟩
 ·have tl : ((l.length : Int) != m.length) = true := by simp; omega
  have tl2 : ((l.length : Int) == m.length) = false := by simp; omega
  have HF : Hid (decide (l = m) = false) := Hd (decide_eq_false (fun e => hll (by rw [e])))
  go_enter Tryz.func153, Tryz.ntmps153
  go_wp2_with fail
  go_ret
  exact ⟨by rw [HF.out]; rfl, Below.refl _ _⟩

theorem equalDots_any (l m : List DotD) (v u : Value) (w : World) (h : Arr DotR 2 w v l) (h2 : Arr DotR 2 w u m) : Calls Tryz.prog 154 #[v, u] w fun e w' => e = .returned (.bool (decide (l = m))) ∧ Below w.heap.size w w' := by
 have hn := h.len
 have hn2 := h2.len
 obtain ⟨o, c, rfl, hel⟩ := h.dotAt
 obtain ⟨o2, c2, rfl, hel2⟩ := h2.dotAt
 have HEL := Hd hel
 have HEL2 := Hd hel2
 clear hel hel2 h h2
 by_cases hll : l.length = m.length
 ·have tl : ((l.length : Int) != m.length) = false := by simp [hll]
  have tl2 : ((l.length : Int) == m.length) = true := by simp [hll]
  go_enter Tryz.func154, Tryz.ntmps154
  go_wp2_with fail
  go_loopw [13] (fun i wr => ∃ k : Nat, k ≤ l.length ∧ i = .int .i64 k ∧ l.take k = m.take k ∧ Below w.heap.size w wr) (fun i _ => l.length - (intOf i).toNat)
  case atStart => exact ⟨0, Nat.zero_le _, rfl, by simp, Below.refl _ _⟩
  case round =>
   obtain ⟨k, hk, rfl, htk, hB⟩ := hrel
   have HTK := Hd htk
   have HB := Hd hB
   clear htk hB
   by_cases hlt : k < l.length
   ·have hlt2 : k < m.length := by omega
    obtain ⟨b, off, rfl, hbl, e0, e1⟩ := HEL.out k hlt
    obtain ⟨b2, off2, rfl, hbl2, f0, f1⟩ := HEL2.out k hlt2
    have c0 : wr.cell? ⟨b, off + k * 2, none⟩ = some (.int .i64 l[k].rep) := by rw [HB.out.cell (p := ⟨_, _, _⟩) hbl]; exact e0
    have c1 : wr.cell? ⟨b, off + k * 2 + 1, none⟩ = some (.int .i64 l[k].ctr) := by rw [HB.out.cell (p := ⟨_, _, _⟩) hbl]; exact e1
    have d0 : wr.cell? ⟨b2, off2 + k * 2, none⟩ = some (.int .i64 m[k].rep) := by rw [HB.out.cell (p := ⟨_, _, _⟩) hbl2]; exact f0
    have d1 : wr.cell? ⟨b2, off2 + k * 2 + 1, none⟩ = some (.int .i64 m[k].ctr) := by rw [HB.out.cell (p := ⟨_, _, _⟩) hbl2]; exact f1
    have HSN : Hid (l[k] = m[k] → l.take (k + 1) = m.take (k + 1)) := Hd (fun he => take_snoc_eq hlt hlt2 HTK.out he)
    have HNE : Hid (l = m → l[k] = m[k]) := Hd (fun e => by subst e; rfl)
    generalize l[k] = x at *
    generalize m[k] = y at *
    have hnq : ∀ wz : World, Sem.run Tryz.prog (binOp .neq 30 (.agg #[.int .i64 x.rep, .int .i64 x.ctr]) (.agg #[.int .i64 y.rep, .int .i64 y.ctr])) wz = .ok (.bool (!decide (x = y))) wz := fun wz => neqDot x y wz
    have hgd : ∀ (op : BinOp) (a b : Operand) (wz : World), Sem.run Tryz.prog (eqGuard op 30 a b (.agg #[.int .i64 x.rep, .int .i64 x.ctr]) (.agg #[.int .i64 y.rep, .int .i64 y.ctr])) wz = .ok () wz := fun op a b wz => guardDot op a b x y wz
    have a0 : (0 : Int) ≤ k := by omega
    have a1 : (k : Int) < l.length := by omega
    have hkw := wr1 k (by omega)
    have a2 : (k : Int) < m.length := by omega
    clear e0 e1 f0 f1 HTK
    by_cases hxy : x = y
    ·have hd : decide (x = y) = true := decide_eq_true hxy
     rw [hd] at hnq
     have HF := Hd (HSN.out hxy)
     clear HSN HNE hxy hd
     go_upto_region 6 with fail
     go_quiet (fail)
     go_wp2_with fail
     go_roundw
     case rel => exact ⟨k + 1, by omega, by go_num, HF.out, below_drewN _ HB.out⟩
     case measure => simp [intOf]; omega
    ·have hd : decide (x = y) = false := decide_eq_false hxy
     rw [hd] at hnq
     have HF : Hid (decide (l = m) = false) := Hd (decide_eq_false (fun e => hxy (HNE.out e)))
     clear HSN HNE hxy hd
     go_upto_region 6 with fail
     go_quiet (fail)
     go_wp2_with fail
     go_ret
     exact ⟨by rw [HF.out]; rfl, below_drewN _ HB.out⟩
   ·have hke : k = l.length := by omega
    have HF : Hid (decide (l = m) = true) := Hd (decide_eq_true (take_eq_of hll hke HTK.out))
    clear HTK
    go_wp2_with fail
    go_ret
    exact ⟨by rw [HF.out]; rfl, HB.out⟩
 ·have tl : ((l.length : Int) != m.length) = true := by simp; omega
  have tl2 : ((l.length : Int) == m.length) = false := by simp; omega
  have HF : Hid (decide (l = m) = false) := Hd (decide_eq_false (fun e => hll (by rw [e])))
  go_enter Tryz.func154, Tryz.ntmps154
  go_wp2_with fail
  go_ret
  exact ⟨by rw [HF.out]; rfl, Below.refl _ _⟩

theorem ctxEqual_any (a b a2 b2 : List DotD) (v1 v2 u1 u2 : Value) (w : World) (h1 : Arr DotR 2 w v1 a) (h2 : Arr DotR 2 w v2 b) (g1 : Arr DotR 2 w u1 a2) (g2 : Arr DotR 2 w u2 b2) : Calls Tryz.prog 97 #[.agg #[v1, v2], .agg #[u1, u2]] w fun e w' => e = .returned (.bool (decide (a = a2) && decide (b = b2))) ∧ Below w.heap.size w w' := by
 obtain ⟨o1, k1, rfl⟩ := h1.slice
 obtain ⟨o2, k2, rfl⟩ := h2.slice
 obtain ⟨o3, k3, rfl⟩ := g1.slice
 obtain ⟨o4, k4, rfl⟩ := g2.slice
 obtain ⟨W0, hW0⟩ : ∃ W0, W0 = w.alloc (.cells #[.slice o1 a.length k1, .slice o2 b.length k2] 25) := ⟨_, rfl⟩
 have hb0 : Below w.heap.size w W0 := by rw [hW0]; exact bal
 have hx0 : W0.heap[w.heap.size]? = some (.cells #[.slice o1 a.length k1, .slice o2 b.length k2] 25) := by rw [hW0]; exact alloc_new _ _
 have hs0 : W0.heap.size = w.heap.size + 1 := by rw [hW0]; simp
 obtain ⟨W1, hW1⟩ : ∃ W1, W1 = W0.alloc (.cells #[.slice o3 a2.length k3, .slice o4 b2.length k4] 25) := ⟨_, rfl⟩
 have hb01 : Below W0.heap.size W0 W1 := by rw [hW1]; exact bal
 have hb1 := btr hb0 hb01
 have hx1 : W1.heap[w.heap.size + 1]? = some (.cells #[.slice o3 a2.length k3, .slice o4 b2.length k4] 25) := by rw [hW1, ← hs0]; exact alloc_new _ _
 have hx01 : W1.heap[w.heap.size]? = some (.cells #[.slice o1 a.length k1, .slice o2 b.length k2] 25) := by rw [hb01.block _ (lt_of_heap hx0)]; exact hx0
 have HC : Hid (∀ wz, Below W1.heap.size W1 wz → (wz.cell? ⟨w.heap.size, 0, none⟩ = some (.slice o1 a.length k1) ∧ wz.cell? ⟨w.heap.size, 1, none⟩ = some (.slice o2 b.length k2)) ∧ wz.cell? ⟨w.heap.size + 1, 0, none⟩ = some (.slice o3 a2.length k3) ∧ wz.cell? ⟨w.heap.size + 1, 1, none⟩ = some (.slice o4 b2.length k4)) := Hd (fun wz hz => ⟨⟨by rw [hz.cell (p := ⟨w.heap.size, 0, none⟩) (lt_of_heap hx01), cell0 hx01 0]; rfl, by rw [hz.cell (p := ⟨w.heap.size, 1, none⟩) (lt_of_heap hx01), cell0 hx01 1]; rfl⟩, by rw [hz.cell (p := ⟨w.heap.size + 1, 0, none⟩) (lt_of_heap hx1), cell0 hx1 0]; rfl, by rw [hz.cell (p := ⟨w.heap.size + 1, 1, none⟩) (lt_of_heap hx1), cell0 hx1 1]; rfl⟩)
 have HB1 := Hd hb1
 have HW : Hid (W1 = (w.alloc (.cells #[.slice o1 a.length k1, .slice o2 b.length k2] 25)).alloc (.cells #[.slice o3 a2.length k3, .slice o4 b2.length k4] 25)) := Hd (by rw [hW1, hW0])
 have HE := Hd (equalVec_any a a2 _ _ W1 (h1.dots hb1) (g1.dots hb1))
 have HH2 := Hd h2
 have HG2 := Hd g2
 clear h1 h2 g1 g2 hx0 hx1 hx01 hb0 hb01 hb1 hW0 hW1 hs0
 obtain ⟨r1, hr1⟩ : ∃ r, r = decide (a = a2) := ⟨_, rfl⟩
 rw [← hr1] at HE ⊢
 clear hr1
 obtain ⟨⟨x0, x1⟩, x2, x3⟩ := HC.out W1 brf
 go_enter Tryz.func97, Tryz.ntmps97
 go_wp2_with fail
 rw [← HW.out]
 go_wp2_with fail
 refine HE.out.mono ?_
 rintro e w2 ⟨rfl, hb2⟩
 have HB2 := Hd (btr HB1.out hb2)
 obtain ⟨⟨y0, y1⟩, y2, y3⟩ := HC.out w2 hb2
 clear x0 x1 x2 x3 hb2 HE
 cases r1 with
 | false =>
  go_wp2_with fail
  go_ret
  exact ⟨rfl, HB2.out⟩
 | true =>
  have HE2 := Hd (equalDots_any b b2 _ _ w2 (HH2.out.dots HB2.out) (HG2.out.dots HB2.out))
  obtain ⟨r2, hr2⟩ : ∃ r, r = decide (b = b2) := ⟨_, rfl⟩
  rw [← hr2] at HE2
  have HR := Hd hr2
  clear hr2
  go_wp2_with fail
  refine HE2.out.mono ?_
  rintro e w3 ⟨rfl, hb3⟩
  have HB3 := Hd (btr HB2.out hb3)
  clear y0 y1 y2 y3 hb3 HE2
  go_wp2_with fail
  go_ret
  exact ⟨by rw [← HR.out]; rfl, HB3.out⟩
end Go.Proofs.YtfnfbcaoihhbpaaGreatDoor
namespace Go.Proofs.YtfnfbcaoihhbpaaGreatDoor
open Go.RowKit Go.Maps Go.Sort Go.Shelf

theorem cart_dec (c d : CartD) : decide (c = d) = ((decide (c.vec = d.vec) && decide (c.cloud = d.cloud)) && decide (c.items = d.items)) := by
 rw [Bool.eq_iff_iff]
 simp only [decide_eq_true_iff, Bool.and_eq_true]
 constructor
 ·rintro rfl; exact ⟨⟨rfl, rfl⟩, rfl⟩
 ·rintro ⟨⟨h1, h2⟩, h3⟩; cases c; cases d; simp_all
theorem cartEqual_any (c d : CartD) (v1 v2 v3 u1 u2 u3 : Value) (w : World) (h : CartA w v1 v2 v3 c) (g : CartA w u1 u2 u3 d) : Calls Tryz.prog 50 #[.agg #[v1, v2, v3], .agg #[u1, u2, u3]] w fun e w' => e = .returned (.bool (decide (c = d))) ∧ Below w.heap.size w w' := by
 rw [cart_dec]
 obtain ⟨o1, k1, rfl⟩ := h.1.slice
 obtain ⟨o2, k2, rfl⟩ := h.2.1.slice
 obtain ⟨o3, k3, rfl⟩ := h.2.2.slice
 obtain ⟨o4, k4, rfl⟩ := g.1.slice
 obtain ⟨o5, k5, rfl⟩ := g.2.1.slice
 obtain ⟨o6, k6, rfl⟩ := g.2.2.slice
 obtain ⟨W0, hW0⟩ : ∃ W0, W0 = w.alloc (.cells #[.slice o1 c.vec.length k1, .slice o2 c.cloud.length k2, .slice o3 c.items.length k3] 28) := ⟨_, rfl⟩
 have hb0 : Below w.heap.size w W0 := by rw [hW0]; exact bal
 have hx0 : W0.heap[w.heap.size]? = some (.cells #[.slice o1 c.vec.length k1, .slice o2 c.cloud.length k2, .slice o3 c.items.length k3] 28) := by rw [hW0]; exact alloc_new _ _
 have hs0 : W0.heap.size = w.heap.size + 1 := by rw [hW0]; simp
 obtain ⟨W1, hW1⟩ : ∃ W1, W1 = W0.alloc (.cells #[.slice o4 d.vec.length k4, .slice o5 d.cloud.length k5, .slice o6 d.items.length k6] 28) := ⟨_, rfl⟩
 have hb01 : Below W0.heap.size W0 W1 := by rw [hW1]; exact bal
 have hb1 := btr hb0 hb01
 have hx1 : W1.heap[w.heap.size + 1]? = some (.cells #[.slice o4 d.vec.length k4, .slice o5 d.cloud.length k5, .slice o6 d.items.length k6] 28) := by rw [hW1, ← hs0]; exact alloc_new _ _
 have hx01 : W1.heap[w.heap.size]? = some (.cells #[.slice o1 c.vec.length k1, .slice o2 c.cloud.length k2, .slice o3 c.items.length k3] 28) := by rw [hb01.block _ (lt_of_heap hx0)]; exact hx0
 have HC : Hid (∀ wz, Below W1.heap.size W1 wz → (wz.cell? ⟨w.heap.size, 0, none⟩ = some (.slice o1 c.vec.length k1) ∧ wz.cell? ⟨w.heap.size, 1, none⟩ = some (.slice o2 c.cloud.length k2) ∧ wz.cell? ⟨w.heap.size, 2, none⟩ = some (.slice o3 c.items.length k3)) ∧ wz.cell? ⟨w.heap.size + 1, 0, none⟩ = some (.slice o4 d.vec.length k4) ∧ wz.cell? ⟨w.heap.size + 1, 1, none⟩ = some (.slice o5 d.cloud.length k5) ∧ wz.cell? ⟨w.heap.size + 1, 2, none⟩ = some (.slice o6 d.items.length k6)) := Hd (fun wz hz => ⟨⟨by rw [hz.cell (p := ⟨w.heap.size, 0, none⟩) (lt_of_heap hx01), cell0 hx01 0]; rfl, by rw [hz.cell (p := ⟨w.heap.size, 1, none⟩) (lt_of_heap hx01), cell0 hx01 1]; rfl, by rw [hz.cell (p := ⟨w.heap.size, 2, none⟩) (lt_of_heap hx01), cell0 hx01 2]; rfl⟩, by rw [hz.cell (p := ⟨w.heap.size + 1, 0, none⟩) (lt_of_heap hx1), cell0 hx1 0]; rfl, by rw [hz.cell (p := ⟨w.heap.size + 1, 1, none⟩) (lt_of_heap hx1), cell0 hx1 1]; rfl, by rw [hz.cell (p := ⟨w.heap.size + 1, 2, none⟩) (lt_of_heap hx1), cell0 hx1 2]; rfl⟩)
 have HB1 := Hd hb1
 have HW : Hid (W1 = (w.alloc (.cells #[.slice o1 c.vec.length k1, .slice o2 c.cloud.length k2, .slice o3 c.items.length k3] 28)).alloc (.cells #[.slice o4 d.vec.length k4, .slice o5 d.cloud.length k5, .slice o6 d.items.length k6] 28)) := Hd (by rw [hW1, hW0])
 have hA := h.below hb1
 have gA := g.below hb1
 have HE := Hd (ctxEqual_any c.vec c.cloud d.vec d.cloud _ _ _ _ W1 hA.1 hA.2.1 gA.1 gA.2.1)
 have HI : Hid (∀ wz, Below W1.heap.size W1 wz → Calls Tryz.prog 40 #[.slice o3 c.items.length k3, .slice o6 d.items.length k6] wz fun e w' => e = .returned (.bool (decide (c.items = d.items))) ∧ Below wz.heap.size wz w') := Hd (fun wz hz => itemsEqual_any c.items d.items _ _ wz (hA.2.2.items hz) (gA.2.2.items hz))
 clear h g hA gA hx0 hx1 hx01 hb0 hb01 hb1 hW0 hW1 hs0
 obtain ⟨r1, hr1⟩ : ∃ r, r = (decide (c.vec = d.vec) && decide (c.cloud = d.cloud)) := ⟨_, rfl⟩
 obtain ⟨r2, hr2⟩ : ∃ r, r = decide (c.items = d.items) := ⟨_, rfl⟩
 rw [← hr1] at HE ⊢
 rw [← hr2] at HI ⊢
 clear hr1 hr2
 generalize c.vec.length = n1 at *
 generalize c.cloud.length = n2 at *
 generalize c.items.length = n3 at *
 generalize d.vec.length = n4 at *
 generalize d.cloud.length = n5 at *
 generalize d.items.length = n6 at *
 obtain ⟨⟨x0, x1, x2⟩, x3, x4, x5⟩ := HC.out W1 brf
 go_enter Tryz.func50, Tryz.ntmps50
 go_wp2_with fail
 rw [← HW.out]
 go_wp2_with fail
 refine HE.out.mono ?_
 rintro e w2 ⟨rfl, hb2⟩
 have HB2 := Hd hb2
 obtain ⟨⟨y0, y1, y2⟩, y3, y4, y5⟩ := HC.out w2 hb2
 clear x0 x1 x2 x3 x4 x5 hb2 HE
 cases r1 with
 | false =>
  go_wp2_with fail
  go_ret
  exact ⟨rfl, HB1.out.trans (HB2.out.mono HB1.out.size)⟩
 | true =>
  go_wp2_with fail
  refine (HI.out w2 HB2.out).mono ?_
  rintro e w3 ⟨rfl, hb3⟩
  have HB3 := Hd (btr HB2.out hb3)
  clear y0 y1 y2 y3 y4 y5 hb3
  go_wp2_with fail
  go_ret
  exact ⟨rfl, HB1.out.trans (HB3.out.mono HB1.out.size)⟩
end Go.Proofs.YtfnfbcaoihhbpaaGreatDoor
namespace Go.Proofs.YtfnfbcaoihhbpaaGreatDoor
open Go.RowKit Go.Maps Go.Sort Go.Shelf

theorem cloneVec_row (l : List DotD) (v : Value) (w : World) (h : Arr DotR EDot.k w v l) (hl : l.length ≤ 1000000) : Calls Tryz.prog 130 #[v] w fun e w' => ∃ v', e = .returned v' ∧ EDot.Row w.heap.size w' v' l ∧ Below w.heap.size w w' := by
 obtain ⟨a, cap, rfl, -⟩ := id h
 cases a with
 | none =>
  have hle : l = [] := by
   rcases l with _ | ⟨x, l⟩
   ·rfl
   ·obtain ⟨o, c, he, _, _, hel⟩ := h
    obtain ⟨b, off, cs, h1, _⟩ := hel 0 (by simp)
    cases he
    cases h1
  subst hle
  clear h
  have hnil : ∀ W, (binOp .eql 23 (.slice none 0 cap) (.slice none 0 0)).run Tryz.prog W = .ok (.bool true) W := fun W => Lib.run_eql_slice_nil_nil W _ _ Tryz.underlying23
  go_enter Tryz.func130, Tryz.ntmps130
  go_wp2_with fail
  go_ret
  exact ⟨_, rfl, Enc.Row.nil _ _, Below.refl _ _⟩
 | some a =>
  have HS := Hd (show SrcIs (w.alloc (.cells #[] 30)) (.slice (some a) l.length cap) l.length (EDot.flat l) from by
   by_cases hn : l = []
   ·subst hn
    exact Or.inr ⟨a, cap, rfl, fun j u hj => by simp [Enc.flat] at hj⟩
   ·have h2 : Arr DotR EDot.k (w.alloc (.cells #[] 30)) (.slice (some a) l.length cap) l := h.dots (bal)
    exact h2.srcE EDot (fun _ _ h => h.1) hn)
  have HE0 : Hid (EDot.Row w.heap.size (w.alloc (.cells #[] 30)) (.slice (some ⟨w.heap.size, 0, none⟩) 0 0) []) := Hd ⟨by simp [Enc.flat], Or.inr ⟨w.heap.size, 0, #[], rfl, Nat.le_refl _, alloc_new _ _, Nat.le_refl _, by unfold maxLen; omega, by simp, by simp [Enc.flat]⟩⟩
  clear h
  have hnil : ∀ W, (binOp .eql 23 (.slice (some a) l.length cap) (.slice none 0 0)).run Tryz.prog W = .ok (.bool false) W := fun W => Lib.run_eql_slice_some_nil W _ _ _ Tryz.underlying23
  go_enter Tryz.func130, Tryz.ntmps130
  go_wp2_with (at_builtin; refine wpList_row rfl _ _ 23 rfl EDot w.heap.size (.agg #[.int .i64 0, .int .i64 0]) 16 Tryz.underlying23 infoDot (by decide) (by decide) (.slice (some ⟨w.heap.size, 0, none⟩) 0 0) [] rfl HE0.out _ l rfl HS.out (by simp; omega) (by simp) ?_; intro v8 w8 hown8 hgr8)
  rw [List.nil_append] at hown8
  go_ret
  exact ⟨_, rfl, hown8, (bal).grown hgr8 (by simp) (by intro k hk; simp [Value.ownBlock] at hk; omega)⟩

end Go.Proofs.YtfnfbcaoihhbpaaGreatDoor
namespace Go.Proofs.YtfnfbcaoihhbpaaGreatDoor
open Go.RowKit Go.Maps Go.Sort Go.Shelf

def EStr : Enc ByteArray := ⟨fun s => [.string s], 1, 9, by decide, fun _ => rfl, fun x u hu => by simp at hu; subst hu; rfl⟩
theorem infoStr : (Tryz.prog.info? 9).map (fun i => (i.zero, i.size, i.bytes)) = some (some (.string ⟨#[]⟩), 1, 16) := by kernel_rfl
def namesV (c : CartD) : List ByteArray := if validC c then c.items.map (·.name) else []
theorem cartNames_any (c : CartD) (v1 v2 v3 : Value) (w : World) (h : CartA w v1 v2 v3 c) (hl : Lt c.items) (hG : GlobIs w) : Calls Tryz.prog 64 #[.agg #[v1, v2, v3]] w fun e w' => ∃ v', e = .returned v' ∧ EStr.Row w.heap.size w' v' (namesV c) ∧ Below w.heap.size w w' := by
 obtain ⟨o1, k1, rfl⟩ := h.1.slice
 obtain ⟨o2, k2, rfl⟩ := h.2.1.slice
 have hit := h.2.2
 obtain ⟨o3, k3, rfl, hel⟩ := hit.itemAt
 obtain ⟨W1, hW1⟩ : ∃ W1, W1 = w.alloc (.cells #[.slice o1 c.vec.length k1, .slice o2 c.cloud.length k2, .slice o3 c.items.length k3] 28) := ⟨_, rfl⟩
 have hb1 : Below w.heap.size w W1 := by rw [hW1]; exact bal
 have hg1 : W1.heap[w.heap.size]? = some (.cells #[.slice o1 c.vec.length k1, .slice o2 c.cloud.length k2, .slice o3 c.items.length k3] 28) := by rw [hW1]; exact alloc_new _ _
 have HC : Hid (∀ wz, Below W1.heap.size W1 wz → wz.cell? ⟨w.heap.size, 0, none⟩ = some (.slice o1 c.vec.length k1) ∧ wz.cell? ⟨w.heap.size, 1, none⟩ = some (.slice o2 c.cloud.length k2) ∧ wz.cell? ⟨w.heap.size, 2, none⟩ = some (.slice o3 c.items.length k3)) := Hd (fun wz hz => ⟨by rw [hz.cell (p := ⟨w.heap.size, 0, none⟩) (lt_of_heap hg1), cell0 hg1 0]; rfl, by rw [hz.cell (p := ⟨w.heap.size, 1, none⟩) (lt_of_heap hg1), cell0 hg1 1]; rfl, by rw [hz.cell (p := ⟨w.heap.size, 2, none⟩) (lt_of_heap hg1), cell0 hg1 2]; rfl⟩)
 have HV := Hd (cartValid_any c _ _ _ W1 (h.below hb1) hl (hG.below hb1))
 have HEL := Hd hel
 have hn1000 := hl.1
 have HB1 := Hd hb1
 have HW := Hd hW1
 obtain ⟨L, hL⟩ : ∃ L, L = c.items := ⟨_, rfl⟩
 have HN : Hid (namesV c = if validC c then L.map (·.name) else []) := Hd (by unfold namesV; rw [hL])
 rw [HN.out]
 rw [← hL] at HC HV HEL hn1000 HW ⊢
 generalize c.vec.length = n1 at *
 generalize c.cloud.length = n2 at *
 clear HN h hit hel hb1 hW1 hg1 hG hl hL
 generalize validC c = r1 at *
 obtain ⟨x0, x1, x2⟩ := HC.out W1 brf
 go_enter Tryz.func64, Tryz.ntmps64
 go_wp2_with fail
 rw [← HW.out]
 go_wp2_with fail
 refine HV.out.mono ?_
 rintro e w2 ⟨rfl, hb2⟩
 have HB2 := Hd hb2
 obtain ⟨y0, y1, y2⟩ := HC.out w2 hb2
 clear x0 x1 x2 hb2 HV
 cases r1 with
 | false =>
  go_wp2_with fail
  go_ret
  exact ⟨_, rfl, Enc.Row.nil _ _, HB1.out.trans (HB2.out.mono HB1.out.size)⟩
 | true =>
  have HB3 := Hd (HB1.out.trans (HB2.out.mono HB1.out.size))
  go_wp2_with fail
  clear y0 y1 y2
  go_loopw [3, 12] (fun v i wr => ∃ k : Nat, k ≤ L.length ∧ i = .int .i64 k ∧ EStr.Row w.heap.size wr v ((L.take k).map (·.name)) ∧ Below w.heap.size w wr) (fun _ i _ => L.length - (intOf i).toNat)
  case atStart => exact ⟨0, Nat.zero_le _, rfl, by rw [List.take_zero]; exact Enc.Row.nil _ _, HB3.out⟩
  case round =>
   obtain ⟨k, hk, rfl, hrow, hB⟩ := hrel
   obtain ⟨av, cv, rfl⟩ := hrow.slice
   by_cases hlt : k < L.length
   ·obtain ⟨b, off, mv, rfl, hbl, e0, e1, -, hmk⟩ := HEL.out k hlt
    have HTK : Hid ((L.take (k + 1)).map (·.name) = (L.take k).map (·.name) ++ [L[k].name]) := Hd (by
     rw [List.take_succ_eq_append_getElem hlt, List.map_append]; rfl)
    obtain ⟨mo, mc, rfl, -⟩ := id hmk
    have hbr : b < wr.heap.size := Nat.lt_of_lt_of_le hbl hB.size
    have c0 : wr.cell? ⟨b, off + k * 2, none⟩ = some (.string L[k].name) := by rw [hB.cell (p := ⟨_, _, _⟩) hbl]; exact e0
    have c1 : wr.cell? ⟨b, off + k * 2 + 1, none⟩ = some (.slice mo L[k].marks.length mc) := by rw [hB.cell (p := ⟨_, _, _⟩) hbl]; exact e1
    have hnl : ((L.take k).map (·.name)).length = k := by rw [List.length_map, List.length_take]; omega
    rw [hnl] at hrow
    try rw [hnl]
    generalize L[k].name = nm at *
    generalize L[k].marks.length = ml at *
    have a1 : (k : Int) < L.length := by omega
    have a0 : (0 : Int) ≤ k := by omega
    have hkw := wr1 k (by omega)
    have HROW := Hd hrow
    have HB := Hd hB
    have hbw : w.heap.size ≤ wr.heap.size := hB.size
    obtain ⟨W2, hW2⟩ : ∃ W2, W2 = wr.alloc (.cells #[.string nm, .slice mo ml mc] 50) := ⟨_, rfl⟩
    have hal2 : Below wr.heap.size wr W2 := by rw [hW2]; exact bal
    have hs2 : W2.heap.size = wr.heap.size + 1 := by rw [hW2]; simp
    obtain ⟨W3, hW3⟩ : ∃ W3, W3 = W2.alloc (.cells #[.string nm] 9) := ⟨_, rfl⟩
    have hal3 : Below W2.heap.size W2 W3 := by rw [hW3]; exact bal
    have hal : Below wr.heap.size wr W3 := btr hal2 hal3
    have HSRC : Hid (SrcIs W3 (.slice (some ⟨wr.heap.size + 1, 0, none⟩) 1 1) 1 (EStr.flat [nm])) := Hd (by
     have := src_lit W2 9 [.string nm]
     rw [hs2, ← hW3] at this
     exact this)
    have HW3 : Hid (W3 = (wr.alloc (.cells #[.string nm, .slice mo ml mc] 50)).alloc (.cells #[.string nm] 9)) := Hd (by rw [hW3, hW2])
    have HROW3 := Hd (HROW.out.below hal)
    have HBW := Hd (HB.out.trans (hal.mono hbw))
    clear hal hal2 hal3 hs2 hW2 hW3 hrow hB e0 e1 hmk
    go_wp2_with (at_builtin; go_loud (rw [← HW3.out]); go_loud (refine wpList_row rfl _ _ 96 rfl EStr w.heap.size (.string ⟨#[]⟩) 16 Tryz.underlying96 infoStr (by decide) (by decide) (.slice av k cv) ((L.take k).map (·.name)) rfl HROW3.out _ [nm] rfl HSRC.out (by rw [hnl]; simp; omega) HBW.out.size ?_); intro v8 w8 hown8 hgr8)
    have hbf := HBW.out.grown hgr8 HBW.out.size (fun j hj => (HROW3.out.lt _ hj).1)
    go_roundw
    case rel => exact ⟨k + 1, by omega, by go_num, by rw [HTK.out]; exact hown8, hbf⟩
    case measure => simp [intOf]; omega
   ·have hke : k = L.length := by omega
    rw [hke, List.take_length] at hrow
    have HROW := Hd hrow
    have HB := Hd hB
    have hnl : (L.map (·.name)).length = L.length := by simp
    rw [hke, List.take_length]
    clear hB hrow
    go_wp2_with fail
    go_ret
    exact ⟨_, rfl, by have := HROW.out; rw [hnl] at this; exact this, HB.out⟩
end Go.Proofs.YtfnfbcaoihhbpaaGreatDoor

