/- join.Within; joins and within of the law. -/
import Derived.Test.YtemfaojmelljpaaGreatDoorC17
import Derived.Test.YtemfaojmelljpaaGreatDoorR9
import Derived.Test.YtemfaojmelljpaaGreatDoorR1b
import Derived.Test.YtemfaojmelljpaaGreatDoorR9e
set_option linter.unusedSimpArgs false
set_option linter.unusedVariables false
set_option maxRecDepth 100000
set_option maxHeartbeats 4000000
namespace Go.Proofs.YtemfaojmelljpaaGreatDoor
open Go.RowKit Go.Maps Go.Sort Go.Shelf

theorem r3Equal_any (a b a2 b2 : List DotD) (v1 v2 u1 u2 : Value) (w : World) (h1 : Arr DotR 2 w v1 a) (h2 : Arr DotR 2 w v2 b) (g1 : Arr DotR 2 w u1 a2) (g2 : Arr DotR 2 w u2 b2) : Calls Tryz.prog 37 #[.agg #[v1, v2], .agg #[u1, u2]] w fun e w' => e = .returned (.bool (decide (a = a2) && decide (b = b2))) ∧ Below w.heap.size w w' := by
 obtain ⟨o1, k1, rfl⟩ := h1.slice;obtain ⟨o2, k2, rfl⟩ := h2.slice;obtain ⟨o3, k3, rfl⟩ := g1.slice;obtain ⟨o4, k4, rfl⟩ := g2.slice;obtain ⟨W0, hW0⟩ : ∃ W0, W0 = w.alloc (.cells #[.slice o1 a.length k1, .slice o2 b.length k2] 25) := ⟨_, rfl⟩;have hb0 : Below w.heap.size w W0 := by rw [hW0]; exact bal
 have hx0 : W0.heap[w.heap.size]? = some (.cells #[.slice o1 a.length k1, .slice o2 b.length k2] 25) := by rw [hW0]; exact alloc_new _ _
 have hs0 : W0.heap.size = w.heap.size + 1 := by rw [hW0]; simp
 obtain ⟨W1, hW1⟩ : ∃ W1, W1 = W0.alloc (.cells #[.slice o3 a2.length k3, .slice o4 b2.length k4] 25) := ⟨_, rfl⟩;have hb01 : Below W0.heap.size W0 W1 := by rw [hW1]; exact bal
 have hb1 := btr hb0 hb01;have hx1 : W1.heap[w.heap.size + 1]? = some (.cells #[.slice o3 a2.length k3, .slice o4 b2.length k4] 25) := by rw [hW1, ← hs0]; exact alloc_new _ _
 have hx01 : W1.heap[w.heap.size]? = some (.cells #[.slice o1 a.length k1, .slice o2 b.length k2] 25) := by rw [hb01.block _ (lt_of_heap hx0)]; exact hx0
 have HC : Hid (∀ wz, Below W1.heap.size W1 wz → (wz.cell? ⟨w.heap.size, 0, none⟩ = some (.slice o1 a.length k1) ∧ wz.cell? ⟨w.heap.size, 1, none⟩ = some (.slice o2 b.length k2)) ∧ wz.cell? ⟨w.heap.size + 1, 0, none⟩ = some (.slice o3 a2.length k3) ∧ wz.cell? ⟨w.heap.size + 1, 1, none⟩ = some (.slice o4 b2.length k4)) := Hd (fun wz hz => ⟨⟨by rw [hz.cell (p := ⟨w.heap.size, 0, none⟩) (lt_of_heap hx01), cell0 hx01 0]; rfl, by rw [hz.cell (p := ⟨w.heap.size, 1, none⟩) (lt_of_heap hx01), cell0 hx01 1]; rfl⟩, by rw [hz.cell (p := ⟨w.heap.size + 1, 0, none⟩) (lt_of_heap hx1), cell0 hx1 0]; rfl, by rw [hz.cell (p := ⟨w.heap.size + 1, 1, none⟩) (lt_of_heap hx1), cell0 hx1 1]; rfl⟩)
 have HB1 := Hd hb1;have HW : Hid (W1 = (w.alloc (.cells #[.slice o1 a.length k1, .slice o2 b.length k2] 25)).alloc (.cells #[.slice o3 a2.length k3, .slice o4 b2.length k4] 25)) := Hd (by rw [hW1, hW0])
 have HE := Hd (r1Same_any a a2 _ _ W1 (h1.dots hb1) (g1.dots hb1));have HH2 := Hd h2;have HG2 := Hd g2;clear h1 h2 g1 g2 hx0 hx1 hx01 hb0 hb01 hb1 hW0 hW1 hs0;obtain ⟨r1, hr1⟩ : ∃ r, r = decide (a = a2) := ⟨_, rfl⟩;rw [← hr1] at HE ⊢;clear hr1;obtain ⟨⟨x0, x1⟩, x2, x3⟩ := HC.out W1 brf
 go_enter Tryz.func37, Tryz.ntmps37
 go_wp2_with fail
 rw [← HW.out]
 go_wp2_with fail
 refine HE.out.mono ?_;rintro e w2 ⟨rfl, hb2⟩;have HB2 := Hd (btr HB1.out hb2);obtain ⟨⟨y0, y1⟩, y2, y3⟩ := HC.out w2 hb2;clear x0 x1 x2 x3 hb2 HE
 cases r1 with
 | false =>
  go_wp2_with fail
  go_ret
  exact ⟨rfl, HB2.out⟩
 | true =>
  have HE2 := Hd (r1Same_any b b2 _ _ w2 (HH2.out.dots HB2.out) (HG2.out.dots HB2.out));obtain ⟨r2, hr2⟩ : ∃ r, r = decide (b = b2) := ⟨_, rfl⟩;rw [← hr2] at HE2;have HR := Hd hr2;clear hr2
  go_wp2_with fail
  refine HE2.out.mono ?_;rintro e w3 ⟨rfl, hb3⟩;have HB3 := Hd (btr HB2.out hb3);clear y0 y1 y2 y3 hb3 HE2
  go_wp2_with fail
  go_ret
  exact ⟨by rw [← HR.out]; rfl, HB3.out⟩
theorem r10Equal_any (c d : CartD) (v1 v2 v3 u1 u2 u3 : Value) (w : World) (h : CartA w v1 v2 v3 c) (g : CartA w u1 u2 u3 d) : Calls Tryz.prog 14 #[.agg #[v1, v2, v3], .agg #[u1, u2, u3]] w fun e w' => e = .returned (.bool (decide (c = d))) ∧ Below w.heap.size w w' := by
 rw [cart_dec];obtain ⟨o1, k1, rfl⟩ := h.1.slice;obtain ⟨o2, k2, rfl⟩ := h.2.1.slice;obtain ⟨o3, k3, rfl⟩ := h.2.2.slice;obtain ⟨o4, k4, rfl⟩ := g.1.slice;obtain ⟨o5, k5, rfl⟩ := g.2.1.slice;obtain ⟨o6, k6, rfl⟩ := g.2.2.slice;obtain ⟨W0, hW0⟩ : ∃ W0, W0 = w.alloc (.cells #[.slice o1 c.vec.length k1, .slice o2 c.cloud.length k2, .slice o3 c.items.length k3] 28) := ⟨_, rfl⟩;have hb0 : Below w.heap.size w W0 := by rw [hW0]; exact bal
 have hx0 : W0.heap[w.heap.size]? = some (.cells #[.slice o1 c.vec.length k1, .slice o2 c.cloud.length k2, .slice o3 c.items.length k3] 28) := by rw [hW0]; exact alloc_new _ _
 have hs0 : W0.heap.size = w.heap.size + 1 := by rw [hW0]; simp
 obtain ⟨W1, hW1⟩ : ∃ W1, W1 = W0.alloc (.cells #[.slice o4 d.vec.length k4, .slice o5 d.cloud.length k5, .slice o6 d.items.length k6] 28) := ⟨_, rfl⟩;have hb01 : Below W0.heap.size W0 W1 := by rw [hW1]; exact bal
 have hb1 := btr hb0 hb01;have hx1 : W1.heap[w.heap.size + 1]? = some (.cells #[.slice o4 d.vec.length k4, .slice o5 d.cloud.length k5, .slice o6 d.items.length k6] 28) := by rw [hW1, ← hs0]; exact alloc_new _ _
 have hx01 : W1.heap[w.heap.size]? = some (.cells #[.slice o1 c.vec.length k1, .slice o2 c.cloud.length k2, .slice o3 c.items.length k3] 28) := by rw [hb01.block _ (lt_of_heap hx0)]; exact hx0
 have HC : Hid (∀ wz, Below W1.heap.size W1 wz → (wz.cell? ⟨w.heap.size, 0, none⟩ = some (.slice o1 c.vec.length k1) ∧ wz.cell? ⟨w.heap.size, 1, none⟩ = some (.slice o2 c.cloud.length k2) ∧ wz.cell? ⟨w.heap.size, 2, none⟩ = some (.slice o3 c.items.length k3)) ∧ wz.cell? ⟨w.heap.size + 1, 0, none⟩ = some (.slice o4 d.vec.length k4) ∧ wz.cell? ⟨w.heap.size + 1, 1, none⟩ = some (.slice o5 d.cloud.length k5) ∧ wz.cell? ⟨w.heap.size + 1, 2, none⟩ = some (.slice o6 d.items.length k6)) := Hd (fun wz hz => ⟨⟨by rw [hz.cell (p := ⟨w.heap.size, 0, none⟩) (lt_of_heap hx01), cell0 hx01 0]; rfl, by rw [hz.cell (p := ⟨w.heap.size, 1, none⟩) (lt_of_heap hx01), cell0 hx01 1]; rfl, by rw [hz.cell (p := ⟨w.heap.size, 2, none⟩) (lt_of_heap hx01), cell0 hx01 2]; rfl⟩, by rw [hz.cell (p := ⟨w.heap.size + 1, 0, none⟩) (lt_of_heap hx1), cell0 hx1 0]; rfl, by rw [hz.cell (p := ⟨w.heap.size + 1, 1, none⟩) (lt_of_heap hx1), cell0 hx1 1]; rfl, by rw [hz.cell (p := ⟨w.heap.size + 1, 2, none⟩) (lt_of_heap hx1), cell0 hx1 2]; rfl⟩)
 have HB1 := Hd hb1;have HW : Hid (W1 = (w.alloc (.cells #[.slice o1 c.vec.length k1, .slice o2 c.cloud.length k2, .slice o3 c.items.length k3] 28)).alloc (.cells #[.slice o4 d.vec.length k4, .slice o5 d.cloud.length k5, .slice o6 d.items.length k6] 28)) := Hd (by rw [hW1, hW0])
 have hA := h.below hb1;have gA := g.below hb1;have HE := Hd (r3Equal_any c.vec c.cloud d.vec d.cloud _ _ _ _ W1 hA.1 hA.2.1 gA.1 gA.2.1);have HI : Hid (∀ wz, Below W1.heap.size W1 wz → Calls Tryz.prog 38 #[.slice o3 c.items.length k3, .slice o6 d.items.length k6] wz fun e w' => e = .returned (.bool (decide (c.items = d.items))) ∧ Below wz.heap.size wz w') := Hd (fun wz hz => r9Equal_any c.items d.items _ _ wz (hA.2.2.items hz) (gA.2.2.items hz))
 clear h g hA gA hx0 hx1 hx01 hb0 hb01 hb1 hW0 hW1 hs0;obtain ⟨r1, hr1⟩ : ∃ r, r = (decide (c.vec = d.vec) && decide (c.cloud = d.cloud)) := ⟨_, rfl⟩;obtain ⟨r2, hr2⟩ : ∃ r, r = decide (c.items = d.items) := ⟨_, rfl⟩;rw [← hr1] at HE ⊢;rw [← hr2] at HI ⊢;clear hr1 hr2;generalize c.vec.length = n1 at *
 generalize c.cloud.length = n2 at *
 generalize c.items.length = n3 at *
 generalize d.vec.length = n4 at *
 generalize d.cloud.length = n5 at *
 generalize d.items.length = n6 at *
 obtain ⟨⟨x0, x1, x2⟩, x3, x4, x5⟩ := HC.out W1 brf
 go_enter Tryz.func14, Tryz.ntmps14
 go_wp2_with fail
 rw [← HW.out]
 go_wp2_with fail
 refine HE.out.mono ?_;rintro e w2 ⟨rfl, hb2⟩;have HB2 := Hd hb2;obtain ⟨⟨y0, y1, y2⟩, y3, y4, y5⟩ := HC.out w2 hb2;clear x0 x1 x2 x3 x4 x5 hb2 HE
 cases r1 with
 | false =>
  go_wp2_with fail
  go_ret
  exact ⟨rfl, HB1.out.trans (HB2.out.mono HB1.out.size)⟩
 | true =>
  go_wp2_with fail
  refine (HI.out w2 HB2.out).mono ?_;rintro e w3 ⟨rfl, hb3⟩;have HB3 := Hd (btr HB2.out hb3);clear y0 y1 y2 y3 y4 y5 hb3
  go_wp2_with fail
  go_ret
  exact ⟨rfl, HB1.out.trans (HB3.out.mono HB1.out.size)⟩
def lightC (c : CartD) : Bool := decide (c.vec.length ≤ 40) && decide (c.cloud.length ≤ 40) && decide (c.items.length ≤ 20) && c.items.all okL
theorem lightC_parts {c : CartD} (h : lightC c = true) : c.vec.length ≤ 40 ∧ c.cloud.length ≤ 40 ∧ c.items.length ≤ 20 ∧ ∀ x ∈ c.items, x.name.size ≤ 100 ∧ x.marks.length ≤ 10 := by
 unfold lightC at h;simp only [Bool.and_eq_true, decide_eq_true_iff, List.all_eq_true] at h;refine ⟨h.1.1.1, h.1.1.2, h.1.2, fun x hx => ?_⟩
 have := h.2 x hx;unfold okL at this;simp only [Bool.and_eq_true, decide_eq_true_iff] at this;exact this
theorem lightC_CL {c : CartD} (h : lightC c = true) : CL 80 c := by
 obtain ⟨h1, h2, h3, h4⟩ := lightC_parts h;exact ⟨by omega, by omega, fun x hx => by have := (h4 x hx).2; omega⟩
theorem CL.sz {n : Nat} {c : CartD} (h : CL n c) (hn : n ≤ 1000) : SzC c := ⟨⟨by have := h.2.1; omega, fun x hx => by have := h.2.2 x hx; omega⟩, by have := h.1; omega⟩
theorem l11light_any (c : CartD) (v1 v2 v3 : Value) (w : World) (h : CartA w v1 v2 v3 c) : Calls Tryz.prog 8 #[.agg #[v1, v2, v3]] w fun e w' => e = .returned (.bool (lightC c)) ∧ Below w.heap.size w w' := by
 have hn1' := h.1.len;have hn2' := h.2.1.len;have hn3' := h.2.2.len;obtain ⟨o1, k1, rfl⟩ := h.1.slice;obtain ⟨o2, k2, rfl⟩ := h.2.1.slice;have hit := h.2.2;obtain ⟨o3, k3, rfl, hel⟩ := hit.itemAt;obtain ⟨n1, hn1⟩ : ∃ n, n = c.vec.length := ⟨_, rfl⟩;obtain ⟨n2, hn2⟩ : ∃ n, n = c.cloud.length := ⟨_, rfl⟩;obtain ⟨n3, hn3⟩ : ∃ n, n = c.items.length := ⟨_, rfl⟩;rw [← hn1, ← hn2, ← hn3] at h ⊢;rw [← hn1] at hn1';rw [← hn2] at hn2';rw [← hn3] at hn3';obtain ⟨W0, HW, HB, HS, HK0⟩ := box1 w #[.slice o1 n1 k1, .slice o2 n2 k2, .slice o3 n3 k3] 28;have HC := Hd (fun wz (hz : Below W0.heap.size W0 wz) => cel3 (HK0.out wz hz))
 have hbb0 := HB.out;have HEL := Hd hel;have HLC : Hid (lightC c = (decide (n1 ≤ 40) && decide (n2 ≤ 40) && decide (n3 ≤ 20) && c.items.all okL)) := Hd (by unfold lightC; rw [hn1, hn2, hn3])
 have HN3 := Hd hn3;rw [HLC.out];clear h hit hel hn1 hn2 hn3 hbb0;generalize c.items = L at *
 obtain ⟨x0, x1, x2⟩ := HC.out W0 brf
 go_enter Tryz.func8, Tryz.ntmps8
 by_cases q1 : n1 ≤ 40
 ·by_cases q2 : n2 ≤ 40
  ·by_cases q3 : n3 ≤ 20
   ·have t1 : ¬ (40 : Int) < n1 := by omega
    have t2 : ¬ (40 : Int) < n2 := by omega
    have t3 : ¬ (20 : Int) < n3 := by omega
    go_wp2_with fail
    rw [← HW.out]
    go_wp2_with fail
    go_loopw [26] (fun i wr => ∃ k : Nat, k ≤ n3 ∧ i = .int .i64 k ∧ (L.take k).all okL = true ∧ Below W0.heap.size W0 wr) (fun i _ => n3 - (intOf i).toNat)
    case atStart => exact ⟨0, Nat.zero_le _, rfl, rfl, Below.refl _ _⟩
    case round =>
     obtain ⟨k, hk, rfl, hall, hB0⟩ := hrel;have hB := btr HB.out hB0
     by_cases hlt : k < n3
     ·have hlt' : k < L.length := by rw [← HN3.out]; exact hlt
      obtain ⟨b, off, mv, rfl, hbl, e0, e1, hns, hmk⟩ := HEL.out k hlt';have hns2 := hmk.len;obtain ⟨mo, mc, rfl⟩ := hmk.slice;have hbr : b < wr.heap.size := Nat.lt_of_lt_of_le hbl hB.size;have c0 : wr.cell? ⟨b, off + k * 2, none⟩ = some (.string L[k].name) := by rw [hB.cell (p := ⟨_, _, _⟩) hbl]; exact e0
      have c1 : wr.cell? ⟨b, off + k * 2 + 1, none⟩ = some (.slice mo L[k].marks.length mc) := by rw [hB.cell (p := ⟨_, _, _⟩) hbl]; exact e1
      have HST : Hid ((L.take (k + 1)).all okL = ((L.take k).all okL && okL L[k])) := Hd (by rw [List.take_succ_eq_append_getElem hlt', List.all_append]; simp)
      have HOK : Hid (okL L[k] = (decide (L[k].name.size ≤ 100) && decide (L[k].marks.length ≤ 10))) := Hd rfl;have HAF : Hid (okL L[k] = false → L.all okL = false) := Hd (fun h => by
       rw [← Bool.not_eq_true, List.all_eq_true];intro hh;rw [hh _ (List.getElem_mem hlt')] at h
       cases h)
      generalize L[k] = x at *
      have hb2 : Below W0.heap.size W0 (wr.alloc (.cells #[.string x.name, .slice mo x.marks.length mc] 49)) := hB0.alloc hB0.size _;have HB2 := Hd hb2;have HBF := Hd (btr HB.out hb2);have HALL := Hd hall;have a0 : (0 : Int) ≤ k := by omega
      have a1 : (k : Int) < n3 := by omega
      have hkw := wr1 k (by omega)
      clear e0 e1 hmk hb2 hall hB hB0
      by_cases p1 : x.name.size ≤ 100
      ·by_cases p2 : x.marks.length ≤ 10
       ·have s1 : ¬ (100 : Int) < x.name.size := by omega
        have s2 : ¬ (10 : Int) < x.marks.length := by omega
        have HF : Hid ((L.take (k + 1)).all okL = true) := Hd (by rw [HST.out, HALL.out, HOK.out, decide_eq_true p1, decide_eq_true p2]; rfl)
        clear HST HOK HAF
        go_wp2_with fail
        go_roundw
        case rel => exact ⟨k + 1, by omega, by go_num, HF.out, HB2.out⟩
        case measure => simp [intOf]; omega
       ·have s1 : ¬ (100 : Int) < x.name.size := by omega
        have s2 : (10 : Int) < x.marks.length := by omega
        have HF := Hd (HAF.out (by rw [HOK.out, decide_eq_false p2]; simp))
        clear HST HOK HAF
        go_wp2_with fail
        go_ret
        exact ⟨by rw [HF.out]; simp, HBF.out⟩
      ·have s1 : (100 : Int) < x.name.size := by omega
       have HF := Hd (HAF.out (by rw [HOK.out, decide_eq_false p1]; simp))
       clear HST HOK HAF
       go_wp2_with fail
       go_ret
       exact ⟨by rw [HF.out]; simp, HBF.out⟩
     ·have hke : k = n3 := by omega
      have HF : Hid (L.all okL = true) := Hd (by rw [hke, HN3.out, List.take_length] at hall; exact hall)
      have HBF := Hd hB;clear hall hB hB0
      go_wp2_with fail
      go_ret
      exact ⟨by rw [HF.out]; simp [q1, q2, q3], HBF.out⟩
   ·have t1 : ¬ (40 : Int) < n1 := by omega
    have t2 : ¬ (40 : Int) < n2 := by omega
    have t3 : (20 : Int) < n3 := by omega
    go_wp2_with fail
    rw [← HW.out]
    go_wp2_with fail
    go_ret
    exact ⟨by simp [q3], HB.out⟩
  ·have t1 : ¬ (40 : Int) < n1 := by omega
   have t2 : (40 : Int) < n2 := by omega
   go_wp2_with fail
   rw [← HW.out]
   go_wp2_with fail
   go_ret
   exact ⟨by simp [q2], HB.out⟩
 ·have t1 : (40 : Int) < n1 := by omega
  go_wp2_with fail
  rw [← HW.out]
  go_wp2_with fail
  go_ret
  exact ⟨by simp [q1], HB.out⟩
end Go.Proofs.YtemfaojmelljpaaGreatDoor
namespace Go.Proofs.YtemfaojmelljpaaGreatDoor
open Go.RowKit Go.Maps Go.Sort Go.Shelf

theorem joinR_valid (a b : CartD) : validC (joinR a b) = true := by
 unfold joinR
 by_cases h : (validC a && validC b) = true
 ·rw [if_pos h]
  rw [Bool.and_eq_true] at h;exact join_valid h.1 h.2
 ·rw [if_neg h]; exact zeroC_valid
def withinB (a b : CartD) : Bool := validC a && validC b && decide (refJoin a b = b)
theorem joinWithin_any (a b : CartD) (v1 v2 v3 u1 u2 u3 : Value) (w : World) (h : CartA w v1 v2 v3 a) (g : CartA w u1 u2 u3 b) (hsa : SzC a) (hsb : SzC b) (hG : GlobIs w) :
  Calls Tryz.prog 24 #[.agg #[v1, v2, v3], .agg #[u1, u2, u3]] w fun e w' => e = .returned (.tuple #[.bool (withinB a b), .int .i64 (joinE a b)]) ∧ Below w.heap.size w w' := by
 obtain ⟨o1, n1, k1, o2, n2, k2, o3, n3, k3, rfl, rfl, rfl, hn1, hn2, hn3⟩ := opn h;obtain ⟨o4, n4, k4, o5, n5, k5, o6, n6, k6, rfl, rfl, rfl, hn4, hn5, hn6⟩ := opn g;obtain ⟨W0, hW0⟩ : ∃ x, x = w.alloc (.cells #[.slice o1 n1 k1, .slice o2 n2 k2, .slice o3 n3 k3] 28) := ⟨_, rfl⟩;have hs0 : W0.heap.size = w.heap.size + 1 := by rw [hW0, alloc_size]
 have hst0 : Below w.heap.size w W0 := by rw [hW0]; exact bal
 have hbb0 : Below w.heap.size w W0 := hst0;have hx0_0 : W0.heap[w.heap.size]? = some (.cells #[.slice o1 n1 k1, .slice o2 n2 k2, .slice o3 n3 k3] 28) := by rw [hW0]; exact alloc_new _ _
 obtain ⟨W1, hW1⟩ : ∃ x, x = W0.alloc (.cells #[.slice o4 n4 k4, .slice o5 n5 k5, .slice o6 n6 k6] 28) := ⟨_, rfl⟩;have hs1 : W1.heap.size = w.heap.size + 1 + 1 := by rw [hW1, alloc_size, hs0]
 have hst1 : Below W0.heap.size W0 W1 := by rw [hW1]; exact bal
 have hbb1 : Below w.heap.size w W1 := btr hbb0 hst1;have hx1_1 : W1.heap[w.heap.size + 1]? = some (.cells #[.slice o4 n4 k4, .slice o5 n5 k5, .slice o6 n6 k6] 28) := by rw [hW1, ← hs0]; exact alloc_new _ _
 have hx0_1 : W1.heap[w.heap.size]? = _ := (hst1.block _ (lt_of_heap hx0_0)).trans hx0_0;have HC := Hd (fun wz (hz : Below W1.heap.size W1 wz) => And.intro (cel3 ((hz.block _ (lt_of_heap hx0_1)).trans hx0_1)) (cel3 ((hz.block _ (lt_of_heap hx1_1)).trans hx1_1)))
 have HK0 : Hid (∀ wz, Below W1.heap.size W1 wz → wz.heap[w.heap.size]? = some (.cells #[.slice o1 n1 k1, .slice o2 n2 k2, .slice o3 n3 k3] 28)) := Hd (fun wz hz => (hz.block _ (lt_of_heap hx0_1)).trans hx0_1)
 have HK1 : Hid (∀ wz, Below W1.heap.size W1 wz → wz.heap[w.heap.size + 1]? = some (.cells #[.slice o4 n4 k4, .slice o5 n5 k5, .slice o6 n6 k6] 28)) := Hd (fun wz hz => (hz.block _ (lt_of_heap hx1_1)).trans hx1_1)
 have hbbL := hbb1;have HB := Hd hbb1;have HS : Hid (W1.heap.size = w.heap.size + 1 + 1) := Hd hs1;have HW : Hid (W1 = (w.alloc (.cells #[.slice o1 n1 k1, .slice o2 n2 k2, .slice o3 n3 k3] 28)).alloc (.cells #[.slice o4 n4 k4, .slice o5 n5 k5, .slice o6 n6 k6] 28)) := Hd (by rw [hW1, hW0])
 have HJ := Hd (joinJoin_any a b _ _ _ _ _ _ W1 (h.below hbbL) (g.below hbbL) hsa hsb (hG.below hbbL));have HWI : Hid ((joinE a b = 0 → withinB a b = decide (joinR a b = b)) ∧ (joinE a b ≠ 0 → withinB a b = false)) := Hd (by
  unfold joinE joinR withinB
  by_cases hv : (validC a && validC b) = true
  ·rw [if_pos hv, if_pos hv, hv]; exact ⟨fun _ => by simp, fun h => absurd rfl h⟩
  ·rw [if_neg hv, if_neg hv]
   simp only [Bool.not_eq_true] at hv;rw [hv];exact ⟨fun h => by omega, fun _ => rfl⟩)
 have HG2 := Hd (g.below hbbL);obtain ⟨⟨x0_0, x0_1, x0_2⟩, ⟨x1_0, x1_1, x1_2⟩⟩ := HC.out W1 brf;have HEQ : Hid (∀ wz y1 y2 y3, Below W1.heap.size W1 wz → CartA wz y1 y2 y3 (joinR a b) → Calls Tryz.prog 54 #[.agg #[y1, y2, y3], .agg #[.slice o4 n4 k4, .slice o5 n5 k5, .slice o6 n6 k6]] wz fun e w' => e = .returned (.bool (decide (joinR a b = b))) ∧ Below wz.heap.size wz w') := Hd (fun wz y1 y2 y3 hz hy => cartEqual_any _ b _ _ _ _ _ _ wz hy (HG2.out.below hz))
 clear hbbL hW0 hs0 hst0 hW1 hs1 hst1 hx0_0 hx0_1 hx1_1 h hn1 hn2 hn3 g hn4 hn5 hn6 hbb0 hbb1 hG hsa hsb;obtain ⟨E, hE0⟩ : ∃ E, E = joinE a b := ⟨_, rfl⟩;rw [← hE0] at HJ HWI;have HE0 := Hd hE0;clear hE0
 go_enter Tryz.func24, Tryz.ntmps24
 go_wp2_with fail
 rw [← HW.out]
 go_wp2_with fail
 refine HJ.out.mono ?_;rintro e w5 ⟨x1, x2, x3, rfl, hown, hb5⟩;have hRA := hown.cart (joinR_valid a b);obtain ⟨p1, l1, rfl⟩ := hRA.1.slice;obtain ⟨p2, l2, rfl⟩ := hRA.2.1.slice;obtain ⟨p3, l3, rfl⟩ := hRA.2.2.slice;obtain ⟨W6, hW6⟩ : ∃ x, x = w5.alloc (.cells #[.slice p1 (joinR a b).vec.length l1, .slice p2 (joinR a b).cloud.length l2, .slice p3 (joinR a b).items.length l3] 28) := ⟨_, rfl⟩;have hb56 : Below w5.heap.size w5 W6 := by rw [hW6]; exact bal
 have hb6 := btr hb5 hb56;have hx6 : W6.heap[w5.heap.size]? = some (.cells #[.slice p1 (joinR a b).vec.length l1, .slice p2 (joinR a b).cloud.length l2, .slice p3 (joinR a b).items.length l3] 28) := by rw [hW6]; exact alloc_new _ _
 have HE6 := Hd (HEQ.out W6 _ _ _ hb6 (hRA.below hb56));obtain ⟨⟨y0_0, y0_1, y0_2⟩, ⟨y1_0, y1_1, y1_2⟩⟩ := HC.out W6 hb6;have c0 : W6.cell? ⟨w5.heap.size, 0, none⟩ = some (.slice p1 (joinR a b).vec.length l1) := cl0 hx6 0 rfl;have c1 : W6.cell? ⟨w5.heap.size, 1, none⟩ = some (.slice p2 (joinR a b).cloud.length l2) := cl0 hx6 1 rfl;have c2 : W6.cell? ⟨w5.heap.size, 2, none⟩ = some (.slice p3 (joinR a b).items.length l3) := cl0 hx6 2 rfl;have HB6 := Hd (btr HB.out hb6);have HW6 := Hd hW6;clear hown hRA hb5 hb56 hb6 hx6 hW6 HEQ HJ x0_0 x0_1 x0_2 x1_0 x1_1 x1_2;generalize (joinR a b).vec.length = m1 at *
 generalize (joinR a b).cloud.length = m2 at *
 generalize (joinR a b).items.length = m3 at *
 generalize decide (joinR a b = b) = r at *
 by_cases hE : E = 0
 ·have HR := Hd (HWI.out.1 hE)
  subst hE;clear HWI
  go_wp2_with (go_loud (rw [← HW6.out]))
  refine HE6.out.mono ?_;rintro e w7 ⟨rfl, hb7⟩;have HBF := Hd (btr HB6.out hb7);clear hb7 HE6
  go_wp2_with fail
  go_ret2
  exact ⟨by rw [HR.out, ← HE0.out]; rfl, HBF.out⟩
 ·have HR := Hd (HWI.out.2 hE)
  have hE2 : (E == 0) = false := by rw [Bool.eq_false_iff]; simpa using hE
  clear HWI
  go_wp2_with (go_loud (rw [← HW6.out]))
  go_ret2
  exact ⟨by rw [HR.out, ← HE0.out]; rfl, HB6.out⟩
theorem l11joins_any (a b c : CartD) (no : Int) (v1 v2 v3 u1 u2 u3 t1 t2 t3 : Value) (w : World) (h : CartA w v1 v2 v3 a) (g : CartA w u1 u2 u3 b) (f : CartA w t1 t2 t3 c) (hsa : SzC a) (hsb : SzC b) (hG : GlobIs w) :
  Calls Tryz.prog 11 #[.agg #[v1, v2, v3], .agg #[u1, u2, u3], .agg #[t1, t2, t3], .int .i64 no] w fun e w' => e = .returned (.bool (decide (joinR a b = c) && (joinE a b == no))) ∧ Below w.heap.size w w' := by
 obtain ⟨o1, k1, rfl⟩ := h.1.slice;obtain ⟨o2, k2, rfl⟩ := h.2.1.slice;obtain ⟨o3, k3, rfl⟩ := h.2.2.slice;obtain ⟨o4, k4, rfl⟩ := g.1.slice;obtain ⟨o5, k5, rfl⟩ := g.2.1.slice;obtain ⟨o6, k6, rfl⟩ := g.2.2.slice;obtain ⟨o7, k7, rfl⟩ := f.1.slice;obtain ⟨o8, k8, rfl⟩ := f.2.1.slice;obtain ⟨o9, k9, rfl⟩ := f.2.2.slice;obtain ⟨n1, hn1⟩ : ∃ n, n = a.vec.length := ⟨_, rfl⟩;obtain ⟨n2, hn2⟩ : ∃ n, n = a.cloud.length := ⟨_, rfl⟩;obtain ⟨n3, hn3⟩ : ∃ n, n = a.items.length := ⟨_, rfl⟩;rw [← hn1, ← hn2, ← hn3] at h;rw [← hn1, ← hn2, ← hn3];obtain ⟨n4, hn4⟩ : ∃ n, n = b.vec.length := ⟨_, rfl⟩;obtain ⟨n5, hn5⟩ : ∃ n, n = b.cloud.length := ⟨_, rfl⟩;obtain ⟨n6, hn6⟩ : ∃ n, n = b.items.length := ⟨_, rfl⟩;rw [← hn4, ← hn5, ← hn6] at g;rw [← hn4, ← hn5, ← hn6];obtain ⟨n7, hn7⟩ : ∃ n, n = c.vec.length := ⟨_, rfl⟩;obtain ⟨n8, hn8⟩ : ∃ n, n = c.cloud.length := ⟨_, rfl⟩;obtain ⟨n9, hn9⟩ : ∃ n, n = c.items.length := ⟨_, rfl⟩;rw [← hn7, ← hn8, ← hn9] at f;rw [← hn7, ← hn8, ← hn9];obtain ⟨W0, hW0⟩ : ∃ x, x = w.alloc (.cells #[.slice o1 n1 k1, .slice o2 n2 k2, .slice o3 n3 k3] 28) := ⟨_, rfl⟩;have hs0 : W0.heap.size = w.heap.size + 1 := by rw [hW0, alloc_size]
 have hst0 : Below w.heap.size w W0 := by rw [hW0]; exact bal
 have hbb0 : Below w.heap.size w W0 := hst0;have hx0_0 : W0.heap[w.heap.size]? = some (.cells #[.slice o1 n1 k1, .slice o2 n2 k2, .slice o3 n3 k3] 28) := by rw [hW0]; exact alloc_new _ _
 obtain ⟨W1, hW1⟩ : ∃ x, x = W0.alloc (.cells #[.slice o4 n4 k4, .slice o5 n5 k5, .slice o6 n6 k6] 28) := ⟨_, rfl⟩;have hs1 : W1.heap.size = w.heap.size + 1 + 1 := by rw [hW1, alloc_size, hs0]
 have hst1 : Below W0.heap.size W0 W1 := by rw [hW1]; exact bal
 have hbb1 : Below w.heap.size w W1 := btr hbb0 hst1;have hx1_1 : W1.heap[w.heap.size + 1]? = some (.cells #[.slice o4 n4 k4, .slice o5 n5 k5, .slice o6 n6 k6] 28) := by rw [hW1, ← hs0]; exact alloc_new _ _
 have hx0_1 : W1.heap[w.heap.size]? = _ := (hst1.block _ (lt_of_heap hx0_0)).trans hx0_0;obtain ⟨W2, hW2⟩ : ∃ x, x = W1.alloc (.cells #[.slice o7 n7 k7, .slice o8 n8 k8, .slice o9 n9 k9] 28) := ⟨_, rfl⟩;have hs2 : W2.heap.size = w.heap.size + 1 + 1 + 1 := by rw [hW2, alloc_size, hs1]
 have hst2 : Below W1.heap.size W1 W2 := by rw [hW2]; exact bal
 have hbb2 : Below w.heap.size w W2 := btr hbb1 hst2;have hx2_2 : W2.heap[w.heap.size + 1 + 1]? = some (.cells #[.slice o7 n7 k7, .slice o8 n8 k8, .slice o9 n9 k9] 28) := by rw [hW2, ← hs1]; exact alloc_new _ _
 have hx0_2 : W2.heap[w.heap.size]? = _ := (hst2.block _ (lt_of_heap hx0_1)).trans hx0_1;have hx1_2 : W2.heap[w.heap.size + 1]? = _ := (hst2.block _ (lt_of_heap hx1_1)).trans hx1_1;have HC := Hd (fun wz (hz : Below W2.heap.size W2 wz) => And.intro (cel3 ((hz.block _ (lt_of_heap hx0_2)).trans hx0_2)) (And.intro (cel3 ((hz.block _ (lt_of_heap hx1_2)).trans hx1_2)) (cel3 ((hz.block _ (lt_of_heap hx2_2)).trans hx2_2))))
 have HK0 : Hid (∀ wz, Below W2.heap.size W2 wz → wz.heap[w.heap.size]? = some (.cells #[.slice o1 n1 k1, .slice o2 n2 k2, .slice o3 n3 k3] 28)) := Hd (fun wz hz => (hz.block _ (lt_of_heap hx0_2)).trans hx0_2)
 have HK1 : Hid (∀ wz, Below W2.heap.size W2 wz → wz.heap[w.heap.size + 1]? = some (.cells #[.slice o4 n4 k4, .slice o5 n5 k5, .slice o6 n6 k6] 28)) := Hd (fun wz hz => (hz.block _ (lt_of_heap hx1_2)).trans hx1_2)
 have HK2 : Hid (∀ wz, Below W2.heap.size W2 wz → wz.heap[w.heap.size + 1 + 1]? = some (.cells #[.slice o7 n7 k7, .slice o8 n8 k8, .slice o9 n9 k9] 28)) := Hd (fun wz hz => (hz.block _ (lt_of_heap hx2_2)).trans hx2_2)
 have hbbL := hbb2;have HB := Hd hbb2;have HS : Hid (W2.heap.size = w.heap.size + 1 + 1 + 1) := Hd hs2;have HW : Hid (W2 = ((w.alloc (.cells #[.slice o1 n1 k1, .slice o2 n2 k2, .slice o3 n3 k3] 28)).alloc (.cells #[.slice o4 n4 k4, .slice o5 n5 k5, .slice o6 n6 k6] 28)).alloc (.cells #[.slice o7 n7 k7, .slice o8 n8 k8, .slice o9 n9 k9] 28)) := Hd (by rw [hW2, hW1, hW0])
 have HJ := Hd (joinJoin_any a b _ _ _ _ _ _ W2 (h.below hbbL) (g.below hbbL) hsa hsb (hG.below hbbL));have HF2 := Hd (f.below hbbL);obtain ⟨⟨x0_0, x0_1, x0_2⟩, ⟨x1_0, x1_1, x1_2⟩, ⟨x2_0, x2_1, x2_2⟩⟩ := HC.out W2 brf;have HEQ : Hid (∀ wz y1 y2 y3, Below W2.heap.size W2 wz → CartA wz y1 y2 y3 (joinR a b) → Calls Tryz.prog 14 #[.agg #[y1, y2, y3], .agg #[.slice o7 n7 k7, .slice o8 n8 k8, .slice o9 n9 k9]] wz fun e w' => e = .returned (.bool (decide (joinR a b = c))) ∧ Below wz.heap.size wz w') := Hd (fun wz y1 y2 y3 hz hy => r10Equal_any _ c _ _ _ _ _ _ wz hy (HF2.out.below hz))
 clear hbbL hW0 hs0 hst0 hW1 hs1 hst1 hW2 hs2 hst2 hx0_0 hx0_1 hx1_1 hx0_2 hx1_2 hx2_2 h hn1 hn2 hn3 g hn4 hn5 hn6 f hn7 hn8 hn9 hbb0 hbb1 hbb2 hG hsa hsb;obtain ⟨E, hE0⟩ : ∃ E, E = joinE a b := ⟨_, rfl⟩;rw [← hE0] at HJ;have HE0 := Hd hE0;clear hE0
 go_enter Tryz.func11, Tryz.ntmps11
 go_wp2_with fail
 rw [← HW.out]
 go_wp2_with fail
 refine HJ.out.mono ?_;rintro e w5 ⟨x1, x2, x3, rfl, hown, hb5⟩;have hRA := hown.cart (joinR_valid a b);obtain ⟨p1, l1, rfl⟩ := hRA.1.slice;obtain ⟨p2, l2, rfl⟩ := hRA.2.1.slice;obtain ⟨p3, l3, rfl⟩ := hRA.2.2.slice;obtain ⟨W6, hW6⟩ : ∃ x, x = w5.alloc (.cells #[.slice p1 (joinR a b).vec.length l1, .slice p2 (joinR a b).cloud.length l2, .slice p3 (joinR a b).items.length l3] 28) := ⟨_, rfl⟩;have hb56 : Below w5.heap.size w5 W6 := by rw [hW6]; exact bal
 have hb6 := btr hb5 hb56;have hx6 : W6.heap[w5.heap.size]? = some (.cells #[.slice p1 (joinR a b).vec.length l1, .slice p2 (joinR a b).cloud.length l2, .slice p3 (joinR a b).items.length l3] 28) := by rw [hW6]; exact alloc_new _ _
 have HE6 := Hd (HEQ.out W6 _ _ _ hb6 (hRA.below hb56));obtain ⟨⟨y0_0, y0_1, y0_2⟩, ⟨y1_0, y1_1, y1_2⟩, ⟨y2_0, y2_1, y2_2⟩⟩ := HC.out W6 hb6;have c0 : W6.cell? ⟨w5.heap.size, 0, none⟩ = some (.slice p1 (joinR a b).vec.length l1) := cl0 hx6 0 rfl;have c1 : W6.cell? ⟨w5.heap.size, 1, none⟩ = some (.slice p2 (joinR a b).cloud.length l2) := cl0 hx6 1 rfl;have c2 : W6.cell? ⟨w5.heap.size, 2, none⟩ = some (.slice p3 (joinR a b).items.length l3) := cl0 hx6 2 rfl;have HB6 := Hd (btr HB.out hb6);have HW6 := Hd hW6;clear hown hRA hb5 hb56 hb6 hx6 hW6 HEQ HJ x0_0 x0_1 x0_2 x1_0 x1_1 x1_2 x2_0 x2_1 x2_2;generalize (joinR a b).vec.length = m1 at *
 generalize (joinR a b).cloud.length = m2 at *
 generalize (joinR a b).items.length = m3 at *
 obtain ⟨r, hr⟩ : ∃ r, r = decide (joinR a b = c) := ⟨_, rfl⟩;rw [← hr] at HE6;have HR := Hd hr;clear hr
 go_wp2_with (go_loud (rw [← HW6.out]))
 refine HE6.out.mono ?_;rintro e w7 ⟨rfl, hb7⟩;have HBF := Hd (btr HB6.out hb7);clear hb7 HE6
 cases r with
 | false =>
  go_wp2_with fail
  go_ret
  exact ⟨by rw [← HR.out, ← HE0.out]; rfl, HBF.out⟩
 | true =>
  go_wp2_with fail
  go_ret
  exact ⟨by rw [← HR.out, ← HE0.out]; rfl, HBF.out⟩
theorem l11within_any (a b : CartD) (want : Bool) (no : Int) (v1 v2 v3 u1 u2 u3 : Value) (w : World) (h : CartA w v1 v2 v3 a) (g : CartA w u1 u2 u3 b) (hsa : SzC a) (hsb : SzC b) (hG : GlobIs w) :
  Calls Tryz.prog 19 #[.agg #[v1, v2, v3], .agg #[u1, u2, u3], .bool want, .int .i64 no] w fun e w' => e = .returned (.bool ((withinB a b == want) && (joinE a b == no))) ∧ Below w.heap.size w w' := by
 obtain ⟨o1, n1, k1, o2, n2, k2, o3, n3, k3, rfl, rfl, rfl, hn1, hn2, hn3⟩ := opn h;obtain ⟨o4, n4, k4, o5, n5, k5, o6, n6, k6, rfl, rfl, rfl, hn4, hn5, hn6⟩ := opn g;obtain ⟨W0, hW0⟩ : ∃ x, x = w.alloc (.cells #[.slice o1 n1 k1, .slice o2 n2 k2, .slice o3 n3 k3] 28) := ⟨_, rfl⟩;have hs0 : W0.heap.size = w.heap.size + 1 := by rw [hW0, alloc_size]
 have hst0 : Below w.heap.size w W0 := by rw [hW0]; exact bal
 have hbb0 : Below w.heap.size w W0 := hst0;have hx0_0 : W0.heap[w.heap.size]? = some (.cells #[.slice o1 n1 k1, .slice o2 n2 k2, .slice o3 n3 k3] 28) := by rw [hW0]; exact alloc_new _ _
 obtain ⟨W1, hW1⟩ : ∃ x, x = W0.alloc (.cells #[.slice o4 n4 k4, .slice o5 n5 k5, .slice o6 n6 k6] 28) := ⟨_, rfl⟩;have hs1 : W1.heap.size = w.heap.size + 1 + 1 := by rw [hW1, alloc_size, hs0]
 have hst1 : Below W0.heap.size W0 W1 := by rw [hW1]; exact bal
 have hbb1 : Below w.heap.size w W1 := btr hbb0 hst1;have hx1_1 : W1.heap[w.heap.size + 1]? = some (.cells #[.slice o4 n4 k4, .slice o5 n5 k5, .slice o6 n6 k6] 28) := by rw [hW1, ← hs0]; exact alloc_new _ _
 have hx0_1 : W1.heap[w.heap.size]? = _ := (hst1.block _ (lt_of_heap hx0_0)).trans hx0_0;have HC := Hd (fun wz (hz : Below W1.heap.size W1 wz) => And.intro (cel3 ((hz.block _ (lt_of_heap hx0_1)).trans hx0_1)) (cel3 ((hz.block _ (lt_of_heap hx1_1)).trans hx1_1)))
 have HK0 : Hid (∀ wz, Below W1.heap.size W1 wz → wz.heap[w.heap.size]? = some (.cells #[.slice o1 n1 k1, .slice o2 n2 k2, .slice o3 n3 k3] 28)) := Hd (fun wz hz => (hz.block _ (lt_of_heap hx0_1)).trans hx0_1)
 have HK1 : Hid (∀ wz, Below W1.heap.size W1 wz → wz.heap[w.heap.size + 1]? = some (.cells #[.slice o4 n4 k4, .slice o5 n5 k5, .slice o6 n6 k6] 28)) := Hd (fun wz hz => (hz.block _ (lt_of_heap hx1_1)).trans hx1_1)
 have hbbL := hbb1;have HB := Hd hbb1;have HS : Hid (W1.heap.size = w.heap.size + 1 + 1) := Hd hs1;have HW : Hid (W1 = (w.alloc (.cells #[.slice o1 n1 k1, .slice o2 n2 k2, .slice o3 n3 k3] 28)).alloc (.cells #[.slice o4 n4 k4, .slice o5 n5 k5, .slice o6 n6 k6] 28)) := Hd (by rw [hW1, hW0])
 have HJ := Hd (joinWithin_any a b _ _ _ _ _ _ W1 (h.below hbbL) (g.below hbbL) hsa hsb (hG.below hbbL));obtain ⟨⟨x0_0, x0_1, x0_2⟩, ⟨x1_0, x1_1, x1_2⟩⟩ := HC.out W1 brf;clear hbbL hW0 hs0 hst0 hW1 hs1 hst1 hx0_0 hx0_1 hx1_1 h hn1 hn2 hn3 g hn4 hn5 hn6 hbb0 hbb1 hG hsa hsb;obtain ⟨E, hE0⟩ : ∃ E, E = joinE a b := ⟨_, rfl⟩;rw [← hE0] at HJ;have HE0 := Hd hE0;clear hE0;obtain ⟨r, hr⟩ : ∃ r, r = withinB a b := ⟨_, rfl⟩;rw [← hr] at HJ;have HR := Hd hr;clear hr
 go_enter Tryz.func19, Tryz.ntmps19
 go_wp2_with fail
 rw [← HW.out]
 go_wp2_with fail
 refine HJ.out.mono ?_;rintro e w5 ⟨rfl, hb5⟩;have HBF := Hd (btr HB.out hb5);clear hb5 HJ
 cases r <;> cases want
 all_goals (go_wp2_with fail; go_ret; exact ⟨by rw [← HR.out, ← HE0.out]; rfl, HBF.out⟩)
end Go.Proofs.YtemfaojmelljpaaGreatDoor

