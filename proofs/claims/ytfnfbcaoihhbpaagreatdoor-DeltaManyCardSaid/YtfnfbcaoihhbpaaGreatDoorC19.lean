/- join.Within; joins and within of the law. -/
import Derived.Test.YtfnfbcaoihhbpaaGreatDoorC17
import Derived.Test.YtfnfbcaoihhbpaaGreatDoorR9
import Derived.Test.YtfnfbcaoihhbpaaGreatDoorR1b
import Derived.Test.YtfnfbcaoihhbpaaGreatDoorItemsP
import Derived.Test.YtfnfbcaoihhbpaaGreatDoorIt3
import Derived.Test.YtfnfbcaoihhbpaaGreatDoorIt10
set_option linter.unusedSimpArgs false
set_option linter.unusedVariables false
set_option maxRecDepth 100000
set_option maxHeartbeats 4000000
namespace Go.Proofs.YtfnfbcaoihhbpaaGreatDoor
open Go.RowKit Go.Maps Go.Sort Go.Shelf

theorem r3Equal_any (a b a2 b2 : List DotD) (v1 v2 u1 u2 : Value) (w : World) (h1 : Arr DotR 2 w v1 a) (h2 : Arr DotR 2 w v2 b) (g1 : Arr DotR 2 w u1 a2) (g2 : Arr DotR 2 w u2 b2) : Calls Tryz.prog 41 #[.agg #[v1, v2], .agg #[u1, u2]] w fun e w' => e = .returned (.bool (decide (a = a2) && decide (b = b2))) ∧ Below w.heap.size w w' := by
 obtain ⟨o1, k1, rfl⟩ := h1.slice
 obtain ⟨o2, k2, rfl⟩ := h2.slice
 obtain ⟨o3, k3, rfl⟩ := g1.slice
 obtain ⟨o4, k4, rfl⟩ := g2.slice
 obtain ⟨W0, hW0⟩ : ∃ W0, W0 = w.alloc (.cells #[.slice o1 a.length k1, .slice o2 b.length k2] 25) := ⟨_, rfl⟩
 have hb0 : Below w.heap.size w W0 := by rw [hW0]; exact bal
 have hx0 : W0.heap[w.heap.size]? = some (.cells #[.slice o1 a.length k1, .slice o2 b.length k2] 25) := by rw [hW0]; exact alloc_new _ _
 have hs0 : W0.heap.size = w.heap.size + 1 := by rw [hW0]; simp
 obtain ⟨W1, hW1⟩ : ∃ W1, W1 = W0.alloc (.cells #[.slice o3 a2.length k3, .slice o4 b2.length k4] 25) := ⟨_, rfl⟩
 have hb01 : Below W0.heap.size W0 W1 := by rw [hW1]; exact bal
 have hb1 := btr hb0 hb01
 have hx1 : W1.heap[w.heap.size + 1]? = some (.cells #[.slice o3 a2.length k3, .slice o4 b2.length k4] 25) := by rw [hW1, ← hs0]; exact alloc_new _ _
 have hx01 : W1.heap[w.heap.size]? = some (.cells #[.slice o1 a.length k1, .slice o2 b.length k2] 25) := by rw [hb01.block _ (lt_of_heap hx0)]; exact hx0
 have HC : Hid (∀ wz, Below W1.heap.size W1 wz → (wz.cell? ⟨w.heap.size, 0, none⟩ = some (.slice o1 a.length k1) ∧ wz.cell? ⟨w.heap.size, 1, none⟩ = some (.slice o2 b.length k2)) ∧ wz.cell? ⟨w.heap.size + 1, 0, none⟩ = some (.slice o3 a2.length k3) ∧ wz.cell? ⟨w.heap.size + 1, 1, none⟩ = some (.slice o4 b2.length k4)) := Hd (fun wz hz => ⟨⟨by rw [hz.cell (p := ⟨w.heap.size, 0, none⟩) (lt_of_heap hx01), cell0 hx01 0]; rfl, by rw [hz.cell (p := ⟨w.heap.size, 1, none⟩) (lt_of_heap hx01), cell0 hx01 1]; rfl⟩, by rw [hz.cell (p := ⟨w.heap.size + 1, 0, none⟩) (lt_of_heap hx1), cell0 hx1 0]; rfl, by rw [hz.cell (p := ⟨w.heap.size + 1, 1, none⟩) (lt_of_heap hx1), cell0 hx1 1]; rfl⟩)
 have HB1 := Hd hb1
 have HW : Hid (W1 = (w.alloc (.cells #[.slice o1 a.length k1, .slice o2 b.length k2] 25)).alloc (.cells #[.slice o3 a2.length k3, .slice o4 b2.length k4] 25)) := Hd (by rw [hW1, hW0])
 have HE := Hd (r1Same_any a a2 _ _ W1 (h1.dots hb1) (g1.dots hb1))
 have HH2 := Hd h2
 have HG2 := Hd g2
 clear h1 h2 g1 g2 hx0 hx1 hx01 hb0 hb01 hb1 hW0 hW1 hs0
 obtain ⟨r1, hr1⟩ : ∃ r, r = decide (a = a2) := ⟨_, rfl⟩
 rw [← hr1] at HE ⊢
 clear hr1
 obtain ⟨⟨x0, x1⟩, x2, x3⟩ := HC.out W1 brf
 go_enter Tryz.func41, Tryz.ntmps41
 go_wp2_with fail
 rw [← HW.out]
 go_wp2_with fail
 refine HE.out.mono ?_
 rintro e w2 ⟨rfl, hb2⟩
 have HB2 := Hd (btr HB1.out hb2)
 obtain ⟨⟨y0, y1⟩, y2, y3⟩ := HC.out w2 hb2
 clear x0 x1 x2 x3 hb2 HE
 cases r1 with
 | false =>
  go_wp2_with fail
  go_ret
  exact ⟨rfl, HB2.out⟩
 | true =>
  have HE2 := Hd (r1Same_any b b2 _ _ w2 (HH2.out.dots HB2.out) (HG2.out.dots HB2.out))
  obtain ⟨r2, hr2⟩ : ∃ r, r = decide (b = b2) := ⟨_, rfl⟩
  rw [← hr2] at HE2
  have HR := Hd hr2
  clear hr2
  go_wp2_with fail
  refine HE2.out.mono ?_
  rintro e w3 ⟨rfl, hb3⟩
  have HB3 := Hd (btr HB2.out hb3)
  clear y0 y1 y2 y3 hb3 HE2
  go_wp2_with fail
  go_ret
  exact ⟨by rw [← HR.out]; rfl, HB3.out⟩
theorem r10Equal_any (c d : CartD) (v1 v2 v3 u1 u2 u3 : Value) (w : World) (h : CartA w v1 v2 v3 c) (g : CartA w u1 u2 u3 d) : Calls Tryz.prog 15 #[.agg #[v1, v2, v3], .agg #[u1, u2, u3]] w fun e w' => e = .returned (.bool (decide (c = d))) ∧ Below w.heap.size w w' := by
 rw [cart_dec]
 obtain ⟨o1, k1, rfl⟩ := h.1.slice
 obtain ⟨o2, k2, rfl⟩ := h.2.1.slice
 obtain ⟨o3, k3, rfl⟩ := h.2.2.slice
 obtain ⟨o4, k4, rfl⟩ := g.1.slice
 obtain ⟨o5, k5, rfl⟩ := g.2.1.slice
 obtain ⟨o6, k6, rfl⟩ := g.2.2.slice
 obtain ⟨W0, hW0⟩ : ∃ W0, W0 = w.alloc (.cells #[.slice o1 c.vec.length k1, .slice o2 c.cloud.length k2, .slice o3 c.items.length k3] 28) := ⟨_, rfl⟩
 have hb0 : Below w.heap.size w W0 := by rw [hW0]; exact bal
 have hx0 : W0.heap[w.heap.size]? = some (.cells #[.slice o1 c.vec.length k1, .slice o2 c.cloud.length k2, .slice o3 c.items.length k3] 28) := by rw [hW0]; exact alloc_new _ _
 have hs0 : W0.heap.size = w.heap.size + 1 := by rw [hW0]; simp
 obtain ⟨W1, hW1⟩ : ∃ W1, W1 = W0.alloc (.cells #[.slice o4 d.vec.length k4, .slice o5 d.cloud.length k5, .slice o6 d.items.length k6] 28) := ⟨_, rfl⟩
 have hb01 : Below W0.heap.size W0 W1 := by rw [hW1]; exact bal
 have hb1 := btr hb0 hb01
 have hx1 : W1.heap[w.heap.size + 1]? = some (.cells #[.slice o4 d.vec.length k4, .slice o5 d.cloud.length k5, .slice o6 d.items.length k6] 28) := by rw [hW1, ← hs0]; exact alloc_new _ _
 have hx01 : W1.heap[w.heap.size]? = some (.cells #[.slice o1 c.vec.length k1, .slice o2 c.cloud.length k2, .slice o3 c.items.length k3] 28) := by rw [hb01.block _ (lt_of_heap hx0)]; exact hx0
 have HC : Hid (∀ wz, Below W1.heap.size W1 wz → (wz.cell? ⟨w.heap.size, 0, none⟩ = some (.slice o1 c.vec.length k1) ∧ wz.cell? ⟨w.heap.size, 1, none⟩ = some (.slice o2 c.cloud.length k2) ∧ wz.cell? ⟨w.heap.size, 2, none⟩ = some (.slice o3 c.items.length k3)) ∧ wz.cell? ⟨w.heap.size + 1, 0, none⟩ = some (.slice o4 d.vec.length k4) ∧ wz.cell? ⟨w.heap.size + 1, 1, none⟩ = some (.slice o5 d.cloud.length k5) ∧ wz.cell? ⟨w.heap.size + 1, 2, none⟩ = some (.slice o6 d.items.length k6)) := Hd (fun wz hz => ⟨⟨by rw [hz.cell (p := ⟨w.heap.size, 0, none⟩) (lt_of_heap hx01), cell0 hx01 0]; rfl, by rw [hz.cell (p := ⟨w.heap.size, 1, none⟩) (lt_of_heap hx01), cell0 hx01 1]; rfl, by rw [hz.cell (p := ⟨w.heap.size, 2, none⟩) (lt_of_heap hx01), cell0 hx01 2]; rfl⟩, by rw [hz.cell (p := ⟨w.heap.size + 1, 0, none⟩) (lt_of_heap hx1), cell0 hx1 0]; rfl, by rw [hz.cell (p := ⟨w.heap.size + 1, 1, none⟩) (lt_of_heap hx1), cell0 hx1 1]; rfl, by rw [hz.cell (p := ⟨w.heap.size + 1, 2, none⟩) (lt_of_heap hx1), cell0 hx1 2]; rfl⟩)
 have HB1 := Hd hb1
 have HW : Hid (W1 = (w.alloc (.cells #[.slice o1 c.vec.length k1, .slice o2 c.cloud.length k2, .slice o3 c.items.length k3] 28)).alloc (.cells #[.slice o4 d.vec.length k4, .slice o5 d.cloud.length k5, .slice o6 d.items.length k6] 28)) := Hd (by rw [hW1, hW0])
 have hA := h.below hb1
 have gA := g.below hb1
 have HE := Hd (r3Equal_any c.vec c.cloud d.vec d.cloud _ _ _ _ W1 hA.1 hA.2.1 gA.1 gA.2.1)
 have HI : Hid (∀ wz, Below W1.heap.size W1 wz → Calls Tryz.prog 48 #[.slice o3 c.items.length k3, .slice o6 d.items.length k6] wz fun e w' => e = .returned (.bool (decide (c.items = d.items))) ∧ Below wz.heap.size wz w') := Hd (fun wz hz => r9Equal_any c.items d.items _ _ wz (hA.2.2.items hz) (gA.2.2.items hz))
 clear h g hA gA hx0 hx1 hx01 hb0 hb01 hb1 hW0 hW1 hs0
 obtain ⟨r1, hr1⟩ : ∃ r, r = (decide (c.vec = d.vec) && decide (c.cloud = d.cloud)) := ⟨_, rfl⟩
 obtain ⟨r2, hr2⟩ : ∃ r, r = decide (c.items = d.items) := ⟨_, rfl⟩
 rw [← hr1] at HE ⊢
 rw [← hr2] at HI ⊢
 clear hr1 hr2
 generalize c.vec.length = n1 at *
 generalize c.cloud.length = n2 at *
 generalize c.items.length = n3 at *
 generalize d.vec.length = n4 at *
 generalize d.cloud.length = n5 at *
 generalize d.items.length = n6 at *
 obtain ⟨⟨x0, x1, x2⟩, x3, x4, x5⟩ := HC.out W1 brf
 go_enter Tryz.func15, Tryz.ntmps15
 go_wp2_with fail
 rw [← HW.out]
 go_wp2_with fail
 refine HE.out.mono ?_
 rintro e w2 ⟨rfl, hb2⟩
 have HB2 := Hd hb2
 obtain ⟨⟨y0, y1, y2⟩, y3, y4, y5⟩ := HC.out w2 hb2
 clear x0 x1 x2 x3 x4 x5 hb2 HE
 cases r1 with
 | false =>
  go_wp2_with fail
  go_ret
  exact ⟨rfl, HB1.out.trans (HB2.out.mono HB1.out.size)⟩
 | true =>
  go_wp2_with fail
  refine (HI.out w2 HB2.out).mono ?_
  rintro e w3 ⟨rfl, hb3⟩
  have HB3 := Hd (btr HB2.out hb3)
  clear y0 y1 y2 y3 y4 y5 hb3
  go_wp2_with fail
  go_ret
  exact ⟨rfl, HB1.out.trans (HB3.out.mono HB1.out.size)⟩
def lightC (c : CartD) : Bool := decide (c.vec.length ≤ 40) && decide (c.cloud.length ≤ 40) && decide (c.items.length ≤ 20) && c.items.all okL
theorem lightC_parts {c : CartD} (h : lightC c = true) : c.vec.length ≤ 40 ∧ c.cloud.length ≤ 40 ∧ c.items.length ≤ 20 ∧ ∀ x ∈ c.items, x.name.size ≤ 100 ∧ x.marks.length ≤ 10 := by
 unfold lightC at h
 simp only [Bool.and_eq_true, decide_eq_true_iff, List.all_eq_true] at h
 refine ⟨h.1.1.1, h.1.1.2, h.1.2, fun x hx => ?_⟩
 have := h.2 x hx
 unfold okL at this
 simp only [Bool.and_eq_true, decide_eq_true_iff] at this
 exact this
theorem lightC_CL {c : CartD} (h : lightC c = true) : CL 80 c := by
 obtain ⟨h1, h2, h3, h4⟩ := lightC_parts h
 exact ⟨by omega, by omega, fun x hx => by have := (h4 x hx).2; omega⟩
theorem CL.sz {n : Nat} {c : CartD} (h : CL n c) (hn : n ≤ 1000) : SzC c := ⟨⟨by have := h.2.1; omega, fun x hx => by have := h.2.2 x hx; omega⟩, by have := h.1; omega⟩
theorem l12light_any (c : CartD) (v1 v2 v3 : Value) (w : World) (h : CartA w v1 v2 v3 c) : Calls Tryz.prog 9 #[.agg #[v1, v2, v3]] w fun e w' => e = .returned (.bool (lightC c)) ∧ Below w.heap.size w w' := by
 have hn1' := h.1.len
 have hn2' := h.2.1.len
 have hn3' := h.2.2.len
 obtain ⟨o1, k1, rfl⟩ := h.1.slice
 obtain ⟨o2, k2, rfl⟩ := h.2.1.slice
 have hit := h.2.2
 obtain ⟨o3, k3, rfl, hel⟩ := hit.itemAt
 obtain ⟨n1, hn1⟩ : ∃ n, n = c.vec.length := ⟨_, rfl⟩
 obtain ⟨n2, hn2⟩ : ∃ n, n = c.cloud.length := ⟨_, rfl⟩
 obtain ⟨n3, hn3⟩ : ∃ n, n = c.items.length := ⟨_, rfl⟩
 rw [← hn1, ← hn2, ← hn3] at h ⊢
 rw [← hn1] at hn1'
 rw [← hn2] at hn2'
 rw [← hn3] at hn3'
 obtain ⟨W0, HW, HB, HS, HK0⟩ := box1 w #[.slice o1 n1 k1, .slice o2 n2 k2, .slice o3 n3 k3] 28
 have HC := Hd (fun wz (hz : Below W0.heap.size W0 wz) => cel3 (HK0.out wz hz))
 have hbb0 := HB.out
 have HEL := Hd hel
 have HLC : Hid (lightC c = (decide (n1 ≤ 40) && decide (n2 ≤ 40) && decide (n3 ≤ 20) && c.items.all okL)) := Hd (by unfold lightC; rw [hn1, hn2, hn3])
 have HN3 := Hd hn3
 rw [HLC.out]
 clear h hit hel hn1 hn2 hn3 hbb0
 generalize c.items = L at *
 obtain ⟨x0, x1, x2⟩ := HC.out W0 brf
 go_enter Tryz.func9, Tryz.ntmps9
 by_cases q1 : n1 ≤ 40
 ·by_cases q2 : n2 ≤ 40
  ·by_cases q3 : n3 ≤ 20
   ·have t1 : ¬ (40 : Int) < n1 := by omega
    have t2 : ¬ (40 : Int) < n2 := by omega
    have t3 : ¬ (20 : Int) < n3 := by omega
    go_wp2_with fail
    rw [← HW.out]
    go_wp2_with fail
    go_loopw [26] (fun i wr => ∃ k : Nat, k ≤ n3 ∧ i = .int .i64 k ∧ (L.take k).all okL = true ∧ Below W0.heap.size W0 wr) (fun i _ => n3 - (intOf i).toNat)
    case atStart => exact ⟨0, Nat.zero_le _, rfl, rfl, Below.refl _ _⟩
    case round =>
     obtain ⟨k, hk, rfl, hall, hB0⟩ := hrel
     have hB := btr HB.out hB0
     by_cases hlt : k < n3
     ·have hlt' : k < L.length := by rw [← HN3.out]; exact hlt
      obtain ⟨b, off, mv, rfl, hbl, e0, e1, hns, hmk⟩ := HEL.out k hlt'
      have hns2 := hmk.len
      obtain ⟨mo, mc, rfl⟩ := hmk.slice
      have hbr : b < wr.heap.size := Nat.lt_of_lt_of_le hbl hB.size
      have c0 : wr.cell? ⟨b, off + k * 2, none⟩ = some (.string L[k].name) := by rw [hB.cell (p := ⟨_, _, _⟩) hbl]; exact e0
      have c1 : wr.cell? ⟨b, off + k * 2 + 1, none⟩ = some (.slice mo L[k].marks.length mc) := by rw [hB.cell (p := ⟨_, _, _⟩) hbl]; exact e1
      have HST : Hid ((L.take (k + 1)).all okL = ((L.take k).all okL && okL L[k])) := Hd (by rw [List.take_succ_eq_append_getElem hlt', List.all_append]; simp)
      have HOK : Hid (okL L[k] = (decide (L[k].name.size ≤ 100) && decide (L[k].marks.length ≤ 10))) := Hd rfl
      have HAF : Hid (okL L[k] = false → L.all okL = false) := Hd (fun h => by
       rw [← Bool.not_eq_true, List.all_eq_true]
       intro hh
       rw [hh _ (List.getElem_mem hlt')] at h
       cases h)
      generalize L[k] = x at *
      have hb2 : Below W0.heap.size W0 (wr.alloc (.cells #[.string x.name, .slice mo x.marks.length mc] 50)) := hB0.alloc hB0.size _
      have HB2 := Hd hb2
      have HBF := Hd (btr HB.out hb2)
      have HALL := Hd hall
      have a0 : (0 : Int) ≤ k := by omega
      have a1 : (k : Int) < n3 := by omega
      have hkw := wr1 k (by omega)
      clear e0 e1 hmk hb2 hall hB hB0
      by_cases p1 : x.name.size ≤ 100
      ·by_cases p2 : x.marks.length ≤ 10
       ·have s1 : ¬ (100 : Int) < x.name.size := by omega
        have s2 : ¬ (10 : Int) < x.marks.length := by omega
        have HF : Hid ((L.take (k + 1)).all okL = true) := Hd (by rw [HST.out, HALL.out, HOK.out, decide_eq_true p1, decide_eq_true p2]; rfl)
        clear HST HOK HAF
        go_wp2_with fail
        go_roundw
        case rel => exact ⟨k + 1, by omega, by go_num, HF.out, HB2.out⟩
        case measure => simp [intOf]; omega
       ·have s1 : ¬ (100 : Int) < x.name.size := by omega
        have s2 : (10 : Int) < x.marks.length := by omega
        have HF := Hd (HAF.out (by rw [HOK.out, decide_eq_false p2]; simp))
        clear HST HOK HAF
        go_wp2_with fail
        go_ret
        exact ⟨by rw [HF.out]; simp, HBF.out⟩
      ·have s1 : (100 : Int) < x.name.size := by omega
       have HF := Hd (HAF.out (by rw [HOK.out, decide_eq_false p1]; simp))
       clear HST HOK HAF
       go_wp2_with fail
       go_ret
       exact ⟨by rw [HF.out]; simp, HBF.out⟩
     ·have hke : k = n3 := by omega
      have HF : Hid (L.all okL = true) := Hd (by rw [hke, HN3.out, List.take_length] at hall; exact hall)
      have HBF := Hd hB
      clear hall hB hB0
      go_wp2_with fail
      go_ret
      exact ⟨by rw [HF.out]; simp [q1, q2, q3], HBF.out⟩
   ·have t1 : ¬ (40 : Int) < n1 := by omega
    have t2 : ¬ (40 : Int) < n2 := by omega
    have t3 : (20 : Int) < n3 := by omega
    go_wp2_with fail
    rw [← HW.out]
    go_wp2_with fail
    go_ret
    exact ⟨by simp [q3], HB.out⟩
  ·have t1 : ¬ (40 : Int) < n1 := by omega
   have t2 : (40 : Int) < n2 := by omega
   go_wp2_with fail
   rw [← HW.out]
   go_wp2_with fail
   go_ret
   exact ⟨by simp [q2], HB.out⟩
 ·have t1 : (40 : Int) < n1 := by omega
  go_wp2_with fail
  rw [← HW.out]
  go_wp2_with fail
  go_ret
  exact ⟨by simp [q1], HB.out⟩
end Go.Proofs.YtfnfbcaoihhbpaaGreatDoor
namespace Go.Proofs.YtfnfbcaoihhbpaaGreatDoor
open Go.RowKit Go.Maps Go.Sort Go.Shelf

end Go.Proofs.YtfnfbcaoihhbpaaGreatDoor

