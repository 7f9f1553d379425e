/- join.Fits; fits of the law. -/
import Derived.Test.YtemfaojmelljpaaGreatDoorC21
set_option linter.unusedSimpArgs false
set_option linter.unusedVariables false
set_option maxRecDepth 100000
set_option maxHeartbeats 8000000
namespace Go.Proofs.YtemfaojmelljpaaGreatDoor
open Go.RowKit Go.Maps Go.Sort Go.Shelf

def fitM (b : CartD) (nm : ByteArray) (m : MarkD) : Bool := match ownerI b.items m.dot with
 | none => true
 | some s => decide (s = nm) && decide (m ∈ marksOf b.items s)
theorem fitsP_eq (a b : CartD) : fitsP a b = a.items.all (fun x => x.marks.all (fitM b x.name)) := rfl
def fitsB (a b : CartD) : Bool := validC a && validC b && fitsP a b
theorem all_take {α : Type} {p : α → Bool} {l : List α} {k : Nat} (h : k < l.length) (ht : (l.take k).all p = true) (hp : p l[k] = true) : (l.take (k + 1)).all p = true := by
 rw [List.take_succ_eq_append_getElem h, List.all_append, ht]; simp [hp]
theorem all_not {α : Type} {p : α → Bool} {l : List α} {k : Nat} (h : k < l.length) (hp : p l[k] = false) : l.all p = false := by
 rw [← Bool.not_eq_true];intro hh;rw [List.all_eq_true.1 hh _ (List.getElem_mem h)] at hp
 cases hp
theorem joinFits_any (a b : CartD) (v1 v2 v3 u1 u2 u3 : Value) (w : World) (h : CartA w v1 v2 v3 a) (g : CartA w u1 u2 u3 b) (hsa : SzC a) (hsb : SzC b) (hG : GlobIs w) :
  Calls Tryz.prog 46 #[.agg #[v1, v2, v3], .agg #[u1, u2, u3]] w fun e w' => e = .returned (.tuple #[.bool (fitsB a b), .int .i64 (joinE a b)]) ∧ Below w.heap.size w w' := by
 obtain ⟨o1, k1, rfl⟩ := h.1.slice;obtain ⟨o2, k2, rfl⟩ := h.2.1.slice;have hit := h.2.2;have hlen3 := hit.len;obtain ⟨o3, k3, rfl, hel⟩ := hit.itemAt;obtain ⟨o4, k4, rfl⟩ := g.1.slice;obtain ⟨o5, k5, rfl⟩ := g.2.1.slice;obtain ⟨o6, k6, rfl⟩ := g.2.2.slice;obtain ⟨n1, hn1⟩ : ∃ n, n = a.vec.length := ⟨_, rfl⟩;obtain ⟨n2, hn2⟩ : ∃ n, n = a.cloud.length := ⟨_, rfl⟩;obtain ⟨n3, hn3⟩ : ∃ n, n = a.items.length := ⟨_, rfl⟩;obtain ⟨n4, hn4⟩ : ∃ n, n = b.vec.length := ⟨_, rfl⟩;obtain ⟨n5, hn5⟩ : ∃ n, n = b.cloud.length := ⟨_, rfl⟩;obtain ⟨n6, hn6⟩ : ∃ n, n = b.items.length := ⟨_, rfl⟩;rw [← hn1, ← hn2, ← hn3] at h;rw [← hn3] at hlen3;rw [← hn1, ← hn2, ← hn3];rw [← hn4, ← hn5, ← hn6] at g;rw [← hn4, ← hn5, ← hn6];obtain ⟨W0, hW0⟩ : ∃ x, x = w.alloc (.cells #[.slice o1 n1 k1, .slice o2 n2 k2, .slice o3 n3 k3] 28) := ⟨_, rfl⟩;have hs0 : W0.heap.size = w.heap.size + 1 := by rw [hW0, alloc_size]
 have hst0 : Below w.heap.size w W0 := by rw [hW0]; exact bal
 have hbb0 : Below w.heap.size w W0 := hst0;have hx0_0 : W0.heap[w.heap.size]? = some (.cells #[.slice o1 n1 k1, .slice o2 n2 k2, .slice o3 n3 k3] 28) := by rw [hW0]; exact alloc_new _ _
 obtain ⟨W1, hW1⟩ : ∃ x, x = W0.alloc (.cells #[.slice o4 n4 k4, .slice o5 n5 k5, .slice o6 n6 k6] 28) := ⟨_, rfl⟩;have hs1 : W1.heap.size = w.heap.size + 1 + 1 := by rw [hW1, alloc_size, hs0]
 have hst1 : Below W0.heap.size W0 W1 := by rw [hW1]; exact bal
 have hbb1 : Below w.heap.size w W1 := btr hbb0 hst1;have hx1_1 : W1.heap[w.heap.size + 1]? = some (.cells #[.slice o4 n4 k4, .slice o5 n5 k5, .slice o6 n6 k6] 28) := by rw [hW1, ← hs0]; exact alloc_new _ _
 have hx0_1 : W1.heap[w.heap.size]? = _ := (hst1.block _ (lt_of_heap hx0_0)).trans hx0_0;have HC := Hd (fun wz (hz : Below W1.heap.size W1 wz) => And.intro (cel3 ((hz.block _ (lt_of_heap hx0_1)).trans hx0_1)) (cel3 ((hz.block _ (lt_of_heap hx1_1)).trans hx1_1)))
 have HK0 : Hid (∀ wz, Below W1.heap.size W1 wz → wz.heap[w.heap.size]? = some (.cells #[.slice o1 n1 k1, .slice o2 n2 k2, .slice o3 n3 k3] 28)) := Hd (fun wz hz => (hz.block _ (lt_of_heap hx0_1)).trans hx0_1)
 have HK1 : Hid (∀ wz, Below W1.heap.size W1 wz → wz.heap[w.heap.size + 1]? = some (.cells #[.slice o4 n4 k4, .slice o5 n5 k5, .slice o6 n6 k6] 28)) := Hd (fun wz hz => (hz.block _ (lt_of_heap hx1_1)).trans hx1_1)
 have hbbL := hbb1;have HB := Hd hbb1;have HS : Hid (W1.heap.size = w.heap.size + 1 + 1) := Hd hs1;have HW : Hid (W1 = (w.alloc (.cells #[.slice o1 n1 k1, .slice o2 n2 k2, .slice o3 n3 k3] 28)).alloc (.cells #[.slice o4 n4 k4, .slice o5 n5 k5, .slice o6 n6 k6] 28)) := Hd (by rw [hW1, hW0])
 have HEL := Hd hel;have HN3 := Hd hn3;have hgW := g.below hbbL;have HV1 := Hd (cartValid_any a _ _ _ W1 (h.below hbbL) hsa.1 (hG.below hbbL));have HV2 : Hid (∀ wz, Below W1.heap.size W1 wz → Calls Tryz.prog 23 #[.agg #[.slice o4 n4 k4, .slice o5 n5 k5, .slice o6 n6 k6]] wz fun e w' => e = .returned (.bool (validC b)) ∧ Below wz.heap.size wz w') := Hd (fun wz hz => cartValid_any b _ _ _ wz (hgW.below hz) hsb.1 ((hG.below hbbL).below hz))
 have HOW : Hid (∀ (d : DotD) wz, Below W1.heap.size W1 wz → Calls Tryz.prog 82 #[.slice o6 n6 k6, .agg #[.int .i64 d.rep, .int .i64 d.ctr]] wz fun e w' => e = .returned (ownerV (ownerI b.items d)) ∧ Below wz.heap.size wz w') := Hd (fun d wz hz => itemsOwner_any b.items d _ wz (hgW.below hz).2.2 hsb.1)
 have HMKX : Hid (∀ nm wz, Below W1.heap.size W1 wz → Calls Tryz.prog 71 #[.agg #[.slice o4 n4 k4, .slice o5 n5 k5, .slice o6 n6 k6], .string nm] wz fun e w' => ∃ v', e = .returned v' ∧ Arr MarkR 4 w' v' (marksOf b.items nm) ∧ Below wz.heap.size wz w') := Hd (fun nm wz hz => (joinMarks_any b nm _ _ _ wz (hgW.below hz) hsb.1).mono fun e w' ⟨v', q1, q2, q3⟩ => ⟨v', q1, Arr.of_marks q2 (marksOf_MI g.2.2 nm), q3⟩)
 have HCNX : Hid (∀ (m : MarkD) nm wz x, Arr MarkR 4 wz x (marksOf b.items nm) → Calls Tryz.prog 83 #[x, .agg #[.int .i64 m.dot.rep, .int .i64 m.dot.ctr, .int .i64 m.qty, .int .u64 m.time]] wz fun e w' => e = .returned (.bool (decide (m ∈ marksOf b.items nm))) ∧ Below wz.heap.size wz w') := Hd (fun m nm wz x hx => containsMarks_any _ m x wz hx)
 have HFB : Hid ((validC a && validC b) = true → a.items.all (fun x => x.marks.all (fitM b x.name)) = true → fitsB a b = true) := Hd (fun hv hf => by unfold fitsB; rw [hv, fitsP_eq, hf]; rfl)
 have HFF : Hid (a.items.all (fun x => x.marks.all (fitM b x.name)) = false → fitsB a b = false) := Hd (fun hf => by unfold fitsB; rw [fitsP_eq, hf, Bool.and_false])
 have HFV : Hid ((validC a && validC b) = false → fitsB a b = false) := Hd (fun hv => by unfold fitsB; rw [hv]; rfl)
 have HEV : Hid (joinE a b = if (validC a && validC b) = true then 0 else 2) := Hd rfl
 have HFM : Hid (∀ nm (m : MarkD), (ownerI b.items m.dot = none → fitM b nm m = true) ∧ ∀ s, ownerI b.items m.dot = some s → fitM b nm m = (decide (s = nm) && decide (m ∈ marksOf b.items s))) := Hd (fun nm m => by
  unfold fitM;refine ⟨fun h => by rw [h], fun s h => by rw [h]⟩)
 obtain ⟨⟨x0_0, x0_1, x0_2⟩, ⟨x1_0, x1_1, x1_2⟩⟩ := HC.out W1 brf;clear hbbL hW0 hs0 hst0 hW1 hs1 hst1 hx0_0 hx0_1 hx1_1 hbb0 hbb1 hG hsa hsb h g hit hel hgW hn1 hn2 hn3 hn4 hn5 hn6;generalize a.items = L at *
 generalize fitM b = FM at *
 obtain ⟨r1, hr1⟩ : ∃ r, r = validC a := ⟨_, rfl⟩;obtain ⟨r2, hr2⟩ : ∃ r, r = validC b := ⟨_, rfl⟩;rw [← hr1] at HV1 HFB HFV HEV;rw [← hr2] at HV2 HFB HFV HEV;clear hr1 hr2
 go_enter Tryz.func46, Tryz.ntmps46
 go_wp2_with fail
 rw [← HW.out]
 go_wp2_with fail
 refine HV1.out.mono ?_;rintro e w3 ⟨rfl, hb3⟩;have HB3 := Hd hb3;obtain ⟨⟨y0_0, y0_1, y0_2⟩, ⟨y1_0, y1_1, y1_2⟩⟩ := HC.out w3 hb3;clear hb3 HV1 x0_0 x0_1 x0_2 x1_0 x1_1 x1_2
 cases r1 with
 | false =>
  have HRF := Hd (HFV.out rfl);have HE0 : Hid (2 = joinE a b) := Hd (by rw [HEV.out]; rfl)
  have HBF := Hd (HB.out.trans (HB3.out.mono HB.out.size));clear HFB HFF HFV HEV
  go_wp2_with fail
  go_ret2
  exact ⟨by rw [HRF.out, ← HE0.out]; rfl, HBF.out⟩
 | true =>
  go_wp2_with fail
  refine (HV2.out w3 HB3.out).mono ?_;rintro e w4 ⟨rfl, hb4⟩;have HB4 := Hd (btr HB3.out hb4);obtain ⟨⟨z0_0, z0_1, z0_2⟩, ⟨z1_0, z1_1, z1_2⟩⟩ := HC.out w4 HB4.out;clear hb4 HV2 y0_0 y0_1 y0_2 y1_0 y1_1 y1_2
  cases r2 with
  | false =>
   have HRF := Hd (HFV.out rfl);have HE0 : Hid (2 = joinE a b) := Hd (by rw [HEV.out]; rfl)
   have HBF := Hd (HB.out.trans (HB4.out.mono HB.out.size));clear HFB HFF HFV HEV
   go_wp2_with fail
   go_ret2
   exact ⟨by rw [HRF.out, ← HE0.out]; rfl, HBF.out⟩
  | true =>
   have HE0 : Hid (0 = joinE a b) := Hd (by rw [HEV.out]; rfl)
   have HFB1 := Hd (HFB.out rfl);clear HFB HFV HEV
   go_wp2_with fail
   go_loopw [23] (fun i wr => ∃ k : Nat, k ≤ n3 ∧ i = .int .i64 k ∧ (L.take k).all (fun x => x.marks.all (FM x.name)) = true ∧ Below W1.heap.size W1 wr) (fun i _ => n3 - (intOf i).toNat)
   case atStart => exact ⟨0, Nat.zero_le _, rfl, rfl, HB4.out⟩
   case round =>
    obtain ⟨k, hk, rfl, hall, hBi⟩ := hrel;obtain ⟨wi, rfl⟩ : ∃ wi : World, wi = wr := ⟨_, rfl⟩;have HBI := Hd hBi;have hB := btr HB.out hBi
    by_cases hlt : k < n3
    ·have hlt' : k < L.length := by rw [← HN3.out]; exact hlt
     obtain ⟨b1, off1, mv, rfl, hbl, e0, e1, hns, hmk⟩ := HEL.out k hlt';have hml := hmk.len;obtain ⟨mo, mc, rfl, hmel⟩ := hmk.markAt;have hbr : b1 < wi.heap.size := Nat.lt_of_lt_of_le hbl hB.size;have c0 : wi.cell? ⟨b1, off1 + k * 2, none⟩ = some (.string L[k].name) := by rw [hB.cell (p := ⟨_, _, _⟩) hbl]; exact e0
     have c1 : wi.cell? ⟨b1, off1 + k * 2 + 1, none⟩ = some (.slice mo L[k].marks.length mc) := by rw [hB.cell (p := ⟨_, _, _⟩) hbl]; exact e1
     have HAT : Hid (L[k].marks.all (FM L[k].name) = true → (L.take (k + 1)).all (fun x => x.marks.all (FM x.name)) = true) := Hd (fun h => all_take hlt' hall h)
     have HAN : Hid (L[k].marks.all (FM L[k].name) = false → L.all (fun x => x.marks.all (FM x.name)) = false) := Hd (fun h => all_not hlt' h)
     have HMEL := Hd hmel;generalize hxk : L[k] = x at *
     have hb2 : Below W1.heap.size W1 (wi.alloc (.cells #[.string x.name, .slice mo x.marks.length mc] 49)) := hBi.alloc hBi.size _;have hxi : (wi.alloc (.cells #[.string x.name, .slice mo x.marks.length mc] 49)).heap[wi.heap.size]? = some (.cells #[.string x.name, .slice mo x.marks.length mc] 49) := alloc_new _ _;have HXI := Hd hxi;have HB2 := Hd hb2;have a0 : (0 : Int) ≤ k := by omega
     have a1 : (k : Int) < n3 := by omega
     have hkw := wr1 k (by omega)
     clear e0 e1 hmk hmel hxi hb2 hall hB hBi hxk;obtain ⟨Wi, hWi⟩ : ∃ y, y = wi.alloc (.cells #[.string x.name, .slice mo x.marks.length mc] 49) := ⟨_, rfl⟩;rw [← hWi] at HXI HB2;have HWI := Hd hWi;have hzi : Wi.heap.size = wi.heap.size + 1 := by rw [hWi]; simp
     clear hWi
     go_wp2_with fail
     rw [← HWI.out]
     go_loopw [30] (fun i wr => ∃ j : Nat, j ≤ x.marks.length ∧ i = .int .i64 j ∧ (x.marks.take j).all (FM x.name) = true ∧ Below Wi.heap.size Wi wr) (fun i _ => x.marks.length - (intOf i).toNat)
     case atStart => exact ⟨0, Nat.zero_le _, rfl, rfl, Below.refl _ _⟩
     case round =>
      obtain ⟨j, hj, rfl, hallm, hBm⟩ := hrel;have hBw := btr HB2.out hBm;have hBww := btr HB.out hBw
      by_cases hjl : j < x.marks.length
      ·obtain ⟨b2, off2, rfl, hbl2, e0, e1, e2, e3, -⟩ := HMEL.out j hjl
       have d0 : wr.cell? ⟨b2, off2 + j * 4, none⟩ = some (.int .i64 x.marks[j].dot.rep) := by rw [hBww.cell (p := ⟨_, _, _⟩) hbl2]; exact e0
       have d1 : wr.cell? ⟨b2, off2 + j * 4 + 1, none⟩ = some (.int .i64 x.marks[j].dot.ctr) := by rw [hBww.cell (p := ⟨_, _, _⟩) hbl2]; exact e1
       have d2 : wr.cell? ⟨b2, off2 + j * 4 + 2, none⟩ = some (.int .i64 x.marks[j].qty) := by rw [hBww.cell (p := ⟨_, _, _⟩) hbl2]; exact e2
       have d3 : wr.cell? ⟨b2, off2 + j * 4 + 3, none⟩ = some (.int .u64 x.marks[j].time) := by rw [hBww.cell (p := ⟨_, _, _⟩) hbl2]; exact e3
       have hbr2 : b2 < wr.heap.size := Nat.lt_of_lt_of_le hbl2 hBww.size;have HMT : Hid (FM x.name x.marks[j] = true → (x.marks.take (j + 1)).all (FM x.name) = true) := Hd (fun h => all_take hjl hallm h)
       have HMN : Hid (FM x.name x.marks[j] = false → fitsB a b = false) := Hd (fun h => HFF.out (HAN.out (all_not hjl h)))
       generalize hyj : x.marks[j] = y at *
       have HFMy := Hd (HFM.out x.name y);obtain ⟨Wr, hWr⟩ : ∃ q, q = wr.alloc (.cells #[.int .i64 y.dot.rep, .int .i64 y.dot.ctr, .int .i64 y.qty, .int .u64 y.time] 54) := ⟨_, rfl⟩;have hbr1 : Below wr.heap.size wr Wr := by rw [hWr]; exact bal
       have hxr : Wr.heap[wr.heap.size]? = some (.cells #[.int .i64 y.dot.rep, .int .i64 y.dot.ctr, .int .i64 y.qty, .int .u64 y.time] 54) := by rw [hWr]; exact alloc_new _ _
       have hbrw := btr hBw hbr1;have HO := Hd (HOW.out y.dot Wr hbrw);have hxi' : Wr.heap[wi.heap.size]? = some (.cells #[.string x.name, .slice (some ⟨b2, off2, none⟩) x.marks.length mc] 49) := (hbr1.block _ (Nat.lt_of_lt_of_le (lt_of_heap HXI.out) hBm.size)).trans ((hBm.block _ (lt_of_heap HXI.out)).trans HXI.out);have HXR := Hd hxr;have HXI' := Hd hxi';have HBRW := Hd hbrw;have HBMR := Hd (btr hBm hbr1);have HWR := Hd hWr;obtain ⟨⟨w0_0, w0_1, w0_2⟩, ⟨w1_0, w1_1, w1_2⟩⟩ := HC.out wr hBw;have hzw := hBww.size;have hzb := hBw.size;have hzs := HS.out;have b0 : (0 : Int) ≤ j := by omega
       have b1' : (j : Int) < x.marks.length := by omega
       have hjw : IntKind.i64.wrap ((j : Int) + 1) = (j : Int) + 1 := by rw [IntKind.wrap_i64]; omega
       have l0 : w.heap.size < wr.heap.size := by omega
       have l1 : w.heap.size + 1 < wr.heap.size := by omega
       clear e0 e1 e2 e3 hallm hBm hBw hBww hyj hbr1 hxr hbrw hxi' hWr hzs hzw hzb;clear HMEL;generalize hml2 : x.marks.length = ml at *
       generalize hxn : x.name = xn at *
       go_wp2_with fail
       rw [← HWR.out];refine HO.out.mono ?_;rintro e w6 ⟨rfl, hb6⟩;have hb6w := btr HBRW.out hb6;have HBN0 := Hd (btr HBMR.out hb6);have HBF0 := Hd (btr HB.out hb6w);have HCC := HC;clear HC;have HC : Hid (∀ wz, Below w6.heap.size w6 wz → (wz.cell? ⟨w.heap.size + 1, 0, none⟩ = some (.slice o4 n4 k4) ∧ wz.cell? ⟨w.heap.size + 1, 1, none⟩ = some (.slice o5 n5 k5) ∧ wz.cell? ⟨w.heap.size + 1, 2, none⟩ = some (.slice o6 n6 k6)) ∧ (wz.cell? ⟨wi.heap.size, 0, none⟩ = some (.string xn) ∧ wz.cell? ⟨wi.heap.size, 1, none⟩ = some (.slice (some ⟨b2, off2, none⟩) ml mc)) ∧ (wz.cell? ⟨wr.heap.size, 0, none⟩ = some (.int .i64 y.dot.rep) ∧ wz.cell? ⟨wr.heap.size, 1, none⟩ = some (.int .i64 y.dot.ctr) ∧ wz.cell? ⟨wr.heap.size, 2, none⟩ = some (.int .i64 y.qty) ∧ wz.cell? ⟨wr.heap.size, 3, none⟩ = some (.int .u64 y.time))) := Hd (fun wz hz => by
        have z1 := (hz.block _ (Nat.lt_of_lt_of_le (lt_of_heap HXR.out) hb6.size)).trans ((hb6.block _ (lt_of_heap HXR.out)).trans HXR.out);have z2 := (hz.block _ (Nat.lt_of_lt_of_le (lt_of_heap HXI'.out) hb6.size)).trans ((hb6.block _ (lt_of_heap HXI'.out)).trans HXI'.out);have z3 := (HCC.out wz (btr hb6w hz)).2;exact ⟨z3, ⟨cl0 z2 0 rfl, cl0 z2 1 rfl⟩, cl0 z1 0 rfl, cl0 z1 1 rfl, cl0 z1 2 rfl, cl0 z1 3 rfl⟩)
       have HMK0 : Hid (∀ nm wz, Below w6.heap.size w6 wz → Calls Tryz.prog 71 #[.agg #[.slice o4 n4 k4, .slice o5 n5 k5, .slice o6 n6 k6], .string nm] wz fun e w' => ∃ v', e = .returned v' ∧ Arr MarkR 4 w' v' (marksOf b.items nm) ∧ Below wz.heap.size wz w') := Hd (fun nm wz hz => HMKX.out nm wz (btr hb6w hz))
       have HCN0 := Hd (HCNX.out y);clear hb6 hb6w HO d0 d1 d2 d3 w0_0 w0_1 w0_2 w1_0 w1_1 w1_2;obtain ⟨ow, how⟩ : ∃ q, q = ownerI b.items y.dot := ⟨_, rfl⟩;rw [← how] at HFMy ⊢;clear how
       cases ow with
       | none =>
        have HALL2 := Hd (HMT.out (HFMy.out.1 rfl));have HBN := Hd (below_drew1 HBN0.out);clear HFMy HMT HMN HMK0 HCN0;simp only [ownerV]
        go_upto_region 10 with fail
        refine NQ.to ?_;refine wp_region_held_drew (S := (fun _ => True)) (by kernel_rfl) (trivial) (fun hS => ?_)
        refine tkR (n := 16) [0, 1, 2, 3, 4, 5, 6, 7, 8, 9, 10, 11, 12, 13, 14, 15] rfl (by decide +kernel) hS ?_
        iterate 3 ((try simp only [Act.put, s1, s2, s3, s4, s5, s6]); refine ⟨_, ?_, rfl, Or.inl ⟨by kernel_rfl, fun w hSw => ok_of fun z hz => ?_⟩, ?_⟩; rotate_left; · (go_simp; exact hz))
        iterate 12 ((try simp only [Act.put, s1, s2, s3, s4, s5, s6]); refine ⟨_, undef, rfl, Or.inr ⟨by kernel_rfl, rfl⟩, ?_⟩)
        ((try simp only [Act.put, s1, s2, s3, s4, s5, s6]); refine ⟨_, ?_, rfl, Or.inl ⟨by kernel_rfl, fun w hSw => ok_of fun z hz => ?_⟩, ?_⟩; rotate_left; · (go_simp; exact hz))
        refine RunOK.done ?_
        try simp only [Act.put, s1, s2, s3, s4, s5, s6]
        refine wpAnyH_done (by kernel_rfl) ?_ _
        try simp only [Act.put, s1, s2, s3, s4, s5, s6]
        simp only [NQ];clear hS
        go_wp2_with fail
        go_roundw
        case rel => exact ⟨j + 1, by omega, by go_num, HALL2.out, HBN.out⟩
        case measure => simp [intOf]; omega
       | some s =>
        by_cases hsx : s = xn
        ·subst hsx
         have HMK := Hd (HMK0.out s);have HCN := Hd (HCN0.out s);have hfy := HFMy.out.2 s rfl;rw [decide_eq_true (rfl : s = s), Bool.true_and] at hfy;obtain ⟨r, hr⟩ : ∃ q, q = decide (y ∈ marksOf b.items s) := ⟨_, rfl⟩;rw [← hr] at hfy HCN;clear hr;clear HFMy HMK0 HCN0;simp only [ownerV]
         cases r with
         | true =>
          have HALL2 := Hd (HMT.out hfy);clear hfy HMT HMN
          go_upto_region 10 with fail
          refine NQ.to ?_;refine wp_region_held_drew (S := (fun wz => (wz.cell? ⟨w.heap.size + 1, 0, none⟩ = some (.slice o4 n4 k4) ∧ wz.cell? ⟨w.heap.size + 1, 1, none⟩ = some (.slice o5 n5 k5) ∧ wz.cell? ⟨w.heap.size + 1, 2, none⟩ = some (.slice o6 n6 k6)) ∧ (wz.cell? ⟨wi.heap.size, 0, none⟩ = some (.string s) ∧ wz.cell? ⟨wi.heap.size, 1, none⟩ = some (.slice (some ⟨b2, off2, none⟩) ml mc)) ∧ (wz.cell? ⟨wr.heap.size, 0, none⟩ = some (.int .i64 y.dot.rep) ∧ wz.cell? ⟨wr.heap.size, 1, none⟩ = some (.int .i64 y.dot.ctr) ∧ wz.cell? ⟨wr.heap.size, 2, none⟩ = some (.int .i64 y.qty) ∧ wz.cell? ⟨wr.heap.size, 3, none⟩ = some (.int .u64 y.time)))) (by kernel_rfl) (HC.out _ bdr) (fun hS => ?_)
          refine tkR (n := 11) [0, 1, 2, 3, 4, 5, 6, 7, 8, 9, 11] rfl (by decide +kernel) hS ?_
          iterate 11 ((try simp only [Act.put, s1, s2, s3, s4, s5, s6]); refine ⟨_, ?_, rfl, Or.inl ⟨by kernel_rfl, fun w hSw => ok_of fun z hz => ?_⟩, ?_⟩; rotate_left; · (obtain ⟨⟨g0, g1, g2⟩, ⟨g3, g4⟩, g5, g6, g7, g8⟩ := hSw; go_simp; exact hz))
          refine RunOK.done ?_
          try simp only [Act.put, s1, s2, s3, s4, s5, s6]
          refine rd1 10 (by decide +kernel) rfl (fun K hK => ?_)
          go_simp
          go_at_call 71
          refine (HMK.out _ bdr).mono ?_;rintro e w7 ⟨v7, rfl, ha7, hb7⟩;have hb7w := (below_drew1 (Below.refl w6.heap.size w6)).trans hb7;go_simp;refine Shut.out hK _ _ (HC.out _ hb7w) (fun hS2 => ?_); clear hK K hS; have hS := hS2; clear hS2
          try simp only [Act.put, s1, s2, s3, s4, s5, s6]
          refine rd1 12 (by decide +kernel) rfl (fun K hK => ?_)
          go_simp
          go_at_call 83
          refine (HCN.out w7 v7 ha7).mono ?_;rintro e w8 ⟨rfl, hb8⟩;have hb8w := btr hb7w hb8;go_simp;refine Shut.out hK _ _ (HC.out _ hb8w) (fun hS2 => ?_); clear hK K hS; have hS := hS2; clear hS2
          refine tkR (n := 3) [13, 14, 15] rfl (by decide +kernel) hS ?_
          iterate 3 ((try simp only [Act.put, s1, s2, s3, s4, s5, s6]); refine ⟨_, ?_, rfl, Or.inl ⟨by kernel_rfl, fun w hSw => ok_of fun z hz => ?_⟩, ?_⟩; rotate_left; · (go_simp; exact hz))
          refine RunOK.done ?_
          try simp only [Act.put, s1, s2, s3, s4, s5, s6]
          refine wpAnyH_done (by kernel_rfl) ?_ _
          try simp only [Act.put, s1, s2, s3, s4, s5, s6]
          simp only [NQ];have HBN := Hd (btr HBN0.out hb8w);clear hS hb7 hb7w hb8 hb8w ha7
          go_wp2_with fail
          go_roundw
          case rel => exact ⟨j + 1, by omega, by go_num, HALL2.out, HBN.out⟩
          case measure => simp [intOf]; omega
         | false =>
          have HRF := Hd (HMN.out hfy);clear hfy HMT HMN
          go_upto_region 10 with fail
          refine NQ.to ?_;refine wp_region_held_drew (S := (fun wz => (wz.cell? ⟨w.heap.size + 1, 0, none⟩ = some (.slice o4 n4 k4) ∧ wz.cell? ⟨w.heap.size + 1, 1, none⟩ = some (.slice o5 n5 k5) ∧ wz.cell? ⟨w.heap.size + 1, 2, none⟩ = some (.slice o6 n6 k6)) ∧ (wz.cell? ⟨wi.heap.size, 0, none⟩ = some (.string s) ∧ wz.cell? ⟨wi.heap.size, 1, none⟩ = some (.slice (some ⟨b2, off2, none⟩) ml mc)) ∧ (wz.cell? ⟨wr.heap.size, 0, none⟩ = some (.int .i64 y.dot.rep) ∧ wz.cell? ⟨wr.heap.size, 1, none⟩ = some (.int .i64 y.dot.ctr) ∧ wz.cell? ⟨wr.heap.size, 2, none⟩ = some (.int .i64 y.qty) ∧ wz.cell? ⟨wr.heap.size, 3, none⟩ = some (.int .u64 y.time)))) (by kernel_rfl) (HC.out _ bdr) (fun hS => ?_)
          refine tkR (n := 11) [0, 1, 2, 3, 4, 5, 6, 7, 8, 9, 11] rfl (by decide +kernel) hS ?_
          iterate 11 ((try simp only [Act.put, s1, s2, s3, s4, s5, s6]); refine ⟨_, ?_, rfl, Or.inl ⟨by kernel_rfl, fun w hSw => ok_of fun z hz => ?_⟩, ?_⟩; rotate_left; · (obtain ⟨⟨g0, g1, g2⟩, ⟨g3, g4⟩, g5, g6, g7, g8⟩ := hSw; go_simp; exact hz))
          refine RunOK.done ?_
          try simp only [Act.put, s1, s2, s3, s4, s5, s6]
          refine rd1 10 (by decide +kernel) rfl (fun K hK => ?_)
          go_simp
          go_at_call 71
          refine (HMK.out _ bdr).mono ?_;rintro e w7 ⟨v7, rfl, ha7, hb7⟩;have hb7w := (below_drew1 (Below.refl w6.heap.size w6)).trans hb7;go_simp;refine Shut.out hK _ _ (HC.out _ hb7w) (fun hS2 => ?_); clear hK K hS; have hS := hS2; clear hS2
          try simp only [Act.put, s1, s2, s3, s4, s5, s6]
          refine rd1 12 (by decide +kernel) rfl (fun K hK => ?_)
          go_simp
          go_at_call 83
          refine (HCN.out w7 v7 ha7).mono ?_;rintro e w8 ⟨rfl, hb8⟩;have hb8w := btr hb7w hb8;go_simp;refine Shut.out hK _ _ (HC.out _ hb8w) (fun hS2 => ?_); clear hK K hS; have hS := hS2; clear hS2
          refine tkR (n := 3) [13, 14, 15] rfl (by decide +kernel) hS ?_
          iterate 3 ((try simp only [Act.put, s1, s2, s3, s4, s5, s6]); refine ⟨_, ?_, rfl, Or.inl ⟨by kernel_rfl, fun w hSw => ok_of fun z hz => ?_⟩, ?_⟩; rotate_left; · (go_simp; exact hz))
          refine RunOK.done ?_
          try simp only [Act.put, s1, s2, s3, s4, s5, s6]
          refine wpAnyH_done (by kernel_rfl) ?_ _
          try simp only [Act.put, s1, s2, s3, s4, s5, s6]
          simp only [NQ];have HBF := Hd (btr HBF0.out hb8w);clear hS hb7 hb7w hb8 hb8w ha7
          go_wp2_with fail
          go_ret2
          exact ⟨by rw [HRF.out, ← HE0.out]; rfl, HBF.out⟩
        ·have hse : (s.toList == xn.toList) = false := str_ne hsx
         have HRF := Hd (HMN.out (by rw [HFMy.out.2 s rfl, decide_eq_false hsx]; rfl))
         have HBF := Hd (below_drew1 HBF0.out);clear HFMy HMT HMN HMK0 HCN0 hsx;simp only [ownerV]
         go_upto_region 10 with fail
         refine NQ.to ?_;refine wp_region_held_drew (S := (fun wz => (wz.cell? ⟨w.heap.size + 1, 0, none⟩ = some (.slice o4 n4 k4) ∧ wz.cell? ⟨w.heap.size + 1, 1, none⟩ = some (.slice o5 n5 k5) ∧ wz.cell? ⟨w.heap.size + 1, 2, none⟩ = some (.slice o6 n6 k6)) ∧ (wz.cell? ⟨wi.heap.size, 0, none⟩ = some (.string xn) ∧ wz.cell? ⟨wi.heap.size, 1, none⟩ = some (.slice (some ⟨b2, off2, none⟩) ml mc)) ∧ (wz.cell? ⟨wr.heap.size, 0, none⟩ = some (.int .i64 y.dot.rep) ∧ wz.cell? ⟨wr.heap.size, 1, none⟩ = some (.int .i64 y.dot.ctr) ∧ wz.cell? ⟨wr.heap.size, 2, none⟩ = some (.int .i64 y.qty) ∧ wz.cell? ⟨wr.heap.size, 3, none⟩ = some (.int .u64 y.time)))) (by kernel_rfl) (HC.out _ bdr) (fun hS => ?_)
         refine tkR (n := 16) [0, 1, 2, 3, 4, 5, 6, 7, 8, 9, 10, 11, 12, 13, 14, 15] rfl (by decide +kernel) hS ?_
         iterate 8 ((try simp only [Act.put, s1, s2, s3, s4, s5, s6]); refine ⟨_, ?_, rfl, Or.inl ⟨by kernel_rfl, fun w hSw => ok_of fun z hz => ?_⟩, ?_⟩; rotate_left; · (obtain ⟨⟨g0, g1, g2⟩, ⟨g3, g4⟩, g5, g6, g7, g8⟩ := hSw; go_simp; exact hz))
         iterate 6 ((try simp only [Act.put, s1, s2, s3, s4, s5, s6]); refine ⟨_, undef, rfl, Or.inr ⟨by kernel_rfl, rfl⟩, ?_⟩)
         iterate 2 ((try simp only [Act.put, s1, s2, s3, s4, s5, s6]); refine ⟨_, ?_, rfl, Or.inl ⟨by kernel_rfl, fun w hSw => ok_of fun z hz => ?_⟩, ?_⟩; rotate_left; · (go_simp; exact hz))
         refine RunOK.done ?_
         try simp only [Act.put, s1, s2, s3, s4, s5, s6]
         refine wpAnyH_done (by kernel_rfl) ?_ _
         try simp only [Act.put, s1, s2, s3, s4, s5, s6]
         simp only [NQ];clear hS
         go_wp2_with fail
         go_ret2
         exact ⟨by rw [HRF.out, ← HE0.out]; rfl, HBF.out⟩
      ·have hje : j = x.marks.length := by omega
       have HA2 := Hd (HAT.out (by rw [hje, List.take_length] at hallm; exact hallm))
       have HBX := Hd hBw;clear hallm hBm hBw hBww
       go_wp2_with fail
       go_roundw
       case rel => exact ⟨k + 1, by omega, by go_num, HA2.out, HBX.out⟩
       case measure => simp [intOf]; omega
    ·have hke : k = n3 := by omega
     have HRF := Hd (HFB1.out (by rw [hke, HN3.out, List.take_length] at hall; exact hall))
     have HBF := Hd hB;clear hall hBi hB HFB1
     go_wp2_with fail
     go_ret2
     exact ⟨by rw [HRF.out, ← HE0.out]; rfl, HBF.out⟩
theorem l11fits_any (a b : CartD) (want : Bool) (no : Int) (v1 v2 v3 u1 u2 u3 : Value) (w : World) (h : CartA w v1 v2 v3 a) (g : CartA w u1 u2 u3 b) (hsa : SzC a) (hsb : SzC b) (hG : GlobIs w) :
  Calls Tryz.prog 20 #[.agg #[v1, v2, v3], .agg #[u1, u2, u3], .bool want, .int .i64 no] w fun e w' => e = .returned (.bool ((fitsB a b == want) && (joinE a b == no))) ∧ Below w.heap.size w w' := by
 obtain ⟨o1, n1, k1, o2, n2, k2, o3, n3, k3, rfl, rfl, rfl, hn1, hn2, hn3⟩ := opn h;obtain ⟨o4, n4, k4, o5, n5, k5, o6, n6, k6, rfl, rfl, rfl, hn4, hn5, hn6⟩ := opn g;obtain ⟨W0, hW0⟩ : ∃ x, x = w.alloc (.cells #[.slice o1 n1 k1, .slice o2 n2 k2, .slice o3 n3 k3] 28) := ⟨_, rfl⟩;have hs0 : W0.heap.size = w.heap.size + 1 := by rw [hW0, alloc_size]
 have hst0 : Below w.heap.size w W0 := by rw [hW0]; exact bal
 have hbb0 : Below w.heap.size w W0 := hst0;have hx0_0 : W0.heap[w.heap.size]? = some (.cells #[.slice o1 n1 k1, .slice o2 n2 k2, .slice o3 n3 k3] 28) := by rw [hW0]; exact alloc_new _ _
 obtain ⟨W1, hW1⟩ : ∃ x, x = W0.alloc (.cells #[.slice o4 n4 k4, .slice o5 n5 k5, .slice o6 n6 k6] 28) := ⟨_, rfl⟩;have hs1 : W1.heap.size = w.heap.size + 1 + 1 := by rw [hW1, alloc_size, hs0]
 have hst1 : Below W0.heap.size W0 W1 := by rw [hW1]; exact bal
 have hbb1 : Below w.heap.size w W1 := btr hbb0 hst1;have hx1_1 : W1.heap[w.heap.size + 1]? = some (.cells #[.slice o4 n4 k4, .slice o5 n5 k5, .slice o6 n6 k6] 28) := by rw [hW1, ← hs0]; exact alloc_new _ _
 have hx0_1 : W1.heap[w.heap.size]? = _ := (hst1.block _ (lt_of_heap hx0_0)).trans hx0_0;have HC := Hd (fun wz (hz : Below W1.heap.size W1 wz) => And.intro (cel3 ((hz.block _ (lt_of_heap hx0_1)).trans hx0_1)) (cel3 ((hz.block _ (lt_of_heap hx1_1)).trans hx1_1)))
 have HK0 : Hid (∀ wz, Below W1.heap.size W1 wz → wz.heap[w.heap.size]? = some (.cells #[.slice o1 n1 k1, .slice o2 n2 k2, .slice o3 n3 k3] 28)) := Hd (fun wz hz => (hz.block _ (lt_of_heap hx0_1)).trans hx0_1)
 have HK1 : Hid (∀ wz, Below W1.heap.size W1 wz → wz.heap[w.heap.size + 1]? = some (.cells #[.slice o4 n4 k4, .slice o5 n5 k5, .slice o6 n6 k6] 28)) := Hd (fun wz hz => (hz.block _ (lt_of_heap hx1_1)).trans hx1_1)
 have hbbL := hbb1;have HB := Hd hbb1;have HS : Hid (W1.heap.size = w.heap.size + 1 + 1) := Hd hs1;have HW : Hid (W1 = (w.alloc (.cells #[.slice o1 n1 k1, .slice o2 n2 k2, .slice o3 n3 k3] 28)).alloc (.cells #[.slice o4 n4 k4, .slice o5 n5 k5, .slice o6 n6 k6] 28)) := Hd (by rw [hW1, hW0])
 have HJ := Hd (joinFits_any a b _ _ _ _ _ _ W1 (h.below hbbL) (g.below hbbL) hsa hsb (hG.below hbbL));obtain ⟨⟨x0_0, x0_1, x0_2⟩, ⟨x1_0, x1_1, x1_2⟩⟩ := HC.out W1 brf;clear hbbL hW0 hs0 hst0 hW1 hs1 hst1 hx0_0 hx0_1 hx1_1 h hn1 hn2 hn3 g hn4 hn5 hn6 hbb0 hbb1 hG hsa hsb;obtain ⟨E, hE0⟩ : ∃ E, E = joinE a b := ⟨_, rfl⟩;rw [← hE0] at HJ;have HE0 := Hd hE0;clear hE0;obtain ⟨r, hr⟩ : ∃ r, r = fitsB a b := ⟨_, rfl⟩;rw [← hr] at HJ;have HR := Hd hr;clear hr
 go_enter Tryz.func20, Tryz.ntmps20
 go_wp2_with fail
 rw [← HW.out]
 go_wp2_with fail
 refine HJ.out.mono ?_;rintro e w5 ⟨rfl, hb5⟩;have HBF := Hd (btr HB.out hb5);clear hb5 HJ
 cases r <;> cases want
 all_goals (go_wp2_with fail; go_ret; exact ⟨by rw [← HR.out, ← HE0.out]; rfl, HBF.out⟩)
end Go.Proofs.YtemfaojmelljpaaGreatDoor

