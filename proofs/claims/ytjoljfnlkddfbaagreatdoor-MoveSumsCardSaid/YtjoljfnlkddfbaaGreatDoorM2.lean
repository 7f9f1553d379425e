/- Reference 22: Qty, Many; qty.Sum; move.Sum. -/
import Derived.Test.YtjoljfnlkddfbaaGreatDoorM1
import Derived.Test.YtjoljfnlkddfbaaGreatDoorD10
import Derived.Test.YtjoljfnlkddfbaaGreatDoorE2
set_option linter.unusedSimpArgs false
set_option linter.unusedVariables false
set_option maxRecDepth 100000
set_option maxHeartbeats 16000000
namespace Go.Proofs.YtjoljfnlkddfbaaGreatDoor
open Go.RowKit Go.Maps Go.Sort Go.Shelf

theorem thereB_snoc {L : List ItemD} {k : Nat} (h : k < L.length) (nm : ByteArray) : thereB (L.take (k + 1)) nm = (thereB (L.take k) nm || decide (L[k].name = nm)) := by
 unfold thereB
 rw [List.take_succ_eq_append_getElem h, List.any_append]
 simp
theorem r22Qty_any (c : CartD) (nm : ByteArray) (v1 v2 v3 : Value) (w : World) (h : CartA w v1 v2 v3 c) (hv : validC c = true) :
  Calls Tryz.prog 15 #[.agg #[v1, v2, v3], .string nm] w fun e w' => e = .returned (.int .i64 (qtyC c nm)) ∧ Below w.heap.size w w' := by
 have HVI : Hid (∀ x ∈ c.items, oneI x = true) := Hd (validI_parts (validC_parts hv).2.1).1
 have HQ1 : Hid (thereB c.items nm = false → qtyC c nm = 0) := Hd qtyC_none
 have HQ2 : Hid (∀ x ∈ c.items, x.name = nm → qtyC c nm = (newestM x.marks).qty) := Hd (fun x hx e => by
  subst e
  rw [(qtyC_mem hv hx).1]
  unfold qtyI
  rw [if_pos ((validI_parts (validC_parts hv).2.1).1 x hx)])
 obtain ⟨o1, n1, k1, o2, n2, k2, o3, n3, k3, rfl, rfl, rfl, hn3, hml, hA, hel⟩ := cartAt h
 obtain ⟨W0, HW, HB, HS, HK0⟩ := box1 w #[.slice o1 n1 k1, .slice o2 n2 k2, .slice o3 n3 k3] 28
 have HC := Hd (fun wz (hz : Below W0.heap.size W0 wz) => cel3 (HK0.out wz hz))
 have HIA := Hd hel
 have HN3 := Hd hn3
 clear hel hA h hn3 hv
 obtain ⟨c0, c1, c2⟩ := HC.out W0 brf
 generalize qtyC c nm = Q at *
 generalize c.items = L at *
 go_enter Tryz.func15, Tryz.ntmps15
 go_wp2_with fail
 rw [← HW.out]
 go_loopw [5] (fun i wr => ∃ k : Nat, k ≤ n3 ∧ i = .int .i64 k ∧ thereB (L.take k) nm = false ∧ Below W0.heap.size W0 wr) (fun i _ => n3 - (intOf i).toNat)
 case atStart => exact ⟨0, Nat.zero_le _, rfl, rfl, Below.refl _ _⟩
 case round =>
  obtain ⟨k, hk, rfl, hno, hB0⟩ := hrel
  have HB0 := Hd hB0
  have HBF := Hd (btr HB.out hB0)
  have HNO := Hd hno
  clear hB0 hno c0 c1 c2
  obtain ⟨c0, c1, c2⟩ := HC.out wr HB0.out
  by_cases hlt : k < n3
  rotate_left
  ·have hke : k = n3 := by omega
   have HF : Hid (Q = 0) := Hd (HQ1.out (by have := HNO.out; rw [hke, HN3.out, List.take_length] at this; exact this))
   have a1 : ¬ (k : Int) < (n3 : Int) := by omega
   clear HNO HQ1 HQ2
   go_wp2_with fail
   go_ret
   exact ⟨by rw [HF.out]; rfl, HBF.out⟩
  ·have hlt' : k < L.length := by rw [← HN3.out]; exact hlt
   obtain ⟨b, off, om, cm, rfl, hbl, e0, e1, hns, hmk⟩ := HIA.out k hlt'
   have f0 : wr.cell? ⟨b, off + k * 2, none⟩ = some (.string L[k].name) := by rw [HBF.out.cell (p := ⟨_, _, _⟩) hbl]; exact e0
   have f1 : wr.cell? ⟨b, off + k * 2 + 1, none⟩ = some (.slice om L[k].marks.length cm) := by rw [HBF.out.cell (p := ⟨_, _, _⟩) hbl]; exact e1
   have HST := Hd (thereB_snoc hlt' nm)
   have hone := oneI_marks (HVI.out _ (List.getElem_mem hlt'))
   have HNW := Hd (r22Newest_any L[k].marks _ wr (hmk.marks HBF.out) hone.1 hone.2)
   have HQK := Hd (HQ2.out _ (List.getElem_mem hlt'))
   have hse := strDec L[k].name nm
   clear e0 e1 hmk hone hns
   generalize L[k] = x at *
   have a0 : (0 : Int) ≤ k := by omega
   have a1 : (k : Int) < n3 := by omega
   have hkw := wr1 k (by omega)
   by_cases hnm : x.name = nm
   ·rw [decide_eq_true hnm] at hse
    have HF := Hd (HQK.out hnm)
    clear HST HNO HQ1 HQ2 HQK hnm
    go_wp2_with fail
    refine HNW.out.mono ?_
    rintro e w2 ⟨rfl, hb2⟩
    have HB2 := Hd (btr HBF.out hb2)
    clear hb2 HNW f0 f1 c0 c1 c2
    go_wp2_with fail
    go_ret
    exact ⟨by rw [HF.out]; rfl, HB2.out⟩
   ·rw [decide_eq_false hnm] at hse
    have HF : Hid (thereB (L.take (k + 1)) nm = false) := Hd (by rw [HST.out, HNO.out, decide_eq_false hnm]; rfl)
    clear HST HNO HQ1 HQ2 HQK hnm HNW
    go_wp2_with fail
    go_roundw
    case rel => exact ⟨k + 1, by omega, by go_num, HF.out, HB0.out⟩
    case measure => simp [intOf]; omega
def manyK (a b : CartD) (k : Nat) : Nat := b.items.length + ((a.items.take k).filter (fun x => !thereB b.items x.name)).length
theorem manyK_snoc {a b : CartD} {k : Nat} (h : k < a.items.length) : manyK a b (k + 1) = manyK a b k + (if thereB b.items a.items[k].name then 0 else 1) := by
 unfold manyK
 rw [List.take_succ_eq_append_getElem h, List.filter_append, List.length_append]
 cases hb : thereB b.items a.items[k].name with
 | true => rw [List.filter_cons_of_neg (by simp [hb])]; simp
 | false => rw [List.filter_cons_of_pos (by simp [hb])]; simp; omega
theorem r22Many_any (a b : CartD) (v1 v2 v3 u1 u2 u3 : Value) (w : World) (h : CartA w v1 v2 v3 a) (g : CartA w u1 u2 u3 b) (hva : validC a = true) (hvb : validC b = true) (hla : a.items.length ≤ 100000) (hlb : b.items.length ≤ 100000) :
  Calls Tryz.prog 12 #[.agg #[v1, v2, v3], .agg #[u1, u2, u3]] w fun e w' => e = .returned (.int .i64 (manyN a b)) ∧ Below w.heap.size w w' := by
 obtain ⟨o1, n1, k1, o2, n2, k2, o3, n3, k3, rfl, rfl, rfl, hn3, hml, hA, hel⟩ := cartAt h
 obtain ⟨o4, n4, k4, o5, n5, k5, o6, n6, k6, rfl, rfl, rfl, hn4, hn5, hn6⟩ := opn4 g
 have hml6 : n6 ≤ 100000 := by rw [hn6]; exact hlb
 have hml3 : n3 ≤ 100000 := by rw [hn3]; exact hla
 obtain ⟨W1, HW, HB, HS, HK0, HK1⟩ := box2 w #[.slice o1 n1 k1, .slice o2 n2 k2, .slice o3 n3 k3] 28 #[.slice o4 n4 k4, .slice o5 n5 k5, .slice o6 n6 k6] 28
 have HC := Hd (fun wz (hz : Below W1.heap.size W1 wz) => And.intro (cel3 (HK0.out wz hz)) (cel3 (HK1.out wz hz)))
 have HIA := Hd hel
 have HN3 := Hd hn3
 have HBW := Hd HB.out
 have HQT := Hd (fun (nm : ByteArray) wz (hz : Below W1.heap.size W1 wz) => r22Qty_any b nm _ _ _ wz (g.below (btr HB.out hz)) hvb)
 have HQZ : Hid (∀ nm, qtyC b nm = 0 ↔ thereB b.items nm = false) := Hd (fun nm => qtyC_zero hvb)
 have HSN : Hid (∀ k (h : k < a.items.length), manyK a b (k + 1) = manyK a b k + (if thereB b.items a.items[k].name then 0 else 1)) := Hd (fun k hk => manyK_snoc hk)
 have HM0 : Hid (manyK a b 0 = n6) := Hd (by unfold manyK; rw [hn6]; simp)
 have HMN : Hid (manyK a b a.items.length = manyN a b) := Hd (by unfold manyK manyN; rw [List.take_length])
 have HMB : Hid (∀ k, manyK a b k ≤ n6 + k) := Hd (fun k => by
  unfold manyK
  have h1 := List.length_filter_le (fun x : ItemD => !thereB b.items x.name) (a.items.take k)
  have h2 := List.length_take_le k a.items
  omega)
 have hsz := HS.out
 clear hel hA h g hn3 hn4 hn5 hn6 hva hvb HB HS hla hlb
 generalize manyN a b = M at *
 generalize manyK a b = mk at *
 generalize a.items = L at *
 obtain ⟨⟨x0, x1, x2⟩, x3, x4, x5⟩ := HC.out W1 brf
 go_enter Tryz.func12, Tryz.ntmps12
 go_wp2_with fail
 rw [← HW.out]
 go_loopw [5, 6] (fun c i wr => ∃ k : Nat, k ≤ n3 ∧ i = .int .i64 k ∧ c = .int .i64 (mk k) ∧ Below W1.heap.size W1 wr) (fun _ i _ => n3 - (intOf i).toNat)
 case atStart => exact ⟨0, Nat.zero_le _, rfl, by rw [HM0.out], Below.refl _ _⟩
 case round =>
  obtain ⟨k, hk, rfl, rfl, hB0⟩ := hrel
  have HB0 := Hd hB0
  have HBF := Hd (btr HBW.out hB0)
  clear hB0 x0 x1 x2 x3 x4 x5
  obtain ⟨⟨x0, x1, x2⟩, x3, x4, x5⟩ := HC.out wr HB0.out
  by_cases hlt : k < n3
  rotate_left
  ·have hke : k = n3 := by omega
   have HF : Hid (mk k = M) := Hd (by rw [hke, HN3.out]; exact HMN.out)
   have a1 : ¬ (k : Int) < (n3 : Int) := by omega
   clear hke
   go_wp2_with fail
   go_ret
   exact ⟨by rw [HF.out]; rfl, HBF.out⟩
  ·have hlt' : k < L.length := by rw [← HN3.out]; exact hlt
   obtain ⟨ba, off, om, cm, rfl, hbl, e0, e1, hns, hmk⟩ := HIA.out k hlt'
   have HSS : Hid (∀ wz, Below wr.heap.size wr wz → ((wz.cell? ⟨w.heap.size, 2, none⟩ = some (.slice (some ⟨ba, off, none⟩) n3 k3)) ∧ (wz.cell? ⟨w.heap.size + 1, 0, none⟩ = some (.slice o4 n4 k4) ∧ wz.cell? ⟨w.heap.size + 1, 1, none⟩ = some (.slice o5 n5 k5) ∧ wz.cell? ⟨w.heap.size + 1, 2, none⟩ = some (.slice o6 n6 k6))) ∧ wz.cell? ⟨ba, off + k * 2, none⟩ = some (.string L[k].name)) := Hd (fun wz hz => by
    have h1 := btr HB0.out hz
    obtain ⟨⟨-, -, y2⟩, y3⟩ := HC.out wz h1
    exact ⟨⟨y2, y3⟩, by rw [(btr HBW.out h1).cell (p := ⟨_, _, _⟩) hbl]; exact e0⟩)
   have HSK := Hd (HSN.out k hlt')
   have HQ := Hd (HQT.out L[k].name wr.drew (btr HB0.out (show Below wr.heap.size wr wr.drew from bdr)))
   have HZ := Hd (HQZ.out L[k].name)
   clear e0 e1 hmk hns
   generalize L[k].name = nx at *
   have a0 : (0 : Int) ≤ k := by omega
   have a1 : (k : Int) < n3 := by omega
   have hkw := wr1 k (by omega)
   have hmw := wr1 (mk k) (by have := HMB.out k; omega)
   go_upto_region 5 with fail
   refine NQ.to ?_
   refine wp_region_held_drew (S := (fun wz => ((wz.cell? ⟨w.heap.size, 2, none⟩ = some (.slice (some ⟨ba, off, none⟩) n3 k3)) ∧ (wz.cell? ⟨w.heap.size + 1, 0, none⟩ = some (.slice o4 n4 k4) ∧ wz.cell? ⟨w.heap.size + 1, 1, none⟩ = some (.slice o5 n5 k5) ∧ wz.cell? ⟨w.heap.size + 1, 2, none⟩ = some (.slice o6 n6 k6))) ∧ wz.cell? ⟨ba, off + k * 2, none⟩ = some (.string nx))) (by kernel_rfl) (HSS.out _ bdr) (fun hS => ?_)
   refine tkR (n := 7) [0, 1, 2, 3, 4, 5, 6] rfl (by decide +kernel) hS ?_
   iterate 7 ((try simp only [Act.put, s1, s2, s3, s4, s5, s6]); refine ⟨_, ?_, rfl, Or.inl ⟨by kernel_rfl, fun w hSw => ok_of fun z hz => ?_⟩, ?_⟩; rotate_left; · (obtain ⟨⟨f0, f1, f2, f3⟩, f4⟩ := hSw; go_simp; exact hz))
   refine RunOK.done ?_
   try simp only [Act.put, s1, s2, s3, s4, s5, s6]
   refine rd1 7 (by decide +kernel) rfl (fun K hK => ?_)
   go_simp
   go_at_call 15
   refine HQ.out.mono ?_
   rintro e w7 ⟨rfl, hb7⟩
   have hb7 := btr (show Below wr.heap.size wr wr.drew from bdr) hb7
   go_simp
   refine Shut.out hK _ _ (HSS.out _ hb7) (fun hS2 => ?_); clear hK K hS; have hS := hS2; clear hS2
   try simp only [Act.put, s1, s2, s3, s4, s5, s6]
   refine tkR (n := 1) [8] rfl (by decide +kernel) hS ?_
   iterate 1 ((try simp only [Act.put, s1, s2, s3, s4, s5, s6]); refine ⟨_, ?_, rfl, Or.inl ⟨by kernel_rfl, fun w hSw => ok_of fun z hz => ?_⟩, ?_⟩; rotate_left; · (obtain ⟨⟨f0, f1, f2, f3⟩, f4⟩ := hSw; go_simp; exact hz))
   refine RunOK.done ?_
   try simp only [Act.put, s1, s2, s3, s4, s5, s6]
   refine wpAnyH_done (by kernel_rfl) ?_ _
   try simp only [Act.put, s1, s2, s3, s4, s5, s6]
   simp only [NQ]
   have HB7 := Hd (btr HB0.out hb7)
   clear hb7 hS HSS HQ
   cases hth : thereB b.items nx with
   | true =>
    rw [hth] at HSK
    have HF : Hid (mk (k + 1) = mk k) := HSK
    have hq0 : (qtyC b nx == 0) = false := by
     rw [beq_eq_false_iff_ne]
     intro e
     rw [HZ.out.1 e] at hth
     cases hth
    clear HSK HZ hth
    go_wp2_with fail
    go_roundw
    case rel => exact ⟨k + 1, by omega, by go_num, by rw [HF.out], HB7.out⟩
    case measure => simp [intOf]; omega
   | false =>
    rw [hth] at HSK
    have HF : Hid (mk (k + 1) = mk k + 1) := HSK
    have hq0 : (qtyC b nx == 0) = true := by
     rw [beq_iff_eq]
     exact HZ.out.2 hth
    clear HSK HZ hth
    go_wp2_with fail
    go_roundw
    case rel => exact ⟨k + 1, by omega, by go_num, by rw [HF.out]; go_num, HB7.out⟩
    case measure => simp [intOf]; omega
end Go.Proofs.YtjoljfnlkddfbaaGreatDoor
