/- The reference's Put. -/
import Derived.Test.YtjlhdgmcaiiagaaGreatDoorR9x
namespace Go.Proofs.YtjlhdgmcaiiagaaGreatDoor
open Go.RowKit Go.Maps

def refPutE (l : List ItemD) (x : ItemD) : Int := if (dropN l x.name).any (fun y => meetB y x) then 11 else 0
def refPut (l : List ItemD) (x : ItemD) : List ItemD := if (dropN l x.name).any (fun y => meetB y x) then [] else putI l x
set_option linter.unusedSimpArgs false in
set_option maxRecDepth 100000 in
set_option maxHeartbeats 8000000 in
theorem r9Put_any (l : List ItemD) (x : ItemD) (v mv : Value) (w : World) (h : Arr ItemR 2 w v l) (hm : Arr MarkR 4 w mv x.marks) (hs : x.name.size ≤ maxLen) (hl : l.length ≤ 100000) : Calls Tryz.prog 24 #[v, .agg #[.string x.name, mv]] w fun e w' => ∃ v', e = .returned (.tuple #[v', .int .i64 (refPutE l x)]) ∧ Arr ItemR 2 w' v' (refPut l x) ∧ Below w.heap.size w w' := by
  obtain ⟨mo, mc, rfl, -⟩ := id hm
  obtain ⟨W1, hW1⟩ : ∃ W1, W1 = w.alloc (.cells #[.string x.name, .slice mo x.marks.length mc] 31) := ⟨_, rfl⟩
  have hb1 : Below w.heap.size w W1 := by rw [hW1]; exact (Below.refl _ _).alloc (Nat.le_refl _) _
  have hg1 : W1.heap[w.heap.size]? = some (.cells #[.string x.name, .slice mo x.marks.length mc] 31) := by rw [hW1]; exact alloc_new _ _
  have HC : Hid (∀ wz, Below W1.heap.size W1 wz → (wz.cell? ⟨w.heap.size, 0, none⟩ = some (.string x.name) ∧ wz.cell? ⟨w.heap.size, 1, none⟩ = some (.slice mo x.marks.length mc))) := Lib.hid (fun wz hz => ⟨by rw [hz.cell (p := ⟨w.heap.size, 0, none⟩) (lt_of_heap hg1), cell0 hg1 0]; rfl, by rw [hz.cell (p := ⟨w.heap.size, 1, none⟩) (lt_of_heap hg1), cell0 hg1 1]; rfl⟩)
  have HREM := Lib.hid (r9Remove_any l x.name v W1 (h.items hb1) hl)
  have hdl : (dropN l x.name).length ≤ 100000 := Nat.le_trans (List.length_filter_le _ _) hl
  have HPE : Hid (∀ r, r = (dropN l x.name).any (fun y => meetB y x) → refPutE l x = (if r then 11 else 0) ∧ refPut l x = (if r then [] else insI (dropN l x.name) x)) := Lib.hid (fun r hr => by rw [hr]; exact ⟨rfl, rfl⟩)
  obtain ⟨m, hmm⟩ : ∃ m, m = dropN l x.name := ⟨_, rfl⟩
  rw [← hmm] at HREM HPE hdl
  have HB1 := Lib.hid hb1
  have HM := Lib.hid hm
  have HW := Lib.hid hW1
  clear h hm hg1 hb1 hW1 hmm hl
  obtain ⟨c0, c1⟩ := HC.out W1 (Below.refl _ _)
  go_enter Tryz.func24, Tryz.ntmps24
  go_wp2_with fail
  rw [← HW.out]
  go_wp2_with fail
  refine HREM.out.mono ?_
  rintro e w2 ⟨v2, rfl, ha2, hb2⟩
  have HB2 := Lib.hid hb2
  have HBW2 := Lib.hid (HB1.out.trans (hb2.mono HB1.out.size))
  have HA2 := Lib.hid ha2
  have hn := ha2.len
  obtain ⟨o, c, rfl, hel⟩ := ha2.itemAt
  have HEL := Lib.hid hel
  clear hel ha2 hb2 c0 c1 HREM
  go_wp2_with fail
  go_loopw [6] (fun i wr => ∃ k : Nat, k ≤ m.length ∧ i = .int .i64 k ∧ (m.take k).any (fun y => meetB y x) = false ∧ Below w2.heap.size w2 wr) (fun i _ => m.length - (intOf i).toNat)
  case atStart => exact ⟨0, Nat.zero_le _, rfl, rfl, Below.refl _ _⟩
  case round =>
    obtain ⟨k, hk, rfl, hall, hB⟩ := hrel
    have HALL := Lib.hid hall
    have HB := Lib.hid hB
    have HBW := Lib.hid (HBW2.out.trans (hB.mono HBW2.out.size))
    clear hall hB
    by_cases hlt : k < m.length
    · obtain ⟨b, off, yv, rfl, hbl, e0, e1, -, hmk⟩ := HEL.out k hlt
      obtain ⟨yo, yc, rfl, -⟩ := id hmk
      have HS : Hid (∀ wz, Below wr.heap.size wr wz → (wz.cell? ⟨b, off + k * 2, none⟩ = some (.string m[k].name) ∧ wz.cell? ⟨b, off + k * 2 + 1, none⟩ = some (.slice yo m[k].marks.length yc)) ∧ (wz.cell? ⟨w.heap.size, 0, none⟩ = some (.string x.name) ∧ wz.cell? ⟨w.heap.size, 1, none⟩ = some (.slice mo x.marks.length mc))) := Lib.hid (fun wz hz => by
        have h5 := HB.out.trans (hz.mono HB.out.size)
        exact ⟨⟨by rw [h5.cell (p := ⟨_, _, _⟩) hbl]; exact e0, by rw [h5.cell (p := ⟨_, _, _⟩) hbl]; exact e1⟩, HC.out wz (HB2.out.trans (h5.mono HB2.out.size))⟩)
      have HMT : Hid (Calls Tryz.prog 50 #[.agg #[.string m[k].name, .slice yo m[k].marks.length yc], .agg #[.string x.name, .slice mo x.marks.length mc]] wr.drew fun e w' => e = .returned (.bool (meetB m[k] x)) ∧ Below wr.heap.size wr w') := Lib.hid ((r9Meet_any m[k] x _ _ wr.drew ((hmk.marks HB.out).marks (below_drew1 (Below.refl _ _))) ((HM.out.marks HBW.out).marks (below_drew1 (Below.refl _ _)))).mono (fun _ _ ⟨a1, a2⟩ => ⟨a1, (below_drew1 (Below.refl _ _)).trans a2⟩))
      have HST := Lib.hid (any_take_snoc (fun y => meetB y x) m k hlt)
      have HBAD : Hid (meetB m[k] x = true → true = m.any (fun y => meetB y x)) := Lib.hid (fun h => (List.any_eq_true.2 ⟨_, List.getElem_mem hlt, h⟩).symm)
      obtain ⟨r, hr⟩ : ∃ r, r = meetB m[k] x := ⟨_, rfl⟩
      have HST2 : Hid ((m.take (k + 1)).any (fun y => meetB y x) = ((m.take k).any (fun y => meetB y x) || r)) := Lib.hid (by rw [hr]; exact HST.out)
      rw [← hr] at HMT HBAD
      clear hr HST
      generalize m[k].name = nm at *
      generalize m[k].marks.length = yl at *
      have a0 : (0 : Int) ≤ k := by omega
      have a1 : (k : Int) < m.length := by omega
      have hkw : IntKind.i64.wrap ((k : Int) + 1) = (k : Int) + 1 := by rw [IntKind.wrap_i64]; omega
      clear e0 e1 hmk
      cases r with
      | true =>
        obtain ⟨p1, p2⟩ := HPE.out true (HBAD.out rfl)
        have HP1 := Lib.hid p1
        have HP2 := Lib.hid p2
        clear p1 p2 HPE HBAD HST2
        go_upto_region 5 with fail
        refine NQ.to ?_
        refine wp_region_held_drew (S := (fun wz => (wz.cell? ⟨b, off + k * 2, none⟩ = some (.string nm) ∧ wz.cell? ⟨b, off + k * 2 + 1, none⟩ = some (.slice yo yl yc)) ∧ (wz.cell? ⟨w.heap.size, 0, none⟩ = some (.string x.name) ∧ wz.cell? ⟨w.heap.size, 1, none⟩ = some (.slice mo x.marks.length mc)))) (by kernel_rfl) (HS.out _ (below_drew1 (Below.refl _ _))) (fun hS => ?_)
        try simp only [Act.put, List.setIfInBounds_toArray, List.set_cons_succ, List.set_cons_zero, List.getElem_toArray, List.getElem_cons_succ, List.getElem_cons_zero]
        refine wpAnyH_take (i := 0) (v := ?v1) rfl (by decide +kernel) (by decide +kernel) (by decide +kernel) (fun _ _ _ h => h) (Or.inl ⟨by kernel_rfl, fun w hSw => ?h1⟩) hS ?_; (case h1 => (refine ok_of (fun z hz => ?_); go_simp; exact hz))
        try simp only [Act.put, List.setIfInBounds_toArray, List.set_cons_succ, List.set_cons_zero, List.getElem_toArray, List.getElem_cons_succ, List.getElem_cons_zero]
        refine wpAnyH_take (i := 1) (v := ?v2) rfl (by decide +kernel) (by decide +kernel) (by decide +kernel) (fun _ _ _ h => h) (Or.inl ⟨by kernel_rfl, fun w hSw => ?h2⟩) hS ?_; (case h2 => (refine ok_of (fun z hz => ?_); go_simp; exact hz))
        try simp only [Act.put, List.setIfInBounds_toArray, List.set_cons_succ, List.set_cons_zero, List.getElem_toArray, List.getElem_cons_succ, List.getElem_cons_zero]
        refine wpAnyH_take (i := 2) (v := ?v3) rfl (by decide +kernel) (by decide +kernel) (by decide +kernel) (fun _ _ _ h => h) (Or.inl ⟨by kernel_rfl, fun w hSw => ?h3⟩) hS ?_; (case h3 => (refine ok_of (fun z hz => ?_); go_simp; exact hz))
        try simp only [Act.put, List.setIfInBounds_toArray, List.set_cons_succ, List.set_cons_zero, List.getElem_toArray, List.getElem_cons_succ, List.getElem_cons_zero]
        refine wpAnyH_take (i := 3) (v := ?v4) rfl (by decide +kernel) (by decide +kernel) (by decide +kernel) (fun _ _ _ h => h) (Or.inl ⟨by kernel_rfl, fun w hSw => ?h4⟩) hS ?_; (case h4 => (refine ok_of (fun z hz => ?_); obtain ⟨⟨f1, f2⟩, f3, f4⟩ := hSw; go_simp; exact hz))
        try simp only [Act.put, List.setIfInBounds_toArray, List.set_cons_succ, List.set_cons_zero, List.getElem_toArray, List.getElem_cons_succ, List.getElem_cons_zero]
        refine wpAnyH_take (i := 4) (v := ?v5) rfl (by decide +kernel) (by decide +kernel) (by decide +kernel) (fun _ _ _ h => h) (Or.inl ⟨by kernel_rfl, fun w hSw => ?h5⟩) hS ?_; (case h5 => (refine ok_of (fun z hz => ?_); obtain ⟨⟨f1, f2⟩, f3, f4⟩ := hSw; go_simp; exact hz))
        try simp only [Act.put, List.setIfInBounds_toArray, List.set_cons_succ, List.set_cons_zero, List.getElem_toArray, List.getElem_cons_succ, List.getElem_cons_zero]
        refine wpAnyH_ready (rs := [5]) (by decide +kernel) (by simp) ?_
        refine (AllReadyH.cons rfl (fun K hK => ?_) AllReadyH.nil)
        go_simp
        go_at_call 50
        refine HMT.out.mono ?_
        rintro e w3 ⟨rfl, hb3⟩
        go_simp
        refine Shut.out hK _ _ (HS.out w3 hb3) (fun hS2 => ?_)
        clear hK K hS
        have hS := hS2
        clear hS2
        try simp only [Act.put, List.setIfInBounds_toArray, List.set_cons_succ, List.set_cons_zero, List.getElem_toArray, List.getElem_cons_succ, List.getElem_cons_zero]
        refine wpAnyH_done (by kernel_rfl) ?_ _
        try simp only [Act.put, List.setIfInBounds_toArray, List.set_cons_succ, List.set_cons_zero, List.getElem_toArray, List.getElem_cons_succ, List.getElem_cons_zero]
        simp only [NQ]
        have hbf := HBW.out.trans (hb3.mono HBW.out.size)
        clear hS hb3
        go_wp2_with fail
        go_ret2
        exact ⟨_, by rw [HP1.out]; rfl, by rw [HP2.out]; exact ⟨none, 0, rfl, Nat.le_refl _, Nat.zero_le _, fun i hi => absurd hi (Nat.not_lt_zero i)⟩, hbf⟩
      | false =>
        have HF : Hid ((m.take (k + 1)).any (fun y => meetB y x) = false) := Lib.hid (by rw [HST2.out, HALL.out]; rfl)
        clear HST2 HBAD
        go_upto_region 5 with fail
        refine NQ.to ?_
        refine wp_region_held_drew (S := (fun wz => (wz.cell? ⟨b, off + k * 2, none⟩ = some (.string nm) ∧ wz.cell? ⟨b, off + k * 2 + 1, none⟩ = some (.slice yo yl yc)) ∧ (wz.cell? ⟨w.heap.size, 0, none⟩ = some (.string x.name) ∧ wz.cell? ⟨w.heap.size, 1, none⟩ = some (.slice mo x.marks.length mc)))) (by kernel_rfl) (HS.out _ (below_drew1 (Below.refl _ _))) (fun hS => ?_)
        try simp only [Act.put, List.setIfInBounds_toArray, List.set_cons_succ, List.set_cons_zero, List.getElem_toArray, List.getElem_cons_succ, List.getElem_cons_zero]
        refine wpAnyH_take (i := 0) (v := ?v6) rfl (by decide +kernel) (by decide +kernel) (by decide +kernel) (fun _ _ _ h => h) (Or.inl ⟨by kernel_rfl, fun w hSw => ?h6⟩) hS ?_; (case h6 => (refine ok_of (fun z hz => ?_); go_simp; exact hz))
        try simp only [Act.put, List.setIfInBounds_toArray, List.set_cons_succ, List.set_cons_zero, List.getElem_toArray, List.getElem_cons_succ, List.getElem_cons_zero]
        refine wpAnyH_take (i := 1) (v := ?v7) rfl (by decide +kernel) (by decide +kernel) (by decide +kernel) (fun _ _ _ h => h) (Or.inl ⟨by kernel_rfl, fun w hSw => ?h7⟩) hS ?_; (case h7 => (refine ok_of (fun z hz => ?_); go_simp; exact hz))
        try simp only [Act.put, List.setIfInBounds_toArray, List.set_cons_succ, List.set_cons_zero, List.getElem_toArray, List.getElem_cons_succ, List.getElem_cons_zero]
        refine wpAnyH_take (i := 2) (v := ?v8) rfl (by decide +kernel) (by decide +kernel) (by decide +kernel) (fun _ _ _ h => h) (Or.inl ⟨by kernel_rfl, fun w hSw => ?h8⟩) hS ?_; (case h8 => (refine ok_of (fun z hz => ?_); go_simp; exact hz))
        try simp only [Act.put, List.setIfInBounds_toArray, List.set_cons_succ, List.set_cons_zero, List.getElem_toArray, List.getElem_cons_succ, List.getElem_cons_zero]
        refine wpAnyH_take (i := 3) (v := ?v9) rfl (by decide +kernel) (by decide +kernel) (by decide +kernel) (fun _ _ _ h => h) (Or.inl ⟨by kernel_rfl, fun w hSw => ?h9⟩) hS ?_; (case h9 => (refine ok_of (fun z hz => ?_); obtain ⟨⟨f1, f2⟩, f3, f4⟩ := hSw; go_simp; exact hz))
        try simp only [Act.put, List.setIfInBounds_toArray, List.set_cons_succ, List.set_cons_zero, List.getElem_toArray, List.getElem_cons_succ, List.getElem_cons_zero]
        refine wpAnyH_take (i := 4) (v := ?v10) rfl (by decide +kernel) (by decide +kernel) (by decide +kernel) (fun _ _ _ h => h) (Or.inl ⟨by kernel_rfl, fun w hSw => ?h10⟩) hS ?_; (case h10 => (refine ok_of (fun z hz => ?_); obtain ⟨⟨f1, f2⟩, f3, f4⟩ := hSw; go_simp; exact hz))
        try simp only [Act.put, List.setIfInBounds_toArray, List.set_cons_succ, List.set_cons_zero, List.getElem_toArray, List.getElem_cons_succ, List.getElem_cons_zero]
        refine wpAnyH_ready (rs := [5]) (by decide +kernel) (by simp) ?_
        refine (AllReadyH.cons rfl (fun K hK => ?_) AllReadyH.nil)
        go_simp
        go_at_call 50
        refine HMT.out.mono ?_
        rintro e w3 ⟨rfl, hb3⟩
        go_simp
        refine Shut.out hK _ _ (HS.out w3 hb3) (fun hS2 => ?_)
        clear hK K hS
        have hS := hS2
        clear hS2
        try simp only [Act.put, List.setIfInBounds_toArray, List.set_cons_succ, List.set_cons_zero, List.getElem_toArray, List.getElem_cons_succ, List.getElem_cons_zero]
        refine wpAnyH_done (by kernel_rfl) ?_ _
        try simp only [Act.put, List.setIfInBounds_toArray, List.set_cons_succ, List.set_cons_zero, List.getElem_toArray, List.getElem_cons_succ, List.getElem_cons_zero]
        simp only [NQ]
        have hbf := HB.out.trans (hb3.mono HB.out.size)
        clear hb3 hS
        go_wp2_with fail
        go_roundw
        case rel => exact ⟨k + 1, by omega, by go_num, HF.out, hbf⟩
        case measure => simp [intOf]; omega
    · have hke : k = m.length := by omega
      obtain ⟨p1, p2⟩ := HPE.out false (by have := HALL.out; rw [hke, List.take_length] at this; exact this.symm)
      have HP1 := Lib.hid p1
      have HP2 := Lib.hid p2
      obtain ⟨c0, c1⟩ := HC.out wr (HB2.out.trans (HB.out.mono HB2.out.size))
      have HWI := Lib.hid (r9With_any m x _ _ wr (HA2.out.items HB.out) (HM.out.marks HBW.out) hs hdl)
      clear p1 p2 HPE HALL
      go_wp2_with fail
      refine HWI.out.mono ?_
      rintro e w4 ⟨v4, rfl, ha4, hb4⟩
      have HA4 := Lib.hid ha4
      have HB4 := Lib.hid (HBW.out.trans (hb4.mono HBW.out.size))
      clear ha4 hb4 c0 c1
      go_wp2_with fail
      go_ret2
      exact ⟨_, by rw [HP1.out]; rfl, by rw [HP2.out]; exact HA4.out, HB4.out⟩
end Go.Proofs.YtjlhdgmcaiiagaaGreatDoor

