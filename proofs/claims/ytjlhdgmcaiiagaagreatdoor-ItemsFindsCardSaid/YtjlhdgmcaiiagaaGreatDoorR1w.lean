/- The reference's With of dots. -/
import Derived.Test.YtjlhdgmcaiiagaaGreatDoorR9x
namespace Go.Proofs.YtjlhdgmcaiiagaaGreatDoor
open Go.RowKit Go.Maps

set_option linter.unusedSimpArgs false in
set_option maxRecDepth 100000 in
set_option maxHeartbeats 8000000 in
theorem r1With_any (l : List DotD) (d : DotD) (v : Value) (w : World) (h : Arr DotR 2 w v l) (hd : DI d) (hl : l.length ≤ 10000000) : Calls Tryz.prog 70 #[v, dotV d] w fun e w' => ∃ v', e = .returned v' ∧ Arr DotR 2 w' v' (withD l d) ∧ Below w.heap.size w w' := by
  have hn := h.len
  have HLE := Lib.hid hl
  have HEND : Hid (∀ (k : Nat) (v' : Value) (w' : World) (_ : k ≤ l.length) (base : Nat), EDot.Row base w' v' (l.take k ++ [d] ++ l.drop k) → (l.take k).all (fun q => dlt q d) = true → (∀ h : k < l.length, dlt l[k] d = false) → d ∉ l → Arr DotR 2 w' v' (withD l d)) := Lib.hid (fun k v' w' hk base hrow h1 h2 h3 => by
    have h4 : Arr DotR 2 w' v' (l.take k ++ [d] ++ l.drop k) := Arr.of_row (E := EDot) hrow (fun a ha => by
      have hap : a ∈ l ∨ a = d := by
        simp only [List.mem_append, List.mem_singleton] at ha
        rcases ha with (ha | ha) | ha
        · exact Or.inl (List.mem_of_mem_take ha)
        · exact Or.inr ha
        · exact Or.inl (List.mem_of_mem_drop ha)
      rcases hap with ha | rfl
      · exact ⟨rfl, h.dotsI a ha⟩
      · exact ⟨rfl, hd⟩)
    have e : l.take k ++ [d] ++ l.drop k = withD l d := by
      obtain ⟨t1, t2⟩ := takeWhile_at (fun q : DotD => dlt q d) l k hk h1 h2
      unfold withD
      rw [if_neg h3, t1, t2]
      simp
    rw [e] at h4
    exact h4)
  have HA := Lib.hid h
  obtain ⟨o, c, rfl, hel⟩ := h.dotAt
  have HEL := Lib.hid hel
  have hlc : l.length ≤ c := by
    obtain ⟨o', c', he, h2, -⟩ := h
    cases he
    exact h2
  have HLC := Lib.hid hlc
  have HSRC := Lib.hid (h.toSrc (E := EDot) (fun _ _ h => h.1))
  obtain ⟨W1, hW1⟩ : ∃ W1, W1 = w.alloc (.cells #[.int .i64 d.rep, .int .i64 d.ctr] 24) := ⟨_, rfl⟩
  have hb1 : Below w.heap.size w W1 := by rw [hW1]; exact (Below.refl _ _).alloc (Nat.le_refl _) _
  have hg1 : W1.heap[w.heap.size]? = some (.cells #[.int .i64 d.rep, .int .i64 d.ctr] 24) := by rw [hW1]; exact alloc_new _ _
  have HC : Hid (∀ wz, Below W1.heap.size W1 wz → (wz.cell? ⟨w.heap.size, 0, none⟩ = some (.int .i64 d.rep) ∧ wz.cell? ⟨w.heap.size, 1, none⟩ = some (.int .i64 d.ctr))) := Lib.hid (fun wz hz => ⟨by rw [hz.cell (p := ⟨w.heap.size, 0, none⟩) (lt_of_heap hg1), cell0 hg1 0]; rfl, by rw [hz.cell (p := ⟨w.heap.size, 1, none⟩) (lt_of_heap hg1), cell0 hg1 1]; rfl⟩)
  have HB1 := Lib.hid hb1
  have HW := Lib.hid hW1
  obtain ⟨g1, g2⟩ := HC.out W1 (Below.refl _ _)
  have HHAS := Lib.hid (r1Has_any l d _ W1 (h.dots hb1))
  obtain ⟨r, hr⟩ : ∃ r, r = decide (d ∈ l) := ⟨_, rfl⟩
  rw [← hr] at HHAS
  have HR := Lib.hid hr
  clear hel h hg1 hb1 hW1 hd hr
  unfold dotV at HHAS ⊢
  go_enter Tryz.func70, Tryz.ntmps70
  go_wp2_with fail
  rw [← HW.out]
  refine HHAS.out.mono ?_
  rintro e wb ⟨rfl, hbb⟩
  have HBB := Lib.hid hbb
  clear hbb g1 g2 HHAS
  cases r with
  | true =>
    have hf := HA.out.dots (HB1.out.trans (HBB.out.mono HB1.out.size))
    have e : withD l d = l := by unfold withD; rw [if_pos (of_decide_eq_true HR.out.symm)]
    have HF := Lib.hid hf
    clear hf
    go_wp2_with fail
    go_ret
    exact ⟨_, rfl, by rw [e]; exact HF.out, HB1.out.trans (HBB.out.mono HB1.out.size)⟩
  | false =>
    have HND : Hid (d ∉ l) := Lib.hid (of_decide_eq_false HR.out.symm)
    clear HR HA
    have HEND := Lib.hid (fun k v' w' hk base h1 h2 h3 => HEND.out k v' w' hk base h1 h2 h3 HND.out)
    go_wp2_with fail
    go_loopw [5] (fun i wr => ∃ k : Nat, k ≤ l.length ∧ i = .int .i64 k ∧ (l.take k).all (fun q => dlt q d) = true ∧ Below W1.heap.size W1 wr) (fun i _ => l.length - (intOf i).toNat)
    case atStart => exact ⟨0, Nat.zero_le _, rfl, rfl, HBB.out⟩
    case round =>
      obtain ⟨k, hk, rfl, hall, hB⟩ := hrel
      have HALL := Lib.hid hall
      have HB := Lib.hid hB
      clear hall hB
      have a0 : (0 : Int) ≤ k := by omega
      have a3 : (k : Int) ≤ l.length := by omega
      have a4 : (k : Int) ≤ c := by omega
      by_cases hlt : k < l.length
      · obtain ⟨b, off, rfl, hbl, e0, e1⟩ := HEL.out k hlt
        have HS : Hid (∀ wz, Below wr.heap.size wr wz → (wz.cell? ⟨b, off + k * 2, none⟩ = some (.int .i64 l[k].rep) ∧ wz.cell? ⟨b, off + k * 2 + 1, none⟩ = some (.int .i64 l[k].ctr)) ∧ (wz.cell? ⟨w.heap.size, 0, none⟩ = some (.int .i64 d.rep) ∧ wz.cell? ⟨w.heap.size, 1, none⟩ = some (.int .i64 d.ctr))) := Lib.hid (fun wz hz => by
          have h3 := HB.out.trans (hz.mono HB.out.size)
          have h5 := HB1.out.trans (h3.mono HB1.out.size)
          exact ⟨⟨by rw [h5.cell (p := ⟨_, _, _⟩) hbl]; exact e0, by rw [h5.cell (p := ⟨_, _, _⟩) hbl]; exact e1⟩, HC.out wz h3⟩)
        have HBF : Hid (Calls Tryz.prog 91 #[.agg #[.int .i64 l[k].rep, .int .i64 l[k].ctr], .agg #[.int .i64 d.rep, .int .i64 d.ctr]] wr.drew fun e w' => e = .returned (.bool (dlt l[k] d)) ∧ Below wr.heap.size wr w') := Lib.hid ((r1Less_any l[k] d wr.drew).mono (fun _ _ ⟨a1, a2⟩ => ⟨a1, (below_drew1 (Below.refl _ _)).trans a2⟩))
        have HTK := Lib.hid (all_take_snoc (fun q : DotD => dlt q d) l k hlt)
        obtain ⟨r, hr⟩ : ∃ r, r = dlt l[k] d := ⟨_, rfl⟩
        have HR := Lib.hid hr
        rw [← hr] at HBF HTK
        clear hr e0 e1
        obtain ⟨y, hy⟩ : ∃ y, y = l[k] := ⟨_, rfl⟩
        rw [← hy] at HS HBF
        clear hy
        have a1 : (k : Int) < l.length := by omega
        have hkw : IntKind.i64.wrap ((k : Int) + 1) = (k : Int) + 1 := by rw [IntKind.wrap_i64]; omega
        cases r with
        | true =>
          have HF : Hid ((l.take (k + 1)).all (fun q => dlt q d) = true) := Lib.hid (by rw [HTK.out, HALL.out]; rfl)
          clear HTK HR
          go_upto_region 4 with fail
          refine NQ.to ?_
          refine wp_region_held_drew (S := (fun wz => (wz.cell? ⟨b, off + k * 2, none⟩ = some (.int .i64 y.rep) ∧ wz.cell? ⟨b, off + k * 2 + 1, none⟩ = some (.int .i64 y.ctr)) ∧ (wz.cell? ⟨w.heap.size, 0, none⟩ = some (.int .i64 d.rep) ∧ wz.cell? ⟨w.heap.size, 1, none⟩ = some (.int .i64 d.ctr)))) (by kernel_rfl) (HS.out _ (below_drew1 (Below.refl _ _))) (fun hS => ?_)
          try simp only [Act.put, List.setIfInBounds_toArray, List.set_cons_succ, List.set_cons_zero, List.getElem_toArray, List.getElem_cons_succ, List.getElem_cons_zero]
          refine wpAnyH_take (i := 0) (v := ?v1) rfl (by decide +kernel) (by decide +kernel) (by decide +kernel) (fun _ _ _ h => h) (Or.inl ⟨by kernel_rfl, fun w hSw => ?h1⟩) hS ?_; (case h1 => (refine ok_of (fun z hz => ?_); go_simp; exact hz))
          try simp only [Act.put, List.setIfInBounds_toArray, List.set_cons_succ, List.set_cons_zero, List.getElem_toArray, List.getElem_cons_succ, List.getElem_cons_zero]
          refine wpAnyH_take (i := 1) (v := ?v2) rfl (by decide +kernel) (by decide +kernel) (by decide +kernel) (fun _ _ _ h => h) (Or.inl ⟨by kernel_rfl, fun w hSw => ?h2⟩) hS ?_; (case h2 => (refine ok_of (fun z hz => ?_); go_simp; exact hz))
          try simp only [Act.put, List.setIfInBounds_toArray, List.set_cons_succ, List.set_cons_zero, List.getElem_toArray, List.getElem_cons_succ, List.getElem_cons_zero]
          refine wpAnyH_take (i := 2) (v := ?v3) rfl (by decide +kernel) (by decide +kernel) (by decide +kernel) (fun _ _ _ h => h) (Or.inl ⟨by kernel_rfl, fun w hSw => ?h3⟩) hS ?_; (case h3 => (refine ok_of (fun z hz => ?_); go_simp; exact hz))
          try simp only [Act.put, List.setIfInBounds_toArray, List.set_cons_succ, List.set_cons_zero, List.getElem_toArray, List.getElem_cons_succ, List.getElem_cons_zero]
          refine wpAnyH_take (i := 3) (v := ?v4) rfl (by decide +kernel) (by decide +kernel) (by decide +kernel) (fun _ _ _ h => h) (Or.inl ⟨by kernel_rfl, fun w hSw => ?h4⟩) hS ?_; (case h4 => (refine ok_of (fun z hz => ?_); go_simp; exact hz))
          try simp only [Act.put, List.setIfInBounds_toArray, List.set_cons_succ, List.set_cons_zero, List.getElem_toArray, List.getElem_cons_succ, List.getElem_cons_zero]
          refine wpAnyH_take (i := 4) (v := ?v5) rfl (by decide +kernel) (by decide +kernel) (by decide +kernel) (fun _ _ _ h => h) (Or.inl ⟨by kernel_rfl, fun w hSw => ?h5⟩) hS ?_; (case h5 => (refine ok_of (fun z hz => ?_); go_simp; exact hz))
          try simp only [Act.put, List.setIfInBounds_toArray, List.set_cons_succ, List.set_cons_zero, List.getElem_toArray, List.getElem_cons_succ, List.getElem_cons_zero]
          refine wpAnyH_take (i := 5) (v := ?v6) rfl (by decide +kernel) (by decide +kernel) (by decide +kernel) (fun _ _ _ h => h) (Or.inl ⟨by kernel_rfl, fun w hSw => ?h6⟩) hS ?_; (case h6 => (refine ok_of (fun z hz => ?_); go_simp; exact hz))
          try simp only [Act.put, List.setIfInBounds_toArray, List.set_cons_succ, List.set_cons_zero, List.getElem_toArray, List.getElem_cons_succ, List.getElem_cons_zero]
          refine wpAnyH_take (i := 6) (v := ?v7) rfl (by decide +kernel) (by decide +kernel) (by decide +kernel) (fun _ _ _ h => h) (Or.inl ⟨by kernel_rfl, fun w hSw => ?h7⟩) hS ?_; (case h7 => (refine ok_of (fun z hz => ?_); go_simp; exact hz))
          try simp only [Act.put, List.setIfInBounds_toArray, List.set_cons_succ, List.set_cons_zero, List.getElem_toArray, List.getElem_cons_succ, List.getElem_cons_zero]
          refine wpAnyH_take (i := 7) (v := ?v8) rfl (by decide +kernel) (by decide +kernel) (by decide +kernel) (fun _ _ _ h => h) (Or.inl ⟨by kernel_rfl, fun w hSw => ?h8⟩) hS ?_; (case h8 => (refine ok_of (fun z hz => ?_); go_simp; exact hz))
          try simp only [Act.put, List.setIfInBounds_toArray, List.set_cons_succ, List.set_cons_zero, List.getElem_toArray, List.getElem_cons_succ, List.getElem_cons_zero]
          refine wpAnyH_take (i := 8) (v := ?v9) rfl (by decide +kernel) (by decide +kernel) (by decide +kernel) (fun _ _ _ h => h) (Or.inl ⟨by kernel_rfl, fun w hSw => ?h9⟩) hS ?_; (case h9 => (refine ok_of (fun z hz => ?_); obtain ⟨⟨f1, f2⟩, f3, f4⟩ := hSw; go_simp; exact hz))
          try simp only [Act.put, List.setIfInBounds_toArray, List.set_cons_succ, List.set_cons_zero, List.getElem_toArray, List.getElem_cons_succ, List.getElem_cons_zero]
          refine wpAnyH_take (i := 9) (v := ?v10) rfl (by decide +kernel) (by decide +kernel) (by decide +kernel) (fun _ _ _ h => h) (Or.inl ⟨by kernel_rfl, fun w hSw => ?h10⟩) hS ?_; (case h10 => (refine ok_of (fun z hz => ?_); obtain ⟨⟨f1, f2⟩, f3, f4⟩ := hSw; go_simp; exact hz))
          try simp only [Act.put, List.setIfInBounds_toArray, List.set_cons_succ, List.set_cons_zero, List.getElem_toArray, List.getElem_cons_succ, List.getElem_cons_zero]
          refine wpAnyH_ready (rs := [10]) (by decide +kernel) (by simp) ?_
          refine (AllReadyH.cons rfl (fun K hK => ?_) AllReadyH.nil)
          go_simp
          go_at_call 91
          refine HBF.out.mono ?_
          rintro e w2 ⟨rfl, hb2⟩
          go_simp
          refine Shut.out hK _ _ (HS.out w2 hb2) (fun hS2 => ?_)
          clear hK K hS
          have hS := hS2
          clear hS2
          try simp only [Act.put, List.setIfInBounds_toArray, List.set_cons_succ, List.set_cons_zero, List.getElem_toArray, List.getElem_cons_succ, List.getElem_cons_zero]
          refine wpAnyH_take (i := 11) (v := ?v11) rfl (by decide +kernel) (by decide +kernel) (by decide +kernel) (fun _ _ _ h => h) (Or.inl ⟨by kernel_rfl, fun w hSw => ?h11⟩) hS ?_; (case h11 => (refine ok_of (fun z hz => ?_); go_simp; exact hz))
          try simp only [Act.put, List.setIfInBounds_toArray, List.set_cons_succ, List.set_cons_zero, List.getElem_toArray, List.getElem_cons_succ, List.getElem_cons_zero]
          refine wpAnyH_done (by kernel_rfl) ?_ _
          try simp only [Act.put, List.setIfInBounds_toArray, List.set_cons_succ, List.set_cons_zero, List.getElem_toArray, List.getElem_cons_succ, List.getElem_cons_zero]
          simp only [NQ]
          have hbf := HB.out.trans (hb2.mono HB.out.size)
          clear hb2 hS
          go_wp2_with fail
          go_roundw
          case rel => exact ⟨k + 1, by omega, by go_num, HF.out, hbf⟩
          case measure => simp [intOf]; omega
        | false =>
          have HSTOP : Hid (∀ h : k < l.length, dlt l[k] d = false) := Lib.hid (fun _ => HR.out.symm)
          clear HTK HR
          go_upto_region 4 with fail
          refine NQ.to ?_
          refine wp_region_held_drew (S := (fun wz => (wz.cell? ⟨b, off + k * 2, none⟩ = some (.int .i64 y.rep) ∧ wz.cell? ⟨b, off + k * 2 + 1, none⟩ = some (.int .i64 y.ctr)) ∧ (wz.cell? ⟨w.heap.size, 0, none⟩ = some (.int .i64 d.rep) ∧ wz.cell? ⟨w.heap.size, 1, none⟩ = some (.int .i64 d.ctr)))) (by kernel_rfl) (HS.out _ (below_drew1 (Below.refl _ _))) (fun hS => ?_)
          try simp only [Act.put, List.setIfInBounds_toArray, List.set_cons_succ, List.set_cons_zero, List.getElem_toArray, List.getElem_cons_succ, List.getElem_cons_zero]
          refine wpAnyH_take (i := 0) (v := ?v12) rfl (by decide +kernel) (by decide +kernel) (by decide +kernel) (fun _ _ _ h => h) (Or.inl ⟨by kernel_rfl, fun w hSw => ?h12⟩) hS ?_; (case h12 => (refine ok_of (fun z hz => ?_); go_simp; exact hz))
          try simp only [Act.put, List.setIfInBounds_toArray, List.set_cons_succ, List.set_cons_zero, List.getElem_toArray, List.getElem_cons_succ, List.getElem_cons_zero]
          refine wpAnyH_take (i := 1) (v := ?v13) rfl (by decide +kernel) (by decide +kernel) (by decide +kernel) (fun _ _ _ h => h) (Or.inl ⟨by kernel_rfl, fun w hSw => ?h13⟩) hS ?_; (case h13 => (refine ok_of (fun z hz => ?_); go_simp; exact hz))
          try simp only [Act.put, List.setIfInBounds_toArray, List.set_cons_succ, List.set_cons_zero, List.getElem_toArray, List.getElem_cons_succ, List.getElem_cons_zero]
          refine wpAnyH_take (i := 2) (v := ?v14) rfl (by decide +kernel) (by decide +kernel) (by decide +kernel) (fun _ _ _ h => h) (Or.inl ⟨by kernel_rfl, fun w hSw => ?h14⟩) hS ?_; (case h14 => (refine ok_of (fun z hz => ?_); go_simp; exact hz))
          try simp only [Act.put, List.setIfInBounds_toArray, List.set_cons_succ, List.set_cons_zero, List.getElem_toArray, List.getElem_cons_succ, List.getElem_cons_zero]
          refine wpAnyH_take (i := 3) (v := ?v15) rfl (by decide +kernel) (by decide +kernel) (by decide +kernel) (fun _ _ _ h => h) (Or.inl ⟨by kernel_rfl, fun w hSw => ?h15⟩) hS ?_; (case h15 => (refine ok_of (fun z hz => ?_); go_simp; exact hz))
          try simp only [Act.put, List.setIfInBounds_toArray, List.set_cons_succ, List.set_cons_zero, List.getElem_toArray, List.getElem_cons_succ, List.getElem_cons_zero]
          refine wpAnyH_take (i := 4) (v := ?v16) rfl (by decide +kernel) (by decide +kernel) (by decide +kernel) (fun _ _ _ h => h) (Or.inl ⟨by kernel_rfl, fun w hSw => ?h16⟩) hS ?_; (case h16 => (refine ok_of (fun z hz => ?_); go_simp; exact hz))
          try simp only [Act.put, List.setIfInBounds_toArray, List.set_cons_succ, List.set_cons_zero, List.getElem_toArray, List.getElem_cons_succ, List.getElem_cons_zero]
          refine wpAnyH_take (i := 5) (v := ?v17) rfl (by decide +kernel) (by decide +kernel) (by decide +kernel) (fun _ _ _ h => h) (Or.inl ⟨by kernel_rfl, fun w hSw => ?h17⟩) hS ?_; (case h17 => (refine ok_of (fun z hz => ?_); go_simp; exact hz))
          try simp only [Act.put, List.setIfInBounds_toArray, List.set_cons_succ, List.set_cons_zero, List.getElem_toArray, List.getElem_cons_succ, List.getElem_cons_zero]
          refine wpAnyH_take (i := 6) (v := ?v18) rfl (by decide +kernel) (by decide +kernel) (by decide +kernel) (fun _ _ _ h => h) (Or.inl ⟨by kernel_rfl, fun w hSw => ?h18⟩) hS ?_; (case h18 => (refine ok_of (fun z hz => ?_); go_simp; exact hz))
          try simp only [Act.put, List.setIfInBounds_toArray, List.set_cons_succ, List.set_cons_zero, List.getElem_toArray, List.getElem_cons_succ, List.getElem_cons_zero]
          refine wpAnyH_take (i := 7) (v := ?v19) rfl (by decide +kernel) (by decide +kernel) (by decide +kernel) (fun _ _ _ h => h) (Or.inl ⟨by kernel_rfl, fun w hSw => ?h19⟩) hS ?_; (case h19 => (refine ok_of (fun z hz => ?_); go_simp; exact hz))
          try simp only [Act.put, List.setIfInBounds_toArray, List.set_cons_succ, List.set_cons_zero, List.getElem_toArray, List.getElem_cons_succ, List.getElem_cons_zero]
          refine wpAnyH_take (i := 8) (v := ?v20) rfl (by decide +kernel) (by decide +kernel) (by decide +kernel) (fun _ _ _ h => h) (Or.inl ⟨by kernel_rfl, fun w hSw => ?h20⟩) hS ?_; (case h20 => (refine ok_of (fun z hz => ?_); obtain ⟨⟨f1, f2⟩, f3, f4⟩ := hSw; go_simp; exact hz))
          try simp only [Act.put, List.setIfInBounds_toArray, List.set_cons_succ, List.set_cons_zero, List.getElem_toArray, List.getElem_cons_succ, List.getElem_cons_zero]
          refine wpAnyH_take (i := 9) (v := ?v21) rfl (by decide +kernel) (by decide +kernel) (by decide +kernel) (fun _ _ _ h => h) (Or.inl ⟨by kernel_rfl, fun w hSw => ?h21⟩) hS ?_; (case h21 => (refine ok_of (fun z hz => ?_); obtain ⟨⟨f1, f2⟩, f3, f4⟩ := hSw; go_simp; exact hz))
          try simp only [Act.put, List.setIfInBounds_toArray, List.set_cons_succ, List.set_cons_zero, List.getElem_toArray, List.getElem_cons_succ, List.getElem_cons_zero]
          refine wpAnyH_ready (rs := [10]) (by decide +kernel) (by simp) ?_
          refine (AllReadyH.cons rfl (fun K hK => ?_) AllReadyH.nil)
          go_simp
          go_at_call 91
          refine HBF.out.mono ?_
          rintro e w2 ⟨rfl, hb2⟩
          go_simp
          refine Shut.out hK _ _ (HS.out w2 hb2) (fun hS2 => ?_)
          clear hK K hS
          have hS := hS2
          clear hS2
          try simp only [Act.put, List.setIfInBounds_toArray, List.set_cons_succ, List.set_cons_zero, List.getElem_toArray, List.getElem_cons_succ, List.getElem_cons_zero]
          refine wpAnyH_take (i := 11) (v := ?v22) rfl (by decide +kernel) (by decide +kernel) (by decide +kernel) (fun _ _ _ h => h) (Or.inl ⟨by kernel_rfl, fun w hSw => ?h22⟩) hS ?_; (case h22 => (refine ok_of (fun z hz => ?_); go_simp; exact hz))
          try simp only [Act.put, List.setIfInBounds_toArray, List.set_cons_succ, List.set_cons_zero, List.getElem_toArray, List.getElem_cons_succ, List.getElem_cons_zero]
          refine wpAnyH_done (by kernel_rfl) ?_ _
          try simp only [Act.put, List.setIfInBounds_toArray, List.set_cons_succ, List.set_cons_zero, List.getElem_toArray, List.getElem_cons_succ, List.getElem_cons_zero]
          simp only [NQ]
          have HBQ := Lib.hid (HB.out.trans (hb2.mono HB.out.size))
          clear hb2 hS HS HBF
          obtain ⟨wq, hwq⟩ : ∃ wq, wq = w2 := ⟨_, rfl⟩
          rw [← hwq] at HBQ ⊢
          generalize hoe : (some (⟨b, off, none⟩ : Addr)) = o at HSRC ⊢
          clear hwq HB hoe
          have HXC : Hid (∀ wz, Below wq.heap.size wq wz → (wz.cell? ⟨w.heap.size, 0, none⟩ = some (.int .i64 d.rep) ∧ wz.cell? ⟨w.heap.size, 1, none⟩ = some (.int .i64 d.ctr))) := Lib.hid (fun wz hz => HC.out wz (HBQ.out.trans (hz.mono HBQ.out.size)))
          have HBW := Lib.hid (HB1.out.trans (HBQ.out.mono HB1.out.size))
          have HSA : Hid (∀ wz, Below wq.heap.size wq wz → EDot.Src wz (.slice o k c) (l.take k)) := Lib.hid (fun wz hz => by
            have := ((HSRC.out.below HBW.out).below hz).sliced HLC.out 0 k (Nat.zero_le _) hk 2 rfl
            rw [List.drop_zero, sliced_zero] at this
            exact this)
          have HSB : Hid (∀ wz, Below wq.heap.size wq wz → EDot.Src wz (.slice (if c = k then o else Option.map (fun x => x.add (k * 2)) o) (l.length - k) (c - k)) (l.drop k)) := Lib.hid (fun wz hz => by
            have := ((HSRC.out.below HBW.out).below hz).sliced HLC.out k l.length hk (Nat.le_refl _) 2 rfl
            rw [List.take_length] at this
            exact this)
          have HFIN : Hid (∀ (v' : Value) (w' : World), EDot.Row wq.heap.size w' v' (l.take k ++ [d] ++ l.drop k) → Below wq.heap.size wq w' → Arr DotR 2 w' v' (withD l d) ∧ Below w.heap.size w w') := Lib.hid (fun v' w' h1 h2 => by
            have h3 := HBW.out.trans (h2.mono HBW.out.size)
            exact ⟨HEND.out k v' w' hk _ h1 HALL.out HSTOP.out, h3⟩)
          clear HEND HALL HSTOP HSRC
          go_upto_region 6 with fail
          refine NQ.to ?_
          refine wp_region_held_drew (S := (fun wz => (wz.cell? ⟨w.heap.size, 0, none⟩ = some (.int .i64 d.rep) ∧ wz.cell? ⟨w.heap.size, 1, none⟩ = some (.int .i64 d.ctr)))) (by kernel_rfl) (HXC.out _ (below_drew1 (Below.refl _ _))) (fun hS => ?_)
          try simp only [Act.put, List.setIfInBounds_toArray, List.set_cons_succ, List.set_cons_zero, List.getElem_toArray, List.getElem_cons_succ, List.getElem_cons_zero]
          refine wpAnyH_take (i := 0) (v := ?v23) rfl (by decide +kernel) (by decide +kernel) (by decide +kernel) (fun _ _ _ h => h) (Or.inl ⟨by kernel_rfl, fun w hSw => ?h23⟩) hS ?_; (case h23 => (refine ok_of (fun z hz => ?_); go_simp; exact hz))
          try simp only [Act.put, List.setIfInBounds_toArray, List.set_cons_succ, List.set_cons_zero, List.getElem_toArray, List.getElem_cons_succ, List.getElem_cons_zero]
          refine wpAnyH_take (i := 1) (v := ?v24) rfl (by decide +kernel) (by decide +kernel) (by decide +kernel) (fun _ _ _ h => h) (Or.inl ⟨by kernel_rfl, fun w hSw => ?h24⟩) hS ?_; (case h24 => (refine ok_of (fun z hz => ?_); go_simp; exact hz))
          try simp only [Act.put, List.setIfInBounds_toArray, List.set_cons_succ, List.set_cons_zero, List.getElem_toArray, List.getElem_cons_succ, List.getElem_cons_zero]
          refine wpAnyH_take (i := 2) (v := ?v25) rfl (by decide +kernel) (by decide +kernel) (by decide +kernel) (fun _ _ _ h => h) (Or.inl ⟨by kernel_rfl, fun w hSw => ?h25⟩) hS ?_; (case h25 => (refine ok_of (fun z hz => ?_); go_simp; exact hz))
          try simp only [Act.put, List.setIfInBounds_toArray, List.set_cons_succ, List.set_cons_zero, List.getElem_toArray, List.getElem_cons_succ, List.getElem_cons_zero]
          refine wpAnyH_take (i := 4) (v := ?v26) rfl (by decide +kernel) (by decide +kernel) (by decide +kernel) (fun _ _ _ h => h) (Or.inl ⟨by kernel_rfl, fun w hSw => ?h26⟩) hS ?_; (case h26 => (refine ok_of (fun z hz => ?_); obtain ⟨f1, f2⟩ := hSw; go_simp; exact hz))
          try simp only [Act.put, List.setIfInBounds_toArray, List.set_cons_succ, List.set_cons_zero, List.getElem_toArray, List.getElem_cons_succ, List.getElem_cons_zero]
          refine wpAnyH_take (i := 7) (v := ?v27) rfl (by decide +kernel) (by decide +kernel) (by decide +kernel) (fun _ _ _ h => h) (Or.inl ⟨by kernel_rfl, fun w hSw => ?h27⟩) hS ?_; (case h27 => (refine ok_of (fun z hz => ?_); go_simp; exact hz))
          try simp only [Act.put, List.setIfInBounds_toArray, List.set_cons_succ, List.set_cons_zero, List.getElem_toArray, List.getElem_cons_succ, List.getElem_cons_zero]
          refine wpAnyH_take (i := 8) (v := ?v28) rfl (by decide +kernel) (by decide +kernel) (by decide +kernel) (fun _ _ _ h => h) (Or.inl ⟨by kernel_rfl, fun w hSw => ?h28⟩) hS ?_; (case h28 => (refine ok_of (fun z hz => ?_); go_simp; exact hz))
          try simp only [Act.put, List.setIfInBounds_toArray, List.set_cons_succ, List.set_cons_zero, List.getElem_toArray, List.getElem_cons_succ, List.getElem_cons_zero]
          refine wpAnyH_take (i := 9) (v := ?v29) rfl (by decide +kernel) (by decide +kernel) (by decide +kernel) (fun _ _ _ h => h) (Or.inl ⟨by kernel_rfl, fun w hSw => ?h29⟩) hS ?_; (case h29 => (refine ok_of (fun z hz => ?_); go_simp; exact hz))
          try simp only [Act.put, List.setIfInBounds_toArray, List.set_cons_succ, List.set_cons_zero, List.getElem_toArray, List.getElem_cons_succ, List.getElem_cons_zero]
          refine wpAnyH_ready (rs := [3, 5]) (by decide +kernel) (by simp) ?_
          refine (AllReadyH.cons rfl (fun K hK => ?_) (AllReadyH.cons rfl (fun K hK => ?_) AllReadyH.nil))
          · refine step_append_row rfl _ _ 37 rfl EDot wq.heap.size (.agg #[.int .i64 0, .int .i64 0]) 16 Tryz.underlying37 infoDot (by decide) (by decide) _ [] rfl (Enc.Row.nil _ _) _ (l.take k) rfl (HSA.out _ (below_drew1 (Below.refl _ _))) (by have := HLE.out; simp; omega) (by simp) ?_
            intro v3 w3 hrow3 hgr3
            have hb3 := (below_drew1 (Below.refl wq.heap.size wq)).grown hgr3 (by simp) (fun j hj => by cases hj)
            refine Shut.out hK _ _ (HXC.out w3 hb3) (fun hS2 => ?_)
            clear hK K hS
            have hS := hS2
            clear hS2
            try simp only [Act.put, List.setIfInBounds_toArray, List.set_cons_succ, List.set_cons_zero, List.getElem_toArray, List.getElem_cons_succ, List.getElem_cons_zero]
            refine wpAnyH_ready (rs := [5]) (by decide +kernel) (by simp) ?_
            refine (AllReadyH.cons rfl (fun K hK => ?_) AllReadyH.nil)
            go_simp
            have hal5 : Below w3.heap.size w3 (w3.alloc (.cells #[.int .i64 d.rep, .int .i64 d.ctr] 24)) := (Below.refl _ _).alloc (Nat.le_refl _) _
            have hb5 := hb3.trans (hal5.mono hb3.size)
            have hrow5 := hrow3.below hal5
            have hsrc5 : EDot.Src (w3.alloc (.cells #[.int .i64 d.rep, .int .i64 d.ctr] 24)) (.slice (some ⟨w3.heap.size, 0, none⟩) 1 1) [d] := Enc.Src.one_lit (E := EDot) w3 24 _
            refine Shut.out hK _ _ (HXC.out _ hb5) (fun hS2 => ?_)
            clear hK K hS
            have hS := hS2
            clear hS2
            try simp only [Act.put, List.setIfInBounds_toArray, List.set_cons_succ, List.set_cons_zero, List.getElem_toArray, List.getElem_cons_succ, List.getElem_cons_zero]
            refine wpAnyH_ready (rs := [6]) (by decide +kernel) (by simp) ?_
            refine (AllReadyH.cons rfl (fun K hK => ?_) AllReadyH.nil)
            refine step_append_row rfl _ _ 37 rfl EDot wq.heap.size (.agg #[.int .i64 0, .int .i64 0]) 16 Tryz.underlying37 infoDot (by decide) (by decide) _ ([] ++ l.take k) rfl (hrow5) _ [d] rfl (hsrc5) (by have := HLE.out; simp; omega) (hb5.size) ?_
            intro v6 w6 hrow6 hgr6
            have hb6 := hb5.grown hgr6 hb5.size (fun j hj => (hrow5.lt _ hj).1)
            refine Shut.out hK _ _ (HXC.out w6 hb6) (fun hS2 => ?_)
            clear hK K hS
            have hS := hS2
            clear hS2
            try simp only [Act.put, List.setIfInBounds_toArray, List.set_cons_succ, List.set_cons_zero, List.getElem_toArray, List.getElem_cons_succ, List.getElem_cons_zero]
            refine wpAnyH_ready (rs := [10]) (by decide +kernel) (by simp) ?_
            refine (AllReadyH.cons rfl (fun K hK => ?_) AllReadyH.nil)
            refine step_append_row rfl _ _ 37 rfl EDot wq.heap.size (.agg #[.int .i64 0, .int .i64 0]) 16 Tryz.underlying37 infoDot (by decide) (by decide) _ ([] ++ l.take k ++ [d]) rfl (hrow6) _ (l.drop k) rfl (HSB.out _ hb6) (by have := HLE.out; simp; omega) (hb6.size) ?_
            intro v10 w10 hrow10 hgr10
            have hb10 := hb6.grown hgr10 hb6.size (fun j hj => (hrow6.lt _ hj).1)
            refine Shut.out hK _ _ (HXC.out w10 hb10) (fun hS2 => ?_)
            clear hK K hS
            have hS := hS2
            clear hS2
            try simp only [Act.put, List.setIfInBounds_toArray, List.set_cons_succ, List.set_cons_zero, List.getElem_toArray, List.getElem_cons_succ, List.getElem_cons_zero]
            refine wpAnyH_take (i := 11) (v := ?v30) rfl (by decide +kernel) (by decide +kernel) (by decide +kernel) (fun _ _ _ h => h) (Or.inl ⟨by kernel_rfl, fun w hSw => ?h30⟩) hS ?_; (case h30 => (refine ok_of (fun z hz => ?_); go_simp; exact hz))
            try simp only [Act.put, List.setIfInBounds_toArray, List.set_cons_succ, List.set_cons_zero, List.getElem_toArray, List.getElem_cons_succ, List.getElem_cons_zero]
            refine wpAnyH_done (by kernel_rfl) ?_ _
            try simp only [Act.put, List.setIfInBounds_toArray, List.set_cons_succ, List.set_cons_zero, List.getElem_toArray, List.getElem_cons_succ, List.getElem_cons_zero]
            simp only [NQ]
            rw [List.nil_append] at hrow10
            have hf := HFIN.out _ _ hrow10 hb10
            clear hS
            go_wp2_with fail
            all_goals go_ret
            all_goals exact ⟨_, rfl, hf.1, hf.2⟩
          · go_simp
            have hb5 : Below wq.heap.size wq (wq.drew.alloc (.cells #[.int .i64 d.rep, .int .i64 d.ctr] 24)) := (below_drew1 (Below.refl _ _)).alloc (by simp) _
            have hsrc5 : EDot.Src (wq.drew.alloc (.cells #[.int .i64 d.rep, .int .i64 d.ctr] 24)) (.slice (some ⟨wq.drew.heap.size, 0, none⟩) 1 1) [d] := Enc.Src.one_lit (E := EDot) wq.drew 24 _
            refine Shut.out hK _ _ (HXC.out _ hb5) (fun hS2 => ?_)
            clear hK K hS
            have hS := hS2
            clear hS2
            try simp only [Act.put, List.setIfInBounds_toArray, List.set_cons_succ, List.set_cons_zero, List.getElem_toArray, List.getElem_cons_succ, List.getElem_cons_zero]
            refine wpAnyH_ready (rs := [3]) (by decide +kernel) (by simp) ?_
            refine (AllReadyH.cons rfl (fun K hK => ?_) AllReadyH.nil)
            refine step_append_row rfl _ _ 37 rfl EDot wq.heap.size (.agg #[.int .i64 0, .int .i64 0]) 16 Tryz.underlying37 infoDot (by decide) (by decide) _ [] rfl (Enc.Row.nil _ _) _ (l.take k) rfl (HSA.out _ hb5) (by have := HLE.out; simp; omega) (hb5.size) ?_
            intro v3 w3 hrow3 hgr3
            have hl3 := (Below.refl _ _).grown hgr3 (Nat.le_refl _) (fun j hj => by cases hj)
            have hb3 := hb5.trans (hl3.mono hb5.size)
            have hsrc3 := hsrc5.below hl3
            refine Shut.out hK _ _ (HXC.out w3 hb3) (fun hS2 => ?_)
            clear hK K hS
            have hS := hS2
            clear hS2
            try simp only [Act.put, List.setIfInBounds_toArray, List.set_cons_succ, List.set_cons_zero, List.getElem_toArray, List.getElem_cons_succ, List.getElem_cons_zero]
            refine wpAnyH_ready (rs := [6]) (by decide +kernel) (by simp) ?_
            refine (AllReadyH.cons rfl (fun K hK => ?_) AllReadyH.nil)
            refine step_append_row rfl _ _ 37 rfl EDot wq.heap.size (.agg #[.int .i64 0, .int .i64 0]) 16 Tryz.underlying37 infoDot (by decide) (by decide) _ ([] ++ l.take k) rfl (hrow3) _ [d] rfl (hsrc3) (by have := HLE.out; simp; omega) (hb3.size) ?_
            intro v6 w6 hrow6 hgr6
            have hb6 := hb3.grown hgr6 hb3.size (fun j hj => (hrow3.lt _ hj).1)
            refine Shut.out hK _ _ (HXC.out w6 hb6) (fun hS2 => ?_)
            clear hK K hS
            have hS := hS2
            clear hS2
            try simp only [Act.put, List.setIfInBounds_toArray, List.set_cons_succ, List.set_cons_zero, List.getElem_toArray, List.getElem_cons_succ, List.getElem_cons_zero]
            refine wpAnyH_ready (rs := [10]) (by decide +kernel) (by simp) ?_
            refine (AllReadyH.cons rfl (fun K hK => ?_) AllReadyH.nil)
            refine step_append_row rfl _ _ 37 rfl EDot wq.heap.size (.agg #[.int .i64 0, .int .i64 0]) 16 Tryz.underlying37 infoDot (by decide) (by decide) _ ([] ++ l.take k ++ [d]) rfl (hrow6) _ (l.drop k) rfl (HSB.out _ hb6) (by have := HLE.out; simp; omega) (hb6.size) ?_
            intro v10 w10 hrow10 hgr10
            have hb10 := hb6.grown hgr10 hb6.size (fun j hj => (hrow6.lt _ hj).1)
            refine Shut.out hK _ _ (HXC.out w10 hb10) (fun hS2 => ?_)
            clear hK K hS
            have hS := hS2
            clear hS2
            try simp only [Act.put, List.setIfInBounds_toArray, List.set_cons_succ, List.set_cons_zero, List.getElem_toArray, List.getElem_cons_succ, List.getElem_cons_zero]
            refine wpAnyH_take (i := 11) (v := ?v31) rfl (by decide +kernel) (by decide +kernel) (by decide +kernel) (fun _ _ _ h => h) (Or.inl ⟨by kernel_rfl, fun w hSw => ?h31⟩) hS ?_; (case h31 => (refine ok_of (fun z hz => ?_); go_simp; exact hz))
            try simp only [Act.put, List.setIfInBounds_toArray, List.set_cons_succ, List.set_cons_zero, List.getElem_toArray, List.getElem_cons_succ, List.getElem_cons_zero]
            refine wpAnyH_done (by kernel_rfl) ?_ _
            try simp only [Act.put, List.setIfInBounds_toArray, List.set_cons_succ, List.set_cons_zero, List.getElem_toArray, List.getElem_cons_succ, List.getElem_cons_zero]
            simp only [NQ]
            rw [List.nil_append] at hrow10
            have hf := HFIN.out _ _ hrow10 hb10
            clear hS
            go_wp2_with fail
            all_goals go_ret
            all_goals exact ⟨_, rfl, hf.1, hf.2⟩
      · have hke : k = l.length := by omega
        have HSTOP : Hid (∀ h : k < l.length, dlt l[k] d = false) := Lib.hid (fun h => absurd h hlt)
        have a1 : decide ((k : Int) < l.length) = false := decide_eq_false (by omega)
        clear hke
        go_upto_region 4 with fail
        refine NQ.to ?_
        refine wp_region_held_drew (S := (fun _ => True)) (by kernel_rfl) (trivial) (fun hS => ?_)
        try simp only [Act.put, List.setIfInBounds_toArray, List.set_cons_succ, List.set_cons_zero, List.getElem_toArray, List.getElem_cons_succ, List.getElem_cons_zero]
        refine wpAnyH_take (i := 0) (v := ?v32) rfl (by decide +kernel) (by decide +kernel) (by decide +kernel) (fun _ _ _ h => h) (Or.inl ⟨by kernel_rfl, fun w hSw => ?h32⟩) hS ?_; (case h32 => (refine ok_of (fun z hz => ?_); go_simp; exact hz))
        try simp only [Act.put, List.setIfInBounds_toArray, List.set_cons_succ, List.set_cons_zero, List.getElem_toArray, List.getElem_cons_succ, List.getElem_cons_zero]
        refine wpAnyH_take (i := 1) (v := ?v33) rfl (by decide +kernel) (by decide +kernel) (by decide +kernel) (fun _ _ _ h => h) (Or.inl ⟨by kernel_rfl, fun w hSw => ?h33⟩) hS ?_; (case h33 => (refine ok_of (fun z hz => ?_); go_simp; exact hz))
        try simp only [Act.put, List.setIfInBounds_toArray, List.set_cons_succ, List.set_cons_zero, List.getElem_toArray, List.getElem_cons_succ, List.getElem_cons_zero]
        refine wpAnyH_take (i := 2) (v := ?v34) rfl (by decide +kernel) (by decide +kernel) (by decide +kernel) (fun _ _ _ h => h) (Or.inl ⟨by kernel_rfl, fun w hSw => ?h34⟩) hS ?_; (case h34 => (refine ok_of (fun z hz => ?_); go_simp; exact hz))
        try simp only [Act.put, List.setIfInBounds_toArray, List.set_cons_succ, List.set_cons_zero, List.getElem_toArray, List.getElem_cons_succ, List.getElem_cons_zero]
        refine wpAnyH_take (i := 3) (v := ?v35) rfl (by decide +kernel) (by decide +kernel) (by decide +kernel) (fun _ _ _ h => h) (Or.inl ⟨by kernel_rfl, fun w hSw => ?h35⟩) hS ?_; (case h35 => (refine ok_of (fun z hz => ?_); go_simp; exact hz))
        try simp only [Act.put, List.setIfInBounds_toArray, List.set_cons_succ, List.set_cons_zero, List.getElem_toArray, List.getElem_cons_succ, List.getElem_cons_zero]
        refine wpAnyH_take (i := 4) (v := ?v36) rfl (by decide +kernel) (by decide +kernel) (by decide +kernel) (fun _ _ _ h => h) (Or.inl ⟨by kernel_rfl, fun w hSw => ?h36⟩) hS ?_; (case h36 => (refine ok_of (fun z hz => ?_); go_simp; exact hz))
        try simp only [Act.put, List.setIfInBounds_toArray, List.set_cons_succ, List.set_cons_zero, List.getElem_toArray, List.getElem_cons_succ, List.getElem_cons_zero]
        refine wpAnyH_take (i := 5) (v := undef) rfl (by decide +kernel) (by decide +kernel) (by decide +kernel) (fun _ _ _ h => h) (Or.inr ⟨by kernel_rfl, rfl⟩) hS ?_
        try simp only [Act.put, List.setIfInBounds_toArray, List.set_cons_succ, List.set_cons_zero, List.getElem_toArray, List.getElem_cons_succ, List.getElem_cons_zero]
        refine wpAnyH_take (i := 6) (v := undef) rfl (by decide +kernel) (by decide +kernel) (by decide +kernel) (fun _ _ _ h => h) (Or.inr ⟨by kernel_rfl, rfl⟩) hS ?_
        try simp only [Act.put, List.setIfInBounds_toArray, List.set_cons_succ, List.set_cons_zero, List.getElem_toArray, List.getElem_cons_succ, List.getElem_cons_zero]
        refine wpAnyH_take (i := 7) (v := undef) rfl (by decide +kernel) (by decide +kernel) (by decide +kernel) (fun _ _ _ h => h) (Or.inr ⟨by kernel_rfl, rfl⟩) hS ?_
        try simp only [Act.put, List.setIfInBounds_toArray, List.set_cons_succ, List.set_cons_zero, List.getElem_toArray, List.getElem_cons_succ, List.getElem_cons_zero]
        refine wpAnyH_take (i := 8) (v := undef) rfl (by decide +kernel) (by decide +kernel) (by decide +kernel) (fun _ _ _ h => h) (Or.inr ⟨by kernel_rfl, rfl⟩) hS ?_
        try simp only [Act.put, List.setIfInBounds_toArray, List.set_cons_succ, List.set_cons_zero, List.getElem_toArray, List.getElem_cons_succ, List.getElem_cons_zero]
        refine wpAnyH_take (i := 9) (v := undef) rfl (by decide +kernel) (by decide +kernel) (by decide +kernel) (fun _ _ _ h => h) (Or.inr ⟨by kernel_rfl, rfl⟩) hS ?_
        try simp only [Act.put, List.setIfInBounds_toArray, List.set_cons_succ, List.set_cons_zero, List.getElem_toArray, List.getElem_cons_succ, List.getElem_cons_zero]
        refine wpAnyH_take (i := 10) (v := undef) rfl (by decide +kernel) (by decide +kernel) (by decide +kernel) (fun _ _ _ h => h) (Or.inr ⟨by kernel_rfl, rfl⟩) hS ?_
        try simp only [Act.put, List.setIfInBounds_toArray, List.set_cons_succ, List.set_cons_zero, List.getElem_toArray, List.getElem_cons_succ, List.getElem_cons_zero]
        refine wpAnyH_take (i := 11) (v := ?v37) rfl (by decide +kernel) (by decide +kernel) (by decide +kernel) (fun _ _ _ h => h) (Or.inl ⟨by kernel_rfl, fun w hSw => ?h37⟩) hS ?_; (case h37 => (refine ok_of (fun z hz => ?_); go_simp; exact hz))
        try simp only [Act.put, List.setIfInBounds_toArray, List.set_cons_succ, List.set_cons_zero, List.getElem_toArray, List.getElem_cons_succ, List.getElem_cons_zero]
        refine wpAnyH_done (by kernel_rfl) ?_ _
        try simp only [Act.put, List.setIfInBounds_toArray, List.set_cons_succ, List.set_cons_zero, List.getElem_toArray, List.getElem_cons_succ, List.getElem_cons_zero]
        simp only [NQ]
        have HBQ := Lib.hid (below_drew1 HB.out)
        obtain ⟨wq, hwq⟩ : ∃ wq, wq = wr.drew := ⟨_, rfl⟩
        rw [← hwq] at HBQ ⊢
        clear hwq HB hS
        have HXC : Hid (∀ wz, Below wq.heap.size wq wz → (wz.cell? ⟨w.heap.size, 0, none⟩ = some (.int .i64 d.rep) ∧ wz.cell? ⟨w.heap.size, 1, none⟩ = some (.int .i64 d.ctr))) := Lib.hid (fun wz hz => HC.out wz (HBQ.out.trans (hz.mono HBQ.out.size)))
        have HBW := Lib.hid (HB1.out.trans (HBQ.out.mono HB1.out.size))
        have HSA : Hid (∀ wz, Below wq.heap.size wq wz → EDot.Src wz (.slice o k c) (l.take k)) := Lib.hid (fun wz hz => by
          have := ((HSRC.out.below HBW.out).below hz).sliced HLC.out 0 k (Nat.zero_le _) hk 2 rfl
          rw [List.drop_zero, sliced_zero] at this
          exact this)
        have HSB : Hid (∀ wz, Below wq.heap.size wq wz → EDot.Src wz (.slice (if c = k then o else Option.map (fun x => x.add (k * 2)) o) (l.length - k) (c - k)) (l.drop k)) := Lib.hid (fun wz hz => by
          have := ((HSRC.out.below HBW.out).below hz).sliced HLC.out k l.length hk (Nat.le_refl _) 2 rfl
          rw [List.take_length] at this
          exact this)
        have HFIN : Hid (∀ (v' : Value) (w' : World), EDot.Row wq.heap.size w' v' (l.take k ++ [d] ++ l.drop k) → Below wq.heap.size wq w' → Arr DotR 2 w' v' (withD l d) ∧ Below w.heap.size w w') := Lib.hid (fun v' w' h1 h2 => by
          have h3 := HBW.out.trans (h2.mono HBW.out.size)
          exact ⟨HEND.out k v' w' hk _ h1 HALL.out HSTOP.out, h3⟩)
        clear HEND HALL HSTOP HSRC
        go_upto_region 6 with fail
        refine NQ.to ?_
        refine wp_region_held_drew (S := (fun wz => (wz.cell? ⟨w.heap.size, 0, none⟩ = some (.int .i64 d.rep) ∧ wz.cell? ⟨w.heap.size, 1, none⟩ = some (.int .i64 d.ctr)))) (by kernel_rfl) (HXC.out _ (below_drew1 (Below.refl _ _))) (fun hS => ?_)
        try simp only [Act.put, List.setIfInBounds_toArray, List.set_cons_succ, List.set_cons_zero, List.getElem_toArray, List.getElem_cons_succ, List.getElem_cons_zero]
        refine wpAnyH_take (i := 0) (v := ?v38) rfl (by decide +kernel) (by decide +kernel) (by decide +kernel) (fun _ _ _ h => h) (Or.inl ⟨by kernel_rfl, fun w hSw => ?h38⟩) hS ?_; (case h38 => (refine ok_of (fun z hz => ?_); go_simp; exact hz))
        try simp only [Act.put, List.setIfInBounds_toArray, List.set_cons_succ, List.set_cons_zero, List.getElem_toArray, List.getElem_cons_succ, List.getElem_cons_zero]
        refine wpAnyH_take (i := 1) (v := ?v39) rfl (by decide +kernel) (by decide +kernel) (by decide +kernel) (fun _ _ _ h => h) (Or.inl ⟨by kernel_rfl, fun w hSw => ?h39⟩) hS ?_; (case h39 => (refine ok_of (fun z hz => ?_); go_simp; exact hz))
        try simp only [Act.put, List.setIfInBounds_toArray, List.set_cons_succ, List.set_cons_zero, List.getElem_toArray, List.getElem_cons_succ, List.getElem_cons_zero]
        refine wpAnyH_take (i := 2) (v := ?v40) rfl (by decide +kernel) (by decide +kernel) (by decide +kernel) (fun _ _ _ h => h) (Or.inl ⟨by kernel_rfl, fun w hSw => ?h40⟩) hS ?_; (case h40 => (refine ok_of (fun z hz => ?_); go_simp; exact hz))
        try simp only [Act.put, List.setIfInBounds_toArray, List.set_cons_succ, List.set_cons_zero, List.getElem_toArray, List.getElem_cons_succ, List.getElem_cons_zero]
        refine wpAnyH_take (i := 4) (v := ?v41) rfl (by decide +kernel) (by decide +kernel) (by decide +kernel) (fun _ _ _ h => h) (Or.inl ⟨by kernel_rfl, fun w hSw => ?h41⟩) hS ?_; (case h41 => (refine ok_of (fun z hz => ?_); obtain ⟨f1, f2⟩ := hSw; go_simp; exact hz))
        try simp only [Act.put, List.setIfInBounds_toArray, List.set_cons_succ, List.set_cons_zero, List.getElem_toArray, List.getElem_cons_succ, List.getElem_cons_zero]
        refine wpAnyH_take (i := 7) (v := ?v42) rfl (by decide +kernel) (by decide +kernel) (by decide +kernel) (fun _ _ _ h => h) (Or.inl ⟨by kernel_rfl, fun w hSw => ?h42⟩) hS ?_; (case h42 => (refine ok_of (fun z hz => ?_); go_simp; exact hz))
        try simp only [Act.put, List.setIfInBounds_toArray, List.set_cons_succ, List.set_cons_zero, List.getElem_toArray, List.getElem_cons_succ, List.getElem_cons_zero]
        refine wpAnyH_take (i := 8) (v := ?v43) rfl (by decide +kernel) (by decide +kernel) (by decide +kernel) (fun _ _ _ h => h) (Or.inl ⟨by kernel_rfl, fun w hSw => ?h43⟩) hS ?_; (case h43 => (refine ok_of (fun z hz => ?_); go_simp; exact hz))
        try simp only [Act.put, List.setIfInBounds_toArray, List.set_cons_succ, List.set_cons_zero, List.getElem_toArray, List.getElem_cons_succ, List.getElem_cons_zero]
        refine wpAnyH_take (i := 9) (v := ?v44) rfl (by decide +kernel) (by decide +kernel) (by decide +kernel) (fun _ _ _ h => h) (Or.inl ⟨by kernel_rfl, fun w hSw => ?h44⟩) hS ?_; (case h44 => (refine ok_of (fun z hz => ?_); go_simp; exact hz))
        try simp only [Act.put, List.setIfInBounds_toArray, List.set_cons_succ, List.set_cons_zero, List.getElem_toArray, List.getElem_cons_succ, List.getElem_cons_zero]
        refine wpAnyH_ready (rs := [3, 5]) (by decide +kernel) (by simp) ?_
        refine (AllReadyH.cons rfl (fun K hK => ?_) (AllReadyH.cons rfl (fun K hK => ?_) AllReadyH.nil))
        · refine step_append_row rfl _ _ 37 rfl EDot wq.heap.size (.agg #[.int .i64 0, .int .i64 0]) 16 Tryz.underlying37 infoDot (by decide) (by decide) _ [] rfl (Enc.Row.nil _ _) _ (l.take k) rfl (HSA.out _ (below_drew1 (Below.refl _ _))) (by have := HLE.out; simp; omega) (by simp) ?_
          intro v3 w3 hrow3 hgr3
          have hb3 := (below_drew1 (Below.refl wq.heap.size wq)).grown hgr3 (by simp) (fun j hj => by cases hj)
          refine Shut.out hK _ _ (HXC.out w3 hb3) (fun hS2 => ?_)
          clear hK K hS
          have hS := hS2
          clear hS2
          try simp only [Act.put, List.setIfInBounds_toArray, List.set_cons_succ, List.set_cons_zero, List.getElem_toArray, List.getElem_cons_succ, List.getElem_cons_zero]
          refine wpAnyH_ready (rs := [5]) (by decide +kernel) (by simp) ?_
          refine (AllReadyH.cons rfl (fun K hK => ?_) AllReadyH.nil)
          go_simp
          have hal5 : Below w3.heap.size w3 (w3.alloc (.cells #[.int .i64 d.rep, .int .i64 d.ctr] 24)) := (Below.refl _ _).alloc (Nat.le_refl _) _
          have hb5 := hb3.trans (hal5.mono hb3.size)
          have hrow5 := hrow3.below hal5
          have hsrc5 : EDot.Src (w3.alloc (.cells #[.int .i64 d.rep, .int .i64 d.ctr] 24)) (.slice (some ⟨w3.heap.size, 0, none⟩) 1 1) [d] := Enc.Src.one_lit (E := EDot) w3 24 _
          refine Shut.out hK _ _ (HXC.out _ hb5) (fun hS2 => ?_)
          clear hK K hS
          have hS := hS2
          clear hS2
          try simp only [Act.put, List.setIfInBounds_toArray, List.set_cons_succ, List.set_cons_zero, List.getElem_toArray, List.getElem_cons_succ, List.getElem_cons_zero]
          refine wpAnyH_ready (rs := [6]) (by decide +kernel) (by simp) ?_
          refine (AllReadyH.cons rfl (fun K hK => ?_) AllReadyH.nil)
          refine step_append_row rfl _ _ 37 rfl EDot wq.heap.size (.agg #[.int .i64 0, .int .i64 0]) 16 Tryz.underlying37 infoDot (by decide) (by decide) _ ([] ++ l.take k) rfl (hrow5) _ [d] rfl (hsrc5) (by have := HLE.out; simp; omega) (hb5.size) ?_
          intro v6 w6 hrow6 hgr6
          have hb6 := hb5.grown hgr6 hb5.size (fun j hj => (hrow5.lt _ hj).1)
          refine Shut.out hK _ _ (HXC.out w6 hb6) (fun hS2 => ?_)
          clear hK K hS
          have hS := hS2
          clear hS2
          try simp only [Act.put, List.setIfInBounds_toArray, List.set_cons_succ, List.set_cons_zero, List.getElem_toArray, List.getElem_cons_succ, List.getElem_cons_zero]
          refine wpAnyH_ready (rs := [10]) (by decide +kernel) (by simp) ?_
          refine (AllReadyH.cons rfl (fun K hK => ?_) AllReadyH.nil)
          refine step_append_row rfl _ _ 37 rfl EDot wq.heap.size (.agg #[.int .i64 0, .int .i64 0]) 16 Tryz.underlying37 infoDot (by decide) (by decide) _ ([] ++ l.take k ++ [d]) rfl (hrow6) _ (l.drop k) rfl (HSB.out _ hb6) (by have := HLE.out; simp; omega) (hb6.size) ?_
          intro v10 w10 hrow10 hgr10
          have hb10 := hb6.grown hgr10 hb6.size (fun j hj => (hrow6.lt _ hj).1)
          refine Shut.out hK _ _ (HXC.out w10 hb10) (fun hS2 => ?_)
          clear hK K hS
          have hS := hS2
          clear hS2
          try simp only [Act.put, List.setIfInBounds_toArray, List.set_cons_succ, List.set_cons_zero, List.getElem_toArray, List.getElem_cons_succ, List.getElem_cons_zero]
          refine wpAnyH_take (i := 11) (v := ?v45) rfl (by decide +kernel) (by decide +kernel) (by decide +kernel) (fun _ _ _ h => h) (Or.inl ⟨by kernel_rfl, fun w hSw => ?h45⟩) hS ?_; (case h45 => (refine ok_of (fun z hz => ?_); go_simp; exact hz))
          try simp only [Act.put, List.setIfInBounds_toArray, List.set_cons_succ, List.set_cons_zero, List.getElem_toArray, List.getElem_cons_succ, List.getElem_cons_zero]
          refine wpAnyH_done (by kernel_rfl) ?_ _
          try simp only [Act.put, List.setIfInBounds_toArray, List.set_cons_succ, List.set_cons_zero, List.getElem_toArray, List.getElem_cons_succ, List.getElem_cons_zero]
          simp only [NQ]
          rw [List.nil_append] at hrow10
          have hf := HFIN.out _ _ hrow10 hb10
          clear hS
          go_wp2_with fail
          all_goals go_ret
          all_goals exact ⟨_, rfl, hf.1, hf.2⟩
        · go_simp
          have hb5 : Below wq.heap.size wq (wq.drew.alloc (.cells #[.int .i64 d.rep, .int .i64 d.ctr] 24)) := (below_drew1 (Below.refl _ _)).alloc (by simp) _
          have hsrc5 : EDot.Src (wq.drew.alloc (.cells #[.int .i64 d.rep, .int .i64 d.ctr] 24)) (.slice (some ⟨wq.drew.heap.size, 0, none⟩) 1 1) [d] := Enc.Src.one_lit (E := EDot) wq.drew 24 _
          refine Shut.out hK _ _ (HXC.out _ hb5) (fun hS2 => ?_)
          clear hK K hS
          have hS := hS2
          clear hS2
          try simp only [Act.put, List.setIfInBounds_toArray, List.set_cons_succ, List.set_cons_zero, List.getElem_toArray, List.getElem_cons_succ, List.getElem_cons_zero]
          refine wpAnyH_ready (rs := [3]) (by decide +kernel) (by simp) ?_
          refine (AllReadyH.cons rfl (fun K hK => ?_) AllReadyH.nil)
          refine step_append_row rfl _ _ 37 rfl EDot wq.heap.size (.agg #[.int .i64 0, .int .i64 0]) 16 Tryz.underlying37 infoDot (by decide) (by decide) _ [] rfl (Enc.Row.nil _ _) _ (l.take k) rfl (HSA.out _ hb5) (by have := HLE.out; simp; omega) (hb5.size) ?_
          intro v3 w3 hrow3 hgr3
          have hl3 := (Below.refl _ _).grown hgr3 (Nat.le_refl _) (fun j hj => by cases hj)
          have hb3 := hb5.trans (hl3.mono hb5.size)
          have hsrc3 := hsrc5.below hl3
          refine Shut.out hK _ _ (HXC.out w3 hb3) (fun hS2 => ?_)
          clear hK K hS
          have hS := hS2
          clear hS2
          try simp only [Act.put, List.setIfInBounds_toArray, List.set_cons_succ, List.set_cons_zero, List.getElem_toArray, List.getElem_cons_succ, List.getElem_cons_zero]
          refine wpAnyH_ready (rs := [6]) (by decide +kernel) (by simp) ?_
          refine (AllReadyH.cons rfl (fun K hK => ?_) AllReadyH.nil)
          refine step_append_row rfl _ _ 37 rfl EDot wq.heap.size (.agg #[.int .i64 0, .int .i64 0]) 16 Tryz.underlying37 infoDot (by decide) (by decide) _ ([] ++ l.take k) rfl (hrow3) _ [d] rfl (hsrc3) (by have := HLE.out; simp; omega) (hb3.size) ?_
          intro v6 w6 hrow6 hgr6
          have hb6 := hb3.grown hgr6 hb3.size (fun j hj => (hrow3.lt _ hj).1)
          refine Shut.out hK _ _ (HXC.out w6 hb6) (fun hS2 => ?_)
          clear hK K hS
          have hS := hS2
          clear hS2
          try simp only [Act.put, List.setIfInBounds_toArray, List.set_cons_succ, List.set_cons_zero, List.getElem_toArray, List.getElem_cons_succ, List.getElem_cons_zero]
          refine wpAnyH_ready (rs := [10]) (by decide +kernel) (by simp) ?_
          refine (AllReadyH.cons rfl (fun K hK => ?_) AllReadyH.nil)
          refine step_append_row rfl _ _ 37 rfl EDot wq.heap.size (.agg #[.int .i64 0, .int .i64 0]) 16 Tryz.underlying37 infoDot (by decide) (by decide) _ ([] ++ l.take k ++ [d]) rfl (hrow6) _ (l.drop k) rfl (HSB.out _ hb6) (by have := HLE.out; simp; omega) (hb6.size) ?_
          intro v10 w10 hrow10 hgr10
          have hb10 := hb6.grown hgr10 hb6.size (fun j hj => (hrow6.lt _ hj).1)
          refine Shut.out hK _ _ (HXC.out w10 hb10) (fun hS2 => ?_)
          clear hK K hS
          have hS := hS2
          clear hS2
          try simp only [Act.put, List.setIfInBounds_toArray, List.set_cons_succ, List.set_cons_zero, List.getElem_toArray, List.getElem_cons_succ, List.getElem_cons_zero]
          refine wpAnyH_take (i := 11) (v := ?v46) rfl (by decide +kernel) (by decide +kernel) (by decide +kernel) (fun _ _ _ h => h) (Or.inl ⟨by kernel_rfl, fun w hSw => ?h46⟩) hS ?_; (case h46 => (refine ok_of (fun z hz => ?_); go_simp; exact hz))
          try simp only [Act.put, List.setIfInBounds_toArray, List.set_cons_succ, List.set_cons_zero, List.getElem_toArray, List.getElem_cons_succ, List.getElem_cons_zero]
          refine wpAnyH_done (by kernel_rfl) ?_ _
          try simp only [Act.put, List.setIfInBounds_toArray, List.set_cons_succ, List.set_cons_zero, List.getElem_toArray, List.getElem_cons_succ, List.getElem_cons_zero]
          simp only [NQ]
          rw [List.nil_append] at hrow10
          have hf := HFIN.out _ _ hrow10 hb10
          clear hS
          go_wp2_with fail
          all_goals go_ret
          all_goals exact ⟨_, rfl, hf.1, hf.2⟩
end Go.Proofs.YtjlhdgmcaiiagaaGreatDoor

