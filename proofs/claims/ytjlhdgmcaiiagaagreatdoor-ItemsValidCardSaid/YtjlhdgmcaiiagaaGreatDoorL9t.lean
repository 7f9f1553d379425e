/- own: a copy of items. -/
import Derived.Test.YtjlhdgmcaiiagaaGreatDoorRow2
import Derived.Test.YtjlhdgmcaiiagaaGreatDoorL9k
namespace Go.Proofs.YtjlhdgmcaiiagaaGreatDoor
open Go.RowKit Go.Maps

theorem own_step {base : Nat} {wr w6 w8 : World} {ov v8 : Value} {qs : List ItW} {q : ItW} (hfr : FreshI base wr ov qs) (hbase : base ≤ wr.heap.size) (hb : Below wr.heap.size wr (w6.alloc (.cells #[.string q.x.name, q.v] 31))) (hw6 : wr.heap.size < w6.heap.size)
    (hs : q.x.name.size ≤ maxLen) (hmi : ∀ m ∈ q.x.marks, MI m) (hrow : EMark.Row (wr.heap.size + 1) (w6.alloc (.cells #[.string q.x.name, q.v] 31)) q.v q.x.marks)
    (h8 : EItem.Row base w8 v8 (qs ++ [q])) (hgr : (w6.alloc (.cells #[.string q.x.name, q.v] 31)).grownBy w8 ov.ownBlock) : FreshI base w8 v8 (qs ++ [q]) := by
  have h6 : FreshI wr.heap.size (w6.alloc (.cells #[.string q.x.name, q.v] 31)) (.slice (some ⟨w6.heap.size, 0, none⟩) 1 1) [q] := by
    have hr1 : EItem.Row wr.heap.size (w6.alloc (.cells #[.string q.x.name, q.v] 31)) (.slice (some ⟨w6.heap.size, 0, none⟩) 1 1) [q] := (row_lit EItem [q] w6 (by unfold maxLen; simp)).mono (Nat.le_of_lt hw6)
    refine ⟨hr1, fun p hp => ?_, List.pairwise_singleton _ _⟩
    rw [List.mem_singleton.1 hp]
    have hrow' := hrow.mono (Nat.le_succ wr.heap.size)
    exact ⟨⟨hs, hrow', hmi⟩, apart_types hr1 hrow'⟩
  exact fresh_append (hfr.below hb) h6 hbase (fun p hp k hk => ((hfr.2.1 p hp).1.2.1.lt k hk).2) (fun k hk => (hfr.1.lt k hk).2) h8 hgr
set_option linter.unusedSimpArgs false in
set_option maxRecDepth 100000 in
set_option maxHeartbeats 8000000 in
theorem l9own_any (l : List ItemD) (v : Value) (w : World) (h : Arr ItemR 2 w v l) (hl : Lt l) : Calls Tryz.prog 25 #[v] w fun e w' => ∃ v', e = .returned v' ∧ Arr ItemR 2 w' v' l ∧ Below w.heap.size w w' := by
  have hn := h.len
  have HLT := Lib.hid hl
  have HA := Lib.hid h
  obtain ⟨o, c, rfl, hel⟩ := h.itemAt
  have HEL := Lib.hid hel
  clear hel h hl
  go_enter Tryz.func25, Tryz.ntmps25
  go_wp2_with fail
  go_loopw [3, 8] (fun ov i wr => ∃ (k : Nat) (qs : List ItW), k ≤ l.length ∧ i = .int .i64 k ∧ qs.map (·.x) = l.take k ∧ FreshI w.heap.size wr ov qs ∧ Below w.heap.size w wr) (fun _ i _ => l.length - (intOf i).toNat)
  case atStart => exact ⟨0, [], Nat.zero_le _, rfl, by simp, ⟨Enc.Row.nil _ _, fun p hp => by simp at hp, List.Pairwise.nil⟩, Below.refl _ _⟩
  case round =>
    obtain ⟨k, qs, hk, rfl, hqm, hfr, hB⟩ := hrel
    have HFR := Lib.hid hfr
    have HQM := Lib.hid hqm
    have HB := Lib.hid hB
    obtain ⟨av, cv, rfl⟩ := hfr.1.slice
    clear hfr hqm hB
    by_cases hlt : k < l.length
    · obtain ⟨b, off, mv, rfl, hbl, e0, e1, hns, hmk⟩ := HEL.out k hlt
      obtain ⟨mo, mc, rfl, -⟩ := id hmk
      have c0 : wr.cell? ⟨b, off + k * 2, none⟩ = some (.string l[k].name) := by rw [HB.out.cell (p := ⟨_, _, _⟩) hbl]; exact e0
      have c1 : wr.cell? ⟨b, off + k * 2 + 1, none⟩ = some (.slice mo l[k].marks.length mc) := by rw [HB.out.cell (p := ⟨_, _, _⟩) hbl]; exact e1
      have HTK : Hid (∀ q : ItW, q.x = l[k] → (qs ++ [q]).map (·.x) = l.take (k + 1)) := Lib.hid (fun q hq => by rw [List.map_append, HQM.out, List.take_succ_eq_append_getElem hlt, List.map_cons, hq]; rfl)
      have hql : qs.length = k := by have := congrArg List.length HQM.out; rw [List.length_map, List.length_take] at this; omega
      have HQL : Hid (qs.length ≤ 1000) := Lib.hid (by have := HLT.out.1; omega)
      have HML : Hid (l[k].marks.length ≤ 1000) := Lib.hid (HLT.out.2 _ (List.getElem_mem hlt))
      have HMI := Lib.hid hmk.marksMI
      have HNS := Lib.hid hns
      obtain ⟨W2, hW2⟩ : ∃ W2, W2 = wr.alloc (.cells #[.string l[k].name, .slice mo l[k].marks.length mc] 31) := ⟨_, rfl⟩
      have hb2 : Below wr.heap.size wr W2 := by rw [hW2]; exact (Below.refl _ _).alloc (Nat.le_refl _) _
      have hg2 : W2.heap[wr.heap.size]? = some (.cells #[.string l[k].name, .slice mo l[k].marks.length mc] 31) := by rw [hW2]; exact alloc_new _ _
      have HGL2 := Lib.hid (lt_of_heap hg2)
      have hsz2 : W2.heap.size = wr.heap.size + 1 := by rw [hW2]; simp
      have HS : Hid (∀ wz, Below W2.heap.size W2 wz → wz.cell? ⟨wr.heap.size, 0, none⟩ = some (.string l[k].name) ∧ wz.cell? ⟨wr.heap.size, 1, none⟩ = some (.slice mo l[k].marks.length mc)) := Lib.hid (fun wz hz => ⟨by rw [hz.cell (p := ⟨wr.heap.size, 0, none⟩) (lt_of_heap hg2), cell0 hg2 0]; rfl, by rw [hz.cell (p := ⟨wr.heap.size, 1, none⟩) (lt_of_heap hg2), cell0 hg2 1]; rfl⟩)
      have HSM : Hid (EMark.Src W2 (.slice mo l[k].marks.length mc) l[k].marks) := Lib.hid (((hmk.marks HB.out).marks hb2).toSrc (E := EMark) (fun _ _ h => h.1))
      have HB2 := Lib.hid hb2
      have HB02 := Lib.hid (HB.out.trans (hb2.mono HB.out.size))
      have HWW := Lib.hid HB.out.size
      have HW2 := Lib.hid hW2
      have HXE : Hid (l[k] = ⟨l[k].name, l[k].marks⟩) := Lib.hid rfl
      generalize hmse : l[k].marks = ms at *
      generalize hnme : l[k].name = nm at *
      have HSTEP : Hid (∀ (w6 w8 : World) (a5 : Option Addr) (c5 : Nat) (v8 : Value) (q : ItW), Below W2.heap.size W2 (w6.alloc (.cells #[.string nm, .slice a5 ms.length c5] 31)) → EMark.Row W2.heap.size (w6.alloc (.cells #[.string nm, .slice a5 ms.length c5] 31)) (.slice a5 ms.length c5) ms → EItem.Row w.heap.size w8 v8 (qs ++ [q]) → (w6.alloc (.cells #[.string nm, .slice a5 ms.length c5] 31)).grownBy w8 (Value.slice av qs.length cv).ownBlock → q = ⟨⟨nm, ms⟩, a5, c5⟩ → Below W2.heap.size W2 w6 → FreshI w.heap.size w8 v8 (qs ++ [q]) ∧ q.x = l[k]) := Lib.hid (fun w6 w8 a5 c5 v8 q h1 h2 h3 h4 h5 h6 => by
        subst h5
        refine ⟨own_step (q := ⟨⟨nm, ms⟩, a5, c5⟩) HFR.out HWW.out (HB2.out.trans (h1.mono HB2.out.size)) (Nat.lt_of_lt_of_le HGL2.out h6.size) HNS.out HMI.out ?_ h3 h4, HXE.out.symm⟩
        rw [hsz2] at h2
        exact h2)
      have a0 : (0 : Int) ≤ k := by omega
      have a1 : (k : Int) < l.length := by omega
      have hkw : IntKind.i64.wrap ((k : Int) + 1) = (k : Int) + 1 := by rw [IntKind.wrap_i64]; omega
      clear e0 e1 hmk hW2 hb2 hg2 hmse hnme hns hql hsz2
      go_upto_region 5 with fail
      rw [← HW2.out]
      refine NQ.to ?_
      refine wp_region_held_drew (S := (fun wz => wz.cell? ⟨wr.heap.size, 0, none⟩ = some (.string nm) ∧ wz.cell? ⟨wr.heap.size, 1, none⟩ = some (.slice mo ms.length mc))) (by kernel_rfl) (HS.out _ (below_drew1 (Below.refl _ _))) (fun hS => ?_)
      try simp only [Act.put, List.setIfInBounds_toArray, List.set_cons_succ, List.set_cons_zero, List.getElem_toArray, List.getElem_cons_succ, List.getElem_cons_zero]
      refine wpAnyH_take (i := 0) (v := ?v0) rfl (by decide +kernel) (by decide +kernel) (by decide +kernel) (fun _ _ _ h => h) (Or.inl ⟨by kernel_rfl, fun w hSw => ?h0⟩) hS ?_; (case h0 => (go_simp; first | done | exact rfl | exact ⟨rfl, rfl⟩))
      try simp only [Act.put, List.setIfInBounds_toArray, List.set_cons_succ, List.set_cons_zero, List.getElem_toArray, List.getElem_cons_succ, List.getElem_cons_zero]
      refine wpAnyH_take (i := 1) (v := ?v1) rfl (by decide +kernel) (by decide +kernel) (by decide +kernel) (fun _ _ _ h => h) (Or.inl ⟨by kernel_rfl, fun w hSw => ?h1⟩) hS ?_; (case h1 => (go_simp; first | done | exact rfl | exact ⟨rfl, rfl⟩))
      try simp only [Act.put, List.setIfInBounds_toArray, List.set_cons_succ, List.set_cons_zero, List.getElem_toArray, List.getElem_cons_succ, List.getElem_cons_zero]
      refine wpAnyH_take (i := 2) (v := ?v2) rfl (by decide +kernel) (by decide +kernel) (by decide +kernel) (fun _ _ _ h => h) (Or.inl ⟨by kernel_rfl, fun w hSw => ?h2⟩) hS ?_; (case h2 => (obtain ⟨f1, f2⟩ := hSw; go_simp; first | done | exact rfl | exact ⟨rfl, rfl⟩))
      try simp only [Act.put, List.setIfInBounds_toArray, List.set_cons_succ, List.set_cons_zero, List.getElem_toArray, List.getElem_cons_succ, List.getElem_cons_zero]
      refine wpAnyH_take (i := 3) (v := ?v3) rfl (by decide +kernel) (by decide +kernel) (by decide +kernel) (fun _ _ _ h => h) (Or.inl ⟨by kernel_rfl, fun w hSw => ?h3⟩) hS ?_; (case h3 => (go_simp; first | done | exact rfl | exact ⟨rfl, rfl⟩))
      try simp only [Act.put, List.setIfInBounds_toArray, List.set_cons_succ, List.set_cons_zero, List.getElem_toArray, List.getElem_cons_succ, List.getElem_cons_zero]
      refine wpAnyH_take (i := 4) (v := ?v4) rfl (by decide +kernel) (by decide +kernel) (by decide +kernel) (fun _ _ _ h => h) (Or.inl ⟨by kernel_rfl, fun w hSw => ?h4⟩) hS ?_; (case h4 => (obtain ⟨f1, f2⟩ := hSw; go_simp; first | done | exact rfl | exact ⟨rfl, rfl⟩))
      try simp only [Act.put, List.setIfInBounds_toArray, List.set_cons_succ, List.set_cons_zero, List.getElem_toArray, List.getElem_cons_succ, List.getElem_cons_zero]
      refine wpAnyH_ready (rs := [5]) (by decide +kernel) (by simp) ?_
      refine (AllReadyH.cons rfl (fun K hK => ?_) AllReadyH.nil)
      refine step_append_row rfl _ _ 29 rfl EMark W2.heap.size (.agg #[.int .i64 0, .int .i64 0, .int .i64 0, .int .u64 0]) 32 Tryz.underlying29 infoMark (by decide) (by decide) _ [] rfl (Enc.Row.nil _ _) _ ms rfl (HSM.out.below (below_drew1 (Below.refl _ _))) (by have := HML.out; simp; omega) (by simp) ?_
      intro v5 w5 hrow5 hgr5
      rw [List.nil_append] at hrow5
      have hb5 := (below_drew1 (Below.refl W2.heap.size W2)).grown hgr5 (by simp) (fun j hj => by cases hj)
      obtain ⟨a5, c5, rfl⟩ := hrow5.slice
      refine Shut.out hK _ _ (HS.out w5 hb5) (fun hS2 => ?_)
      clear hK K hS
      have hS := hS2
      clear hS2
      try simp only [Act.put, List.setIfInBounds_toArray, List.set_cons_succ, List.set_cons_zero, List.getElem_toArray, List.getElem_cons_succ, List.getElem_cons_zero]
      refine wpAnyH_ready (rs := [6]) (by decide +kernel) (by simp) ?_
      refine (AllReadyH.cons rfl (fun K hK => ?_) AllReadyH.nil)
      go_simp
      go_at_call 37
      refine (l9item_any nm a5 ms.length c5 w5).mono ?_
      rintro e w6 ⟨rfl, hb6⟩
      have hb26 := hb5.trans (hb6.mono hb5.size)
      go_simp
      refine Shut.out hK _ _ (HS.out w6 hb26) (fun hS2 => ?_)
      clear hK K hS
      have hS := hS2
      clear hS2
      try simp only [Act.put, List.setIfInBounds_toArray, List.set_cons_succ, List.set_cons_zero, List.getElem_toArray, List.getElem_cons_succ, List.getElem_cons_zero]
      refine wpAnyH_ready (rs := [7]) (by decide +kernel) (by simp) ?_
      refine (AllReadyH.cons rfl (fun K hK => ?_) AllReadyH.nil)
      go_simp
      have hal7 : Below w6.heap.size w6 (w6.alloc (.cells #[.string nm, .slice a5 ms.length c5] 31)) := (Below.refl _ _).alloc (Nat.le_refl _) _
      have hb7 := hb26.trans (hal7.mono hb26.size)
      have HFR7 := Lib.hid (HFR.out.below (HB2.out.trans (hb7.mono HB2.out.size)))
      obtain ⟨q, hq⟩ : ∃ q : ItW, q = ⟨⟨nm, ms⟩, a5, c5⟩ := ⟨_, rfl⟩
      have hsrc7 : EItem.Src (w6.alloc (.cells #[.string nm, .slice a5 ms.length c5] 31)) (.slice (some ⟨w6.heap.size, 0, none⟩) 1 1) [q] := by rw [hq]; exact Enc.Src.one_lit (E := EItem) w6 31 _
      have hrow7 := (hrow5.below hb6).below hal7
      have hwr7 : wr.heap.size < (w6.alloc (.cells #[.string nm, .slice a5 ms.length c5] 31)).heap.size := Nat.lt_of_lt_of_le HGL2.out hb7.size
      refine Shut.out hK _ _ (HS.out _ hb7) (fun hS2 => ?_)
      clear hK K hS
      have hS := hS2
      clear hS2
      try simp only [Act.put, List.setIfInBounds_toArray, List.set_cons_succ, List.set_cons_zero, List.getElem_toArray, List.getElem_cons_succ, List.getElem_cons_zero]
      refine wpAnyH_ready (rs := [8]) (by decide +kernel) (by simp) ?_
      refine (AllReadyH.cons rfl (fun K hK => ?_) AllReadyH.nil)
      refine step_append_row rfl _ _ 22 rfl EItem w.heap.size (.agg #[.string ⟨#[]⟩, .slice none 0 0]) 40 Tryz.underlying22 infoItem (by decide) (by decide) _ qs rfl HFR7.out.1 _ [q] rfl hsrc7 (by have := HQL.out; simp; omega) (Nat.le_trans HWW.out (Nat.le_of_lt hwr7)) ?_
      intro v8 w8 hrow8 hgr8
      have hne8 : ∀ j, (Value.slice av qs.length cv).ownBlock = some j → w.heap.size ≤ j ∧ j < wr.heap.size := fun j hj => HFR.out.1.lt j hj
      have hbf := (HB02.out.trans (hb7.mono HB02.out.size)).grown hgr8 (Nat.le_trans HWW.out (Nat.le_of_lt hwr7)) (fun j hj => (hne8 j hj).1)
      have hf8 := HSTEP.out _ _ _ _ _ _ hb7 hrow7 hrow8 hgr8 hq hb26
      refine Shut.out hK _ _ (⟨by rw [World.cell?_of_block (hgr8.block wr.heap.size hwr7 (fun e => by have := (hne8 _ e.symm).2; omega))]; exact (HS.out _ hb7).1, by rw [World.cell?_of_block (hgr8.block wr.heap.size hwr7 (fun e => by have := (hne8 _ e.symm).2; omega))]; exact (HS.out _ hb7).2⟩) (fun hS2 => ?_)
      clear hK K hS
      have hS := hS2
      clear hS2
      try simp only [Act.put, List.setIfInBounds_toArray, List.set_cons_succ, List.set_cons_zero, List.getElem_toArray, List.getElem_cons_succ, List.getElem_cons_zero]
      refine wpAnyH_take (i := 9) (v := ?v9) rfl (by decide +kernel) (by decide +kernel) (by decide +kernel) (fun _ _ _ h => h) (Or.inl ⟨by kernel_rfl, fun w hSw => ?h9⟩) hS ?_; (case h9 => (go_simp; first | done | exact rfl | exact ⟨rfl, rfl⟩))
      try simp only [Act.put, List.setIfInBounds_toArray, List.set_cons_succ, List.set_cons_zero, List.getElem_toArray, List.getElem_cons_succ, List.getElem_cons_zero]
      refine wpAnyH_done (by kernel_rfl) ?_ _
      try simp only [Act.put, List.setIfInBounds_toArray, List.set_cons_succ, List.set_cons_zero, List.getElem_toArray, List.getElem_cons_succ, List.getElem_cons_zero]
      simp only [NQ]
      have HT2 := Lib.hid (HTK.out q hf8.2)
      have HF8 := Lib.hid hf8.1
      clear hf8 hS HSTEP HTK hrow8 hgr8 hne8 hrow7 hsrc7 hb7 hal7 hb26 hb6 hrow5 hgr5 hb5 hq
      go_wp2_with fail
      go_roundw
      case rel => exact ⟨k + 1, qs ++ [q], by omega, by go_num, HT2.out, HF8.out, hbf⟩
      case measure => simp [intOf]; omega
    · have hke : k = l.length := by omega
      have HF : Hid (∃ w', w' = wr ∧ Arr ItemR 2 w' (.slice av qs.length cv) l) := Lib.hid ⟨wr, rfl, by
        have h1 := HFR.out.arr
        rw [HQM.out, hke, List.take_length] at h1
        exact h1⟩
      go_wp2_with fail
      go_ret
      obtain ⟨_, rfl, h2⟩ := HF.out
      exact ⟨_, rfl, h2, HB.out⟩
end Go.Proofs.YtjlhdgmcaiiagaaGreatDoor

