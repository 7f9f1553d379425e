/- items.Put. -/
import Derived.Test.YtfnfbcaoihhbpaaGreatDoorGrow
import Derived.Test.YtfnfbcaoihhbpaaGreatDoorIt10
set_option linter.unusedSimpArgs false
set_option linter.unusedVariables false
set_option maxRecDepth 100000
set_option maxHeartbeats 8000000
namespace Go.Proofs.YtfnfbcaoihhbpaaGreatDoor
open Go.RowKit Go.Maps

theorem itemsPut1_any (nm : ByteArray) (q : Nat) (x : ItemD) (mo : Option Addr) (mc : Nat) (w : World) (hq : w.cell? ⟨q, 0, none⟩ = some (.string nm)) : Calls Tryz.prog 81 #[.agg #[.string x.name, .slice mo x.marks.length mc], .pointer (some ⟨q, 0, none⟩)] w fun e w' => e = .returned (.bool (decide (x.name = nm))) ∧ Below w.heap.size w w' := by
 have HF := Hd (strDec x.name nm)
 have hql : q < w.heap.size := by
  obtain ⟨b, off, he, hlt⟩ := addr_plain hq
  cases he
  exact hlt
 have hqn : ¬ q = w.heap.size := by omega
 go_enter Tryz.func81, Tryz.ntmps81
 go_wp2_with fail
 go_ret
 exact ⟨by rw [← HF.out]; rfl, bal⟩
def putE (l : List ItemD) (x : ItemD) : Int := if validI l && oneI x then (if validI (putI l x) then 0 else 11) else 2
/-- What Put answers. -/
def PutPost (l : List ItemD) (x : ItemD) (w : World) (e : Ending) (w' : World) : Prop :=
 ∃ v', e = .returned (.tuple #[v', .int .i64 (putE l x)]) ∧ Below w.heap.size w w' ∧ (putE l x ≠ 0 → v' = .slice none 0 0) ∧ (putE l x = 0 → ∃ ps, ps.map (·.x) = putI l x ∧ FreshI w.heap.size w' v' ps)
theorem itemsPut_any (l : List ItemD) (x : ItemD) (v mv : Value) (w : World) (h : Arr ItemR 2 w v l) (hm : Arr MarkR 4 w mv x.marks) (hs : x.name.size ≤ maxLen) (hl : Lt l) (hl2 : l.length ≤ 900 ∧ x.marks.length ≤ 1000) (hG : GlobIs w) : Calls Tryz.prog 38 #[v, .agg #[.string x.name, mv]] w (PutPost l x w) := by
 have eg : ∀ args w, (callFunc 81 args).run Tryz.prog w = .ok (.enter 81 args) w := enters_of Tryz.func81 (by kernel_rfl) rfl
 obtain ⟨mo, mc, rfl, -⟩ := id hm
 obtain ⟨W1, hW1⟩ : ∃ W1, W1 = w.alloc (.cells #[.string x.name, .slice mo x.marks.length mc] 50) := ⟨_, rfl⟩
 have hb1 : Below w.heap.size w W1 := by rw [hW1]; exact bal
 have hg1 : W1.heap[w.heap.size]? = some (.cells #[.string x.name, .slice mo x.marks.length mc] 50) := by rw [hW1]; exact alloc_new _ _
 have hgl1 := lt_of_heap hg1
 have HV := Hd (itemsValid_any l v W1 (h.items hb1) hl (hG.below hb1))
 have HA := Hd h
 have HM := Hd hm
 have HGL := Hd hG
 have HG1 := Hd hg1
 have HB1 := Hd hb1
 have HW := Hd hW1
 have HLT := Hd hl
 have HPE : Hid (putE l x = if validI l && oneI x then (if validI (putI l x) then 0 else 11) else 2) := Hd rfl
 clear h hm hG hg1 hb1 hW1 hl
 obtain ⟨r, hr⟩ : ∃ r, r = validI l := ⟨_, rfl⟩
 rw [← hr] at HV HPE
 have HVL := Hd hr
 clear hr
 go_enter Tryz.func38, Tryz.ntmps38
 go_wp2_with fail
 rw [← HW.out]
 refine HV.out.mono ?_
 rintro e w2 ⟨rfl, hb2⟩
 have hg2 : w2.heap[w.heap.size]? = some (.cells #[.string x.name, .slice mo x.marks.length mc] 50) := by rw [hb2.block _ hgl1]; exact HG1.out
 have hgl2 := lt_of_heap hg2
 have HB2 := Hd (btr HB1.out hb2)
 cases r with
 | false =>
  have HE : Hid (putE l x = 2) := Hd HPE.out
  clear HPE hb2 hg2 HV
  go_wp2_with fail
  go_ret2
  exact ⟨.slice none 0 0, by rw [HE.out]; rfl, HB2.out, fun _ => rfl, fun h => by rw [HE.out] at h; cases h⟩
 | true =>
  have c0 : w2.cell? ⟨w.heap.size, 0, none⟩ = some (.string x.name) := cl0 hg2 0 rfl
  have c1 : w2.cell? ⟨w.heap.size, 1, none⟩ = some (.slice mo x.marks.length mc) := cl0 hg2 1 rfl
  have HINV := Hd (itemsInvalid_any x _ w2 (HM.out.marks HB2.out) hs (by omega) (HGL.out.below HB2.out))
  have HG2 := Hd hg2
  obtain ⟨r2, hr2⟩ : ∃ r2, r2 = oneI x := ⟨_, rfl⟩
  rw [← hr2] at HINV HPE
  clear hb2 hg2 HV hr2
  cases r2 with
  | false =>
   have HE : Hid (putE l x = 2) := Hd HPE.out
   clear HPE
   go_wp2_with fail
   refine HINV.out.mono ?_
   rintro e w3 ⟨rfl, hb3⟩
   have HB3 := Hd (btr HB2.out hb3)
   go_wp2_with fail
   go_ret2
   exact ⟨.slice none 0 0, by rw [HE.out]; rfl, HB3.out, fun _ => rfl, fun h => by rw [HE.out] at h; cases h⟩
  | true =>
   have HE : Hid (putE l x = if validI (putI l x) then 0 else 11) := Hd HPE.out
   clear HPE
   go_wp2_with fail
   refine HINV.out.mono ?_
   rintro e w3 ⟨rfl, hb3⟩
   have HB3 := Hd (btr HB2.out hb3)
   have HCP := Hd (itemsCopy_any l v w3 (HA.out.items HB3.out) HLT.out)
   have hg3 : w3.heap[w.heap.size]? = some (.cells #[.string x.name, .slice mo x.marks.length mc] 50) := by rw [hb3.block _ hgl2]; exact HG2.out
   have HG3 := Hd hg3
   have hgl3 := lt_of_heap hg3
   clear hb3 hg3 HINV c0 c1 HG2
   go_wp2_with fail
   refine HCP.out.mono ?_
   rintro e w4 ⟨v4, ps, rfl, hps, hf4, hb4⟩
   have hg4 : w4.heap[w.heap.size]? = some (.cells #[.string x.name, .slice mo x.marks.length mc] 50) := by rw [hb4.block _ hgl3]; exact HG3.out
   have hgl4 := lt_of_heap hg4
   have HDF := Hd (deleteFuncItems_any (fun y => decide (y.name = x.name)) 81 w.heap.size eg w3.heap.size ps v4 w4 (fun y mo mc W hW => itemsPut1_any x.name w.heap.size y mo mc W (cl0 (hW.trans hg4) 0 rfl)) hgl4 (fun e => by have := (hf4.1.lt _ e).1; omega) hb4.size hf4)
   have HPS := Hd hps
   have HB4 := Hd hb4
   have HG4 := Hd hg4
   clear hps hf4 hb4 hg4 HCP HG3
   go_wp2_with fail
   refine HDF.out.mono ?_
   rintro e w5 ⟨v5, qs, rfl, hqs, hf5, hb5⟩
   have hb35 := HB4.out.trans hb5
   have hg5 : w5.heap[w.heap.size]? = some (.cells #[.string x.name, .slice mo x.marks.length mc] 50) := by rw [hb5.block _ hgl3]; exact HG4.out
   have hgl5 := lt_of_heap hg5
   have c0 : w5.cell? ⟨w.heap.size, 0, none⟩ = some (.string x.name) := cl0 hg5 0 rfl
   have c1 : w5.cell? ⟨w.heap.size, 1, none⟩ = some (.slice mo x.marks.length mc) := cl0 hg5 1 rfl
   have HQS : Hid (qs.map (·.x) = dropN l x.name) := Hd (by rw [hqs, HPS.out]; rfl)
   have HB5 := Hd (btr HB3.out hb35)
   have HB35 := Hd hb35
   have hal : Below w5.heap.size w5 (w5.alloc (.cells #[.string x.name, .slice mo x.marks.length mc] 50)) := bal
   have HC6 := Hd (itemsCopy_any [x] _ _ (arr_lit 50 hs ((HM.out.marks HB5.out).marks hal)) ⟨by simp, fun y hy => by simp at hy; subst hy; exact hl2.2⟩)
   have HF5 := Hd (hf5.below hal)
   have HF5L : Hid (∀ k, v5.ownBlock = some k → k < w5.heap.size) := Hd (fun k hk => (hf5.1.lt k hk).2)
   have HF5M : Hid (∀ p ∈ qs, ∀ k, p.v.ownBlock = some k → k < w5.heap.size) := Hd (fun p hp k hk => ((hf5.2.1 p hp).1.2.1.lt k hk).2)
   have HAL := Hd hal
   have hql : qs.length ≤ l.length := by
    have := congrArg List.length HQS.out
    rw [List.length_map] at this
    rw [this]
    exact List.length_filter_le _ _
   clear hqs hf5 hb5 hb35 hg5 HDF hal HPS HG4
   go_wp2_with fail
   refine HC6.out.mono ?_
   rintro e w6 ⟨v6, rs, rfl, hrs, hf6, hb6⟩
   have hb56 : Below w5.heap.size w5 w6 := btr HAL.out hb6
   have HF56 := Hd (HF5.out.below hb6)
   have hrl : rs.length = 1 := by have := congrArg List.length hrs; simpa using this
   have HF6 := Hd hf6
   have HSRC := Hd hf6.1.src
   have HRS := Hd hrs
   have HB36 := Hd (btr HB35.out hb56)
   have hb36s := HB36.out.size
   have HS56 := Hd (show w5.heap.size ≤ w5.heap.size + 1 by omega)
   clear hb6 hb56 hf6 hrs HC6 c0 c1
   go_wp2_with (at_builtin; refine wpList_row rfl _ _ 26 rfl EItem w3.heap.size (.agg #[.string ⟨#[]⟩, .slice none 0 0]) 40 Tryz.underlying26 infoItem (by decide) (by decide) v5 qs rfl HF56.out.1 v6 rs rfl HSRC.out (by omega) hb36s ?_; intro v7 w7 hrow7 hgr7)
   have HB7 := Hd (HB36.out.grown hgr7 hb36s (fun k hk => (HF56.out.1.lt k hk).1))
   have hf7 : FreshI w3.heap.size w7 v7 (qs ++ rs) := fresh_append HF56.out HF6.out (by have := HB35.out.size; simp; omega) (fun p hp k hk => by have := HF5M.out p hp k hk; simp; omega) (fun k hk => by have := HF5L.out k hk; simp; omega) hrow7 hgr7
   obtain ⟨g, cap, rfl, hin7, hgb⟩ := hf7.1.some (by intro e; rw [List.append_eq_nil_iff] at e; rw [e.2] at hrl; cases hrl)
   have HS := Hd (sortItems_any g cap (qs ++ rs) w7 hin7 (by rw [List.length_append]; omega))
   have HF7 := Hd hf7
   clear hf7 hrow7 hgr7 hin7 HF56 HF6 HF5 HSRC
   go_wp2_with fail
   refine HS.out.mono ?_
   rintro e w8 ⟨rfl, ts, hp8, hs8, hin8, hb8, hot8⟩
   have HB8 := Hd (hb8 _ _ hgb HB7.out)
   have hf8 : FreshI w3.heap.size w8 (.slice (some ⟨g, 0, none⟩) ts.length cap) ts := FreshI.part HF7.out (fun q hq => hp8.mem_iff.1 hq) ((hp8.pairwise_iff (fun h => h.symm)).2 HF7.out.2.2) hin8 hot8
   have HM8 : Hid (ts.map (·.x) = putI l x) := Hd (putI_sorted (by have := HVL.out; unfold validI at this; simp only [Bool.true_eq, Bool.and_eq_true] at this; exact this.1.2) (by
    have := hp8.map (·.x)
    rw [List.map_append, HQS.out, HRS.out] at this
    exact this) (by rw [List.pairwise_map]; exact hs8))
   have htl : ts.length = (qs ++ rs).length := hp8.length_eq
   rw [htl] at hf8
   have hpl : (putI l x).length ≤ 1000 := by rw [← HM8.out, List.length_map, htl, List.length_append]; omega
   have hpm : ∀ y ∈ putI l x, y.marks.length ≤ 1000 := fun y hy => by
    rw [← HM8.out] at hy
    have h9 := (hp8.map (·.x)).mem_iff.1 hy
    rw [List.map_append, HQS.out, HRS.out] at h9
    rcases List.mem_append.1 h9 with h9 | h9
    ·exact HLT.out.2 _ (List.mem_filter.1 h9).1
    ·rw [List.mem_singleton] at h9; rw [h9]; exact hl2.2
   have HW8 := Hd (HB3.out.trans (HB8.out.mono HB3.out.size))
   have HV8 := Hd (itemsValid_any (putI l x) _ w8 (by rw [← HM8.out]; exact hf8.arr) ⟨hpl, hpm⟩ (HGL.out.below HW8.out))
   have HF8 := Hd hf8
   clear hf8 hp8 hs8 hin8 hb8 hot8 htl hpl hpm HS HF7
   obtain ⟨r3, hr3⟩ : ∃ r3, r3 = validI (putI l x) := ⟨_, rfl⟩
   rw [← hr3] at HV8 HE
   clear hr3
   generalize (qs ++ rs).length = n8 at *
   cases r3 with
   | true =>
    have HE1 : Hid (putE l x = 0) := Hd HE.out
    clear HE
    go_wp2_with fail
    refine HV8.out.mono ?_
    rintro e w9 ⟨rfl, hb9⟩
    have HB9 := Hd (btr HW8.out hb9)
    have HF9 := Hd (HF8.out.below hb9)
    go_wp2_with fail
    go_ret2
    exact ⟨_, by rw [HE1.out]; rfl, HB9.out, fun h => absurd HE1.out h, fun _ => ⟨ts, HM8.out, HF9.out.mono HB3.out.size⟩⟩
   | false =>
    have HE1 : Hid (putE l x = 11) := Hd HE.out
    clear HE
    go_wp2_with fail
    refine HV8.out.mono ?_
    rintro e w9 ⟨rfl, hb9⟩
    have HB9 := Hd (btr HW8.out hb9)
    go_wp2_with fail
    go_ret2
    exact ⟨.slice none 0 0, by rw [HE1.out]; rfl, HB9.out, fun _ => rfl, fun h => by rw [HE1.out] at h; cases h⟩
end Go.Proofs.YtfnfbcaoihhbpaaGreatDoor
