/- batch.Merge of one entry with a zero cart, and inbox.own. -/
import Derived.Test.YtkedgiklcmkmmaaGreatDoorI2
import Derived.Laws.ResultCell
namespace Go.Proofs.YtkedgiklcmkmmaaGreatDoor
open Go.RowKit Go.Maps

/-- The cells of an entry with a zero cart. -/
def zE (k : ByteArray) : List Value := [.string k, .slice none 0 0, .slice none 0 0, .slice none 0 0]
theorem Tryz_info41 : (Tryz.prog.info? 41).map (fun i => (i.zero, i.size, i.bytes)) = some (some (.agg #[.string ⟨#[]⟩, .slice none 0 0, .slice none 0 0, .slice none 0 0]), 4, 88) := by kernel_rfl
theorem info_parts {P : Program} {T : TypeId} {z : Value} {s b : Nat} (h : (P.info? T).map (fun i => (i.zero, i.size, i.bytes)) = some (some z, s, b)) : ∃ i, P.info? T = some i ∧ i.zero = some z ∧ i.size = s ∧ i.bytes = b := by
  cases e : P.info? T with
  | none => rw [e] at h; cases h
  | some i =>
    rw [e] at h
    simp only [Option.map_some, Option.some.injEq, Prod.mk.injEq] at h
    exact ⟨i, rfl, h.1, h.2.1, h.2.2⟩

def MergePost (k : ByteArray) (w : World) (e : Ending) (w' : World) : Prop :=
  ∃ g, e = .returned (.tuple #[.slice (some ⟨g, 0, none⟩) 1 1, .int .i64 0]) ∧ w.heap.size ≤ g ∧ g < w'.heap.size ∧ (∀ j (_ : j < 4), w'.cell? ⟨g, j, none⟩ = (zE k)[j]?) ∧ Below w.heap.size w w'

set_option linter.unusedSimpArgs false in
set_option maxRecDepth 100000 in
set_option maxHeartbeats 4000000 in
theorem merge_one (g : Nat) (k : ByteArray) (w : World) (hk : keyB k = true) (hs : k.size ≤ maxLen) (hg : g < w.heap.size) (c0 : w.cell? ⟨g, 0, none⟩ = some (.string k)) (c1 : w.cell? ⟨g, 1, none⟩ = some (.slice none 0 0)) (c2 : w.cell? ⟨g, 2, none⟩ = some (.slice none 0 0)) (c3 : w.cell? ⟨g, 3, none⟩ = some (.slice none 0 0)) :
    Calls Tryz.prog 40 #[.slice (some ⟨g, 0, none⟩) 1 1, .slice none 0 0] w (MergePost k w) := by
  obtain ⟨i0, hi0, hz0, hz1, hz2⟩ := info_parts Tryz_info41
  have HI := Lib.hid (And.intro hi0 (And.intro hz0 (And.intro hz1 hz2)))
  have HO := Lib.hid (ordered_one g 1 k w hk hs hg c0 c1 c2 c3)
  have HC0 := Lib.hid c0
  have HC1 := Lib.hid c1
  have HC2 := Lib.hid c2
  have HC3 := Lib.hid c3
  clear hi0 hz0 hz1 hz2 c0 c1 c2 c3
  go_enter Tryz.func40, Tryz.ntmps40
  go_wp2
  go_step3
  go_wp2_with (first | (go_at_call 47; have hb1q := hb1; refine (ordered_nil _).mono ?_; rintro e w2 ⟨rfl, rfl⟩) | (go_at_call 47; refine HO.out.mono ?_; rintro e w1 ⟨rfl, hb1⟩))
  go_step3
  go_wp2
  have c0 : w2.cell? ⟨g, 0, none⟩ = some (.string k) := by rw [hb1.cell (p := ⟨_, _, _⟩) hg]; exact HC0.out
  have c1 : w2.cell? ⟨g, 1, none⟩ = some (.slice none 0 0) := by rw [hb1.cell (p := ⟨_, _, _⟩) hg]; exact HC1.out
  have c2 : w2.cell? ⟨g, 2, none⟩ = some (.slice none 0 0) := by rw [hb1.cell (p := ⟨_, _, _⟩) hg]; exact HC2.out
  have c3 : w2.cell? ⟨g, 3, none⟩ = some (.slice none 0 0) := by rw [hb1.cell (p := ⟨_, _, _⟩) hg]; exact HC3.out
  have hg2 : g < w2.heap.size := Nat.lt_of_lt_of_le hg hb1.size
  have HB1 := Lib.hid hb1
  clear hb1 hb1q
  refine wp_loop_rounds 2 ?_
  rw [rounds_succ]
  go_upto_region 20 with fail
  refine NQ.to ?_
  refine wp_region_any (by kernel_rfl) ?_
  try (change wpAny _ _ _ _ _ _ _ (World.drew _))
  try simp only [Act.put, List.setIfInBounds_toArray, List.set_cons_succ, List.set_cons_zero, List.getElem_toArray, List.getElem_cons_succ, List.getElem_cons_zero]
  refine wpAny_take (i := 0) (v := .slice (some ⟨g, 0, none⟩) 1 1) rfl (by decide +kernel) (by decide +kernel) (by decide +kernel) (fun _ _ _ h => h) (Or.inl ⟨by kernel_rfl, fun w => by go_simp⟩) ?_
  try simp only [Act.put, List.setIfInBounds_toArray, List.set_cons_succ, List.set_cons_zero, List.getElem_toArray, List.getElem_cons_succ, List.getElem_cons_zero]
  refine wpAny_take (i := 1) (v := .pointer (some ⟨g, 0, none⟩)) rfl (by decide +kernel) (by decide +kernel) (by decide +kernel) (fun _ _ _ h => h) (Or.inl ⟨by kernel_rfl, fun w => by go_simp⟩) ?_
  try simp only [Act.put, List.setIfInBounds_toArray, List.set_cons_succ, List.set_cons_zero, List.getElem_toArray, List.getElem_cons_succ, List.getElem_cons_zero]
  refine wpAny_take (i := 3) (v := .slice (some ⟨g, 0, none⟩) 1 1) rfl (by decide +kernel) (by decide +kernel) (by decide +kernel) (fun _ _ _ h => h) (Or.inl ⟨by kernel_rfl, fun w => by go_simp⟩) ?_
  try simp only [Act.put, List.setIfInBounds_toArray, List.set_cons_succ, List.set_cons_zero, List.getElem_toArray, List.getElem_cons_succ, List.getElem_cons_zero]
  refine wpAny_take (i := 4) (v := .slice (some ⟨g, 0, none⟩) 0 0) rfl (by decide +kernel) (by decide +kernel) (by decide +kernel) (fun _ _ _ h => h) (Or.inl ⟨by kernel_rfl, fun w => by go_simp⟩) ?_
  try simp only [Act.put, List.setIfInBounds_toArray, List.set_cons_succ, List.set_cons_zero, List.getElem_toArray, List.getElem_cons_succ, List.getElem_cons_zero]
  refine wpAny_ready (rs := [2]) (by decide +kernel) (by simp) ?_
  refine AllReady.cons rfl (fun K hK => ?_) AllReady.nil
  go_simp
  refine hK _ _ ?_
  clear hK K
  try simp only [Act.put, List.setIfInBounds_toArray, List.set_cons_succ, List.set_cons_zero, List.getElem_toArray, List.getElem_cons_succ, List.getElem_cons_zero]
  refine wpAny_ready (rs := [5]) (by decide +kernel) (by simp) ?_
  refine AllReady.cons rfl (fun K hK => ?_) AllReady.nil
  go_simp
  refine hK _ _ ?_
  clear hK K
  try simp only [Act.put, List.setIfInBounds_toArray, List.set_cons_succ, List.set_cons_zero, List.getElem_toArray, List.getElem_cons_succ, List.getElem_cons_zero]
  refine wpAny_take (i := 6) (v := .slice (some ⟨g, 0, none⟩) 0 0) rfl (by decide +kernel) (by decide +kernel) (by decide +kernel) (fun _ _ _ h => h) (Or.inl ⟨by kernel_rfl, fun w => by go_simp⟩) ?_
  refine wpAny_done (by kernel_rfl) ?_ _
  try simp only [Act.put, List.setIfInBounds_toArray, List.set_cons_succ, List.set_cons_zero, List.getElem_toArray, List.getElem_cons_succ, List.getElem_cons_zero]
  simp only [NQ]
  obtain ⟨W3, hW3⟩ : ∃ W3, W3 = (w2.alloc (.cells #[.string k, .slice none 0 0, .slice none 0 0, .slice none 0 0] 41)).drew := ⟨_, rfl⟩
  have hb3 : Below w2.heap.size w2 W3 := by rw [hW3]; exact ((Below.refl _ _).alloc (Nat.le_refl _) _).drew
  have hz3 : w2.heap.size < W3.heap.size := by rw [hW3]; show w2.heap.size < (w2.alloc _).heap.size; simp
  have hc3 : W3.heap[w2.heap.size]? = some (.cells #[.string k, .slice none 0 0, .slice none 0 0, .slice none 0 0] 41) := by rw [hW3]; exact alloc_new _ _
  rw [← hW3]
  clear hW3
  have d1 : W3.cell? ⟨w2.heap.size, 1, none⟩ = some (.slice none 0 0) := by rw [cell0 hc3 1]; rfl
  have d2 : W3.cell? ⟨w2.heap.size, 2, none⟩ = some (.slice none 0 0) := by rw [cell0 hc3 2]; rfl
  have d3 : W3.cell? ⟨w2.heap.size, 3, none⟩ = some (.slice none 0 0) := by rw [cell0 hc3 3]; rfl
  go_upto_region 24 with (go_at_call 50; refine (cartCopy_zero _).mono ?_; rintro e w5 ⟨rfl, hb5⟩; have hc5 : w5.heap[w2.heap.size]? = some (.cells #[.string k, .slice none 0 0, .slice none 0 0, .slice none 0 0] 41) := (by rw [hb5.block _ hz3]; exact hc3); have e1 : w5.cell? ⟨w2.heap.size, 1, none⟩ = some (.slice none 0 0) := (by rw [cell0 hc5 1]; rfl); have e2 : w5.cell? ⟨w2.heap.size, 2, none⟩ = some (.slice none 0 0) := (by rw [cell0 hc5 2]; rfl); have e3 : w5.cell? ⟨w2.heap.size, 3, none⟩ = some (.slice none 0 0) := (by rw [cell0 hc5 3]; rfl); have f1 : w5.frozen? ⟨w2.heap.size, 1, none⟩ = false := froz0 hc5 1; have f2 : w5.frozen? ⟨w2.heap.size, 2, none⟩ = false := froz0 hc5 2; have f3 : w5.frozen? ⟨w2.heap.size, 3, none⟩ = false := froz0 hc5 3)
  obtain ⟨W6, hW6⟩ : ∃ W6, W6 = (((w5.setCell ⟨w2.heap.size, 1, none⟩ (.slice none 0 0)).setCell ⟨w2.heap.size, 2, none⟩ (.slice none 0 0)).setCell ⟨w2.heap.size, 3, none⟩ (.slice none 0 0)) := ⟨_, rfl⟩
  have hb6 : Below w2.heap.size w2 W6 := by
    rw [hW6]
    exact (((hb3.trans (hb5.mono (Nat.le_of_lt hz3))).setCell (Nat.le_refl _) _).setCell (Nat.le_refl _) _).setCell (Nat.le_refl _) _
  have hz6 : w2.heap.size < W6.heap.size := by
    rw [hW6, setCell_size, setCell_size, setCell_size]
    exact Nat.lt_of_lt_of_le hz3 hb5.size
  have hc6 : W6.heap[w2.heap.size]? = some (.cells #[.string k, .slice none 0 0, .slice none 0 0, .slice none 0 0] 41) := by
    rw [hW6]
    have h1 := setCell_same hc5 1 (.slice none 0 0)
    have h2 := setCell_same h1 2 (.slice none 0 0)
    have h3 := setCell_same h2 3 (.slice none 0 0)
    exact h3
  rw [← hW6]
  clear hW6 hc5 e1 e2 e3 f1 f2 f3 hb5 d1 d2 d3 hc3 hb3
  have d0 : W6.cell? ⟨w2.heap.size, 0, none⟩ = some (.string k) := by rw [cell0 hc6 0]; rfl
  have d1 : W6.cell? ⟨w2.heap.size, 1, none⟩ = some (.slice none 0 0) := by rw [cell0 hc6 1]; rfl
  have d2 : W6.cell? ⟨w2.heap.size, 2, none⟩ = some (.slice none 0 0) := by rw [cell0 hc6 2]; rfl
  have d3 : W6.cell? ⟨w2.heap.size, 3, none⟩ = some (.slice none 0 0) := by rw [cell0 hc6 3]; rfl
  have HSRC : Hid (SrcIs (W6.alloc (.cells #[.string k, .slice none 0 0, .slice none 0 0, .slice none 0 0] 41)) (.slice (some ⟨W6.heap.size, 0, none⟩) 1 1) 1 [.string k, .slice none 0 0, .slice none 0 0, .slice none 0 0]) := Lib.hid (Or.inr ⟨_, _, rfl, fun j u h => alloc_cells2 W6 #[.string k, .slice none 0 0, .slice none 0 0, .slice none 0 0] 41 j u (by simpa using h)⟩)
  have HB6 := Lib.hid hb6
  clear hb6 hc6
  go_wp2_with (at_builtin; refine wpList_append_src rfl _ _ 29 rfl W6.heap.size 41 i0 (.agg #[.string ⟨#[]⟩, .slice none 0 0, .slice none 0 0, .slice none 0 0]) 4 88 Tryz.underlying29 HI.out.1 HI.out.2.1 HI.out.2.2.1 HI.out.2.2.2 rfl (by decide) (.slice none 0 0) 0 [] rfl (World.ownsRow_nil _ _ _ _) _ _ _ rfl HSRC.out rfl (by simp [Value.oneCell']) (by unfold maxLen; omega) (by omega) (by simp) ?_; intro v8 w8 hown8 hgr8 _)
  have hb8 : Below W6.heap.size W6 w8 := ((Below.refl _ _).alloc (Nat.le_refl _) _).grown hgr8 (by simp) (by simp [Value.ownBlock])
  have HOWN8 := Lib.hid hown8
  obtain ⟨hl8, ⟨hv, h0⟩ | ⟨g8, cap8, cur8, rfl, hg8, hgb8, hcap8, -, -, -⟩⟩ := hown8
  · exfalso; omega
  have hg8l := lt_of_heap hgb8
  have hcap : 1 ≤ cap8 := by omega
  have HCL := Lib.hid (fun w0 => clip_one g8 cap8 hcap w0)
  have FIN : Hid (MergePost k w (.returned (.tuple #[.slice (some ⟨g8, 0, none⟩) 1 1, .int .i64 0])) (w8.alloc (.cells #[.string ⟨#[]⟩, .slice none 0 0, .slice none 0 0, .slice none 0 0] 41))) := Lib.hid ⟨g8, rfl, by have := HB1.out.size; have := HB6.out.size; omega, by simp; omega, fun j hj => by
    have h1 := HOWN8.out.cellAt j (by omega)
    rw [World.cell?_of_block (w := w8) (a := ⟨g8, j, none⟩) (alloc_old w8 _ hg8l), h1]
    rfl, (((HB1.out.trans (HB6.out.mono HB1.out.size)).trans (hb8.mono (Nat.le_trans HB1.out.size HB6.out.size))).alloc (by have := HB1.out.size; have := HB6.out.size; have := hb8.size; omega) _)⟩
  clear hb8 hgr8 hl8 hgb8
  rw [rounds_succ]
  go_wp2_with (go_at_call 51; refine (HCL.out _).mono ?_; rintro e w9 ⟨rfl, rfl⟩)
  rw [Exit.noGoto_ret]
  go_ret2
  exact FIN.out

set_option maxRecDepth 100000 in
set_option maxHeartbeats 4000000 in
theorem own_any (k : ByteArray) (w : World) (hk : keyB k = true) (hs : k.size ≤ maxLen) :
    Calls Tryz.prog 33 #[.agg #[.string k, .slice none 0 0, .slice none 0 0, .slice none 0 0]] w fun e w' => e = .returned (.tuple #[.agg #[.string k, .slice none 0 0, .slice none 0 0, .slice none 0 0], .bool true]) ∧ Below w.heap.size w w' := by
  obtain ⟨W1, hW1⟩ : ∃ W1, W1 = ((w.alloc (.cells #[.string k, .slice none 0 0, .slice none 0 0, .slice none 0 0] 41)).alloc (.cells #[.string ⟨#[]⟩, .slice none 0 0, .slice none 0 0, .slice none 0 0] 41)).alloc (.cells #[.string k, .slice none 0 0, .slice none 0 0, .slice none 0 0] 41) := ⟨_, rfl⟩
  have hb1 : Below w.heap.size w W1 := by rw [hW1]; exact (((Below.refl _ _).alloc (Nat.le_refl _) _).alloc (by simp) _).alloc (by simp; omega) _
  have hz1 : W1.heap.size = w.heap.size + 3 := by rw [hW1]; simp
  have hc2 : W1.heap[w.heap.size + 2]? = some (.cells #[.string k, .slice none 0 0, .slice none 0 0, .slice none 0 0] 41) := by
    rw [hW1]
    have := alloc_new ((w.alloc (.cells #[.string k, .slice none 0 0, .slice none 0 0, .slice none 0 0] 41)).alloc (.cells #[.string ⟨#[]⟩, .slice none 0 0, .slice none 0 0, .slice none 0 0] 41)) (.cells #[.string k, .slice none 0 0, .slice none 0 0, .slice none 0 0] 41)
    simpa only [alloc_size] using this
  have hc1 : W1.heap[w.heap.size + 1]? = some (.cells #[.string ⟨#[]⟩, .slice none 0 0, .slice none 0 0, .slice none 0 0] 41) := by
    rw [hW1, alloc_old _ _ (by simp)]
    have := alloc_new (w.alloc (.cells #[.string k, .slice none 0 0, .slice none 0 0, .slice none 0 0] 41)) (.cells #[.string ⟨#[]⟩, .slice none 0 0, .slice none 0 0, .slice none 0 0] 41)
    simpa only [alloc_size] using this
  have HM := Lib.hid (merge_one (w.heap.size + 2) k W1 hk hs (by omega) (by rw [cell0 hc2 0]; rfl) (by rw [cell0 hc2 1]; rfl) (by rw [cell0 hc2 2]; rfl) (by rw [cell0 hc2 3]; rfl))
  go_enter Tryz.func33, Tryz.ntmps33
  go_wp2_with fail
  rw [← hW1]
  refine HM.out.mono ?_
  rintro e w3 ⟨g, rfl, hg1, hg2, hcells, hb3⟩
  have hzz : w.heap.size + 1 < W1.heap.size := by omega
  have hc3 : w3.heap[w.heap.size + 1]? = some (.cells #[.string ⟨#[]⟩, .slice none 0 0, .slice none 0 0, .slice none 0 0] 41) := by rw [hb3.block _ hzz]; exact hc1
  have e0 : w3.cell? ⟨g, 0, none⟩ = some (.string k) := hcells 0 (by omega)
  have e1 : w3.cell? ⟨g, 1, none⟩ = some (.slice none 0 0) := hcells 1 (by omega)
  have e2 : w3.cell? ⟨g, 2, none⟩ = some (.slice none 0 0) := hcells 2 (by omega)
  have e3 : w3.cell? ⟨g, 3, none⟩ = some (.slice none 0 0) := hcells 3 (by omega)
  have f0 : w3.cell? ⟨w.heap.size + 1, 0, none⟩ = some (.string ⟨#[]⟩) := by rw [cell0 hc3 0]; rfl
  have f1 : w3.cell? ⟨w.heap.size + 1, 1, none⟩ = some (.slice none 0 0) := by rw [cell0 hc3 1]; rfl
  have f2 : w3.cell? ⟨w.heap.size + 1, 2, none⟩ = some (.slice none 0 0) := by rw [cell0 hc3 2]; rfl
  have f3 : w3.cell? ⟨w.heap.size + 1, 3, none⟩ = some (.slice none 0 0) := by rw [cell0 hc3 3]; rfl
  have q0 : w3.frozen? ⟨w.heap.size + 1, 0, none⟩ = false := froz0 hc3 0
  have q1 : w3.frozen? ⟨w.heap.size + 1, 1, none⟩ = false := froz0 hc3 1
  have q2 : w3.frozen? ⟨w.heap.size + 1, 2, none⟩ = false := froz0 hc3 2
  have q3 : w3.frozen? ⟨w.heap.size + 1, 3, none⟩ = false := froz0 hc3 3
  have hne : ¬ w.heap.size + 1 = g := by omega
  have HB3 := Lib.hid (hb1.trans (hb3.mono (by omega)))
  have HC3 := Lib.hid hc3
  clear hb3 hb1 hc1 hc2 hc3 HM hcells
  go_wp2_with fail
  (try simp only [Exit.inBlock, Exit.then])
  refine bodyPost_ret (v := .tuple #[.agg #[.string k, .slice none 0 0, .slice none 0 0, .slice none 0 0], .bool true]) ?_ rfl ⟨rfl, (((HB3.out.setCell (Nat.le_succ _) _).setCell (Nat.le_succ _) _).setCell (Nat.le_succ _) _).setCell (Nat.le_succ _) _⟩
  rw [results_cell_tmp rfl]
  go_simp
end Go.Proofs.YtkedgiklcmkmmaaGreatDoor
