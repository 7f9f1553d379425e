/- The reference's Copy of a cart. -/
import Derived.Test.YtfnfbcaoihhbpaaGreatDoorC17
import Derived.Test.YtfnfbcaoihhbpaaGreatDoorR11k
set_option linter.unusedSimpArgs false
set_option linter.unusedVariables false
set_option maxRecDepth 100000
set_option maxHeartbeats 4000000
namespace Go.Proofs.YtfnfbcaoihhbpaaGreatDoor
open Go.RowKit Go.Maps Go.Sort Go.Shelf

theorem set3c_oth {w : World} {b k : Nat} {x y z : Value} (h : k ≠ b) : (set3c w b x y z).heap[k]? = w.heap[k]? := by
 unfold set3c
 rw [setCell_other h, setCell_other h, setCell_other h]
/-- One more item (the block may lie anywhere). -/
theorem JOut.addT {B bo : Nat} {wr w6 w8 : World} {U : List DotD × List DotD} {y1 y2 y3 v8 : Value} {ps : List ItW} {q : ItW} (h1 : wr.heap[bo]? = some (.cells #[y1, y2, y3] 28)) (h2 : EDot.Row B wr y1 U.1) (h3 : EDot.Row B wr y2 U.2) (h4 : FreshI B wr y3 ps) (hB : B ≤ wr.heap.size)
  (hb : Below wr.heap.size wr (w6.alloc (.cells #[.string q.x.name, q.v] 50))) (hw6 : wr.heap.size ≤ w6.heap.size) (hs : q.x.name.size ≤ maxLen) (hmi : ∀ m ∈ q.x.marks, MI m) (hrow : EMark.Row wr.heap.size (w6.alloc (.cells #[.string q.x.name, q.v] 50)) q.v q.x.marks)
  (h8 : EItem.Row B w8 v8 (ps ++ [q])) (hgr : (w6.alloc (.cells #[.string q.x.name, q.v] 50)).grownBy w8 y3.ownBlock) : JOut B bo (w8.setCell ⟨bo, 2, none⟩ v8) U ((ps ++ [q]).map (·.x)) := by
 have h6 : FreshI wr.heap.size (w6.alloc (.cells #[.string q.x.name, q.v] 50)) (.slice (some ⟨w6.heap.size, 0, none⟩) 1 1) [q] := by
  have hr1 : EItem.Row wr.heap.size (w6.alloc (.cells #[.string q.x.name, q.v] 50)) (.slice (some ⟨w6.heap.size, 0, none⟩) 1 1) [q] := (row_lit EItem [q] w6 (by unfold maxLen; simp)).mono hw6
  refine ⟨hr1, fun p hp => ?_, List.pairwise_singleton _ _⟩
  rw [List.mem_singleton.1 hp]
  exact ⟨⟨hs, hrow, hmi⟩, apart_types hr1 hrow⟩
 have hF := fresh_append (h4.below hb) h6 hB (fun p hp k hk => ((h4.2.1 p hp).1.2.1.lt k hk).2) (fun k hk => (h4.1.lt k hk).2) h8 hgr
 have hbl := lt_of_heap h1
 have hne : ∀ k, y3.ownBlock = some k → k ≠ bo := erow_ne h4.1 h1 (by decide)
 have hb8 : w8.heap[bo]? = some (.cells #[y1, y2, y3] 28) := by
  rw [hgr.block bo (by have := hb.size; omega) (fun e => hne bo e.symm rfl), hb.block bo hbl]; exact h1
 have hst : ∀ {y : Value} {l : List DotD}, EDot.Row B wr y l → EDot.Row B (w8.setCell ⟨bo, 2, none⟩ v8) y l := fun {y l} hy => by
  have hy6 := hy.below hb
  have hy8 := hy6.stay (w' := w8) (fun k hk => hgr.block k (hy6.lt k hk).2 (fun e => rows_apart hy6 (h4.below hb).1 (by decide) k hk e.symm))
  exact hy8.stay (fun k hk => setCell_other (erow_ne hy8 hb8 (by decide) k hk))
 refine ⟨y1, y2, v8, ps ++ [q], setCell_same hb8 2 v8, hst h2, hst h3, hF.stayF (fun k hk _ hk2 => setCell_other ?_), rfl⟩
 rcases hk2 with hk2 | ⟨p, hp, hk2⟩
 ·exact erow_ne hF.1 hb8 (by decide) k hk2
 ·exact erow_ne (hF.2.1 p hp).1.2.1 hb8 (by decide) k hk2

theorem r10cpy1 (c : CartD) (o1 o2 : Option Addr) (v3 : Value) (n1 k1 n2 k2 bt : Nat) (z0 z2 z3 z4 z5 z6 z7 z8 z9 z10 z11 z12 z13 z14 z15 z16 z17 z18 z19 z20 z21 z22 z23 z24 z25 z26 z27 z28 z29 z30 z31 z32 z33 z34 z35 z36 z37 z38 z39 z40 z41 : Value) (WL : World) (R : Act → World → Prop)
  (hx : WL.heap[bt]? = some (.cells #[.slice o1 n1 k1, .slice o2 n2 k2, v3] 28)) (h1 : Arr DotR 2 WL (.slice o1 n1 k1) c.vec) (h2 : Arr DotR 2 WL (.slice o2 n2 k2) c.cloud) (hl1 : c.vec.length ≤ 10000) (hl2 : c.cloud.length ≤ 10000)
  (hQ : ∀ (g : Nat) (u5 u6 u7 u8 u9 u10 u11 u12 u13 u14 : Value) (wx : World), JOut WL.heap.size g wx (c.vec, c.cloud) [] → Below WL.heap.size WL wx → WL.heap.size ≤ g → R { tmps := #[z0, .pointer (some ⟨bt, 0, none⟩), z2, .pointer (some ⟨g, 0, none⟩), z4, u5, u6, u7, u8, u9, u10, u11, u12, u13, u14, z15, z16, z17, z18, z19, z20, z21, z22, z23, z24, z25, z26, z27, z28, z29, z30, z31, z32, z33, z34, z35, z36, z37, z38, z39, z40, z41], defers := [] } wx) :
  (codeAt [1, 0] (Tryz.f11.body.getD .skip)).wp Tryz.prog (NQ R) { tmps := #[z0, .pointer (some ⟨bt, 0, none⟩), z2, z3, z4, z5, z6, z7, z8, z9, z10, z11, z12, z13, z14, z15, z16, z17, z18, z19, z20, z21, z22, z23, z24, z25, z26, z27, z28, z29, z30, z31, z32, z33, z34, z35, z36, z37, z38, z39, z40, z41], defers := [] } WL := by
 have HK0 : Hid (∀ wz, Below WL.heap.size WL wz → wz.heap[bt]? = some (.cells #[.slice o1 n1 k1, .slice o2 n2 k2, v3] 28)) := Hd (fun wz hz => (hz.block _ (lt_of_heap hx)).trans hx)
 have hbt := lt_of_heap hx
 have HV : Hid (∀ wz, Below WL.heap.size WL wz → EDot.Src wz (.slice o1 n1 k1) c.vec) := Hd (fun wz hz => (h1.dots hz).toSrc (E := EDot) (fun _ _ h => h.1))
 have HD : Hid (∀ wz, Below WL.heap.size WL wz → EDot.Src wz (.slice o2 n2 k2) c.cloud) := Hd (fun wz hz => (h2.dots hz).toSrc (E := EDot) (fun _ _ h => h.1))
 have HSTO : Hid (∀ (w4 : World) (bo : Nat) (z1 z2 z3 : Value), Below WL.heap.size WL w4 → WL.heap.size ≤ bo → (set3c w4 bo z1 z2 z3).cell? ⟨bt, 0, none⟩ = some (.slice o1 n1 k1) ∧ (set3c w4 bo z1 z2 z3).cell? ⟨bt, 1, none⟩ = some (.slice o2 n2 k2)) := Hd (fun w4 bo z1 z2 z3 hz hbo => by
  have hne : bt ≠ bo := by omega
  rw [set3c_cell hne, set3c_cell hne]
  exact ⟨(cel3 (HK0.out w4 hz)).1, (cel3 (HK0.out w4 hz)).2.1⟩)
 clear hx h1 h2
 simp only [codeAt, codeL, codeR, Tryz.f11, Option.getD_some]
 refine wp_region_held_drew (S := (fun wz => wz.cell? ⟨bt, 0, none⟩ = some (.slice o1 n1 k1) ∧ wz.cell? ⟨bt, 1, none⟩ = some (.slice o2 n2 k2))) (by kernel_rfl) (⟨(cel3 (HK0.out _ (bdr))).1, (cel3 (HK0.out _ (bdr))).2.1⟩) (fun hS => ?_)
 refine tkR (n := 6) [0, 1, 2, 4, 5, 6] rfl (by decide +kernel) hS ?_
 iterate 6 ((try simp only [Act.put, s1, s2, s3, s4, s5, s6]); refine ⟨_, ?_, rfl, Or.inl ⟨by kernel_rfl, fun w hSw => ok_of fun z hz => ?_⟩, ?_⟩; rotate_left; · (obtain ⟨f1, f2⟩ := hSw; go_simp; exact hz))
 refine RunOK.done ?_
 try simp only [Act.put, s1, s2, s3, s4, s5, s6]
 refine wpAnyH_ready (rs := [3, 10]) (by decide +kernel) (by simp) ?_
 refine (AllReadyH.cons rfl (fun K hK => ?_) (AllReadyH.cons rfl (fun K hK => ?_) AllReadyH.nil))
 ·refine step_append_row rfl _ _ 23 rfl EDot WL.heap.size (.agg #[.int .i64 0, .int .i64 0]) 16 Tryz.underlying23 infoDot (by decide) (by decide) _ [] rfl (Enc.Row.nil _ _) _ c.vec rfl (HV.out _ (show Below WL.heap.size WL WL.drew from bdr)) (by simp; omega) (show Below WL.heap.size WL WL.drew from bdr).size ?_
  intro v3 w3 hr3 hg3
  have hb3 : Below WL.heap.size WL w3 := (show Below WL.heap.size WL WL.drew from bdr).grown hg3 (show Below WL.heap.size WL WL.drew from bdr).size (fun j hj => by cases hj)
  rw [List.nil_append] at hr3
  obtain ⟨p3, q3, rfl⟩ := hr3.slice
  refine Shut.out hK _ _ (⟨(cel3 (HK0.out _ (hb3))).1, (cel3 (HK0.out _ (hb3))).2.1⟩) (fun hS2 => ?_); clear hK K hS; have hS := hS2; clear hS2
  try simp only [Act.put, s1, s2, s3, s4, s5, s6]
  refine wpAnyH_ready (rs := [7, 10]) (by decide +kernel) (by simp) ?_
  refine (AllReadyH.cons rfl (fun K hK => ?_) (AllReadyH.cons rfl (fun K hK => ?_) AllReadyH.nil))
  ·refine step_append_row rfl _ _ 22 rfl EDot WL.heap.size (.agg #[.int .i64 0, .int .i64 0]) 16 Tryz.underlying22 infoDot (by decide) (by decide) _ [] rfl (Enc.Row.nil _ _) _ c.cloud rfl (HD.out _ (hb3)) (by simp; omega) (hb3).size ?_
   intro v7 w7 hr7 hg7
   have hb7 : Below WL.heap.size WL w7 := (hb3).grown hg7 (hb3).size (fun j hj => by cases hj)
   rw [List.nil_append] at hr7
   obtain ⟨p7, q7, rfl⟩ := hr7.slice
   have hr3 := hr3.below ((Below.refl _ _).grown hg7 (Nat.le_refl _) (fun j hj => by cases hj))
   refine Shut.out hK _ _ (⟨(cel3 (HK0.out _ (hb7))).1, (cel3 (HK0.out _ (hb7))).2.1⟩) (fun hS2 => ?_); clear hK K hS; have hS := hS2; clear hS2
   refine tkR (n := 2) [8, 9] rfl (by decide +kernel) hS ?_
   iterate 2 ((try simp only [Act.put, s1, s2, s3, s4, s5, s6]); refine ⟨_, ?_, rfl, Or.inl ⟨by kernel_rfl, fun w hSw => ok_of fun z hz => ?_⟩, ?_⟩; rotate_left; · (go_simp; exact hz))
   refine RunOK.done ?_
   try simp only [Act.put, s1, s2, s3, s4, s5, s6]
   refine rd1 10 (by decide +kernel) rfl (fun K hK => ?_)
   go_simp
   obtain ⟨wA, hwA⟩ : ∃ x, x = (w7).alloc (.cells #[.slice none 0 0, .slice none 0 0, .slice none 0 0] 28) := ⟨_, rfl⟩
   have hbA0 : Below (w7).heap.size (w7) wA := by rw [hwA]; exact bal
   have hbA : Below WL.heap.size WL wA := btr (hb7) hbA0
   have hxA : wA.heap[w7.heap.size]? = some (.cells #[.slice none 0 0, .slice none 0 0, .slice none 0 0] 28) := by rw [hwA]; exact alloc_new _ _
   have hbo : WL.heap.size ≤ w7.heap.size := (hb7).size
   (try rw [← hwA])
   have hr3 := hr3.below hbA0
   have hr7 := hr7.below hbA0
   refine Shut.out hK _ _ (⟨(cel3 (HK0.out _ (hbA))).1, (cel3 (HK0.out _ (hbA))).2.1⟩) (fun hS2 => ?_); clear hK K hS; have hS := hS2; clear hS2
   clear hwA
   try simp only [Act.put, s1, s2, s3, s4, s5, s6]
   refine rd1 11 (by decide +kernel) rfl (fun K hK => ?_)
   have hz := hxA
   have f0 := froz0 hz 0
   have f1 := froz0 hz 1
   have f2 := froz0 hz 2
   obtain ⟨e0, e1, e2⟩ := cel3 hz
   go_simp
   refine Shut.out hK _ _ (HSTO.out wA (w7.heap.size) (.slice p3 c.vec.length q3) (.slice p7 c.cloud.length q7) (.slice none 0 0) (hbA) hbo) (fun hS2 => ?_); clear hK K hS; have hS := hS2; clear hS2
   refine wpAnyH_done (by kernel_rfl) ?_ _
   try simp only [Act.put, s1, s2, s3, s4, s5, s6]
   simp only [NQ]
   exact hQ _ _ _ _ _ _ _ _ _ _ _ _ ⟨_, _, _, [], set3c_same _ _ _ hz, hr3.stay (fun k hk => set3c_oth (erow_ne hr3 hz (by decide) k hk)), hr7.stay (fun k hk => set3c_oth (erow_ne hr7 hz (by decide) k hk)), ⟨Enc.Row.nil _ _, fun p hp => by simp at hp, List.Pairwise.nil⟩, rfl⟩ (set3c_below _ _ _ (hbA) hbo) hbo
  ·go_simp
   obtain ⟨wA, hwA⟩ : ∃ x, x = (w3).alloc (.cells #[.slice none 0 0, .slice none 0 0, .slice none 0 0] 28) := ⟨_, rfl⟩
   have hbA0 : Below (w3).heap.size (w3) wA := by rw [hwA]; exact bal
   have hbA : Below WL.heap.size WL wA := btr (hb3) hbA0
   have hxA : wA.heap[w3.heap.size]? = some (.cells #[.slice none 0 0, .slice none 0 0, .slice none 0 0] 28) := by rw [hwA]; exact alloc_new _ _
   have hbo : WL.heap.size ≤ w3.heap.size := (hb3).size
   (try rw [← hwA])
   have hr3 := hr3.below hbA0
   refine Shut.out hK _ _ (⟨(cel3 (HK0.out _ (hbA))).1, (cel3 (HK0.out _ (hbA))).2.1⟩) (fun hS2 => ?_); clear hK K hS; have hS := hS2; clear hS2
   clear hwA
   try simp only [Act.put, s1, s2, s3, s4, s5, s6]
   refine rd1 7 (by decide +kernel) rfl (fun K hK => ?_)
   refine step_append_row rfl _ _ 22 rfl EDot WL.heap.size (.agg #[.int .i64 0, .int .i64 0]) 16 Tryz.underlying22 infoDot (by decide) (by decide) _ [] rfl (Enc.Row.nil _ _) _ c.cloud rfl (HD.out _ (hbA)) (by simp; omega) (hbA).size ?_
   intro v7 w7 hr7 hg7
   have hb7 : Below WL.heap.size WL w7 := (hbA).grown hg7 (hbA).size (fun j hj => by cases hj)
   rw [List.nil_append] at hr7
   obtain ⟨p7, q7, rfl⟩ := hr7.slice
   have hr3 := hr3.below ((Below.refl _ _).grown hg7 (Nat.le_refl _) (fun j hj => by cases hj))
   have hx7 : w7.heap[w3.heap.size]? = _ := (hg7.block _ (lt_of_heap hxA) (fun e => by cases e)).trans hxA
   refine Shut.out hK _ _ (⟨(cel3 (HK0.out _ (hb7))).1, (cel3 (HK0.out _ (hb7))).2.1⟩) (fun hS2 => ?_); clear hK K hS; have hS := hS2; clear hS2
   refine tkR (n := 2) [8, 9] rfl (by decide +kernel) hS ?_
   iterate 2 ((try simp only [Act.put, s1, s2, s3, s4, s5, s6]); refine ⟨_, ?_, rfl, Or.inl ⟨by kernel_rfl, fun w hSw => ok_of fun z hz => ?_⟩, ?_⟩; rotate_left; · (go_simp; exact hz))
   refine RunOK.done ?_
   try simp only [Act.put, s1, s2, s3, s4, s5, s6]
   refine rd1 11 (by decide +kernel) rfl (fun K hK => ?_)
   have hz := hx7
   have f0 := froz0 hz 0
   have f1 := froz0 hz 1
   have f2 := froz0 hz 2
   obtain ⟨e0, e1, e2⟩ := cel3 hz
   go_simp
   refine Shut.out hK _ _ (HSTO.out w7 (w3.heap.size) (.slice p3 c.vec.length q3) (.slice p7 c.cloud.length q7) (.slice none 0 0) (hb7) hbo) (fun hS2 => ?_); clear hK K hS; have hS := hS2; clear hS2
   refine wpAnyH_done (by kernel_rfl) ?_ _
   try simp only [Act.put, s1, s2, s3, s4, s5, s6]
   simp only [NQ]
   exact hQ _ _ _ _ _ _ _ _ _ _ _ _ ⟨_, _, _, [], set3c_same _ _ _ hz, hr3.stay (fun k hk => set3c_oth (erow_ne hr3 hz (by decide) k hk)), hr7.stay (fun k hk => set3c_oth (erow_ne hr7 hz (by decide) k hk)), ⟨Enc.Row.nil _ _, fun p hp => by simp at hp, List.Pairwise.nil⟩, rfl⟩ (set3c_below _ _ _ (hb7) hbo) hbo
 ·go_simp
  obtain ⟨wA, hwA⟩ : ∃ x, x = (WL.alloc (.cells #[.slice none 0 0, .slice none 0 0, .slice none 0 0] 28)).drew := ⟨_, rfl⟩
  have hbA0 : Below (WL).heap.size (WL) wA := by rw [hwA]; exact btr (bal) bdr
  have hbA : Below WL.heap.size WL wA := hbA0
  have hxA : wA.heap[WL.heap.size]? = some (.cells #[.slice none 0 0, .slice none 0 0, .slice none 0 0] 28) := by rw [hwA]; exact alloc_new _ _
  have hbo : WL.heap.size ≤ WL.heap.size := (show Below WL.heap.size WL WL.drew from bdr).size
  (try rw [← hwA])
  refine Shut.out hK _ _ (⟨(cel3 (HK0.out _ (hbA))).1, (cel3 (HK0.out _ (hbA))).2.1⟩) (fun hS2 => ?_); clear hK K hS; have hS := hS2; clear hS2
  clear hwA
  try simp only [Act.put, s1, s2, s3, s4, s5, s6]
  refine rd1 3 (by decide +kernel) rfl (fun K hK => ?_)
  refine step_append_row rfl _ _ 23 rfl EDot WL.heap.size (.agg #[.int .i64 0, .int .i64 0]) 16 Tryz.underlying23 infoDot (by decide) (by decide) _ [] rfl (Enc.Row.nil _ _) _ c.vec rfl (HV.out _ (hbA)) (by simp; omega) (hbA).size ?_
  intro v3 w3 hr3 hg3
  have hb3 : Below WL.heap.size WL w3 := (hbA).grown hg3 (hbA).size (fun j hj => by cases hj)
  rw [List.nil_append] at hr3
  obtain ⟨p3, q3, rfl⟩ := hr3.slice
  have hx3 : w3.heap[WL.heap.size]? = _ := (hg3.block _ (lt_of_heap hxA) (fun e => by cases e)).trans hxA
  refine Shut.out hK _ _ (⟨(cel3 (HK0.out _ (hb3))).1, (cel3 (HK0.out _ (hb3))).2.1⟩) (fun hS2 => ?_); clear hK K hS; have hS := hS2; clear hS2
  try simp only [Act.put, s1, s2, s3, s4, s5, s6]
  refine rd1 7 (by decide +kernel) rfl (fun K hK => ?_)
  refine step_append_row rfl _ _ 22 rfl EDot WL.heap.size (.agg #[.int .i64 0, .int .i64 0]) 16 Tryz.underlying22 infoDot (by decide) (by decide) _ [] rfl (Enc.Row.nil _ _) _ c.cloud rfl (HD.out _ (hb3)) (by simp; omega) (hb3).size ?_
  intro v7 w7 hr7 hg7
  have hb7 : Below WL.heap.size WL w7 := (hb3).grown hg7 (hb3).size (fun j hj => by cases hj)
  rw [List.nil_append] at hr7
  obtain ⟨p7, q7, rfl⟩ := hr7.slice
  have hr3 := hr3.below ((Below.refl _ _).grown hg7 (Nat.le_refl _) (fun j hj => by cases hj))
  have hx7 : w7.heap[WL.heap.size]? = _ := (hg7.block _ (lt_of_heap hx3) (fun e => by cases e)).trans hx3
  refine Shut.out hK _ _ (⟨(cel3 (HK0.out _ (hb7))).1, (cel3 (HK0.out _ (hb7))).2.1⟩) (fun hS2 => ?_); clear hK K hS; have hS := hS2; clear hS2
  refine tkR (n := 2) [8, 9] rfl (by decide +kernel) hS ?_
  iterate 2 ((try simp only [Act.put, s1, s2, s3, s4, s5, s6]); refine ⟨_, ?_, rfl, Or.inl ⟨by kernel_rfl, fun w hSw => ok_of fun z hz => ?_⟩, ?_⟩; rotate_left; · (go_simp; exact hz))
  refine RunOK.done ?_
  try simp only [Act.put, s1, s2, s3, s4, s5, s6]
  refine rd1 11 (by decide +kernel) rfl (fun K hK => ?_)
  have hz := hx7
  have f0 := froz0 hz 0
  have f1 := froz0 hz 1
  have f2 := froz0 hz 2
  obtain ⟨e0, e1, e2⟩ := cel3 hz
  go_simp
  refine Shut.out hK _ _ (HSTO.out w7 (WL.heap.size) (.slice p3 c.vec.length q3) (.slice p7 c.cloud.length q7) (.slice none 0 0) (hb7) hbo) (fun hS2 => ?_); clear hK K hS; have hS := hS2; clear hS2
  refine wpAnyH_done (by kernel_rfl) ?_ _
  try simp only [Act.put, s1, s2, s3, s4, s5, s6]
  simp only [NQ]
  exact hQ _ _ _ _ _ _ _ _ _ _ _ _ ⟨_, _, _, [], set3c_same _ _ _ hz, hr3.stay (fun k hk => set3c_oth (erow_ne hr3 hz (by decide) k hk)), hr7.stay (fun k hk => set3c_oth (erow_ne hr7 hz (by decide) k hk)), ⟨Enc.Row.nil _ _, fun p hp => by simp at hp, List.Pairwise.nil⟩, rfl⟩ (set3c_below _ _ _ (hb7) hbo) hbo
theorem r10Copy_any (c : CartD) (v1 v2 v3 : Value) (w : World) (h : CartA w v1 v2 v3 c) (hl : SzC c) :
  Calls Tryz.prog 11 #[.agg #[v1, v2, v3]] w fun e w' => ∃ x1 x2 x3, e = .returned (.agg #[x1, x2, x3]) ∧ OwnC w.heap.size w' x1 x2 x3 c ∧ Below w.heap.size w w' := by
 obtain ⟨o1, k1, rfl⟩ := h.1.slice
 obtain ⟨o2, k2, rfl⟩ := h.2.1.slice
 obtain ⟨o3, k3, rfl⟩ := h.2.2.slice
 obtain ⟨n1, hn1⟩ : ∃ n, n = c.vec.length := ⟨_, rfl⟩
 obtain ⟨n2, hn2⟩ : ∃ n, n = c.cloud.length := ⟨_, rfl⟩
 obtain ⟨n3, hn3⟩ : ∃ n, n = c.items.length := ⟨_, rfl⟩
 rw [← hn1, ← hn2, ← hn3] at h
 rw [← hn1, ← hn2, ← hn3]
 obtain ⟨W1, HW, HB, HS, HK0, HK1⟩ := box2 w #[.slice o1 n1 k1, .slice o2 n2 k2, .slice o3 n3 k3] 28 #[.slice none 0 0, .slice none 0 0, .slice none 0 0] 28
 obtain ⟨hl1, hl2⟩ := hl
 have hA := h.below HB.out
 have hl3 : c.vec.length ≤ 10000 := by omega
 have hl4 : c.cloud.length ≤ 10000 := by omega
 have HL := Hd hl1
 have HN3 := Hd hn3
 have hd1 := hA.1
 have hd2 := hA.2.1
 have HIA : Hid (∀ k (hk : k < c.items.length), ∃ b off mv, o3 = some ⟨b, off, none⟩ ∧ b < W1.heap.size ∧ W1.cell? ⟨b, off + k * 2, none⟩ = some (.string c.items[k].name) ∧ W1.cell? ⟨b, off + k * 2 + 1, none⟩ = some mv ∧ c.items[k].name.size ≤ maxLen ∧ Arr MarkR 4 W1 mv c.items[k].marks) := Hd (fun k hk => by obtain ⟨o3', k3', e3', hel⟩ := hA.2.2.itemAt; injection e3' with e1 e2 e3; subst e1; exact hel k hk)
 have hxb := HK0.out W1 brf
 clear h hl1 hl2 hn1 hn2 hn3 hA
 go_enter Tryz.func11, Tryz.ntmps11
 go_upto_region 1 with fail
 rw [← HW.out]
 refine NQ.to (r10cpy1 c o1 o2 (.slice o3 n3 k3) n1 k1 n2 k2 w.heap.size _ _ _ _ _ _ _ _ _ _ _ _ _ _ _ _ _ _ _ _ _ _ _ _ _ _ _ _ _ _ _ _ _ _ _ _ _ _ _ _ _ W1 _ hxb hd1 hd2 hl3 hl4 ?_)
 intro g u5 u6 u7 u8 u9 u10 u11 u12 u13 u14 wx hJ hBx hgx
 have HJ := Hd hJ
 have HBX := Hd hBx
 have HG := Hd hgx
 clear hJ hBx hgx hxb hd1 hd2
 have hn3b : n3 ≤ 1000 := by rw [HN3.out]; exact HL.out.1
 go_wp2_with fail
 go_loopw [4] (fun i wr => ∃ k : Nat, k ≤ n3 ∧ i = .int .i64 k ∧ JOut W1.heap.size g wr (c.vec, c.cloud) (c.items.take k) ∧ Below W1.heap.size W1 wr) (fun i _ => n3 - (intOf i).toNat)
 case atStart => exact ⟨0, Nat.zero_le _, rfl, HJ.out, HBX.out⟩
 case round =>
  obtain ⟨k, hk, rfl, hj, hbr⟩ := hrel
  obtain ⟨x0, x1, x2⟩ := cel3 (HK0.out wr hbr)
  have HBR := Hd hbr
  by_cases hlt : k < n3
  ·have hlt' : k < c.items.length := by rw [← HN3.out]; exact hlt
   obtain ⟨b, off, mv, rfl, hbl, e0, e1, hns, hmk⟩ := HIA.out k hlt'
   obtain ⟨y1, y2, y3, ps, hx1, hr1, hr2, hfr, hps⟩ := hj
   have hpl : ps.length = k := by have := congrArg List.length hps; rw [List.length_map, List.length_take] at this; omega
   obtain ⟨oa, oc, rfl⟩ := hfr.1.slice
   rw [hpl] at hx1 hfr
   have HML := HL.out.2 _ (List.getElem_mem hlt')
   have HTK : Hid (c.items.take (k + 1) = c.items.take k ++ [c.items[k]]) := Hd (List.take_succ_eq_append_getElem hlt')
   obtain ⟨om, cm, rfl⟩ := hmk.slice
   have HMK := Hd hmk
   have HXI : Hid (c.items[k] = ⟨c.items[k].name, c.items[k].marks⟩) := Hd rfl
   have HCB : Hid (∀ wz, Below W1.heap.size W1 wz → wz.cell? ⟨w.heap.size, 2, none⟩ = some (.slice (some ⟨b, off, none⟩) n3 k3) ∧ (wz.cell? ⟨b, off + k * 2, none⟩ = some (.string c.items[k].name) ∧ wz.cell? ⟨b, off + k * 2 + 1, none⟩ = some (.slice om c.items[k].marks.length cm))) := Hd (fun wz hz => by
    exact ⟨(cel3 (HK0.out wz hz)).2.2, by rw [hz.cell (p := ⟨_, _, _⟩) hbl]; exact e0, by rw [hz.cell (p := ⟨_, _, _⟩) hbl]; exact e1⟩)
   have hgl := lt_of_heap hx1
   have HCG : Hid (∀ wz, Below wr.heap.size wr wz → wz.heap[g]? = some (.cells #[y1, y2, .slice oa k oc] 28)) := Hd (fun wz hz => (hz.block _ hgl).trans hx1)
   have HX1 := Hd hx1
   have HR1 := Hd hr1
   have HR2 := Hd hr2
   have HFR := Hd hfr
   have HPS := Hd hps
   have HNS := Hd hns
   have HBL := Hd hbl
   have a0 : (0 : Int) ≤ k := by omega
   have a1 : (k : Int) < (n3 : Int) := by omega
   have hkw : IntKind.i64.wrap ((k : Int) + 1) = (k : Int) + 1 := by rw [IntKind.wrap_i64]; omega
   clear hbr e0 e1 hns hmk hx1 hr1 hr2 hfr hps hbl HJ HBX HIA
   generalize c.items[k] = it at *
   obtain ⟨nm, ms⟩ := it
   clear HXI
   dsimp only at *
   obtain ⟨ml, hml⟩ : ∃ n, n = ms.length := ⟨_, rfl⟩
   rw [← hml] at HML HCB HMK
   have HM := Hd hml
   clear hml
   go_upto_region 5 with fail
   refine NQ.to ?_
   have HMS : Hid (∀ wz, Below wr.heap.size wr wz → EMark.Src wz (.slice om ml cm) ms) := Hd (fun wz hz => (HMK.out.marks (btr HBR.out hz)).toSrc (E := EMark) (fun _ _ h => h.1))
   refine wp_region_held_drew (S := (fun wz => wz.cell? ⟨w.heap.size, 2, none⟩ = some (.slice (some ⟨b, off, none⟩) n3 k3) ∧ wz.cell? ⟨b, off + k * 2, none⟩ = some (.string nm) ∧ wz.cell? ⟨b, off + k * 2 + 1, none⟩ = some (.slice om ml cm))) (by kernel_rfl) (HCB.out _ (btr HBR.out bdr)) (fun hS => ?_)
   refine tkR (n := 13) [0, 2, 3, 4, 5, 6, 7, 8, 9, 10, 11, 12, 13] rfl (by decide +kernel) hS ?_
   iterate 13 ((try simp only [Act.put, s1, s2, s3, s4, s5, s6]); refine ⟨_, ?_, rfl, Or.inl ⟨by kernel_rfl, fun w hSw => ok_of fun z hz => ?_⟩, ?_⟩; rotate_left; · (obtain ⟨f2, f3, f4⟩ := hSw; go_simp; exact hz))
   refine RunOK.done ?_
   try simp only [Act.put, s1, s2, s3, s4, s5, s6]
   refine wpAnyH_ready (rs := [1, 14]) (by decide +kernel) (by simp) ?_
   refine (AllReadyH.cons rfl (fun K hK => ?_) (AllReadyH.cons rfl (fun K hK => ?_) AllReadyH.nil))
   ·have e1 := (cel3 (HCG.out _ ((show Below wr.heap.size wr wr.drew from bdr)))).2.2
    go_simp
    refine Shut.out hK _ _ (HCB.out _ (btr HBR.out ((show Below wr.heap.size wr wr.drew from bdr)))) (fun hS2 => ?_); clear hK K hS; have hS := hS2; clear hS2
    try simp only [Act.put, s1, s2, s3, s4, s5, s6]
    refine rd1 14 (by decide +kernel) rfl (fun K hK => ?_)
    refine step_append_row rfl _ _ 48 rfl EMark wr.heap.size (.agg #[.int .i64 0, .int .i64 0, .int .i64 0, .int .u64 0]) 32 Tryz.underlying48 infoMark (by decide) (by decide) _ [] rfl (Enc.Row.nil _ _) _ ms rfl (HMS.out _ ((show Below wr.heap.size wr wr.drew from bdr))) (by have := HM.out; simp; omega) ((show Below wr.heap.size wr wr.drew from bdr)).size ?_
    intro v14 w14 hr14 hg14
    have hb14 : Below wr.heap.size wr w14 := ((show Below wr.heap.size wr wr.drew from bdr)).grown hg14 ((show Below wr.heap.size wr wr.drew from bdr)).size (fun j hj => by cases hj)
    rw [List.nil_append] at hr14
    obtain ⟨p14, q14, rfl⟩ := hr14.slice
    refine Shut.out hK _ _ (HCB.out _ (btr HBR.out hb14)) (fun hS2 => ?_); clear hK K hS; have hS := hS2; clear hS2
    refine tkR (n := 1) [15] rfl (by decide +kernel) hS ?_
    iterate 1 ((try simp only [Act.put, s1, s2, s3, s4, s5, s6]); refine ⟨_, ?_, rfl, Or.inl ⟨by kernel_rfl, fun w hSw => ok_of fun z hz => ?_⟩, ?_⟩; rotate_left; · (go_simp; exact hz))
    refine RunOK.done ?_
    try simp only [Act.put, s1, s2, s3, s4, s5, s6]
    refine rd1 16 (by decide +kernel) rfl (fun K hK => ?_)
    go_simp
    have hal : Below w14.heap.size w14 (w14.alloc (.cells #[.string nm, .slice p14 ms.length q14] 50)) := bal
    have hb16 := btr hb14 hal
    have hr16 := hr14.below hal
    refine Shut.out hK _ _ (HCB.out _ (btr HBR.out hb16)) (fun hS2 => ?_); clear hK K hS; have hS := hS2; clear hS2
    try simp only [Act.put, s1, s2, s3, s4, s5, s6]
    refine rd1 17 (by decide +kernel) rfl (fun K hK => ?_)
    have hbT := btr HBR.out hb16
    have hsrc : EItem.Src (w14.alloc (.cells #[.string nm, .slice p14 ms.length q14] 50)) (.slice (some ⟨w14.heap.size, 0, none⟩) 1 1) [(⟨⟨nm, ms⟩, p14, q14⟩ : ItW)] := Enc.Src.one_lit (E := EItem) w14 50 _
    refine step_append_row rfl _ _ 26 rfl EItem W1.heap.size (.agg #[.string ⟨#[]⟩, .slice none 0 0]) 40 Tryz.underlying26 infoItem (by decide) (by decide) _ ps rfl (HFR.out.1.below hb16) _ [(⟨⟨nm, ms⟩, p14, q14⟩ : ItW)] rfl hsrc (by simp; omega) hbT.size ?_
    intro v17 w17 hr17 hg17
    have hb17 : Below W1.heap.size W1 w17 := hbT.grown hg17 hbT.size (fun j hj => (HFR.out.1.lt _ hj).1)
    obtain ⟨a17, c17, rfl⟩ := hr17.slice
    have hn17 : (ps ++ [(⟨⟨nm, ms⟩, p14, q14⟩ : ItW)]).length = k + 1 := by simp; omega
    rw [hn17] at hr17
    have hx17 : w17.heap[g]? = _ := (hg17.block _ (Nat.lt_of_lt_of_le hgl hb16.size) (fun e => erow_ne HFR.out.1 HX1.out (by decide) _ e.symm rfl)).trans (HCG.out _ hb16)
    refine Shut.out hK _ _ (HCB.out _ hb17) (fun hS2 => ?_); clear hK K hS; have hS := hS2; clear hS2
    refine tkR (n := 1) [18] rfl (by decide +kernel) hS ?_
    iterate 1 ((try simp only [Act.put, s1, s2, s3, s4, s5, s6]); refine ⟨_, ?_, rfl, Or.inl ⟨by kernel_rfl, fun w hSw => ok_of fun z hz => ?_⟩, ?_⟩; rotate_left; · (go_simp; exact hz))
    refine RunOK.done ?_
    try simp only [Act.put, s1, s2, s3, s4, s5, s6]
    refine rd1 19 (by decide +kernel) rfl (fun K hK => ?_)
    have f0 := froz0 hx17 2
    have e2 := (cel3 hx17).2.2
    go_simp
    have hb19 : Below W1.heap.size W1 (w17.setCell ⟨g, 2, none⟩ (.slice a17 (k + 1) c17)) := hb17.setCell (p := ⟨g, 2, none⟩) HG.out _
    refine Shut.out hK _ _ (HCB.out _ hb19) (fun hS2 => ?_); clear hK K hS; have hS := hS2; clear hS2
    refine wpAnyH_done (by kernel_rfl) ?_ _
    try simp only [Act.put, s1, s2, s3, s4, s5, s6]
    simp only [NQ]
    have hJ2 : JOut W1.heap.size g (w17.setCell ⟨g, 2, none⟩ (.slice a17 (k + 1) c17)) (c.vec, c.cloud) (c.items.take (k + 1)) := by
     have := JOut.addT (U := (c.vec, c.cloud)) (q := (⟨⟨nm, ms⟩, p14, q14⟩ : ItW)) HX1.out HR1.out HR2.out HFR.out HBR.out.size hb16 hb14.size HNS.out (HMK.out.marksMI) hr16 hr17 hg17
     rw [HTK.out, ← HPS.out]
     rw [List.map_append] at this
     exact this
    have HJ2 := Hd hJ2
    have HB19 := Hd hb19
    clear hJ2 hb19 hS hr17 hg17 hb17 hx17 f0 e2 hsrc hbT
    go_wp2_with fail
    go_roundw
    case rel => exact ⟨k + 1, by omega, by go_num, HJ2.out, HB19.out⟩
    case measure => simp [intOf]; omega
   ·refine step_append_row rfl _ _ 48 rfl EMark wr.heap.size (.agg #[.int .i64 0, .int .i64 0, .int .i64 0, .int .u64 0]) 32 Tryz.underlying48 infoMark (by decide) (by decide) _ [] rfl (Enc.Row.nil _ _) _ ms rfl (HMS.out _ ((show Below wr.heap.size wr wr.drew from bdr))) (by have := HM.out; simp; omega) ((show Below wr.heap.size wr wr.drew from bdr)).size ?_
    intro v14 w14 hr14 hg14
    have hb14 : Below wr.heap.size wr w14 := ((show Below wr.heap.size wr wr.drew from bdr)).grown hg14 ((show Below wr.heap.size wr wr.drew from bdr)).size (fun j hj => by cases hj)
    rw [List.nil_append] at hr14
    obtain ⟨p14, q14, rfl⟩ := hr14.slice
    refine Shut.out hK _ _ (HCB.out _ (btr HBR.out hb14)) (fun hS2 => ?_); clear hK K hS; have hS := hS2; clear hS2
    refine tkR (n := 1) [15] rfl (by decide +kernel) hS ?_
    iterate 1 ((try simp only [Act.put, s1, s2, s3, s4, s5, s6]); refine ⟨_, ?_, rfl, Or.inl ⟨by kernel_rfl, fun w hSw => ok_of fun z hz => ?_⟩, ?_⟩; rotate_left; · (go_simp; exact hz))
    refine RunOK.done ?_
    try simp only [Act.put, s1, s2, s3, s4, s5, s6]
    refine wpAnyH_ready (rs := [1, 16]) (by decide +kernel) (by simp) ?_
    refine (AllReadyH.cons rfl (fun K hK => ?_) (AllReadyH.cons rfl (fun K hK => ?_) AllReadyH.nil))
    ·have e1 := (cel3 (HCG.out _ (hb14))).2.2
     go_simp
     refine Shut.out hK _ _ (HCB.out _ (btr HBR.out (hb14))) (fun hS2 => ?_); clear hK K hS; have hS := hS2; clear hS2
     try simp only [Act.put, s1, s2, s3, s4, s5, s6]
     refine rd1 16 (by decide +kernel) rfl (fun K hK => ?_)
     go_simp
     have hal : Below w14.heap.size w14 (w14.alloc (.cells #[.string nm, .slice p14 ms.length q14] 50)) := bal
     have hb16 := btr hb14 hal
     have hr16 := hr14.below hal
     refine Shut.out hK _ _ (HCB.out _ (btr HBR.out hb16)) (fun hS2 => ?_); clear hK K hS; have hS := hS2; clear hS2
     try simp only [Act.put, s1, s2, s3, s4, s5, s6]
     refine rd1 17 (by decide +kernel) rfl (fun K hK => ?_)
     have hbT := btr HBR.out hb16
     have hsrc : EItem.Src (w14.alloc (.cells #[.string nm, .slice p14 ms.length q14] 50)) (.slice (some ⟨w14.heap.size, 0, none⟩) 1 1) [(⟨⟨nm, ms⟩, p14, q14⟩ : ItW)] := Enc.Src.one_lit (E := EItem) w14 50 _
     refine step_append_row rfl _ _ 26 rfl EItem W1.heap.size (.agg #[.string ⟨#[]⟩, .slice none 0 0]) 40 Tryz.underlying26 infoItem (by decide) (by decide) _ ps rfl (HFR.out.1.below hb16) _ [(⟨⟨nm, ms⟩, p14, q14⟩ : ItW)] rfl hsrc (by simp; omega) hbT.size ?_
     intro v17 w17 hr17 hg17
     have hb17 : Below W1.heap.size W1 w17 := hbT.grown hg17 hbT.size (fun j hj => (HFR.out.1.lt _ hj).1)
     obtain ⟨a17, c17, rfl⟩ := hr17.slice
     have hn17 : (ps ++ [(⟨⟨nm, ms⟩, p14, q14⟩ : ItW)]).length = k + 1 := by simp; omega
     rw [hn17] at hr17
     have hx17 : w17.heap[g]? = _ := (hg17.block _ (Nat.lt_of_lt_of_le hgl hb16.size) (fun e => erow_ne HFR.out.1 HX1.out (by decide) _ e.symm rfl)).trans (HCG.out _ hb16)
     refine Shut.out hK _ _ (HCB.out _ hb17) (fun hS2 => ?_); clear hK K hS; have hS := hS2; clear hS2
     refine tkR (n := 1) [18] rfl (by decide +kernel) hS ?_
     iterate 1 ((try simp only [Act.put, s1, s2, s3, s4, s5, s6]); refine ⟨_, ?_, rfl, Or.inl ⟨by kernel_rfl, fun w hSw => ok_of fun z hz => ?_⟩, ?_⟩; rotate_left; · (go_simp; exact hz))
     refine RunOK.done ?_
     try simp only [Act.put, s1, s2, s3, s4, s5, s6]
     refine rd1 19 (by decide +kernel) rfl (fun K hK => ?_)
     have f0 := froz0 hx17 2
     have e2 := (cel3 hx17).2.2
     go_simp
     have hb19 : Below W1.heap.size W1 (w17.setCell ⟨g, 2, none⟩ (.slice a17 (k + 1) c17)) := hb17.setCell (p := ⟨g, 2, none⟩) HG.out _
     refine Shut.out hK _ _ (HCB.out _ hb19) (fun hS2 => ?_); clear hK K hS; have hS := hS2; clear hS2
     refine wpAnyH_done (by kernel_rfl) ?_ _
     try simp only [Act.put, s1, s2, s3, s4, s5, s6]
     simp only [NQ]
     have hJ2 : JOut W1.heap.size g (w17.setCell ⟨g, 2, none⟩ (.slice a17 (k + 1) c17)) (c.vec, c.cloud) (c.items.take (k + 1)) := by
      have := JOut.addT (U := (c.vec, c.cloud)) (q := (⟨⟨nm, ms⟩, p14, q14⟩ : ItW)) HX1.out HR1.out HR2.out HFR.out HBR.out.size hb16 hb14.size HNS.out (HMK.out.marksMI) hr16 hr17 hg17
      rw [HTK.out, ← HPS.out]
      rw [List.map_append] at this
      exact this
     have HJ2 := Hd hJ2
     have HB19 := Hd hb19
     clear hJ2 hb19 hS hr17 hg17 hb17 hx17 f0 e2 hsrc hbT
     go_wp2_with fail
     go_roundw
     case rel => exact ⟨k + 1, by omega, by go_num, HJ2.out, HB19.out⟩
     case measure => simp [intOf]; omega
    ·go_simp
     have hal : Below w14.heap.size w14 (w14.alloc (.cells #[.string nm, .slice p14 ms.length q14] 50)) := bal
     have hb16 := btr hb14 hal
     have hr16 := hr14.below hal
     refine Shut.out hK _ _ (HCB.out _ (btr HBR.out hb16)) (fun hS2 => ?_); clear hK K hS; have hS := hS2; clear hS2
     try simp only [Act.put, s1, s2, s3, s4, s5, s6]
     refine rd1 1 (by decide +kernel) rfl (fun K hK => ?_)
     have e1 := (cel3 (HCG.out _ (hb16))).2.2
     go_simp
     refine Shut.out hK _ _ (HCB.out _ (btr HBR.out (hb16))) (fun hS2 => ?_); clear hK K hS; have hS := hS2; clear hS2
     try simp only [Act.put, s1, s2, s3, s4, s5, s6]
     refine rd1 17 (by decide +kernel) rfl (fun K hK => ?_)
     have hbT := btr HBR.out hb16
     have hsrc : EItem.Src (w14.alloc (.cells #[.string nm, .slice p14 ms.length q14] 50)) (.slice (some ⟨w14.heap.size, 0, none⟩) 1 1) [(⟨⟨nm, ms⟩, p14, q14⟩ : ItW)] := Enc.Src.one_lit (E := EItem) w14 50 _
     refine step_append_row rfl _ _ 26 rfl EItem W1.heap.size (.agg #[.string ⟨#[]⟩, .slice none 0 0]) 40 Tryz.underlying26 infoItem (by decide) (by decide) _ ps rfl (HFR.out.1.below hb16) _ [(⟨⟨nm, ms⟩, p14, q14⟩ : ItW)] rfl hsrc (by simp; omega) hbT.size ?_
     intro v17 w17 hr17 hg17
     have hb17 : Below W1.heap.size W1 w17 := hbT.grown hg17 hbT.size (fun j hj => (HFR.out.1.lt _ hj).1)
     obtain ⟨a17, c17, rfl⟩ := hr17.slice
     have hn17 : (ps ++ [(⟨⟨nm, ms⟩, p14, q14⟩ : ItW)]).length = k + 1 := by simp; omega
     rw [hn17] at hr17
     have hx17 : w17.heap[g]? = _ := (hg17.block _ (Nat.lt_of_lt_of_le hgl hb16.size) (fun e => erow_ne HFR.out.1 HX1.out (by decide) _ e.symm rfl)).trans (HCG.out _ hb16)
     refine Shut.out hK _ _ (HCB.out _ hb17) (fun hS2 => ?_); clear hK K hS; have hS := hS2; clear hS2
     refine tkR (n := 1) [18] rfl (by decide +kernel) hS ?_
     iterate 1 ((try simp only [Act.put, s1, s2, s3, s4, s5, s6]); refine ⟨_, ?_, rfl, Or.inl ⟨by kernel_rfl, fun w hSw => ok_of fun z hz => ?_⟩, ?_⟩; rotate_left; · (go_simp; exact hz))
     refine RunOK.done ?_
     try simp only [Act.put, s1, s2, s3, s4, s5, s6]
     refine rd1 19 (by decide +kernel) rfl (fun K hK => ?_)
     have f0 := froz0 hx17 2
     have e2 := (cel3 hx17).2.2
     go_simp
     have hb19 : Below W1.heap.size W1 (w17.setCell ⟨g, 2, none⟩ (.slice a17 (k + 1) c17)) := hb17.setCell (p := ⟨g, 2, none⟩) HG.out _
     refine Shut.out hK _ _ (HCB.out _ hb19) (fun hS2 => ?_); clear hK K hS; have hS := hS2; clear hS2
     refine wpAnyH_done (by kernel_rfl) ?_ _
     try simp only [Act.put, s1, s2, s3, s4, s5, s6]
     simp only [NQ]
     have hJ2 : JOut W1.heap.size g (w17.setCell ⟨g, 2, none⟩ (.slice a17 (k + 1) c17)) (c.vec, c.cloud) (c.items.take (k + 1)) := by
      have := JOut.addT (U := (c.vec, c.cloud)) (q := (⟨⟨nm, ms⟩, p14, q14⟩ : ItW)) HX1.out HR1.out HR2.out HFR.out HBR.out.size hb16 hb14.size HNS.out (HMK.out.marksMI) hr16 hr17 hg17
      rw [HTK.out, ← HPS.out]
      rw [List.map_append] at this
      exact this
     have HJ2 := Hd hJ2
     have HB19 := Hd hb19
     clear hJ2 hb19 hS hr17 hg17 hb17 hx17 f0 e2 hsrc hbT
     go_wp2_with fail
     go_roundw
     case rel => exact ⟨k + 1, by omega, by go_num, HJ2.out, HB19.out⟩
     case measure => simp [intOf]; omega
  ·have hke : k = n3 := by omega
   have HT : Hid (c.items.take k = c.items) := Hd (by rw [hke, HN3.out]; exact List.take_length)
   rw [HT.out] at hj
   obtain ⟨y1, y2, y3, ps, hx1, hr1, hr2, hfr, hps⟩ := hj
   have a1 : ¬ (k : Int) < (n3 : Int) := by omega
   have hx2 := HK1.out wr hbr
   have hne : w.heap.size + 1 ≠ g := by have := HS.out; have := HG.out; omega
   have HF : Hid (OwnC w.heap.size (set3c wr (w.heap.size + 1) y1 y2 y3) y1 y2 y3 c ∧ Below w.heap.size w (set3c wr (w.heap.size + 1) y1 y2 y3)) := Hd (by
    have hs := HS.out
    refine ⟨⟨(hr1.stay (fun q hq => set3c_oth (erow_ne hr1 hx2 (by decide) q hq))).mono (by omega), (hr2.stay (fun q hq => set3c_oth (erow_ne hr2 hx2 (by decide) q hq))).mono (by omega), ps, hps, (hfr.stayF (fun q hq _ hq2 => set3c_oth ?_)).mono (by omega)⟩, set3c_below _ _ _ (btr HB.out hbr) (by omega)⟩
    rcases hq2 with hq2 | ⟨p, hp, hq2⟩
    ·exact erow_ne hfr.1 hx2 (by decide) q hq2
    ·exact erow_ne (hfr.2.1 p hp).1.2.1 hx2 (by decide) q hq2)
   obtain ⟨z1, z2, z3⟩ := cel3 hx1
   obtain ⟨oa, oc, rfl⟩ := hr1.slice
   obtain ⟨ob, od, rfl⟩ := hr2.slice
   obtain ⟨oe, of, rfl⟩ := hfr.1.slice
   have t0 := froz0 hx2 0
   have t1 := froz0 hx2 1
   have t2 := froz0 hx2 2
   obtain ⟨s0, s1', s2'⟩ := cel3 hx2
   clear hbr hx1 hr1 hr2 hfr hps hx2 HJ HBX HIA hke
   generalize c.vec.length = m1 at *
   generalize c.cloud.length = m2 at *
   generalize ps.length = m3 at *
   go_wp2_with fail
   refine bodyPost_ret (v := .agg #[.slice oa m1 oc, .slice ob m2 od, .slice oe m3 of]) ?_ rfl ⟨_, _, _, rfl, HF.out.1, HF.out.2⟩
   rw [results_cell_one rfl]
   go_simp
end Go.Proofs.YtfnfbcaoihhbpaaGreatDoor
