/- CartOrders inside. -/
import Derived.Test.YtadbmineobldbaaGreatDoorD9m
import Derived.Test.YtadbmineobldbaaGreatDoorR10c
set_option linter.unusedSimpArgs false
set_option linter.unusedVariables false
set_option maxRecDepth 100000
set_option maxHeartbeats 16000000
namespace Go.Proofs.YtadbmineobldbaaGreatDoor
open Go.RowKit Go.Maps Go.Sort Go.Shelf
def CX (B g : Nat) (w : World) (y1 y2 v : Value) (U : List DotD × List DotD) (ps : List ItW) : Prop := w.heap[g]? = some (.cells #[y1, y2, v] 28) ∧ EDot.Row B w y1 U.1 ∧ EDot.Row B w y2 U.2 ∧ FreshI B w v ps
theorem CX.below {B g : Nat} {w w' : World} {y1 y2 v : Value} {U : List DotD × List DotD} {ps : List ItW} (h : CX B g w y1 y2 v U ps) (hb : Below w.heap.size w w') : CX B g w' y1 y2 v U ps := ⟨(hb.block _ (lt_of_heap h.1)).trans h.1, h.2.1.below hb, h.2.2.1.below hb, h.2.2.2.below hb⟩
theorem fresh_turn {B : Nat} {w w9 : World} {v v9 : Value} {ps qs : List ItW} (h : FreshI B w v ps) (hB : B ≤ w.heap.size) (hb : Below w.heap.size w w9) (hr : EItem.Row w.heap.size w9 v9 qs) (hp : qs.Perm ps) : FreshI B w9 v9 qs := by
 refine ⟨hr.mono hB, fun p hq => ?_, (hp.pairwise_iff (fun h => Apart.symm h)).2 h.2.2⟩
 have ha := (h.2.1 p (hp.mem_iff.1 hq)).1;refine ⟨ha.below hb, fun k h1 h2 => ?_⟩
 have := (hr.lt k h1).1;have := (ha.2.1.lt k h2).2;omega
theorem CX.put3 {B g : Nat} {w : World} {y1 y2 y3 v : Value} {U : List DotD × List DotD} {ps qs : List ItW} (h : CX B g w y1 y2 y3 U ps) (hF : FreshI B w v qs) : CX B g (w.setCell ⟨g, 2, none⟩ v) y1 y2 v U qs := by
 obtain ⟨h1, h2, h3, -⟩ := h;refine ⟨setCell_same h1 2 v, h2.stay (fun k hk => setCell_other (erow_ne h2 h1 (by decide) k hk)), h3.stay (fun k hk => setCell_other (erow_ne h3 h1 (by decide) k hk)), hF.stayF (fun k hk _ hk2 => setCell_other ?_)⟩
 rcases hk2 with hk2 | ⟨p, hp, hk2⟩
 ·exact erow_ne hF.1 h1 (by decide) k hk2
 ·exact erow_ne (hF.2.1 p hp).1.2.1 h1 (by decide) k hk2
theorem CX.setm {B g gi n cap k : Nat} {w w2 : World} {y1 y2 : Value} {U : List DotD × List DotD} {ps : List ItW} {ms : List MarkD} (h : CX B g w y1 y2 (.slice (some ⟨gi, 0, none⟩) n cap) U ps) (hB : B ≤ w.heap.size) (hk : k < ps.length) (hb : Below w.heap.size w w2) (mo : Option Addr) (mc : Nat)
  (hr : EMark.Row w.heap.size w2 (.slice mo ms.length mc) ms) (hmi : ∀ m ∈ ms, MI m) : CX B g (w2.setCell ⟨gi, k * 2 + 1, none⟩ (.slice mo ms.length mc)) y1 y2 (.slice (some ⟨gi, 0, none⟩) n cap) U (ps.set k ⟨⟨ps[k].x.name, ms⟩, mo, mc⟩) := by
 obtain ⟨h1, h2, h3, h4⟩ := h.below hb;have hlt : ∀ p ∈ ps, ∀ j, p.v.ownBlock = some j → j < w.heap.size := fun p hp j hj => ((h.2.2.2.2.1 p hp).1.2.1.lt j hj).2
 have hnew : ∀ j, (Value.slice mo ms.length mc).ownBlock = some j → w.heap.size ≤ j := fun j hj => (hr.lt j hj).1
 obtain ⟨hin, hgb, hn⟩ := h4.1.at;have hgw : gi < w.heap.size := (h.2.2.2.1.lt gi rfl).2;have hset := setMarks_in hin k hk ⟨⟨ps[k].x.name, ms⟩, mo, mc⟩ rfl;have hown := hset.own hgb;rw [List.length_set, hn] at hown;obtain ⟨C, hC, -⟩ := hin;have hap : Apart (.slice (some ⟨gi, 0, none⟩) n cap) (Value.slice mo ms.length mc) := fun j h5 h6 => by
  have := hnew j h6;have e : gi = j := by simpa [Value.ownBlock] using h5
  omega
 have hne : g ≠ gi := fun e => by rw [e, hC] at h1; injection h1 with h1; injection h1 with _ h1; exact absurd h1 (by decide)
 have hq : ∀ p ∈ ps.set k ⟨⟨ps[k].x.name, ms⟩, mo, mc⟩, p ∈ ps ∨ p = ⟨⟨ps[k].x.name, ms⟩, mo, mc⟩ := fun p hp => List.mem_or_eq_of_mem_set hp
 refine ⟨(setCell_other hne).trans h1, h2.stay (fun j hj => setCell_other (erow_ne h2 hC (by decide) j hj)), h3.stay (fun j hj => setCell_other (erow_ne h3 hC (by decide) j hj)), hown, fun p hp => ?_, ?_⟩
 ·rcases hq p hp with hp | rfl
  ·obtain ⟨a1, a2⟩ := h4.2.1 p hp
   exact ⟨a1.stay (fun j hj => setCell_other (fun e => a2 j (by rw [e]; rfl) hj)), a2⟩
  ·refine ⟨⟨(h4.2.1 _ (List.getElem_mem hk)).1.1, (hr.mono hB).stay (fun j hj => setCell_other (fun e => ?_)), hmi⟩, hap⟩
   have := hnew j hj;omega
 ·rw [List.pairwise_iff_getElem]
  intro i j hi hj hij;rw [List.length_set] at hi hj;have hpw := List.pairwise_iff_getElem.1 h4.2.2 i j hi hj hij;rw [List.getElem_set, List.getElem_set]
  split
  ·split
   ·omega
   ·intro t h5 h6
    have := hnew t h5;have := hlt _ (List.getElem_mem hj) t h6;omega
  ·split
   ·intro t h5 h6
    have := hlt _ (List.getElem_mem hi) t h5;have := hnew t h6;omega
   ·exact hpw
theorem canonItem_turn {x : ItemD} {ms : List MarkD} (hp : ms.Perm x.marks) (hn : (dotsM x.marks).Nodup) : canonItem ⟨x.name, ms⟩ = canonItem x := by
 unfold canonItem
 congr 1
 exact marks_unique ((sortedM_perm ms).trans (hp.trans (sortedM_perm x.marks).symm)) (sortedM_sorted ms) (sortedM_sorted x.marks) ((dotsM_perm ((sortedM_perm ms).trans hp)).nodup_iff.2 hn)
theorem turn_perm {α : Type} (l : List α) (k : Nat) : (l.drop k ++ l.take k).Perm l := by
 have := List.perm_append_comm (l₁ := l.drop k) (l₂ := l.take k);rw [List.take_append_drop] at this;exact this
theorem of_canon {x y : ItemD} (h : canonItem x = y) (ho : oneI y = true) : 0 < x.marks.length ∧ (dotsM x.marks).Nodup ∧ x.marks.length = y.marks.length := by
 subst h;have hp := sortedM_perm x.marks;have hl : (canonItem x).marks.length = x.marks.length := hp.length_eq;refine ⟨?_, (dotsM_perm hp).nodup_iff.1 (oneI_nodup ho), hl.symm⟩;rw [← hl];exact List.length_pos_iff.2 (oneI_marks ho).1
theorem orders_good {c : CartD} (hv : validC c = true) (hl : CL 80 c) {L : List ItW} (h : (L.map (fun p => canonItem p.x)).Perm c.items) : (decide (canonC ⟨c.vec, c.cloud, L.map (·.x)⟩ = c) && (canonE ⟨c.vec, c.cloud, L.map (·.x)⟩ == 0)) = true ∧ SzC ⟨c.vec, c.cloud, L.map (·.x)⟩ ∧ (allDots (L.map (·.x))).length ≤ 9000 := by
 have h2 : ((L.map (·.x)).map canonItem).Perm c.items := by rw [List.map_map]; exact h
 obtain ⟨e1, e2⟩ := canon_turned hv h2;have hm : ∀ x ∈ L.map (·.x), x.marks.length ≤ 80 := fun x hx => by
  have := hl.2.2 _ (h2.mem_iff.1 (List.mem_map_of_mem hx));have hp : (canonItem x).marks.length = x.marks.length := (sortedM_perm x.marks).length_eq;omega
 have hn : (L.map (·.x)).length = c.items.length := by rw [← h2.length_eq, List.length_map, List.length_map, List.length_map]
 have hk := hl.2.1;refine ⟨by unfold canonC canonE; rw [e1, e2]; simp, ⟨⟨by show (L.map (·.x)).length ≤ 1000; omega, fun x hx => by have := hm x hx; omega⟩, by have := hl.1; show c.vec.length + c.cloud.length ≤ 10000; omega⟩, ?_⟩
 rw [← (allDots_canon (L.map (·.x))).length_eq, (allDots_perm h2).length_eq];have h3 : ∀ (l : List ItemD), (∀ x ∈ l, x.marks.length ≤ 80) → (allDots l).length ≤ l.length * 80 := fun l => by
  induction l with
  | nil => intro _; simp [allDots]
  | cons x l ih =>
   intro hx;have h4 := ih (fun y hy => hx y (List.mem_cons_of_mem _ hy))
   have h5 := hx x List.mem_cons_self;unfold allDots at h4 ⊢;rw [List.flatMap_cons, List.length_append, List.length_cons, Nat.succ_mul];have h6 : (dotsM x.marks).length ≤ 80 := by unfold dotsM; rw [List.length_map]; exact h5
   omega
 have := h3 c.items hl.2.2;omega
theorem set_other_cell {w : World} {a b i j : Nat} {v : Value} (h : a ≠ b) : (w.setCell ⟨b, j, none⟩ v).cell? ⟨a, i, none⟩ = w.cell? ⟨a, i, none⟩ := by
 unfold World.cell?;rw [setCell_other h]
theorem ordR7 (B g : Nat) (U : List DotD × List DotD) (ps : List ItW) (k n ci : Nat) (oi : Option Addr) (y1 y2 : Value) (z0 z1 z2 z3 z4 z6 z8 z9 z10 z11 z12 z13 z14 z15 z16 z17 z18 z19 z20 z21 z22 z23 z24 z25 z26 z27 z28 z29 z30 z31 z32 z33 z34 z35 z36 z37 z38 z39 z40 z41 z42 z43 z44 z45 z46 z47 z48 z49 z50 z51 z52 z53 z54 z55 z56 z57 z58 z59 z60 z61 z62 z63 z64 z65 z66 z67 z68 z69 z70 z71 z72 z73 z74 z75 z76 z77 z78 : Value) (WL : World) (R : Act → World → Prop) (hX : CX B g WL y1 y2 (.slice oi n ci) U ps) (hBS : B ≤ WL.heap.size) (hBG : B ≤ g) (hn : n = ps.length) (hk : k < n) (hle : n ≤ 1000)
  (hQ : ∀ (o9 : Option Addr) (c9 : Nat) (u31 u32 u33 u34 u35 u36 u37 u38 u39 u40 u41 : Value) (wx : World), CX B g wx y1 y2 (.slice o9 n c9) U (ps.drop k ++ ps.take k) → Below B WL wx → R { tmps := #[z0, z1, z2, z3, z4, .pointer (some ⟨g, 0, none⟩), z6, .int .i64 (k : Int), z8, z9, z10, z11, z12, z13, z14, z15, z16, z17, z18, z19, z20, z21, z22, z23, z24, z25, z26, z27, z28, z29, z30, u31, u32, u33, u34, u35, u36, u37, u38, u39, u40, u41, z42, z43, z44, z45, z46, z47, z48, z49, z50, z51, z52, z53, z54, z55, z56, z57, z58, z59, z60, z61, z62, z63, z64, z65, z66, z67, z68, z69, z70, z71, z72, z73, z74, z75, z76, z77, z78], defers := [] } wx) :
  (codeAt [1, 1, 1, 0, 1, 1, 0, 1] (Tryz.f5.body.getD .skip)).wp Tryz.prog (NQ R) { tmps := #[z0, z1, z2, z3, z4, .pointer (some ⟨g, 0, none⟩), z6, .int .i64 (k : Int), z8, z9, z10, z11, z12, z13, z14, z15, z16, z17, z18, z19, z20, z21, z22, z23, z24, z25, z26, z27, z28, z29, z30, z31, z32, z33, z34, z35, z36, z37, z38, z39, z40, z41, z42, z43, z44, z45, z46, z47, z48, z49, z50, z51, z52, z53, z54, z55, z56, z57, z58, z59, z60, z61, z62, z63, z64, z65, z66, z67, z68, z69, z70, z71, z72, z73, z74, z75, z76, z77, z78], defers := [] } WL := by
 subst hn;have hlc : ps.length ≤ ci := by
  obtain ⟨o', c', he, h2, -⟩ := hX.2.2.2.arr;rw [List.length_map] at he h2
  cases he
  exact h2
 have HX := Hd hX;have HBS := Hd hBS;have HLE := Hd hle;have HSRC := Hd hX.2.2.2.1.toSrc;have HSA : Hid (∀ wz, Below WL.heap.size WL wz → EItem.Src wz (.slice oi k ci) (ps.take k)) := Hd (fun wz hz => by
  have := (HSRC.out.below hz).sliced hlc 0 k (Nat.zero_le _) (by omega) 2 rfl
  rw [List.drop_zero, sliced_zero] at this;exact this)
 have HSB : Hid (∀ wz, Below WL.heap.size WL wz → EItem.Src wz (.slice (if ci = k then oi else Option.map (fun x => x.add (k * 2)) oi) (ps.length - k) (ci - k)) (ps.drop k)) := Hd (fun wz hz => by
  have := (HSRC.out.below hz).sliced hlc k ps.length (by omega) (Nat.le_refl _) 2 rfl
  rw [List.take_length] at this;exact this)
 have hnn : (ps.drop k ++ ps.take k).length = ps.length := by rw [List.length_append, List.length_drop, List.length_take]; omega
 have HNN := Hd hnn;have a0 : (0 : Int) ≤ k := by omega
 have a3 : (k : Int) ≤ (ps.length : Int) := by omega
 have a4 : (ps.length : Int) ≤ (ci : Int) := by omega
 have a5 : (k : Int) ≤ (ci : Int) := by omega
 clear hX hlc HSRC hnn;simp only [codeAt, codeL, codeR, Tryz.f5, Option.getD_some];refine wp_region_held_drew (S := (fun _ => True)) (by kernel_rfl) trivial (fun hS => ?_)
 refine tkR (n := 4) [0, 2, 5, 7] rfl (by decide +kernel) hS ?_
 iterate 4 ((try simp only [Act.put, s1, s2, s3, s4, s5, s6]); refine ⟨_, ?_, rfl, Or.inl ⟨by kernel_rfl, fun w hSw => ok_of fun z hz => ?_⟩, ?_⟩; rotate_left; · (go_simp; exact hz))
 refine RunOK.done ?_
 try simp only [Act.put, s1, s2, s3, s4, s5, s6]
 refine wpAnyH_ready (rs := [1, 6]) (by decide +kernel) (by simp) ?_
 refine (AllReadyH.cons rfl (fun K hK => ?_) (AllReadyH.cons rfl (fun K hK => ?_) AllReadyH.nil))
 ·obtain ⟨t0, t1, t2⟩ := cel3 (HX.out.below (show Below WL.heap.size WL WL.drew from bdr)).1
  go_simp;refine Shut.out hK _ _ (trivial) (fun hS2 => ?_); clear hK K hS; have hS := hS2; clear hS2
  clear t0 t1 t2;refine tkR (n := 1) [3] rfl (by decide +kernel) hS ?_
  iterate 1 ((try simp only [Act.put, s1, s2, s3, s4, s5, s6]); refine ⟨_, ?_, rfl, Or.inl ⟨by kernel_rfl, fun w hSw => ok_of fun z hz => ?_⟩, ?_⟩; rotate_left; · (go_simp; exact hz))
  refine RunOK.done ?_
  try simp only [Act.put, s1, s2, s3, s4, s5, s6]
  refine wpAnyH_ready (rs := [4, 6]) (by decide +kernel) (by simp) ?_
  refine (AllReadyH.cons rfl (fun K hK => ?_) (AllReadyH.cons rfl (fun K hK => ?_) AllReadyH.nil))
  ·refine step_append_row rfl _ _ 26 rfl EItem WL.heap.size (.agg #[.string ⟨#[]⟩, .slice none 0 0]) 40 Tryz.underlying26 infoItem (by decide) (by decide) _ [] rfl (Enc.Row.nil _ _) _ (ps.drop k) rfl (HSB.out _ (show Below WL.heap.size WL WL.drew from bdr)) (by have := HLE.out; simp; omega) ((show Below WL.heap.size WL WL.drew from bdr)).size ?_
   intro v4 w4 hrow4 hgr4;have hb4 := ((show Below WL.heap.size WL WL.drew from bdr)).grown hgr4 ((show Below WL.heap.size WL WL.drew from bdr)).size (fun j hj => by cases hj)
   refine Shut.out hK _ _ (trivial) (fun hS2 => ?_); clear hK K hS; have hS := hS2; clear hS2
   try simp only [Act.put, s1, s2, s3, s4, s5, s6]
   refine rd1 6 (by decide +kernel) rfl (fun K hK => ?_)
   obtain ⟨t0, t1, t2⟩ := cel3 (HX.out.below hb4).1;go_simp;refine Shut.out hK _ _ (trivial) (fun hS2 => ?_); clear hK K hS; have hS := hS2; clear hS2
   clear t0 t1 t2;refine tkR (n := 1) [8] rfl (by decide +kernel) hS ?_
   iterate 1 ((try simp only [Act.put, s1, s2, s3, s4, s5, s6]); refine ⟨_, ?_, rfl, Or.inl ⟨by kernel_rfl, fun w hSw => ok_of fun z hz => ?_⟩, ?_⟩; rotate_left; · (go_simp; exact hz))
   refine RunOK.done ?_
   try simp only [Act.put, s1, s2, s3, s4, s5, s6]
   refine rd1 9 (by decide +kernel) rfl (fun K hK => ?_)
   refine step_append_row rfl _ _ 26 rfl EItem WL.heap.size (.agg #[.string ⟨#[]⟩, .slice none 0 0]) 40 Tryz.underlying26 infoItem (by decide) (by decide) _ ([] ++ ps.drop k) rfl (hrow4) _ (ps.take k) rfl (HSA.out _ hb4) (by have := HLE.out; simp; omega) (hb4).size ?_
   intro v9 w9 hrow9 hgr9;have hb9 := (hb4).grown hgr9 (hb4).size (fun j hj => (hrow4.lt _ hj).1)
   rw [List.nil_append] at hrow9;obtain ⟨o9, c9, rfl⟩ := hrow9.slice;rw [HNN.out] at hrow9 ⊢;refine Shut.out hK _ _ (trivial) (fun hS2 => ?_); clear hK K hS; have hS := hS2; clear hS2
   refine tkR (n := 1) [10] rfl (by decide +kernel) hS ?_
   iterate 1 ((try simp only [Act.put, s1, s2, s3, s4, s5, s6]); refine ⟨_, ?_, rfl, Or.inl ⟨by kernel_rfl, fun w hSw => ok_of fun z hz => ?_⟩, ?_⟩; rotate_left; · (go_simp; exact hz))
   refine RunOK.done ?_
   try simp only [Act.put, s1, s2, s3, s4, s5, s6]
   refine rd1 11 (by decide +kernel) rfl (fun K hK => ?_)
   have hX9 := HX.out.below hb9;obtain ⟨t0, t1, t2⟩ := cel3 hX9.1;have f0 := froz0 hX9.1 2;go_simp;refine Shut.out hK _ _ (trivial) (fun hS2 => ?_); clear hK K hS; have hS := hS2; clear hS2
   refine wpAnyH_done (by kernel_rfl) ?_ _
   try simp only [Act.put, s1, s2, s3, s4, s5, s6]
   simp only [NQ];have hfin := hX9.put3 (fresh_turn HX.out.2.2.2 HBS.out hb9 hrow9 (turn_perm ps k));exact hQ _ _ _ _ _ _ _ _ _ _ _ _ _ _ hfin ((hb9.mono HBS.out).setCell (p := ⟨g, 2, none⟩) hBG _)
  ·obtain ⟨t0, t1, t2⟩ := cel3 (HX.out.below (show Below WL.heap.size WL WL.drew from bdr)).1
   go_simp;refine Shut.out hK _ _ (trivial) (fun hS2 => ?_); clear hK K hS; have hS := hS2; clear hS2
   clear t0 t1 t2;refine tkR (n := 1) [8] rfl (by decide +kernel) hS ?_
   iterate 1 ((try simp only [Act.put, s1, s2, s3, s4, s5, s6]); refine ⟨_, ?_, rfl, Or.inl ⟨by kernel_rfl, fun w hSw => ok_of fun z hz => ?_⟩, ?_⟩; rotate_left; · (go_simp; exact hz))
   refine RunOK.done ?_
   try simp only [Act.put, s1, s2, s3, s4, s5, s6]
   refine rd1 4 (by decide +kernel) rfl (fun K hK => ?_)
   refine step_append_row rfl _ _ 26 rfl EItem WL.heap.size (.agg #[.string ⟨#[]⟩, .slice none 0 0]) 40 Tryz.underlying26 infoItem (by decide) (by decide) _ [] rfl (Enc.Row.nil _ _) _ (ps.drop k) rfl (HSB.out _ (show Below WL.heap.size WL WL.drew from bdr)) (by have := HLE.out; simp; omega) ((show Below WL.heap.size WL WL.drew from bdr)).size ?_
   intro v4 w4 hrow4 hgr4;have hb4 := ((show Below WL.heap.size WL WL.drew from bdr)).grown hgr4 ((show Below WL.heap.size WL WL.drew from bdr)).size (fun j hj => by cases hj)
   refine Shut.out hK _ _ (trivial) (fun hS2 => ?_); clear hK K hS; have hS := hS2; clear hS2
   try simp only [Act.put, s1, s2, s3, s4, s5, s6]
   refine rd1 9 (by decide +kernel) rfl (fun K hK => ?_)
   refine step_append_row rfl _ _ 26 rfl EItem WL.heap.size (.agg #[.string ⟨#[]⟩, .slice none 0 0]) 40 Tryz.underlying26 infoItem (by decide) (by decide) _ ([] ++ ps.drop k) rfl (hrow4) _ (ps.take k) rfl (HSA.out _ hb4) (by have := HLE.out; simp; omega) (hb4).size ?_
   intro v9 w9 hrow9 hgr9;have hb9 := (hb4).grown hgr9 (hb4).size (fun j hj => (hrow4.lt _ hj).1)
   rw [List.nil_append] at hrow9;obtain ⟨o9, c9, rfl⟩ := hrow9.slice;rw [HNN.out] at hrow9 ⊢;refine Shut.out hK _ _ (trivial) (fun hS2 => ?_); clear hK K hS; have hS := hS2; clear hS2
   refine tkR (n := 1) [10] rfl (by decide +kernel) hS ?_
   iterate 1 ((try simp only [Act.put, s1, s2, s3, s4, s5, s6]); refine ⟨_, ?_, rfl, Or.inl ⟨by kernel_rfl, fun w hSw => ok_of fun z hz => ?_⟩, ?_⟩; rotate_left; · (go_simp; exact hz))
   refine RunOK.done ?_
   try simp only [Act.put, s1, s2, s3, s4, s5, s6]
   refine rd1 11 (by decide +kernel) rfl (fun K hK => ?_)
   have hX9 := HX.out.below hb9;obtain ⟨t0, t1, t2⟩ := cel3 hX9.1;have f0 := froz0 hX9.1 2;go_simp;refine Shut.out hK _ _ (trivial) (fun hS2 => ?_); clear hK K hS; have hS := hS2; clear hS2
   refine wpAnyH_done (by kernel_rfl) ?_ _
   try simp only [Act.put, s1, s2, s3, s4, s5, s6]
   simp only [NQ];have hfin := hX9.put3 (fresh_turn HX.out.2.2.2 HBS.out hb9 hrow9 (turn_perm ps k));exact hQ _ _ _ _ _ _ _ _ _ _ _ _ _ _ hfin ((hb9.mono HBS.out).setCell (p := ⟨g, 2, none⟩) hBG _)
 ·obtain ⟨t0, t1, t2⟩ := cel3 (HX.out.below (show Below WL.heap.size WL WL.drew from bdr)).1
  go_simp;refine Shut.out hK _ _ (trivial) (fun hS2 => ?_); clear hK K hS; have hS := hS2; clear hS2
  clear t0 t1 t2;refine tkR (n := 1) [8] rfl (by decide +kernel) hS ?_
  iterate 1 ((try simp only [Act.put, s1, s2, s3, s4, s5, s6]); refine ⟨_, ?_, rfl, Or.inl ⟨by kernel_rfl, fun w hSw => ok_of fun z hz => ?_⟩, ?_⟩; rotate_left; · (go_simp; exact hz))
  refine RunOK.done ?_
  try simp only [Act.put, s1, s2, s3, s4, s5, s6]
  refine rd1 1 (by decide +kernel) rfl (fun K hK => ?_)
  obtain ⟨t0, t1, t2⟩ := cel3 (HX.out.below (show Below WL.heap.size WL WL.drew from bdr)).1
  go_simp;refine Shut.out hK _ _ (trivial) (fun hS2 => ?_); clear hK K hS; have hS := hS2; clear hS2
  clear t0 t1 t2;refine tkR (n := 1) [3] rfl (by decide +kernel) hS ?_
  iterate 1 ((try simp only [Act.put, s1, s2, s3, s4, s5, s6]); refine ⟨_, ?_, rfl, Or.inl ⟨by kernel_rfl, fun w hSw => ok_of fun z hz => ?_⟩, ?_⟩; rotate_left; · (go_simp; exact hz))
  refine RunOK.done ?_
  try simp only [Act.put, s1, s2, s3, s4, s5, s6]
  refine rd1 4 (by decide +kernel) rfl (fun K hK => ?_)
  refine step_append_row rfl _ _ 26 rfl EItem WL.heap.size (.agg #[.string ⟨#[]⟩, .slice none 0 0]) 40 Tryz.underlying26 infoItem (by decide) (by decide) _ [] rfl (Enc.Row.nil _ _) _ (ps.drop k) rfl (HSB.out _ (show Below WL.heap.size WL WL.drew from bdr)) (by have := HLE.out; simp; omega) ((show Below WL.heap.size WL WL.drew from bdr)).size ?_
  intro v4 w4 hrow4 hgr4;have hb4 := ((show Below WL.heap.size WL WL.drew from bdr)).grown hgr4 ((show Below WL.heap.size WL WL.drew from bdr)).size (fun j hj => by cases hj)
  refine Shut.out hK _ _ (trivial) (fun hS2 => ?_); clear hK K hS; have hS := hS2; clear hS2
  try simp only [Act.put, s1, s2, s3, s4, s5, s6]
  refine rd1 9 (by decide +kernel) rfl (fun K hK => ?_)
  refine step_append_row rfl _ _ 26 rfl EItem WL.heap.size (.agg #[.string ⟨#[]⟩, .slice none 0 0]) 40 Tryz.underlying26 infoItem (by decide) (by decide) _ ([] ++ ps.drop k) rfl (hrow4) _ (ps.take k) rfl (HSA.out _ hb4) (by have := HLE.out; simp; omega) (hb4).size ?_
  intro v9 w9 hrow9 hgr9;have hb9 := (hb4).grown hgr9 (hb4).size (fun j hj => (hrow4.lt _ hj).1)
  rw [List.nil_append] at hrow9;obtain ⟨o9, c9, rfl⟩ := hrow9.slice;rw [HNN.out] at hrow9 ⊢;refine Shut.out hK _ _ (trivial) (fun hS2 => ?_); clear hK K hS; have hS := hS2; clear hS2
  refine tkR (n := 1) [10] rfl (by decide +kernel) hS ?_
  iterate 1 ((try simp only [Act.put, s1, s2, s3, s4, s5, s6]); refine ⟨_, ?_, rfl, Or.inl ⟨by kernel_rfl, fun w hSw => ok_of fun z hz => ?_⟩, ?_⟩; rotate_left; · (go_simp; exact hz))
  refine RunOK.done ?_
  try simp only [Act.put, s1, s2, s3, s4, s5, s6]
  refine rd1 11 (by decide +kernel) rfl (fun K hK => ?_)
  have hX9 := HX.out.below hb9;obtain ⟨t0, t1, t2⟩ := cel3 hX9.1;have f0 := froz0 hX9.1 2;go_simp;refine Shut.out hK _ _ (trivial) (fun hS2 => ?_); clear hK K hS; have hS := hS2; clear hS2
  refine wpAnyH_done (by kernel_rfl) ?_ _
  try simp only [Act.put, s1, s2, s3, s4, s5, s6]
  simp only [NQ];have hfin := hX9.put3 (fresh_turn HX.out.2.2.2 HBS.out hb9 hrow9 (turn_perm ps k));exact hQ _ _ _ _ _ _ _ _ _ _ _ _ _ _ hfin ((hb9.mono HBS.out).setCell (p := ⟨g, 2, none⟩) hBG _)
set_option linter.unusedSimpArgs false in
set_option linter.unusedVariables false in
set_option maxRecDepth 100000 in
set_option maxHeartbeats 16000000 in
theorem l10Orders_any (c : CartD) (xc1 xc2 xc3 : Value) (turn : Int) (ht0 : 0 ≤ turn) (ht1 : turn < 256) (w : World) (hc : CartA w xc1 xc2 xc3 c) (hG : GlobIs w) :
    Calls Tryz.prog 5 #[.agg #[xc1, xc2, xc3], .int .u8 turn] w fun e w' => e = .returned (.bool true) ∧ Below w.heap.size w w' := by
  obtain ⟨o1, k1, rfl⟩ := hc.1.slice;obtain ⟨o2, k2, rfl⟩ := hc.2.1.slice;obtain ⟨o3, k3, rfl⟩ := hc.2.2.slice;obtain ⟨n1, hn1⟩ : ∃ n, n = c.vec.length := ⟨_, rfl⟩;obtain ⟨n2, hn2⟩ : ∃ n, n = c.cloud.length := ⟨_, rfl⟩;obtain ⟨n3, hn3⟩ : ∃ n, n = c.items.length := ⟨_, rfl⟩;rw [← hn1, ← hn2, ← hn3] at hc;rw [← hn1, ← hn2, ← hn3];obtain ⟨W0, hW0⟩ : ∃ x, x = w.alloc (.cells #[.slice o1 n1 k1, .slice o2 n2 k2, .slice o3 n3 k3] 28) := ⟨_, rfl⟩;have hs0 : W0.heap.size = w.heap.size + 1 := by rw [hW0, alloc_size]
  have hst0 : Below w.heap.size w W0 := by rw [hW0]; exact (Below.refl _ _).alloc (Nat.le_refl _) _
  have hbb0 : Below w.heap.size w W0 := hst0;have hx0_0 : W0.heap[w.heap.size]? = some (.cells #[.slice o1 n1 k1, .slice o2 n2 k2, .slice o3 n3 k3] 28) := by rw [hW0]; exact alloc_new _ _
  have HC : Hid (∀ wz, Below W0.heap.size W0 wz → (wz.cell? ⟨w.heap.size, 0, none⟩ = some (.slice o1 n1 k1)) ∧ (wz.cell? ⟨w.heap.size, 1, none⟩ = some (.slice o2 n2 k2)) ∧ (wz.cell? ⟨w.heap.size, 2, none⟩ = some (.slice o3 n3 k3))) := Lib.hid (fun wz hz => by
    have z0 := (hz.block _ (lt_of_heap hx0_0)).trans hx0_0;exact ⟨by rw [cell0 z0 0]; rfl, by rw [cell0 z0 1]; rfl, by rw [cell0 z0 2]; rfl⟩)
  have HK0 : Hid (∀ wz, Below W0.heap.size W0 wz → wz.heap[w.heap.size]? = some (.cells #[.slice o1 n1 k1, .slice o2 n2 k2, .slice o3 n3 k3] 28)) := Lib.hid (fun wz hz => (hz.block _ (lt_of_heap hx0_0)).trans hx0_0)
  have HB := Lib.hid hbb0;have HS : Hid (W0.heap.size = w.heap.size + 1) := Lib.hid hs0;have HW : Hid (W0 = w.alloc (.cells #[.slice o1 n1 k1, .slice o2 n2 k2, .slice o3 n3 k3] 28)) := Lib.hid (by rw [hW0])
  have HAc := Lib.hid (hc.below hbb0);have HGL := Lib.hid (hG.below hbb0);have HB0 : Hid (Below W0.heap.size W0 W0) := Lib.hid (Below.refl _ _);clear hW0 hs0 hst0 hx0_0 hbb0 hc hG hn1 hn2 hn3;obtain ⟨c0_0_0, c0_0_1, c0_0_2⟩ := HC.out W0 (Below.refl _ _)
  go_enter Tryz.func5, Tryz.ntmps5
  go_wp2_with fail
  rw [← HW.out];have HX := Lib.hid (l10light_any c _ _ _ W0 (HAc.out.below HB0.out));obtain ⟨r1, hr1⟩ : ∃ r, r = lightC c := ⟨_, rfl⟩;rw [← hr1] at HX;have HRr1 := Lib.hid hr1;clear hr1;refine HX.out.mono ?_;rintro e w1 ⟨rfl, hb⟩;clear HX;have HB1 := Lib.hid (HB0.out.trans (hb.mono HB0.out.size));clear c0_0_0 c0_0_1 c0_0_2;obtain ⟨c1_0_0, c1_0_1, c1_0_2⟩ := HC.out w1 HB1.out;clear hb
  cases r1 with
  | false =>
    have HX := Lib.hid (l10known_any w1 (HGL.out.below HB1.out))
    go_wp2_with fail
    refine HX.out.mono ?_;rintro e wk ⟨rfl, hbk⟩;clear HX;have HBK := Lib.hid (HB1.out.trans (hbk.mono HB1.out.size));clear hbk
    go_wp2_with fail
    go_ret
    exact ⟨rfl, HB.out.trans (HBK.out.mono HB.out.size)⟩
  | true =>
    have HLc := Hd (lightC_CL HRr1.out.symm);clear HRr1;have HX := Lib.hid (r10Valid_any c _ _ _ w1 (HAc.out.below HB1.out) (HLc.out.sz (by omega)).1)
    obtain ⟨rv, hrv⟩ : ∃ r, r = validC c := ⟨_, rfl⟩;rw [← hrv] at HX;have HRrv := Lib.hid hrv;clear hrv
    go_wp2_with fail
    refine HX.out.mono ?_;rintro e w2 ⟨rfl, hb⟩;clear HX;have HB2 := Lib.hid (HB1.out.trans (hb.mono HB1.out.size));clear c1_0_0 c1_0_1 c1_0_2;obtain ⟨c2_0_0, c2_0_1, c2_0_2⟩ := HC.out w2 HB2.out;clear hb
    cases rv with
    | false =>
      have HX := Lib.hid (l10known_any w2 (HGL.out.below HB2.out))
      go_wp2_with fail
      refine HX.out.mono ?_;rintro e wk ⟨rfl, hbk⟩;clear HX;have HBK := Lib.hid (HB2.out.trans (hbk.mono HB2.out.size));clear hbk
      go_wp2_with fail
      go_ret
      exact ⟨rfl, HB.out.trans (HBK.out.mono HB.out.size)⟩
    | true =>
      have HV := Hd HRrv.out.symm;clear HRrv;have HX := Lib.hid (r10Copy_any c _ _ _ w2 (HAc.out.below HB2.out) (HLc.out.sz (by omega)))
      go_wp2_with fail
      refine HX.out.mono ?_;rintro e vX ⟨y1, y2, y3, rfl, hown, hb⟩;clear HX;have hRA := hown.cart HV.out;obtain ⟨pX1, mX1, lX1, pX2, mX2, lX2, pX3, mX3, lX3, rfl, rfl, rfl, hm1, hm2, hm3⟩ := opn4 hRA;obtain ⟨WX, HWX, HBX0, HSWX, HCX⟩ := box1 vX #[.slice pX1 mX1 lX1, .slice pX2 mX2 lX2, .slice pX3 mX3 lX3] 28;have HXX := Hd (HCX.out WX brf);have HDBX := Hd (btr hb HBX0.out);have HDVX := Hd hb.size;have HCX := Hd (fun wz hz => cel3 (HCX.out wz hz))
      have HAX := Hd (hRA.below HBX0.out);have HOX := Hd (hown.below HBX0.out);have HMX := Hd hm3;have HB3 := Lib.hid (HB2.out.trans ((btr hb HBX0.out).mono HB2.out.size));have HDX3 : Hid (Below WX.heap.size WX WX) := Lib.hid (Below.refl _ _);clear hown hRA hb HBX0 hm1 hm2 hm3;clear c2_0_0 c2_0_1 c2_0_2;obtain ⟨c3_0_0, c3_0_1, c3_0_2⟩ := HC.out WX HB3.out;obtain ⟨eX3_0, eX3_1, eX3_2⟩ := HCX.out WX HDX3.out;obtain ⟨qs, hqs, hF0⟩ := HOX.out.2.2;have hcx : CX w2.heap.size vX.heap.size WX (.slice pX1 mX1 lX1) (.slice pX2 mX2 lX2) (.slice pX3 mX3 lX3) (c.vec, c.cloud) qs := ⟨HXX.out, HOX.out.1, HOX.out.2.1, hF0⟩;have hn0 : mX3 = qs.length := by rw [HMX.out, ← hqs, List.length_map]
      have hle : mX3 ≤ 80 := by rw [HMX.out]; exact HLc.out.2.1
      have hcq : qs.map (fun p => canonItem p.x) = c.items := by
        rw [show (fun p : ItW => canonItem p.x) = canonItem ∘ (fun p : ItW => p.x) from rfl, ← List.map_map, hqs]
        exact map_canon_self (validI_parts (validC_parts HV.out).2.1).1
      have HB0X := Hd HDBX.out;have HBC := Hd (fun wz (hz : Below w2.heap.size w2 wz) => HC.out wz (HB2.out.trans (hz.mono HB2.out.size)))
      have HAC := Hd (fun wz (hz : Below w2.heap.size w2 wz) => (HAc.out.below HB2.out).below hz)
      have HGC := Hd (fun wz (hz : Below w2.heap.size w2 wz) => (HGL.out.below HB2.out).below hz)
      have HWF := Hd (fun wz (hz : Below w2.heap.size w2 wz) => HB.out.trans ((HB2.out.trans (hz.mono HB2.out.size)).mono HB.out.size))
      have HONE : Hid (∀ x ∈ c.items, oneI x = true) := Hd (validI_parts (validC_parts HV.out).2.1).1;have hBX : w2.heap.size ≤ WX.heap.size := HB0X.out.size;have hBG : w2.heap.size ≤ vX.heap.size := HDVX.out;have HBG := Hd hBG;have HCQ := Hd hcq;have HLE := Hd hle
      by_cases h0 : mX3 = 0
      ·subst h0
       have hq0 : qs = [] := List.eq_nil_of_length_eq_zero hn0.symm;have HPL : Hid ((qs.map (fun p => canonItem p.x)).Perm c.items) := Hd (by rw [HCQ.out])
       have HCX0 := Hd hcx;clear hcx hn0 hle hcq hqs hF0 hq0
       go_wp2_with (go_loud (rw [← HWX.out]))
       clear HWX;have g9 := (cel3 HCX0.out.1).2.2
       go_loopw [45] (fun iv wr => iv = .int .i64 0 ∧ wr = WX) (fun _ _ => 0)
       case atStart => exact ⟨rfl, rfl⟩
       case round =>
        obtain ⟨rfl, rfl⟩ := hrel;have hgood := orders_good HV.out HLc.out (L := qs) HPL.out;have hcA : CartA _ (.slice pX1 mX1 lX1) (.slice pX2 mX2 lX2) (.slice pX3 0 lX3) ⟨c.vec, c.cloud, qs.map (·.x)⟩ := ⟨HCX0.out.2.1.dots (validC_DI HV.out).1, HCX0.out.2.2.1.dots (validC_DI HV.out).2, HCX0.out.2.2.2.arr⟩;have hcan := l10canon_any ⟨c.vec, c.cloud, qs.map (·.x)⟩ c 0 _ _ _ _ _ _ _ hcA (HAC.out _ HB0X.out) hgood.2.1 hgood.2.2 (HGC.out _ HB0X.out);rw [hgood.1] at hcan;have HCAN := Hd hcan;have HBF := Hd HB0X.out;obtain ⟨g0, g1, g2⟩ := cel3 HCX0.out.1;obtain ⟨d0, d1, d2⟩ := HBC.out _ HB0X.out;clear hcan hgood hcA
        go_wp2_with fail
        refine HCAN.out.mono ?_;rintro e wc ⟨rfl, hbc⟩;have HBD := Hd (HBF.out.trans (hbc.mono HBF.out.size));have HX := Hd (l10known_any wc (HGC.out _ HBD.out));clear hbc HCAN g0 g1 g2 d0 d1 d2
        go_wp2_with fail
        refine HX.out.mono ?_;rintro e wk ⟨rfl, hbk⟩;have HBK := Hd (HBD.out.trans (hbk.mono HBD.out.size));clear hbk HX
        go_wp2_with fail
        go_ret
        exact ⟨rfl, HWF.out _ HBK.out⟩
      have b0 : ((mX3 : Int) == 0) = false := by rw [beq_eq_false_iff_ne]; omega
      have b1 : (0 : Int) < (mX3 : Int) := by omega
      have b2 : 0 < mX3 := by omega
      obtain ⟨k, hk9⟩ : ∃ k : Nat, turn % (mX3 : Int) = k := ⟨(turn % (mX3 : Int)).toNat, (Int.toNat_of_nonneg (Int.emod_nonneg _ (by omega))).symm⟩
      have hkl : k < mX3 := by have := Int.emod_lt_of_pos turn b1; omega
      have hx2 := (cel3 hcx.1).2.2;have HN0 := Hd hn0;clear hn0 hcq hqs
      go_upto_region 7 with (go_loud (rw [← HWX.out]))
      try rw [hk9]
      refine NQ.to (ordR7 w2.heap.size vX.heap.size (c.vec, c.cloud) qs k mX3 lX3 pX3 (.slice pX1 mX1 lX1) (.slice pX2 mX2 lX2) _ _ _ _ _ _ _ _ _ _ _ _ _ _ _ _ _ _ _ _ _ _ _ _ _ _ _ _ _ _ _ _ _ _ _ _ _ _ _ _ _ _ _ _ _ _ _ _ _ _ _ _ _ _ _ _ _ _ _ _ _ _ _ _ _ _ _ _ _ _ _ _ _ _ _ _ _ WX _ hcx hBX hBG HN0.out hkl (by omega) ?_)
      intro o9 c9 u31 u32 u33 u34 u35 u36 u37 u38 u39 u40 u41 wx hcx2 hbx;have hqn : (qs.drop k ++ qs.take k).length = mX3 := by have := HN0.out; rw [List.length_append, List.length_drop, List.length_take]; omega
      obtain ⟨gi, cap, hv9, -, -⟩ := hcx2.2.2.2.1.some (by intro e; rw [e] at hqn; simp at hqn; omega)
      rw [hqn] at hv9;injection hv9 with e1 e2 e3
      subst e1 e3;have HCX2 := Hd hcx2;have HPM : Hid (((qs.drop k ++ qs.take k).map (fun p => canonItem p.x)).Perm c.items) := Hd (by rw [← HCQ.out]; exact (turn_perm qs k).map _)
      have HQN := Hd hqn;have HBW := Hd ((HB0X.out.trans hbx));obtain ⟨I', hI⟩ : ∃ I', I' = (qs.drop k ++ qs.take k).map (fun p => canonItem p.x) := ⟨_, rfl⟩
      have HI := Hd hI;have HIL : Hid (I'.length = mX3) := Hd (by rw [hI, List.length_map, hqn])
      have HPI : Hid (I'.Perm c.items) := Hd (by rw [hI]; exact HPM.out)
      have hx3 := (cel3 hcx2.1).2.2;clear hcx hcx2 hle hF0 hqn hbx hx2 e2 hI hk9 hkl HPM
      go_wp2_with fail
      clear hx3
      go_loopw [45] (fun iv wr => ∃ (k : Nat) (L : List ItW), k ≤ mX3 ∧ iv = .int .i64 k ∧ CX w2.heap.size vX.heap.size wr (.slice pX1 mX1 lX1) (.slice pX2 mX2 lX2) (.slice (some ⟨gi, 0, none⟩) mX3 c9) (c.vec, c.cloud) L ∧ L.map (fun p => canonItem p.x) = I' ∧ Below w2.heap.size w2 wr) (fun iv _ => mX3 - (intOf iv).toNat)
      case atStart => exact ⟨0, _, Nat.zero_le _, rfl, HCX2.out, HI.out.symm, HBW.out⟩
      case round =>
       obtain ⟨j, L, hj, rfl, hcx, hLI, hbw⟩ := hrel;have HCX := Hd hcx;have HLI := Hd hLI;have HBR := Hd hbw;have hLn : L.length = mX3 := by rw [← HIL.out, ← hLI, List.length_map]
       clear hLI hbw
       by_cases hlt : j < mX3
       ·have hjL : j < L.length := by omega
        have hmemI : canonItem L[j].x ∈ c.items := HPI.out.mem_iff.1 (by rw [← HLI.out]; exact List.mem_map.2 ⟨L[j], List.getElem_mem hjL, rfl⟩)
        obtain ⟨hm0, hnd, hml⟩ := of_canon rfl (HONE.out _ hmemI);have hm80 : L[j].x.marks.length ≤ 80 := by rw [hml]; exact HLc.out.2.2 _ hmemI
        obtain ⟨hin, hgb, -⟩ := hcx.2.2.2.1.at;have hit := (hcx.2.2.2.2.1 _ (List.getElem_mem hjL)).1;have f1 : wr.cell? ⟨gi, j * 2 + 1, none⟩ = some (.slice L[j].mo L[j].x.marks.length L[j].mc) := hin.cell j hjL 1 (by decide)
        have hfz : wr.frozen? ⟨gi, j * 2 + 1, none⟩ = false := hin.froz _;have hgl := hin.gl;have hlc : L[j].x.marks.length ≤ L[j].mc := by
         obtain ⟨o', c', he, h2, -⟩ := Arr.of_marks hit.2.1 hit.2.2
         cases he
         exact h2
        have HSRC : Hid (EMark.Src wr (.slice L[j].mo L[j].x.marks.length L[j].mc) L[j].x.marks) := Hd hit.2.1.toSrc;have HMI := Hd hit.2.2;have HST := Hd (fun (w2 : World) (hb2 : Below wr.heap.size wr w2) (mo : Option Addr) (mc : Nat) (ms : List MarkD) (hr : EMark.Row wr.heap.size w2 (.slice mo ms.length mc) ms) (hmi : ∀ m ∈ ms, MI m) => CX.setm hcx HBR.out.size hjL hb2 mo mc hr hmi)
        have HCT := Hd (fun (ms : List MarkD) (hp : ms.Perm L[j].x.marks) => canonItem_turn (x := L[j].x) hp hnd)
        have HSL : Hid (∀ q : ItW, canonItem q.x = canonItem L[j].x → (L.set j q).map (fun p => canonItem p.x) = I') := Hd (fun q hq => by
         rw [List.map_set, hq, ← HLI.out]
         apply List.ext_getElem (by simp)
         intro i h1 h2;rw [List.getElem_set]
         split
         ·rename_i e; subst e; simp
         ·rfl)
        have hx2 := (cel3 hcx.1).2.2;have HX2 := Hd (fun wz (hz : Below wr.heap.size wr wz) => (cel3 ((hz.block _ (lt_of_heap hcx.1)).trans hcx.1)).2.2)
        have hne : vX.heap.size ≠ gi := fun e => by
         obtain ⟨C, hC, -⟩ := hin;have h1 := hcx.1;rw [e, hC] at h1;injection h1 with h1
         injection h1 with _ h1
         exact absurd h1 (by decide)
        clear hin hgb hit hnd hml hmemI hcx;generalize L[j].x.name = nm at *
        obtain ⟨ML, hML⟩ : ∃ ML, ML = L[j].x.marks := ⟨_, rfl⟩;rw [← hML] at f1 hm0 hm80 hlc HSRC HMI HCT;generalize L[j].mo = mo at *
        generalize L[j].mc = mc at *
        have b3 : ((ML.length : Int) == 0) = false := by rw [beq_eq_false_iff_ne]; omega
        have b4 : (0 : Int) < (ML.length : Int) := by omega
        obtain ⟨t, ht9⟩ : ∃ t : Nat, turn % (ML.length : Int) = t := ⟨(turn % (ML.length : Int)).toNat, (Int.toNat_of_nonneg (Int.emod_nonneg _ (by omega))).symm⟩
        have htl : t < ML.length := by have := Int.emod_lt_of_pos turn b4; omega
        have HSA : Hid (∀ wz, Below wr.heap.size wr wz → EMark.Src wz (.slice mo t mc) (ML.take t)) := Hd (fun wz hz => by
         have := (HSRC.out.below hz).sliced hlc 0 t (Nat.zero_le _) (by omega) 4 rfl
         rw [List.drop_zero, sliced_zero] at this;exact this)
        have hcc : ¬ mc = t := by omega
        have HSB : Hid (∀ wz, Below wr.heap.size wr wz → EMark.Src wz (.slice (Option.map (fun x => x.add (t * 4)) mo) (ML.length - t) (mc - t)) (ML.drop t)) := Hd (fun wz hz => by
         have := (HSRC.out.below hz).sliced hlc t ML.length (by omega) (Nat.le_refl _) 4 rfl
         rw [List.take_length] at this;unfold Go.sliced at this;rw [if_neg (by omega)] at this
         exact this)
        have HM80 := Hd hm80;have hnn : (ML.drop t ++ ML.take t).length = ML.length := by rw [List.length_append, List.length_drop, List.length_take]; omega
        have HNN := Hd hnn;have HFIN : Hid (∀ (wf : World) (mo2 : Option Addr) (mc2 : Nat), Below wr.heap.size wr wf → EMark.Row wr.heap.size wf (.slice mo2 ML.length mc2) (ML.drop t ++ ML.take t) → ∃ (k' : Nat) (L' : List ItW), k' ≤ mX3 ∧ Value.int .i64 ((j : Int) + 1) = .int .i64 k' ∧ CX w2.heap.size vX.heap.size (wf.setCell ⟨gi, j * 2 + 1, none⟩ (.slice mo2 ML.length mc2)) (.slice pX1 mX1 lX1) (.slice pX2 mX2 lX2) (.slice (some ⟨gi, 0, none⟩) mX3 c9) (c.vec, c.cloud) L' ∧ L'.map (fun p => canonItem p.x) = I' ∧ Below w2.heap.size w2 (wf.setCell ⟨gi, j * 2 + 1, none⟩ (.slice mo2 ML.length mc2))) := Hd (fun wf mo2 mc2 hb2 hr => by
         have h1 := HST.out wf hb2 mo2 mc2 (ML.drop t ++ ML.take t) (by rw [HNN.out]; exact hr) (fun m hm => HMI.out m ((turn_perm ML t).mem_iff.1 hm))
         rw [HNN.out] at h1;have h2 := HSL.out ⟨⟨nm, ML.drop t ++ ML.take t⟩, mo2, mc2⟩ (HCT.out _ (turn_perm ML t));exact ⟨j + 1, _, by omega, rfl, h1, h2, (HBR.out.trans (hb2.mono HBR.out.size)).setCell (p := ⟨gi, j * 2 + 1, none⟩) (h1.2.2.2.1.lt gi rfl).1 _⟩)
        have a0 : (0 : Int) ≤ j := by omega
        have a1 : (j : Int) < (mX3 : Int) := by omega
        have hjw : IntKind.i64.wrap ((j : Int) + 1) = (j : Int) + 1 := by rw [IntKind.wrap_i64]; have := HLE.out; omega
        have a2 : (0 : Int) ≤ t := by omega
        have a3 : (t : Int) ≤ (ML.length : Int) := by omega
        have a4 : (ML.length : Int) ≤ (mc : Int) := by omega
        have a5 : (t : Int) ≤ (mc : Int) := by omega
        clear hlc hm80 htl hnn HSRC hML HST HSL HCT hm0
        go_upto_region 13 with fail
        try rw [ht9]
        clear ht9;refine NQ.to ?_;refine wp_region_held_drew (S := (fun wz => wz.cell? ⟨vX.heap.size, 2, none⟩ = some (.slice (some ⟨gi, 0, none⟩) mX3 c9))) (by kernel_rfl) (HX2.out _ bdr) (fun hS => ?_)
        refine tkR (n := 9) [0, 1, 2, 3, 4, 5, 7, 8, 9] rfl (by decide +kernel) hS ?_
        iterate 9 ((try simp only [Act.put, s1, s2, s3, s4, s5, s6]); refine ⟨_, ?_, rfl, Or.inl ⟨by kernel_rfl, fun w hSw => ok_of fun z hz => ?_⟩, ?_⟩; rotate_left; · (have f0 := hSw; go_simp; exact hz))
        refine RunOK.done ?_
        try simp only [Act.put, s1, s2, s3, s4, s5, s6]
        refine rd1 6 (by decide +kernel) rfl (fun K hK => ?_)
        refine step_append_row rfl _ _ 54 rfl EMark wr.heap.size (.agg #[.int .i64 0, .int .i64 0, .int .i64 0, .int .u64 0]) 32 Tryz.underlying54 infoMark (by decide) (by decide) _ [] rfl (Enc.Row.nil _ _) _ (ML.drop t) rfl (HSB.out _ bdr) (by have := HM80.out; simp; omega) (by simp) ?_
        intro v6 w6 hrow6 hgr6;have hb6 := (below_drew1 (Below.refl wr.heap.size wr)).grown hgr6 (by simp) (fun j hj => by cases hj)
        refine Shut.out hK _ _ (HX2.out _ hb6) (fun hS2 => ?_); clear hK K hS; have hS := hS2; clear hS2
        try simp only [Act.put, s1, s2, s3, s4, s5, s6]
        refine rd1 10 (by decide +kernel) rfl (fun K hK => ?_)
        refine step_append_row rfl _ _ 54 rfl EMark wr.heap.size (.agg #[.int .i64 0, .int .i64 0, .int .i64 0, .int .u64 0]) 32 Tryz.underlying54 infoMark (by decide) (by decide) _ ([] ++ ML.drop t) rfl hrow6 _ (ML.take t) rfl (HSA.out _ hb6) (by have := HM80.out; simp; omega) hb6.size ?_
        intro v10 w10 hrow10 hgr10;have hb10 := hb6.grown hgr10 hb6.size (fun j hj => (hrow6.lt _ hj).1)
        rw [List.nil_append] at hrow10;obtain ⟨o10, c10, rfl⟩ := hrow10.slice;rw [HNN.out] at hrow10;refine Shut.out hK _ _ (HX2.out _ hb10) (fun hS2 => ?_); clear hK K hS; have hS := hS2; clear hS2
        try simp only [Act.put, s1, s2, s3, s4, s5, s6]
        refine tkR (n := 2) [11, 12] rfl (by decide +kernel) hS ?_
        iterate 2 ((try simp only [Act.put, s1, s2, s3, s4, s5, s6]); refine ⟨_, ?_, rfl, Or.inl ⟨by kernel_rfl, fun w hSw => ok_of fun z hz => ?_⟩, ?_⟩; rotate_left; · (have f0 := hSw; go_simp; exact hz))
        refine RunOK.done ?_
        try simp only [Act.put, s1, s2, s3, s4, s5, s6]
        refine rd1 13 (by decide +kernel) rfl (fun K hK => ?_)
        have f2 : w10.cell? ⟨gi, j * 2 + 1, none⟩ = some (.slice mo ML.length mc) := by rw [hb10.cell (p := ⟨_, _, _⟩) hgl]; exact f1
        have f3 : w10.frozen? ⟨gi, j * 2 + 1, none⟩ = false := by rw [← hfz]; unfold World.frozen?; rw [hb10.block gi hgl]
        rw [HNN.out];go_simp;refine Shut.out hK _ _ (by rw [set_other_cell hne]; exact HX2.out _ hb10) (fun hS2 => ?_); clear hK K hS; have hS := hS2; clear hS2
        try simp only [Act.put, s1, s2, s3, s4, s5, s6]
        refine wpAnyH_done (by kernel_rfl) ?_ _
        try simp only [Act.put, s1, s2, s3, s4, s5, s6]
        simp only [NQ];have HF := Hd (HFIN.out w10 o10 c10 hb10 hrow10);clear hS hb10 hrow10 hrow6 hb6 hgr6 hgr10 f1 f2 f3 hfz hx2
        go_wp2_with fail
        go_roundw
        case rel => first | exact HF.out | (refine ⟨_, _, _, _, ?_, rfl, rfl, rfl, rfl⟩; obtain ⟨k9, L9, h1, h2, h3⟩ := HF.out; exact ⟨k9, h1, h2, L9, h3⟩)
        case measure => simp [intOf]; omega
       ·have hje : j = mX3 := by omega
        have a1 : ¬ ((j : Int) < (mX3 : Int)) := by omega
        have HPL : Hid ((L.map (fun p => canonItem p.x)).Perm c.items) := Hd (by rw [HLI.out]; exact HPI.out)
        clear hcx hLn HLI hje;have hgood := orders_good HV.out HLc.out (L := L) HPL.out;have hcA : CartA wr (.slice pX1 mX1 lX1) (.slice pX2 mX2 lX2) (.slice (some ⟨gi, 0, none⟩) mX3 c9) ⟨c.vec, c.cloud, L.map (·.x)⟩ := ⟨HCX.out.2.1.dots (validC_DI HV.out).1, HCX.out.2.2.1.dots (validC_DI HV.out).2, HCX.out.2.2.2.arr⟩;have hcan := l10canon_any ⟨c.vec, c.cloud, L.map (·.x)⟩ c 0 _ _ _ _ _ _ wr hcA (HAC.out _ HBR.out) hgood.2.1 hgood.2.2 (HGC.out _ HBR.out);rw [hgood.1] at hcan;have HCAN := Hd hcan;have HBF := Hd HBR.out;obtain ⟨g0, g1, g2⟩ := cel3 HCX.out.1;obtain ⟨d0, d1, d2⟩ := HBC.out _ HBR.out;clear hcan hgood hcA
        go_wp2_with fail
        refine HCAN.out.mono ?_;rintro e wc ⟨rfl, hbc⟩;have HBD := Hd (HBF.out.trans (hbc.mono HBF.out.size));have HX := Hd (l10known_any wc (HGC.out _ HBD.out));clear hbc HCAN g0 g1 g2 d0 d1 d2
        go_wp2_with fail
        refine HX.out.mono ?_;rintro e wk ⟨rfl, hbk⟩;have HBK := Hd (HBD.out.trans (hbk.mono HBD.out.size));clear hbk HX
        go_wp2_with fail
        go_ret
        exact ⟨rfl, HWF.out _ HBK.out⟩
end Go.Proofs.YtadbmineobldbaaGreatDoor
