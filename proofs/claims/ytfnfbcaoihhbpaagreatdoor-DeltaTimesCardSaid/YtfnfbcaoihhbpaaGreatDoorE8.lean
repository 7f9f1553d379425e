/- DeltaTimes inside. -/
import Derived.Test.YtfnfbcaoihhbpaaGreatDoorDeltaK
import Derived.Test.YtfnfbcaoihhbpaaGreatDoorE5b
import Derived.Lib.MinMax
namespace Go.Proofs.YtfnfbcaoihhbpaaGreatDoor

/-! ### Times -/
def tmA : ByteArray := ⟨#[97]⟩
def tmB : ByteArray := ⟨#[98]⟩
def tmC : ByteArray := ⟨#[99]⟩
def tmZ : ByteArray := ⟨#[122]⟩
def timesC (a b : Int) : CartD := ⟨[⟨1, 2⟩], [], [⟨tmA, [⟨⟨1, 1⟩, 5, a⟩]⟩, ⟨tmB, [⟨⟨1, 2⟩, 5, b⟩]⟩]⟩
theorem times_valid {a b : Int} (ha : 0 < a) (hb : 0 < b) : validC (timesC a b) = true := by
 have h1 : compactB [⟨1, 2⟩] [] = true := by decide +kernel
 have hm : ∀ k t : Int, (k = 1 ∨ k = 2) → 0 < t → validMarkD ⟨⟨1, k⟩, 5, t⟩ = true := fun k t hk ht => by
  unfold validMarkD validDotD
  rcases hk with rfl | rfl <;> simp [ht]
 have h2 : validI (timesC a b).items = true := validI_of (fun x hx => by
  simp only [timesC, List.mem_cons, List.not_mem_nil, or_false] at hx
  rcases hx with rfl | rfl
  ·exact oneI_new (by decide +kernel) (hm 1 a (Or.inl rfl) ha)
  ·exact oneI_new (by decide +kernel) (hm 2 b (Or.inr rfl) hb))
  (by rw [risB_iff]; simp only [timesC, List.pairwise_cons, List.mem_singleton, forall_eq, List.not_mem_nil, false_implies, implies_true, List.Pairwise.nil, and_true]; decide +kernel)
  (by simp [timesC, meetB, dotsM])
 refine validC_of h1 h2 (fun d hd => ?_)
 have : d = ⟨1, 1⟩ ∨ d = ⟨1, 2⟩ := by simpa [allDots, timesC, dotsM] using hd
 show hasX [⟨1, 2⟩] [] d = true
 rcases this with rfl | rfl <;> decide +kernel
theorem times_last {a b : Int} (ha : 0 < a) (hb : 0 < b) : lastT (allMarks (timesC a b).items) = max a b := by
 rw [lastT_newest (allMarks_time (validC_parts (times_valid ha hb)).2.1)]
 show (greatM ⟨⟨1, 1⟩, 5, a⟩ [⟨⟨1, 1⟩, 5, a⟩, ⟨⟨1, 2⟩, 5, b⟩]).time = _
 obtain ⟨g1, g2⟩ := greatM_spec [⟨⟨1, 1⟩, 5, a⟩, ⟨⟨1, 2⟩, 5, b⟩] ⟨⟨1, 1⟩, 5, a⟩
 have h1 := g2 ⟨⟨1, 1⟩, 5, a⟩ (by simp)
 have h2 := g2 ⟨⟨1, 2⟩, 5, b⟩ (by simp)
 have h3 : ¬ (greatM ⟨⟨1, 1⟩, 5, a⟩ [⟨⟨1, 1⟩, 5, a⟩, ⟨⟨1, 2⟩, 5, b⟩]).time < a := fun h => h1 (Or.inl h)
 have h4 : ¬ (greatM ⟨⟨1, 1⟩, 5, a⟩ [⟨⟨1, 1⟩, 5, a⟩, ⟨⟨1, 2⟩, 5, b⟩]).time < b := fun h => h2 (Or.inl h)
 simp only [List.mem_cons, List.not_mem_nil, or_false] at g1
 rcases g1 with e | e | e <;> rw [e] at h3 h4 ⊢ <;> simp only at h3 h4 ⊢ <;> omega
theorem times_fresh {a b : Int} (ha : 0 < a) (hb : 0 < b) : freshC (timesC a b) ⟨1, 3⟩ = true := by
 unfold freshC
 rw [times_valid ha hb, show hasC (timesC a b) ⟨1, 3⟩ = false from by show hasX [⟨1, 2⟩] [] ⟨1, 3⟩ = false; decide +kernel]
 rfl
theorem times_there (a b : Int) : thereB (timesC a b).items tmA = true ∧ thereB (timesC a b).items tmB = true ∧ thereB (timesC a b).items tmC = false ∧ thereB (timesC a b).items tmZ = false := ⟨rfl, rfl, rfl, rfl⟩
theorem times_E {a b : Int} (ha : 0 < a) (hb : 0 < b) : timeCE (timesC a b) = if max a b = 18446744073709551615 then 15 else 0 := by
 unfold timeCE
 rw [times_valid ha hb, times_last ha hb]; rfl
theorem times_put {a b : Int} (ha : 0 < a) (hb : 0 < b) : putCE (timesC a b) ⟨1, 3⟩ tmA 1 false = (if max a b = 18446744073709551615 then 15 else 0) ∧ putCE (timesC a b) ⟨1, 3⟩ tmB 1 true = (if max a b = 18446744073709551615 then 15 else 0) ∧
  putCE (timesC a b) ⟨1, 3⟩ tmC 1 true = 9 ∧ putCE (timesC a b) ⟨1, 3⟩ tmZ 1 false = (if max a b = 18446744073709551615 then 15 else 0) := by
 obtain ⟨t1, t2, t3, t4⟩ := times_there a b
 have n1 : nameB tmA = true := by decide +kernel
 have n2 : nameB tmB = true := by decide +kernel
 have n3 : nameB tmC = true := by decide +kernel
 have n4 : nameB tmZ = true := by decide +kernel
 unfold putCE
 rw [times_fresh ha hb, t1, t2, t3, t4, n1, n2, n3, n4, times_E ha hb]
 simp [validQ, timesC]
theorem times_new {a b : Int} (ha : 0 < a) (hb : 0 < b) (h : max a b ≠ 18446744073709551615) : putOf (timesC a b) ⟨1, 3⟩ tmZ 1 = ⟨[], [⟨1, 3⟩], [⟨tmZ, [⟨⟨1, 3⟩, 1, max a b + 1⟩]⟩]⟩ ∧ (putOf (timesC a b) ⟨1, 3⟩ tmB 1).items = [⟨tmB, [⟨⟨1, 3⟩, 1, max a b + 1⟩]⟩] := by
 have ht : timeC (timesC a b) = max a b + 1 := by
  unfold timeC
  rw [times_valid ha hb, times_last ha hb, if_pos rfl, if_neg h]
 unfold putOf newM
 rw [ht]
 refine ⟨?_, rfl⟩
 rw [dotsC_named (times_valid ha hb) (by decide +kernel), show marksOf (timesC a b).items tmZ = [] from rfl]
 show CartD.mk (goneC [⟨1, 3⟩]).vec (goneC [⟨1, 3⟩]).cloud _ = _
 rw [goneK_eq, show goneK [⟨1, 3⟩] = ⟨[], [⟨1, 3⟩], []⟩ from by decide +kernel]
end Go.Proofs.YtfnfbcaoihhbpaaGreatDoor
set_option linter.unusedSimpArgs false
set_option linter.unusedVariables false
set_option maxRecDepth 100000
set_option maxHeartbeats 16000000
namespace Go.Proofs.YtfnfbcaoihhbpaaGreatDoor
open Go.RowKit Go.Maps Go.Sort Go.Shelf
theorem timesC_sz (a b : Int) : Lt (timesC a b).items ∧ (allDots (timesC a b).items).length ≤ 9000 := ⟨⟨by simp [timesC], fun x hx => by
 simp only [timesC, List.mem_cons, List.not_mem_nil, or_false] at hx
 rcases hx with rfl | rfl <;> simp⟩, by simp [timesC, allDots, dotsM]⟩
theorem times_mi {q t : Int} {d : DotD} (h1 : I64 d.rep) (h2 : I64 d.ctr) (h3 : I64 q) (h : 0 ≤ t ∧ t ≤ 18446744073709551615) : ∀ m ∈ ([⟨d, q, t⟩] : List MarkD), MI m := fun m hm => by
 rw [List.mem_singleton.1 hm]
 exact ⟨h1, h2, h3, h⟩
theorem item_cells {w : World} {o : Option Addr} {n k : Nat} {nm : ByteArray} {m : MarkD} (h : Arr ItemR 2 w (.slice o n k) [⟨nm, [m]⟩]) : n = 1 ∧ ∃ b off mb moff mc, o = some ⟨b, off, none⟩ ∧ b < w.heap.size ∧ w.cell? ⟨b, off + 1, none⟩ = some (.slice (some ⟨mb, moff, none⟩) 1 mc) ∧ mb < w.heap.size ∧ w.cell? ⟨mb, moff + 3, none⟩ = some (.int .u64 m.time) := by
 obtain ⟨o', c', e, h1, h2, hel⟩ := h
 injection e with e1 e2 e3
 subst e1
 obtain ⟨b, off, cs, e1, e2', e3', e4, e5⟩ := hel 0 (by simp)
 obtain ⟨mv, hcs, hns, hm⟩ := e4
 obtain ⟨o2, c2, rfl, g1, g2, gel⟩ := hm
 obtain ⟨mb, mo, ms, f1, f2, f3, f4, f5⟩ := gel 0 (by simp)
 subst f1
 subst hcs
 have hms : ms = [.int .i64 m.dot.rep, .int .i64 m.dot.ctr, .int .i64 m.qty, .int .u64 m.time] := f4.1
 subst hms
 exact ⟨by simpa using e2, b, off, mb, mo, c2, e1, e2', by have := e5 1 (by decide); simpa using this, f2, by have := f5 3 (by decide); simpa using this⟩
set_option linter.unusedSimpArgs false in
set_option linter.unusedVariables false in
set_option maxRecDepth 100000 in
set_option maxHeartbeats 16000000 in
theorem tim7 (a b : Int) (WL : World) (bC : Nat) (o1 o2 o3 : Option Addr) (n1 n2 n3 k1 k2 k3 : Nat) (a0 a1 a4 a6 z12 z13 z14 z15 z16 z17 z18 z19 z20 z21 z22 z23 z24 z25 z26 z27 z28 z29 z30 z31 z32 z33 z34 z35 z36 z37 z38 z39 z40 z41 z42 z43 z44 z45 z46 z47 z48 z49 z50 z51 z52 z53 z54 z55 z56 : Value) (h5 : WL.heap[bC]? = some (.cells #[.slice o1 n1 k1, .slice o2 n2 k2, .slice o3 n3 k3] 28))
  (h : CartA WL (.slice o1 n1 k1) (.slice o2 n2 k2) (.slice o3 n3 k3) (timesC a b)) (hE : putCE (timesC a b) ⟨1, 3⟩ tmZ 1 false = 0) (hG : GlobIs WL) (R : Act → World → Prop)
  (hQ : ∀ (y57 y58 y59 y60 y61 y62 : Value) (bo : Nat) (w : World) (p1 p2 p3 : Option Addr) (m1 m2 m3 l1 l2 l3 : Nat), Below WL.heap.size WL w → WL.heap.size ≤ bo → w.heap[bo]? = some (.cells #[.slice p1 m1 l1, .slice p2 m2 l2, .slice p3 m3 l3] 28) → CartA w (.slice p1 m1 l1) (.slice p2 m2 l2) (.slice p3 m3 l3) (putC (timesC a b) ⟨1, 3⟩ tmZ 1 false) → R { tmps := #[a0, a1, undef, undef, a4, .pointer (some ⟨bC, 0, none⟩), a6, .pointer (some ⟨bo, 0, none⟩), .int .i64 0, undef, undef, undef, z12, z13, z14, z15, z16, z17, z18, z19, z20, z21, z22, z23, z24, z25, z26, z27, z28, z29, z30, z31, z32, z33, z34, z35, z36, z37, z38, z39, z40, z41, z42, z43, z44, z45, z46, z47, z48, z49, z50, z51, z52, z53, z54, z55, z56, y57, y58, y59, y60, y61, y62, undef, undef, undef, undef, undef, undef, undef, undef, undef, undef, undef, undef, undef, undef, undef, undef, undef, undef, undef, undef, undef, undef, undef, undef, undef, undef, undef, undef, undef, undef, undef, undef, undef, undef, undef, undef, undef, undef, undef, undef, undef, undef, undef, undef, undef, undef, undef, undef, undef, undef, undef, undef, undef, undef, undef, undef, undef, undef], defers := [] } w) :
  (codeAt [1, 1, 1, 1, 1, 0] (Tryz.f6.body.getD .skip)).wp Tryz.prog (NQ R) { tmps := #[a0, a1, undef, undef, a4, .pointer (some ⟨bC, 0, none⟩), a6, undef, undef, undef, undef, undef, z12, z13, z14, z15, z16, z17, z18, z19, z20, z21, z22, z23, z24, z25, z26, z27, z28, z29, z30, z31, z32, z33, z34, z35, z36, z37, z38, z39, z40, z41, z42, z43, z44, z45, z46, z47, z48, z49, z50, z51, z52, z53, z54, z55, z56, undef, undef, undef, undef, undef, undef, undef, undef, undef, undef, undef, undef, undef, undef, undef, undef, undef, undef, undef, undef, undef, undef, undef, undef, undef, undef, undef, undef, undef, undef, undef, undef, undef, undef, undef, undef, undef, undef, undef, undef, undef, undef, undef, undef, undef, undef, undef, undef, undef, undef, undef, undef, undef, undef, undef, undef, undef, undef, undef, undef, undef, undef, undef, undef], defers := [] } WL := by
 have HCR := Hd (fun wz (hz : Below WL.heap.size WL wz) => cel3 ((hz.block _ (lt_of_heap h5)).trans h5))
 have HT := Hd (fun wz (hz : Below WL.heap.size WL wz) => h.below hz)
 have HGL := Hd hG
 have HPE := Hd hE
 clear h5 h hE hG
 simp only [codeAt, codeL, codeR, Tryz.f6, Option.getD_some]
 refine wp_region_held_drew (S := (fun wz => Below WL.heap.size WL wz)) (by kernel_rfl) (bdr) (fun hS => ?_)
 try simp only [Act.put, s1, s2, s3, List.getElem_toArray, List.getElem_cons_succ, List.getElem_cons_zero]
 refine tkN (i := 0) (v := ?v1) rfl (by decide +kernel) (Or.inl ⟨by kernel_rfl, fun w hSw => ok_of fun z hz => ?h1⟩) hS ?_; (case h1 => (obtain ⟨f0, f1, f2⟩ := HCR.out _ hSw; go_simp; exact hz))
 try simp only [Act.put, s1, s2, s3, List.getElem_toArray, List.getElem_cons_succ, List.getElem_cons_zero]
 refine wpAnyH_ready (rs := [1, 6]) (by decide +kernel) (by simp) ?_
 refine (AllReadyH.cons rfl (fun K hK => ?_) (AllReadyH.cons rfl (fun K hK => ?_) AllReadyH.nil))
 · go_simp
   go_at_call 25
   have HEE := l12at_any (1) (3) (WL.drew)
   refine HEE.mono ?_
   rintro e q1 ⟨rfl, h0⟩
   clear HEE
   have hq1 := btr (bdr : Below WL.heap.size WL WL.drew) h0
   clear h0
   go_simp
   refine Shut.out hK _ _ (hq1) (fun hS2 => ?_)
   clear hK K hS
   have hS := hS2
   clear hS2
   try simp only [Act.put, s1, s2, s3, List.getElem_toArray, List.getElem_cons_succ, List.getElem_cons_zero]
   refine wpAnyH_ready (rs := [2, 6]) (by decide +kernel) (by simp) ?_
   refine (AllReadyH.cons rfl (fun K hK => ?_) (AllReadyH.cons rfl (fun K hK => ?_) AllReadyH.nil))
   · go_simp
     go_at_call 28
     have HEE := deltaAdd_any (timesC a b) ⟨1, 3⟩ tmZ 1 _ _ _ _ (HT.out _ hq1) (timesC_sz a b).1 (timesC_sz a b).2 (by decide) (HGL.out.below hq1)
     rw [HPE.out] at HEE
     simp only [dotV] at HEE
     refine HEE.mono ?_
     rintro e q2 ⟨x1, x2, x3, rfl, hca, h0⟩
     clear HEE
     have hq2 := btr hq1 h0
     obtain ⟨p1, m1, l1, p2, m2, l2, p3, m3, l3, rfl, rfl, rfl, hm1, hm2, hm3⟩ := opn4 hca
     clear hm1 hm2 hm3
     clear h0
     go_simp
     refine Shut.out hK _ _ (hq2) (fun hS2 => ?_)
     clear hK K hS
     have hS := hS2
     clear hS2
     try simp only [Act.put, s1, s2, s3, List.getElem_toArray, List.getElem_cons_succ, List.getElem_cons_zero]
     refine tkN (i := 3) (v := ?v2) rfl (by decide +kernel) (Or.inl ⟨by kernel_rfl, fun w hSw => ok_of fun z hz => ?h2⟩) hS ?_; (case h2 => (go_simp; exact hz))
     try simp only [Act.put, s1, s2, s3, List.getElem_toArray, List.getElem_cons_succ, List.getElem_cons_zero]
     refine tkN (i := 4) (v := ?v3) rfl (by decide +kernel) (Or.inl ⟨by kernel_rfl, fun w hSw => ok_of fun z hz => ?h3⟩) hS ?_; (case h3 => (go_simp; exact hz))
     try simp only [Act.put, s1, s2, s3, List.getElem_toArray, List.getElem_cons_succ, List.getElem_cons_zero]
     refine tkN (i := 5) (v := ?v4) rfl (by decide +kernel) (Or.inl ⟨by kernel_rfl, fun w hSw => ok_of fun z hz => ?h4⟩) hS ?_; (case h4 => (go_simp; exact hz))
     try simp only [Act.put, s1, s2, s3, List.getElem_toArray, List.getElem_cons_succ, List.getElem_cons_zero]
     refine wpAnyH_ready (rs := [6]) (by decide +kernel) (by simp) ?_
     refine (AllReadyH.cons rfl (fun K hK => ?_) AllReadyH.nil)
     go_simp
     have h0 : Below q2.heap.size q2 (q2.alloc (.cells #[.slice none 0 0, .slice none 0 0, .slice none 0 0] 28)) := bal
     have hq0 := hq2
     have hca0 := hca
     have hca := hca.below h0
     have hx : (q2.alloc (.cells #[.slice none 0 0, .slice none 0 0, .slice none 0 0] 28)).heap[q2.heap.size]? = some (.cells #[.slice none 0 0, .slice none 0 0, .slice none 0 0] 28) := alloc_new _ _
     have hbx : WL.heap.size ≤ q2.heap.size := hq0.size
     have hq3 := btr hq2 h0
     clear h0
     refine Shut.out hK _ _ (hq3) (fun hS2 => ?_)
     clear hK K hS
     have hS := hS2
     clear hS2
     try simp only [Act.put, s1, s2, s3, List.getElem_toArray, List.getElem_cons_succ, List.getElem_cons_zero]
     refine wpAnyH_ready (rs := [7]) (by decide +kernel) (by simp) ?_
     refine (AllReadyH.cons rfl (fun K hK => ?_) AllReadyH.nil)
     have g0 := froz0 hx 0
     have g1 := froz0 hx 1
     have g2 := froz0 hx 2
     obtain ⟨e0, e1, e2⟩ := cel3 hx
     go_simp
     refine Shut.out hK _ _ (by first | (rw [← set3c_eq]; exact set3c_below _ _ _ hq3 hbx) | exact btr hq0 bal) (fun hS2 => ?_)
     clear hK K hS
     have hS := hS2
     clear hS2
     try simp only [Act.put, s1, s2, s3, List.getElem_toArray, List.getElem_cons_succ, List.getElem_cons_zero]
     refine tkN (i := 8) (v := ?v5) rfl (by decide +kernel) (Or.inl ⟨by kernel_rfl, fun w hSw => ok_of fun z hz => ?h5⟩) hS ?_; (case h5 => (go_simp; exact hz))
     try simp only [Act.put, s1, s2, s3, List.getElem_toArray, List.getElem_cons_succ, List.getElem_cons_zero]
     refine wpAnyH_done (by kernel_rfl) ?_ _
     try simp only [Act.put, s1, s2, s3, List.getElem_toArray, List.getElem_cons_succ, List.getElem_cons_zero]
     simp only [NQ]
     first
     | exact hQ _ _ _ _ _ _ _ (set3c _ _ (.slice p1 m1 l1) (.slice p2 m2 l2) (.slice p3 m3 l3)) p1 p2 p3 m1 m2 m3 l1 l2 l3 (set3c_below _ _ _ hq3 hbx) hbx (set3c_same _ _ _ hx) ⟨set3c_dots hca.1 hx, set3c_dots hca.2.1 hx, set3c_items hca.2.2 hx⟩
     | exact hQ _ _ _ _ _ _ _ _ p1 p2 p3 m1 m2 m3 l1 l2 l3 (btr hq0 bal) hbx (alloc_new _ _) (hca0.below bal)
   · go_simp
     have h0 : Below q1.heap.size q1 (q1.alloc (.cells #[.slice none 0 0, .slice none 0 0, .slice none 0 0] 28)) := bal
     have hq0 := hq1
     have hx : (q1.alloc (.cells #[.slice none 0 0, .slice none 0 0, .slice none 0 0] 28)).heap[q1.heap.size]? = some (.cells #[.slice none 0 0, .slice none 0 0, .slice none 0 0] 28) := alloc_new _ _
     have hbx : WL.heap.size ≤ q1.heap.size := hq0.size
     have hq2 := btr hq1 h0
     clear h0
     refine Shut.out hK _ _ (hq2) (fun hS2 => ?_)
     clear hK K hS
     have hS := hS2
     clear hS2
     try simp only [Act.put, s1, s2, s3, List.getElem_toArray, List.getElem_cons_succ, List.getElem_cons_zero]
     refine wpAnyH_ready (rs := [2]) (by decide +kernel) (by simp) ?_
     refine (AllReadyH.cons rfl (fun K hK => ?_) AllReadyH.nil)
     go_simp
     go_at_call 28
     have HEE := deltaAdd_any (timesC a b) ⟨1, 3⟩ tmZ 1 _ _ _ _ (HT.out _ hq2) (timesC_sz a b).1 (timesC_sz a b).2 (by decide) (HGL.out.below hq2)
     rw [HPE.out] at HEE
     simp only [dotV] at HEE
     refine HEE.mono ?_
     rintro e q3 ⟨x1, x2, x3, rfl, hca, h0⟩
     clear HEE
     have hq3 := btr hq2 h0
     have hx := (h0.block _ (lt_of_heap hx)).trans hx
     obtain ⟨p1, m1, l1, p2, m2, l2, p3, m3, l3, rfl, rfl, rfl, hm1, hm2, hm3⟩ := opn4 hca
     clear hm1 hm2 hm3
     clear h0
     go_simp
     refine Shut.out hK _ _ (hq3) (fun hS2 => ?_)
     clear hK K hS
     have hS := hS2
     clear hS2
     try simp only [Act.put, s1, s2, s3, List.getElem_toArray, List.getElem_cons_succ, List.getElem_cons_zero]
     refine tkN (i := 3) (v := ?v6) rfl (by decide +kernel) (Or.inl ⟨by kernel_rfl, fun w hSw => ok_of fun z hz => ?h6⟩) hS ?_; (case h6 => (go_simp; exact hz))
     try simp only [Act.put, s1, s2, s3, List.getElem_toArray, List.getElem_cons_succ, List.getElem_cons_zero]
     refine tkN (i := 4) (v := ?v7) rfl (by decide +kernel) (Or.inl ⟨by kernel_rfl, fun w hSw => ok_of fun z hz => ?h7⟩) hS ?_; (case h7 => (go_simp; exact hz))
     try simp only [Act.put, s1, s2, s3, List.getElem_toArray, List.getElem_cons_succ, List.getElem_cons_zero]
     refine tkN (i := 5) (v := ?v8) rfl (by decide +kernel) (Or.inl ⟨by kernel_rfl, fun w hSw => ok_of fun z hz => ?h8⟩) hS ?_; (case h8 => (go_simp; exact hz))
     try simp only [Act.put, s1, s2, s3, List.getElem_toArray, List.getElem_cons_succ, List.getElem_cons_zero]
     refine wpAnyH_ready (rs := [7]) (by decide +kernel) (by simp) ?_
     refine (AllReadyH.cons rfl (fun K hK => ?_) AllReadyH.nil)
     have g0 := froz0 hx 0
     have g1 := froz0 hx 1
     have g2 := froz0 hx 2
     obtain ⟨e0, e1, e2⟩ := cel3 hx
     go_simp
     refine Shut.out hK _ _ (by first | (rw [← set3c_eq]; exact set3c_below _ _ _ hq3 hbx) | exact btr hq0 bal) (fun hS2 => ?_)
     clear hK K hS
     have hS := hS2
     clear hS2
     try simp only [Act.put, s1, s2, s3, List.getElem_toArray, List.getElem_cons_succ, List.getElem_cons_zero]
     refine tkN (i := 8) (v := ?v9) rfl (by decide +kernel) (Or.inl ⟨by kernel_rfl, fun w hSw => ok_of fun z hz => ?h9⟩) hS ?_; (case h9 => (go_simp; exact hz))
     try simp only [Act.put, s1, s2, s3, List.getElem_toArray, List.getElem_cons_succ, List.getElem_cons_zero]
     refine wpAnyH_done (by kernel_rfl) ?_ _
     try simp only [Act.put, s1, s2, s3, List.getElem_toArray, List.getElem_cons_succ, List.getElem_cons_zero]
     simp only [NQ]
     first
     | exact hQ _ _ _ _ _ _ _ (set3c _ _ (.slice p1 m1 l1) (.slice p2 m2 l2) (.slice p3 m3 l3)) p1 p2 p3 m1 m2 m3 l1 l2 l3 (set3c_below _ _ _ hq3 hbx) hbx (set3c_same _ _ _ hx) ⟨set3c_dots hca.1 hx, set3c_dots hca.2.1 hx, set3c_items hca.2.2 hx⟩
     | exact hQ _ _ _ _ _ _ _ _ p1 p2 p3 m1 m2 m3 l1 l2 l3 (btr hq0 bal) hbx (alloc_new _ _) (hca0.below bal)
 · go_simp
   have h0 : Below WL.drew.heap.size WL.drew (WL.drew.alloc (.cells #[.slice none 0 0, .slice none 0 0, .slice none 0 0] 28)) := bal
   have hq0 := (bdr : Below WL.heap.size WL WL.drew)
   have hx : (WL.drew.alloc (.cells #[.slice none 0 0, .slice none 0 0, .slice none 0 0] 28)).heap[WL.drew.heap.size]? = some (.cells #[.slice none 0 0, .slice none 0 0, .slice none 0 0] 28) := alloc_new _ _
   have hbx : WL.heap.size ≤ WL.drew.heap.size := hq0.size
   have hq1 := btr (bdr : Below WL.heap.size WL WL.drew) h0
   clear h0
   have e9 : WL.drew.heap.size = WL.heap.size := rfl
   rw [e9] at hx hbx
   clear e9
   refine Shut.out hK _ _ (hq1) (fun hS2 => ?_)
   clear hK K hS
   have hS := hS2
   clear hS2
   try simp only [Act.put, s1, s2, s3, List.getElem_toArray, List.getElem_cons_succ, List.getElem_cons_zero]
   refine wpAnyH_ready (rs := [1]) (by decide +kernel) (by simp) ?_
   refine (AllReadyH.cons rfl (fun K hK => ?_) AllReadyH.nil)
   go_simp
   go_at_call 25
   have HEE := l12at_any (1) (3) ((WL.drew.alloc (.cells #[.slice none 0 0, .slice none 0 0, .slice none 0 0] 28)))
   refine HEE.mono ?_
   rintro e q2 ⟨rfl, h0⟩
   clear HEE
   have hq2 := btr hq1 h0
   have hx := (h0.block _ (lt_of_heap hx)).trans hx
   clear h0
   go_simp
   refine Shut.out hK _ _ (hq2) (fun hS2 => ?_)
   clear hK K hS
   have hS := hS2
   clear hS2
   try simp only [Act.put, s1, s2, s3, List.getElem_toArray, List.getElem_cons_succ, List.getElem_cons_zero]
   refine wpAnyH_ready (rs := [2]) (by decide +kernel) (by simp) ?_
   refine (AllReadyH.cons rfl (fun K hK => ?_) AllReadyH.nil)
   go_simp
   go_at_call 28
   have HEE := deltaAdd_any (timesC a b) ⟨1, 3⟩ tmZ 1 _ _ _ _ (HT.out _ hq2) (timesC_sz a b).1 (timesC_sz a b).2 (by decide) (HGL.out.below hq2)
   rw [HPE.out] at HEE
   simp only [dotV] at HEE
   refine HEE.mono ?_
   rintro e q3 ⟨x1, x2, x3, rfl, hca, h0⟩
   clear HEE
   have hq3 := btr hq2 h0
   have hx := (h0.block _ (lt_of_heap hx)).trans hx
   obtain ⟨p1, m1, l1, p2, m2, l2, p3, m3, l3, rfl, rfl, rfl, hm1, hm2, hm3⟩ := opn4 hca
   clear hm1 hm2 hm3
   clear h0
   go_simp
   refine Shut.out hK _ _ (hq3) (fun hS2 => ?_)
   clear hK K hS
   have hS := hS2
   clear hS2
   try simp only [Act.put, s1, s2, s3, List.getElem_toArray, List.getElem_cons_succ, List.getElem_cons_zero]
   refine tkN (i := 3) (v := ?v10) rfl (by decide +kernel) (Or.inl ⟨by kernel_rfl, fun w hSw => ok_of fun z hz => ?h10⟩) hS ?_; (case h10 => (go_simp; exact hz))
   try simp only [Act.put, s1, s2, s3, List.getElem_toArray, List.getElem_cons_succ, List.getElem_cons_zero]
   refine tkN (i := 4) (v := ?v11) rfl (by decide +kernel) (Or.inl ⟨by kernel_rfl, fun w hSw => ok_of fun z hz => ?h11⟩) hS ?_; (case h11 => (go_simp; exact hz))
   try simp only [Act.put, s1, s2, s3, List.getElem_toArray, List.getElem_cons_succ, List.getElem_cons_zero]
   refine tkN (i := 5) (v := ?v12) rfl (by decide +kernel) (Or.inl ⟨by kernel_rfl, fun w hSw => ok_of fun z hz => ?h12⟩) hS ?_; (case h12 => (go_simp; exact hz))
   try simp only [Act.put, s1, s2, s3, List.getElem_toArray, List.getElem_cons_succ, List.getElem_cons_zero]
   refine wpAnyH_ready (rs := [7]) (by decide +kernel) (by simp) ?_
   refine (AllReadyH.cons rfl (fun K hK => ?_) AllReadyH.nil)
   have g0 := froz0 hx 0
   have g1 := froz0 hx 1
   have g2 := froz0 hx 2
   obtain ⟨e0, e1, e2⟩ := cel3 hx
   go_simp
   refine Shut.out hK _ _ (by first | (rw [← set3c_eq]; exact set3c_below _ _ _ hq3 hbx) | exact btr hq0 bal) (fun hS2 => ?_)
   clear hK K hS
   have hS := hS2
   clear hS2
   try simp only [Act.put, s1, s2, s3, List.getElem_toArray, List.getElem_cons_succ, List.getElem_cons_zero]
   refine tkN (i := 8) (v := ?v13) rfl (by decide +kernel) (Or.inl ⟨by kernel_rfl, fun w hSw => ok_of fun z hz => ?h13⟩) hS ?_; (case h13 => (go_simp; exact hz))
   try simp only [Act.put, s1, s2, s3, List.getElem_toArray, List.getElem_cons_succ, List.getElem_cons_zero]
   refine wpAnyH_done (by kernel_rfl) ?_ _
   try simp only [Act.put, s1, s2, s3, List.getElem_toArray, List.getElem_cons_succ, List.getElem_cons_zero]
   simp only [NQ]
   first
   | exact hQ _ _ _ _ _ _ _ (set3c _ _ (.slice p1 m1 l1) (.slice p2 m2 l2) (.slice p3 m3 l3)) p1 p2 p3 m1 m2 m3 l1 l2 l3 (set3c_below _ _ _ hq3 hbx) hbx (set3c_same _ _ _ hx) ⟨set3c_dots hca.1 hx, set3c_dots hca.2.1 hx, set3c_items hca.2.2 hx⟩
   | exact hQ _ _ _ _ _ _ _ _ p1 p2 p3 m1 m2 m3 l1 l2 l3 (btr hq0 bal) hbx (alloc_new _ _) (hca0.below bal)
set_option linter.unusedSimpArgs false in
set_option linter.unusedVariables false in
set_option maxRecDepth 100000 in
set_option maxHeartbeats 16000000 in
theorem tim8 (a b : Int) (WL : World) (bC : Nat) (o1 o2 o3 : Option Addr) (n1 n2 n3 k1 k2 k3 : Nat) (a0 a1 a4 a6 a7 a8 z12 z13 z14 z15 z16 z17 z18 z19 z20 z21 z22 z23 z24 z25 z26 z27 z28 z29 z30 z31 z32 z33 z34 z35 z36 z37 z38 z39 z40 z41 z42 z43 z44 z45 z46 z47 z48 z49 z50 z51 z52 z53 z54 z55 z56 z57 z58 z59 z60 z61 z62 : Value) (h5 : WL.heap[bC]? = some (.cells #[.slice o1 n1 k1, .slice o2 n2 k2, .slice o3 n3 k3] 28))
  (h : CartA WL (.slice o1 n1 k1) (.slice o2 n2 k2) (.slice o3 n3 k3) (timesC a b)) (hE : putCE (timesC a b) ⟨1, 3⟩ tmB 1 true = 0) (hG : GlobIs WL) (R : Act → World → Prop)
  (hQ : ∀ (y63 y64 y65 y66 y67 y68 : Value) (bo : Nat) (w : World) (p1 p2 p3 : Option Addr) (m1 m2 m3 l1 l2 l3 : Nat), Below WL.heap.size WL w → WL.heap.size ≤ bo → w.heap[bo]? = some (.cells #[.slice p1 m1 l1, .slice p2 m2 l2, .slice p3 m3 l3] 28) → CartA w (.slice p1 m1 l1) (.slice p2 m2 l2) (.slice p3 m3 l3) (putC (timesC a b) ⟨1, 3⟩ tmB 1 true) → R { tmps := #[a0, a1, undef, undef, a4, .pointer (some ⟨bC, 0, none⟩), a6, a7, a8, .pointer (some ⟨bo, 0, none⟩), .int .i64 0, undef, z12, z13, z14, z15, z16, z17, z18, z19, z20, z21, z22, z23, z24, z25, z26, z27, z28, z29, z30, z31, z32, z33, z34, z35, z36, z37, z38, z39, z40, z41, z42, z43, z44, z45, z46, z47, z48, z49, z50, z51, z52, z53, z54, z55, z56, z57, z58, z59, z60, z61, z62, y63, y64, y65, y66, y67, y68, undef, undef, undef, undef, undef, undef, undef, undef, undef, undef, undef, undef, undef, undef, undef, undef, undef, undef, undef, undef, undef, undef, undef, undef, undef, undef, undef, undef, undef, undef, undef, undef, undef, undef, undef, undef, undef, undef, undef, undef, undef, undef, undef, undef, undef, undef, undef, undef, undef, undef, undef, undef], defers := [] } w) :
  (codeAt [1, 1, 1, 1, 1, 1, 0] (Tryz.f6.body.getD .skip)).wp Tryz.prog (NQ R) { tmps := #[a0, a1, undef, undef, a4, .pointer (some ⟨bC, 0, none⟩), a6, a7, a8, undef, undef, undef, z12, z13, z14, z15, z16, z17, z18, z19, z20, z21, z22, z23, z24, z25, z26, z27, z28, z29, z30, z31, z32, z33, z34, z35, z36, z37, z38, z39, z40, z41, z42, z43, z44, z45, z46, z47, z48, z49, z50, z51, z52, z53, z54, z55, z56, z57, z58, z59, z60, z61, z62, undef, undef, undef, undef, undef, undef, undef, undef, undef, undef, undef, undef, undef, undef, undef, undef, undef, undef, undef, undef, undef, undef, undef, undef, undef, undef, undef, undef, undef, undef, undef, undef, undef, undef, undef, undef, undef, undef, undef, undef, undef, undef, undef, undef, undef, undef, undef, undef, undef, undef, undef, undef, undef, undef, undef, undef, undef, undef], defers := [] } WL := by
 have HCR := Hd (fun wz (hz : Below WL.heap.size WL wz) => cel3 ((hz.block _ (lt_of_heap h5)).trans h5))
 have HT := Hd (fun wz (hz : Below WL.heap.size WL wz) => h.below hz)
 have HGL := Hd hG
 have HPE := Hd hE
 clear h5 h hE hG
 simp only [codeAt, codeL, codeR, Tryz.f6, Option.getD_some]
 refine wp_region_held_drew (S := (fun wz => Below WL.heap.size WL wz)) (by kernel_rfl) (bdr) (fun hS => ?_)
 try simp only [Act.put, s1, s2, s3, List.getElem_toArray, List.getElem_cons_succ, List.getElem_cons_zero]
 refine tkN (i := 0) (v := ?v14) rfl (by decide +kernel) (Or.inl ⟨by kernel_rfl, fun w hSw => ok_of fun z hz => ?h14⟩) hS ?_; (case h14 => (obtain ⟨f0, f1, f2⟩ := HCR.out _ hSw; go_simp; exact hz))
 try simp only [Act.put, s1, s2, s3, List.getElem_toArray, List.getElem_cons_succ, List.getElem_cons_zero]
 refine wpAnyH_ready (rs := [1, 6]) (by decide +kernel) (by simp) ?_
 refine (AllReadyH.cons rfl (fun K hK => ?_) (AllReadyH.cons rfl (fun K hK => ?_) AllReadyH.nil))
 · go_simp
   go_at_call 25
   have HEE := l12at_any (1) (3) (WL.drew)
   refine HEE.mono ?_
   rintro e q1 ⟨rfl, h0⟩
   clear HEE
   have hq1 := btr (bdr : Below WL.heap.size WL WL.drew) h0
   clear h0
   go_simp
   refine Shut.out hK _ _ (hq1) (fun hS2 => ?_)
   clear hK K hS
   have hS := hS2
   clear hS2
   try simp only [Act.put, s1, s2, s3, List.getElem_toArray, List.getElem_cons_succ, List.getElem_cons_zero]
   refine wpAnyH_ready (rs := [2, 6]) (by decide +kernel) (by simp) ?_
   refine (AllReadyH.cons rfl (fun K hK => ?_) (AllReadyH.cons rfl (fun K hK => ?_) AllReadyH.nil))
   · go_simp
     go_at_call 29
     have HEE := deltaSet_any (timesC a b) ⟨1, 3⟩ tmB 1 _ _ _ _ (HT.out _ hq1) (timesC_sz a b).1 (timesC_sz a b).2 (by decide) (HGL.out.below hq1)
     rw [HPE.out] at HEE
     simp only [dotV] at HEE
     refine HEE.mono ?_
     rintro e q2 ⟨x1, x2, x3, rfl, hca, h0⟩
     clear HEE
     have hq2 := btr hq1 h0
     obtain ⟨p1, m1, l1, p2, m2, l2, p3, m3, l3, rfl, rfl, rfl, hm1, hm2, hm3⟩ := opn4 hca
     clear hm1 hm2 hm3
     clear h0
     go_simp
     refine Shut.out hK _ _ (hq2) (fun hS2 => ?_)
     clear hK K hS
     have hS := hS2
     clear hS2
     try simp only [Act.put, s1, s2, s3, List.getElem_toArray, List.getElem_cons_succ, List.getElem_cons_zero]
     refine tkN (i := 3) (v := ?v15) rfl (by decide +kernel) (Or.inl ⟨by kernel_rfl, fun w hSw => ok_of fun z hz => ?h15⟩) hS ?_; (case h15 => (go_simp; exact hz))
     try simp only [Act.put, s1, s2, s3, List.getElem_toArray, List.getElem_cons_succ, List.getElem_cons_zero]
     refine tkN (i := 4) (v := ?v16) rfl (by decide +kernel) (Or.inl ⟨by kernel_rfl, fun w hSw => ok_of fun z hz => ?h16⟩) hS ?_; (case h16 => (go_simp; exact hz))
     try simp only [Act.put, s1, s2, s3, List.getElem_toArray, List.getElem_cons_succ, List.getElem_cons_zero]
     refine tkN (i := 5) (v := ?v17) rfl (by decide +kernel) (Or.inl ⟨by kernel_rfl, fun w hSw => ok_of fun z hz => ?h17⟩) hS ?_; (case h17 => (go_simp; exact hz))
     try simp only [Act.put, s1, s2, s3, List.getElem_toArray, List.getElem_cons_succ, List.getElem_cons_zero]
     refine wpAnyH_ready (rs := [6]) (by decide +kernel) (by simp) ?_
     refine (AllReadyH.cons rfl (fun K hK => ?_) AllReadyH.nil)
     go_simp
     have h0 : Below q2.heap.size q2 (q2.alloc (.cells #[.slice none 0 0, .slice none 0 0, .slice none 0 0] 28)) := bal
     have hq0 := hq2
     have hca0 := hca
     have hca := hca.below h0
     have hx : (q2.alloc (.cells #[.slice none 0 0, .slice none 0 0, .slice none 0 0] 28)).heap[q2.heap.size]? = some (.cells #[.slice none 0 0, .slice none 0 0, .slice none 0 0] 28) := alloc_new _ _
     have hbx : WL.heap.size ≤ q2.heap.size := hq0.size
     have hq3 := btr hq2 h0
     clear h0
     refine Shut.out hK _ _ (hq3) (fun hS2 => ?_)
     clear hK K hS
     have hS := hS2
     clear hS2
     try simp only [Act.put, s1, s2, s3, List.getElem_toArray, List.getElem_cons_succ, List.getElem_cons_zero]
     refine wpAnyH_ready (rs := [7]) (by decide +kernel) (by simp) ?_
     refine (AllReadyH.cons rfl (fun K hK => ?_) AllReadyH.nil)
     have g0 := froz0 hx 0
     have g1 := froz0 hx 1
     have g2 := froz0 hx 2
     obtain ⟨e0, e1, e2⟩ := cel3 hx
     go_simp
     refine Shut.out hK _ _ (by first | (rw [← set3c_eq]; exact set3c_below _ _ _ hq3 hbx) | exact btr hq0 bal) (fun hS2 => ?_)
     clear hK K hS
     have hS := hS2
     clear hS2
     try simp only [Act.put, s1, s2, s3, List.getElem_toArray, List.getElem_cons_succ, List.getElem_cons_zero]
     refine tkN (i := 8) (v := ?v18) rfl (by decide +kernel) (Or.inl ⟨by kernel_rfl, fun w hSw => ok_of fun z hz => ?h18⟩) hS ?_; (case h18 => (go_simp; exact hz))
     try simp only [Act.put, s1, s2, s3, List.getElem_toArray, List.getElem_cons_succ, List.getElem_cons_zero]
     refine wpAnyH_done (by kernel_rfl) ?_ _
     try simp only [Act.put, s1, s2, s3, List.getElem_toArray, List.getElem_cons_succ, List.getElem_cons_zero]
     simp only [NQ]
     first
     | exact hQ _ _ _ _ _ _ _ (set3c _ _ (.slice p1 m1 l1) (.slice p2 m2 l2) (.slice p3 m3 l3)) p1 p2 p3 m1 m2 m3 l1 l2 l3 (set3c_below _ _ _ hq3 hbx) hbx (set3c_same _ _ _ hx) ⟨set3c_dots hca.1 hx, set3c_dots hca.2.1 hx, set3c_items hca.2.2 hx⟩
     | exact hQ _ _ _ _ _ _ _ _ p1 p2 p3 m1 m2 m3 l1 l2 l3 (btr hq0 bal) hbx (alloc_new _ _) (hca0.below bal)
   · go_simp
     have h0 : Below q1.heap.size q1 (q1.alloc (.cells #[.slice none 0 0, .slice none 0 0, .slice none 0 0] 28)) := bal
     have hq0 := hq1
     have hx : (q1.alloc (.cells #[.slice none 0 0, .slice none 0 0, .slice none 0 0] 28)).heap[q1.heap.size]? = some (.cells #[.slice none 0 0, .slice none 0 0, .slice none 0 0] 28) := alloc_new _ _
     have hbx : WL.heap.size ≤ q1.heap.size := hq0.size
     have hq2 := btr hq1 h0
     clear h0
     refine Shut.out hK _ _ (hq2) (fun hS2 => ?_)
     clear hK K hS
     have hS := hS2
     clear hS2
     try simp only [Act.put, s1, s2, s3, List.getElem_toArray, List.getElem_cons_succ, List.getElem_cons_zero]
     refine wpAnyH_ready (rs := [2]) (by decide +kernel) (by simp) ?_
     refine (AllReadyH.cons rfl (fun K hK => ?_) AllReadyH.nil)
     go_simp
     go_at_call 29
     have HEE := deltaSet_any (timesC a b) ⟨1, 3⟩ tmB 1 _ _ _ _ (HT.out _ hq2) (timesC_sz a b).1 (timesC_sz a b).2 (by decide) (HGL.out.below hq2)
     rw [HPE.out] at HEE
     simp only [dotV] at HEE
     refine HEE.mono ?_
     rintro e q3 ⟨x1, x2, x3, rfl, hca, h0⟩
     clear HEE
     have hq3 := btr hq2 h0
     have hx := (h0.block _ (lt_of_heap hx)).trans hx
     obtain ⟨p1, m1, l1, p2, m2, l2, p3, m3, l3, rfl, rfl, rfl, hm1, hm2, hm3⟩ := opn4 hca
     clear hm1 hm2 hm3
     clear h0
     go_simp
     refine Shut.out hK _ _ (hq3) (fun hS2 => ?_)
     clear hK K hS
     have hS := hS2
     clear hS2
     try simp only [Act.put, s1, s2, s3, List.getElem_toArray, List.getElem_cons_succ, List.getElem_cons_zero]
     refine tkN (i := 3) (v := ?v19) rfl (by decide +kernel) (Or.inl ⟨by kernel_rfl, fun w hSw => ok_of fun z hz => ?h19⟩) hS ?_; (case h19 => (go_simp; exact hz))
     try simp only [Act.put, s1, s2, s3, List.getElem_toArray, List.getElem_cons_succ, List.getElem_cons_zero]
     refine tkN (i := 4) (v := ?v20) rfl (by decide +kernel) (Or.inl ⟨by kernel_rfl, fun w hSw => ok_of fun z hz => ?h20⟩) hS ?_; (case h20 => (go_simp; exact hz))
     try simp only [Act.put, s1, s2, s3, List.getElem_toArray, List.getElem_cons_succ, List.getElem_cons_zero]
     refine tkN (i := 5) (v := ?v21) rfl (by decide +kernel) (Or.inl ⟨by kernel_rfl, fun w hSw => ok_of fun z hz => ?h21⟩) hS ?_; (case h21 => (go_simp; exact hz))
     try simp only [Act.put, s1, s2, s3, List.getElem_toArray, List.getElem_cons_succ, List.getElem_cons_zero]
     refine wpAnyH_ready (rs := [7]) (by decide +kernel) (by simp) ?_
     refine (AllReadyH.cons rfl (fun K hK => ?_) AllReadyH.nil)
     have g0 := froz0 hx 0
     have g1 := froz0 hx 1
     have g2 := froz0 hx 2
     obtain ⟨e0, e1, e2⟩ := cel3 hx
     go_simp
     refine Shut.out hK _ _ (by first | (rw [← set3c_eq]; exact set3c_below _ _ _ hq3 hbx) | exact btr hq0 bal) (fun hS2 => ?_)
     clear hK K hS
     have hS := hS2
     clear hS2
     try simp only [Act.put, s1, s2, s3, List.getElem_toArray, List.getElem_cons_succ, List.getElem_cons_zero]
     refine tkN (i := 8) (v := ?v22) rfl (by decide +kernel) (Or.inl ⟨by kernel_rfl, fun w hSw => ok_of fun z hz => ?h22⟩) hS ?_; (case h22 => (go_simp; exact hz))
     try simp only [Act.put, s1, s2, s3, List.getElem_toArray, List.getElem_cons_succ, List.getElem_cons_zero]
     refine wpAnyH_done (by kernel_rfl) ?_ _
     try simp only [Act.put, s1, s2, s3, List.getElem_toArray, List.getElem_cons_succ, List.getElem_cons_zero]
     simp only [NQ]
     first
     | exact hQ _ _ _ _ _ _ _ (set3c _ _ (.slice p1 m1 l1) (.slice p2 m2 l2) (.slice p3 m3 l3)) p1 p2 p3 m1 m2 m3 l1 l2 l3 (set3c_below _ _ _ hq3 hbx) hbx (set3c_same _ _ _ hx) ⟨set3c_dots hca.1 hx, set3c_dots hca.2.1 hx, set3c_items hca.2.2 hx⟩
     | exact hQ _ _ _ _ _ _ _ _ p1 p2 p3 m1 m2 m3 l1 l2 l3 (btr hq0 bal) hbx (alloc_new _ _) (hca0.below bal)
 · go_simp
   have h0 : Below WL.drew.heap.size WL.drew (WL.drew.alloc (.cells #[.slice none 0 0, .slice none 0 0, .slice none 0 0] 28)) := bal
   have hq0 := (bdr : Below WL.heap.size WL WL.drew)
   have hx : (WL.drew.alloc (.cells #[.slice none 0 0, .slice none 0 0, .slice none 0 0] 28)).heap[WL.drew.heap.size]? = some (.cells #[.slice none 0 0, .slice none 0 0, .slice none 0 0] 28) := alloc_new _ _
   have hbx : WL.heap.size ≤ WL.drew.heap.size := hq0.size
   have hq1 := btr (bdr : Below WL.heap.size WL WL.drew) h0
   clear h0
   have e9 : WL.drew.heap.size = WL.heap.size := rfl
   rw [e9] at hx hbx
   clear e9
   refine Shut.out hK _ _ (hq1) (fun hS2 => ?_)
   clear hK K hS
   have hS := hS2
   clear hS2
   try simp only [Act.put, s1, s2, s3, List.getElem_toArray, List.getElem_cons_succ, List.getElem_cons_zero]
   refine wpAnyH_ready (rs := [1]) (by decide +kernel) (by simp) ?_
   refine (AllReadyH.cons rfl (fun K hK => ?_) AllReadyH.nil)
   go_simp
   go_at_call 25
   have HEE := l12at_any (1) (3) ((WL.drew.alloc (.cells #[.slice none 0 0, .slice none 0 0, .slice none 0 0] 28)))
   refine HEE.mono ?_
   rintro e q2 ⟨rfl, h0⟩
   clear HEE
   have hq2 := btr hq1 h0
   have hx := (h0.block _ (lt_of_heap hx)).trans hx
   clear h0
   go_simp
   refine Shut.out hK _ _ (hq2) (fun hS2 => ?_)
   clear hK K hS
   have hS := hS2
   clear hS2
   try simp only [Act.put, s1, s2, s3, List.getElem_toArray, List.getElem_cons_succ, List.getElem_cons_zero]
   refine wpAnyH_ready (rs := [2]) (by decide +kernel) (by simp) ?_
   refine (AllReadyH.cons rfl (fun K hK => ?_) AllReadyH.nil)
   go_simp
   go_at_call 29
   have HEE := deltaSet_any (timesC a b) ⟨1, 3⟩ tmB 1 _ _ _ _ (HT.out _ hq2) (timesC_sz a b).1 (timesC_sz a b).2 (by decide) (HGL.out.below hq2)
   rw [HPE.out] at HEE
   simp only [dotV] at HEE
   refine HEE.mono ?_
   rintro e q3 ⟨x1, x2, x3, rfl, hca, h0⟩
   clear HEE
   have hq3 := btr hq2 h0
   have hx := (h0.block _ (lt_of_heap hx)).trans hx
   obtain ⟨p1, m1, l1, p2, m2, l2, p3, m3, l3, rfl, rfl, rfl, hm1, hm2, hm3⟩ := opn4 hca
   clear hm1 hm2 hm3
   clear h0
   go_simp
   refine Shut.out hK _ _ (hq3) (fun hS2 => ?_)
   clear hK K hS
   have hS := hS2
   clear hS2
   try simp only [Act.put, s1, s2, s3, List.getElem_toArray, List.getElem_cons_succ, List.getElem_cons_zero]
   refine tkN (i := 3) (v := ?v23) rfl (by decide +kernel) (Or.inl ⟨by kernel_rfl, fun w hSw => ok_of fun z hz => ?h23⟩) hS ?_; (case h23 => (go_simp; exact hz))
   try simp only [Act.put, s1, s2, s3, List.getElem_toArray, List.getElem_cons_succ, List.getElem_cons_zero]
   refine tkN (i := 4) (v := ?v24) rfl (by decide +kernel) (Or.inl ⟨by kernel_rfl, fun w hSw => ok_of fun z hz => ?h24⟩) hS ?_; (case h24 => (go_simp; exact hz))
   try simp only [Act.put, s1, s2, s3, List.getElem_toArray, List.getElem_cons_succ, List.getElem_cons_zero]
   refine tkN (i := 5) (v := ?v25) rfl (by decide +kernel) (Or.inl ⟨by kernel_rfl, fun w hSw => ok_of fun z hz => ?h25⟩) hS ?_; (case h25 => (go_simp; exact hz))
   try simp only [Act.put, s1, s2, s3, List.getElem_toArray, List.getElem_cons_succ, List.getElem_cons_zero]
   refine wpAnyH_ready (rs := [7]) (by decide +kernel) (by simp) ?_
   refine (AllReadyH.cons rfl (fun K hK => ?_) AllReadyH.nil)
   have g0 := froz0 hx 0
   have g1 := froz0 hx 1
   have g2 := froz0 hx 2
   obtain ⟨e0, e1, e2⟩ := cel3 hx
   go_simp
   refine Shut.out hK _ _ (by first | (rw [← set3c_eq]; exact set3c_below _ _ _ hq3 hbx) | exact btr hq0 bal) (fun hS2 => ?_)
   clear hK K hS
   have hS := hS2
   clear hS2
   try simp only [Act.put, s1, s2, s3, List.getElem_toArray, List.getElem_cons_succ, List.getElem_cons_zero]
   refine tkN (i := 8) (v := ?v26) rfl (by decide +kernel) (Or.inl ⟨by kernel_rfl, fun w hSw => ok_of fun z hz => ?h26⟩) hS ?_; (case h26 => (go_simp; exact hz))
   try simp only [Act.put, s1, s2, s3, List.getElem_toArray, List.getElem_cons_succ, List.getElem_cons_zero]
   refine wpAnyH_done (by kernel_rfl) ?_ _
   try simp only [Act.put, s1, s2, s3, List.getElem_toArray, List.getElem_cons_succ, List.getElem_cons_zero]
   simp only [NQ]
   first
   | exact hQ _ _ _ _ _ _ _ (set3c _ _ (.slice p1 m1 l1) (.slice p2 m2 l2) (.slice p3 m3 l3)) p1 p2 p3 m1 m2 m3 l1 l2 l3 (set3c_below _ _ _ hq3 hbx) hbx (set3c_same _ _ _ hx) ⟨set3c_dots hca.1 hx, set3c_dots hca.2.1 hx, set3c_items hca.2.2 hx⟩
   | exact hQ _ _ _ _ _ _ _ _ p1 p2 p3 m1 m2 m3 l1 l2 l3 (btr hq0 bal) hbx (alloc_new _ _) (hca0.below bal)
set_option linter.unusedSimpArgs false in
set_option linter.unusedVariables false in
set_option maxRecDepth 100000 in
set_option maxHeartbeats 16000000 in
theorem l12Times_any (a : Int) (b : Int) (ha0 : 0 ≤ a) (hb0 : 0 ≤ b) (ha1 : a ≤ 18446744073709551615) (hb1 : b ≤ 18446744073709551615) (w : World)  (hG : GlobIs w) :
    Calls Tryz.prog 6 #[.int .u64 a, .int .u64 b] w fun e w' => e = .returned (.bool true) ∧ Below w.heap.size w w' := by
  have HB : Hid (Below w.heap.size w w) := Hd brf
  have HB0 : Hid (Below w.heap.size w w) := Hd brf
  have HGL := Hd hG
  clear hG
  go_enter Tryz.func6, Tryz.ntmps6
  by_cases haz : a = 0
  ·have ta : (a == 0) = true := by simp [haz]
   clear haz
   have HX := Lib.hid (l12known_any w (HGL.out.below HB0.out))
   go_wp2_with fail
   refine HX.out.mono ?_
   rintro e wk ⟨rfl, hbk⟩
   clear HX
   have HBK := Lib.hid (HB0.out.trans (hbk.mono HB0.out.size))
   clear hbk
   go_wp2_with fail
   go_ret
   exact ⟨rfl, HB.out.trans (HBK.out.mono HB.out.size)⟩
  have ta : (a == 0) = false := by simp [haz]
  have hap : 0 < a := by omega
  clear haz
  by_cases hbz : b = 0
  ·have tb : (b == 0) = true := by simp [hbz]
   clear hbz
   have HX := Lib.hid (l12known_any w (HGL.out.below HB0.out))
   go_wp2_with fail
   refine HX.out.mono ?_
   rintro e wk ⟨rfl, hbk⟩
   clear HX
   have HBK := Lib.hid (HB0.out.trans (hbk.mono HB0.out.size))
   clear hbk
   go_wp2_with fail
   go_ret
   exact ⟨rfl, HB.out.trans (HBK.out.mono HB.out.size)⟩
  have tb : (b == 0) = false := by simp [hbz]
  have hbp : 0 < b := by omega
  clear hbz
  have HV := Hd (And.intro hap hbp)
  have HU := Hd (And.intro ha1 hb1)
  have mia := times_mi (q := 5) (d := ⟨1, 1⟩) (by unfold I64; decide) (by unfold I64; decide) (by unfold I64; decide) (And.intro ha0 ha1)
  have mib := times_mi (q := 5) (d := ⟨1, 2⟩) (by unfold I64; decide) (by unfold I64; decide) (by unfold I64; decide) (And.intro hb0 hb1)
  clear hap hbp ha0 hb0 ha1 hb1
  go_wp2_with fail
  have HEE := l12at_any (1) (2) (w)
  refine HEE.mono ?_
  rintro e q1 ⟨rfl, h0⟩
  clear HEE
  have hq1 := btr (Below.refl _ _ : Below w.heap.size w w) h0
  clear h0
  have h0 : Below q1.heap.size q1 (q1.alloc (.cells #[.int .i64 (1), .int .i64 (2)] 30)) := bal
  have hq2 := btr hq1 h0
  have d1 : Arr DotR 2 (q1.alloc (.cells #[.int .i64 (1), .int .i64 (2)] 30)) (.slice (some ⟨q1.heap.size, 0, none⟩) 1 1) [⟨1, 2⟩] := lit_dots [⟨1, 2⟩] (by unfold maxLen; simp) (di_all (by decide))
  clear h0
  go_wp2_with fail
  have HEE := l12con_any 1 1 rfl [⟨1, 2⟩] _ _ _ _ d1 (by decide)
  refine HEE.mono ?_
  rintro e q3 ⟨vc, rfl, ⟨c1_a, c1_b, c1_c, c1_d, c1_e, c1_f, rfl, ca, cb⟩, h0⟩
  clear HEE
  have hq3 := btr hq2 h0
  clear d1
  have ca : Arr DotR 2 _ _ ([⟨1, 2⟩] : List DotD) := ca
  have cb : Arr DotR 2 _ _ ([] : List DotD) := cb
  clear h0
  go_wp2_with fail
  have HEE := l12mark_any (1) (1) (5) (a) (q3)
  refine HEE.mono ?_
  rintro e q4 ⟨rfl, h0⟩
  clear HEE
  have hq4 := btr hq3 h0
  have ca := ca.dots h0
  have cb := cb.dots h0
  clear h0
  have h0 : Below q4.heap.size q4 (q4.alloc (.cells #[.int .i64 (1), .int .i64 (1), .int .i64 (5), .int .u64 (a)] 55)) := bal
  have hq5 := btr hq4 h0
  have ca := ca.dots h0
  have cb := cb.dots h0
  have m1 : Arr MarkR 4 (q4.alloc (.cells #[.int .i64 (1), .int .i64 (1), .int .i64 (5), .int .u64 (a)] 55)) (.slice (some ⟨q4.heap.size, 0, none⟩) 1 1) [⟨⟨1, 1⟩, 5, a⟩] := lit_marks [⟨⟨1, 1⟩, 5, a⟩] (by unfold maxLen; simp) (mia)
  clear h0
  go_wp2_with fail
  have HEE := l12item_any tmA (some ⟨q4.heap.size, 0, none⟩) 1 1 ((q4.alloc (.cells #[.int .i64 (1), .int .i64 (1), .int .i64 (5), .int .u64 (a)] 55)))
  refine HEE.mono ?_
  rintro e q6 ⟨rfl, h0⟩
  clear HEE
  have hq6 := btr hq5 h0
  have ca := ca.dots h0
  have cb := cb.dots h0
  have m1 := m1.marks h0
  clear h0
  go_wp2_with fail
  have HEE := l12mark_any (1) (2) (5) (b) (q6)
  refine HEE.mono ?_
  rintro e q7 ⟨rfl, h0⟩
  clear HEE
  have hq7 := btr hq6 h0
  have ca := ca.dots h0
  have cb := cb.dots h0
  have m1 := m1.marks h0
  clear h0
  have h0 : Below q7.heap.size q7 (q7.alloc (.cells #[.int .i64 (1), .int .i64 (2), .int .i64 (5), .int .u64 (b)] 55)) := bal
  have hq8 := btr hq7 h0
  have ca := ca.dots h0
  have cb := cb.dots h0
  have m1 := m1.marks h0
  have m2 : Arr MarkR 4 (q7.alloc (.cells #[.int .i64 (1), .int .i64 (2), .int .i64 (5), .int .u64 (b)] 55)) (.slice (some ⟨q7.heap.size, 0, none⟩) 1 1) [⟨⟨1, 2⟩, 5, b⟩] := lit_marks [⟨⟨1, 2⟩, 5, b⟩] (by unfold maxLen; simp) (mib)
  clear h0
  go_wp2_with fail
  have HEE := l12item_any tmB (some ⟨q7.heap.size, 0, none⟩) 1 1 ((q7.alloc (.cells #[.int .i64 (1), .int .i64 (2), .int .i64 (5), .int .u64 (b)] 55)))
  refine HEE.mono ?_
  rintro e q9 ⟨rfl, h0⟩
  clear HEE
  have hq9 := btr hq8 h0
  have ca := ca.dots h0
  have cb := cb.dots h0
  have m1 := m1.marks h0
  have m2 := m2.marks h0
  clear h0
  have h0 : Below q9.heap.size q9 (q9.alloc (.cells #[.string tmA, .slice (some ⟨q4.heap.size, 0, none⟩) 1 1, .string tmB, .slice (some ⟨q7.heap.size, 0, none⟩) 1 1] 50)) := bal
  have hq10 := btr hq9 h0
  have ca := ca.dots h0
  have cb := cb.dots h0
  have its : Arr ItemR 2 (q9.alloc (.cells #[.string tmA, .slice (some ⟨q4.heap.size, 0, none⟩) 1 1, .string tmB, .slice (some ⟨q7.heap.size, 0, none⟩) 1 1] 50)) (.slice (some ⟨q9.heap.size, 0, none⟩) 2 2) [⟨tmA, [⟨⟨1, 1⟩, 5, a⟩]⟩, ⟨tmB, [⟨⟨1, 2⟩, 5, b⟩]⟩] := lit_items [⟨⟨tmA, [⟨⟨1, 1⟩, 5, a⟩]⟩, some ⟨q4.heap.size, 0, none⟩, 1⟩, ⟨⟨tmB, [⟨⟨1, 2⟩, 5, b⟩]⟩, some ⟨q7.heap.size, 0, none⟩, 1⟩] (by unfold maxLen; simp) (by
    intro p hp
    simp only [List.mem_cons, List.not_mem_nil, or_false] at hp
    rcases hp with rfl | rfl
    ·exact ⟨show ByteArray.size tmA ≤ maxLen by decide, m1⟩
    ·exact ⟨show ByteArray.size tmB ≤ maxLen by decide, m2⟩)
  clear h0
  obtain ⟨WC, HWC, HBC0, HSWC, HCC⟩ := box1 (q9.alloc (.cells #[.string tmA, .slice (some ⟨q4.heap.size, 0, none⟩) 1 1, .string tmB, .slice (some ⟨q7.heap.size, 0, none⟩) 1 1] 50)) #[.slice c1_a c1_b c1_c, .slice c1_d c1_e c1_f, .slice (some ⟨q9.heap.size, 0, none⟩) 2 2] 28
  have hAC : CartA WC (.slice c1_a c1_b c1_c) (.slice c1_d c1_e c1_f) (.slice (some ⟨q9.heap.size, 0, none⟩) 2 2) (timesC a b) := (show CartA (q9.alloc (.cells #[.string tmA, .slice (some ⟨q4.heap.size, 0, none⟩) 1 1, .string tmB, .slice (some ⟨q7.heap.size, 0, none⟩) 1 1] 50)) (.slice c1_a c1_b c1_c) (.slice c1_d c1_e c1_f) (.slice (some ⟨q9.heap.size, 0, none⟩) 2 2) (timesC a b) from ⟨ca, cb, its⟩).below HBC0.out
  have HAC := Hd hAC
  clear hAC
  have hb := btr hq10 HBC0.out
  have HXBC := Hd (HCC.out WC brf)
  have HCC := Hd (fun wz hz => cel3 (HCC.out wz hz))
  try simp only [alloc_size] at HCC HXBC
  have HB1 := Lib.hid (HB0.out.trans (hb.mono HB0.out.size))
  have HDC1 : Hid (Below WC.heap.size WC WC) := Lib.hid (Below.refl _ _)
  clear hb HBC0
  obtain ⟨eC1_0, eC1_1, eC1_2⟩ := HCC.out WC HDC1.out
  clear mia mib
  obtain ⟨M, hM⟩ : ∃ M, M = max a b := ⟨_, rfl⟩
  have hM1 : 0 < M ∧ M ≤ 18446744073709551615 := by
    have h1 := HV.out
    have h2 := HU.out
    have h3 := Int.le_max_left a b
    have h4 : max a b ≤ 18446744073709551615 := Int.max_le.2 h2
    rw [hM]
    omega
  have HTP := Hd (times_put HV.out.1 HV.out.2)
  have hM' : max a b = M := hM.symm
  rw [hM'] at HTP
  have HMM := Hd hM'
  clear hM
  by_cases hm : M = 18446744073709551615
  ·have kw : IntKind.u64.wrap (M + 1) = 0 := by rw [hm]; rfl
   have hz0 : ((0 : Int) == 0) = true := rfl
   have D1 := puts_true (c := timesC a b) (x := zeroC) (d := ⟨1, 3⟩) (nm := tmA) (q := 1) (no := 15) (set := false) ⟨by rw [HTP.out.1, if_pos hm], by rw [if_neg (by decide)]⟩
   have D2 := puts_true (c := timesC a b) (x := zeroC) (d := ⟨1, 3⟩) (nm := tmB) (q := 1) (no := 15) (set := true) ⟨by rw [HTP.out.2.1, if_pos hm], by rw [if_neg (by decide)]⟩
   have D3 := puts_true (c := timesC a b) (x := zeroC) (d := ⟨1, 3⟩) (nm := tmC) (q := 1) (no := 9) (set := true) ⟨HTP.out.2.2.1, by rw [if_neg (by decide)]⟩
   have HD1 := Hd D1
   have HD2 := Hd D2
   have HD3 := Hd D3
   clear D1 D2 D3
   have HT := Hd (fun wz (hz : Below WC.heap.size WC wz) => (HAC.out.below HDC1.out).below hz)
   have HGR := Hd (fun wz (hz : Below WC.heap.size WC wz) => (HGL.out.below HB1.out).below hz)
   go_upto_region 6 with fail
   rw [← HWC.out]
   refine NQ.to ?_
   refine wp_region_held_drew (S := (fun wz => Below WC.heap.size WC wz)) (by kernel_rfl) (bdr) (fun hS => ?_)
   refine tkR (n := 2) [0, 2] rfl (by decide +kernel) hS ?_
   iterate 2 ((try simp only [Act.put, s1, s2, s3, s4, s5, s6]); refine ⟨_, ?_, rfl, Or.inl ⟨by kernel_rfl, fun w hSw => ok_of fun z hz => ?_⟩, ?_⟩; rotate_left; · (obtain ⟨f0, f1, f2⟩ := HCC.out _ hSw; go_simp; exact hz))
   refine RunOK.done ?_
   try simp only [Act.put, s1, s2, s3, s4, s5, s6]
   refine rd1 1 (by decide +kernel) rfl (fun K hK => ?_)
   go_simp
   go_at_call 25
   have HEE := l12at_any (1) (3) (WC.drew)
   refine HEE.mono ?_
   rintro e q1 ⟨rfl, h0⟩
   clear HEE
   have hq1 := btr (bdr : Below WC.heap.size WC WC.drew) h0
   clear h0
   go_simp
   refine Shut.out hK _ _ (hq1) (fun hS2 => ?_); clear hK K hS; have hS := hS2; clear hS2
   try simp only [Act.put, s1, s2, s3, s4, s5, s6]
   refine rd1 3 (by decide +kernel) rfl (fun K hK => ?_)
   go_simp
   go_at_call 13
   have HEE := l12adds_any (timesC a b) zeroC ⟨1, 3⟩ tmA 1 15 _ _ _ (.slice none 0 0) (.slice none 0 0) (.slice none 0 0) _ (HT.out _ hq1) (cartA_zero _) (timesC_sz a b).1 (timesC_sz a b).2 (by decide) (HGR.out _ hq1)
   rw [HD1.out] at HEE
   simp only [dotV] at HEE
   refine HEE.mono ?_
   rintro e q2 ⟨rfl, h0⟩
   clear HEE
   have hq2 := btr hq1 h0
   clear h0
   go_simp
   refine Shut.out hK _ _ (hq2) (fun hS2 => ?_); clear hK K hS; have hS := hS2; clear hS2
   try simp only [Act.put, s1, s2, s3, s4, s5, s6]
   refine tkR (n := 3) [4, 5, 7] rfl (by decide +kernel) hS ?_
   iterate 3 ((try simp only [Act.put, s1, s2, s3, s4, s5, s6]); refine ⟨_, ?_, rfl, Or.inl ⟨by kernel_rfl, fun w hSw => ok_of fun z hz => ?_⟩, ?_⟩; rotate_left; · (obtain ⟨f0, f1, f2⟩ := HCC.out _ hSw; go_simp; exact hz))
   refine RunOK.done ?_
   try simp only [Act.put, s1, s2, s3, s4, s5, s6]
   refine rd1 6 (by decide +kernel) rfl (fun K hK => ?_)
   go_simp
   go_at_call 25
   have HEE := l12at_any (1) (3) (q2)
   refine HEE.mono ?_
   rintro e q3 ⟨rfl, h0⟩
   clear HEE
   have hq3 := btr hq2 h0
   clear h0
   go_simp
   refine Shut.out hK _ _ (hq3) (fun hS2 => ?_); clear hK K hS; have hS := hS2; clear hS2
   try simp only [Act.put, s1, s2, s3, s4, s5, s6]
   refine rd1 8 (by decide +kernel) rfl (fun K hK => ?_)
   go_simp
   go_at_call 14
   have HEE := l12sets_any (timesC a b) zeroC ⟨1, 3⟩ tmB 1 15 _ _ _ (.slice none 0 0) (.slice none 0 0) (.slice none 0 0) _ (HT.out _ hq3) (cartA_zero _) (timesC_sz a b).1 (timesC_sz a b).2 (by decide) (HGR.out _ hq3)
   rw [HD2.out] at HEE
   simp only [dotV] at HEE
   refine HEE.mono ?_
   rintro e q4 ⟨rfl, h0⟩
   clear HEE
   have hq4 := btr hq3 h0
   clear h0
   go_simp
   refine Shut.out hK _ _ (hq4) (fun hS2 => ?_); clear hK K hS; have hS := hS2; clear hS2
   try simp only [Act.put, s1, s2, s3, s4, s5, s6]
   refine tkR (n := 4) [9, 10, 11, 13] rfl (by decide +kernel) hS ?_
   iterate 4 ((try simp only [Act.put, s1, s2, s3, s4, s5, s6]); refine ⟨_, ?_, rfl, Or.inl ⟨by kernel_rfl, fun w hSw => ok_of fun z hz => ?_⟩, ?_⟩; rotate_left; · (obtain ⟨f0, f1, f2⟩ := HCC.out _ hSw; go_simp; exact hz))
   refine RunOK.done ?_
   try simp only [Act.put, s1, s2, s3, s4, s5, s6]
   refine rd1 12 (by decide +kernel) rfl (fun K hK => ?_)
   go_simp
   go_at_call 25
   have HEE := l12at_any (1) (3) (q4)
   refine HEE.mono ?_
   rintro e q5 ⟨rfl, h0⟩
   clear HEE
   have hq5 := btr hq4 h0
   clear h0
   go_simp
   refine Shut.out hK _ _ (hq5) (fun hS2 => ?_); clear hK K hS; have hS := hS2; clear hS2
   try simp only [Act.put, s1, s2, s3, s4, s5, s6]
   refine rd1 14 (by decide +kernel) rfl (fun K hK => ?_)
   go_simp
   go_at_call 14
   have HEE := l12sets_any (timesC a b) zeroC ⟨1, 3⟩ tmC 1 9 _ _ _ (.slice none 0 0) (.slice none 0 0) (.slice none 0 0) _ (HT.out _ hq5) (cartA_zero _) (timesC_sz a b).1 (timesC_sz a b).2 (by decide) (HGR.out _ hq5)
   rw [HD3.out] at HEE
   simp only [dotV] at HEE
   refine HEE.mono ?_
   rintro e q6 ⟨rfl, h0⟩
   clear HEE
   have hq6 := btr hq5 h0
   clear h0
   go_simp
   refine Shut.out hK _ _ (hq6) (fun hS2 => ?_); clear hK K hS; have hS := hS2; clear hS2
   try simp only [Act.put, s1, s2, s3, s4, s5, s6]
   refine tkR (n := 2) [15, 16] rfl (by decide +kernel) hS ?_
   iterate 2 ((try simp only [Act.put, s1, s2, s3, s4, s5, s6]); refine ⟨_, ?_, rfl, Or.inl ⟨by kernel_rfl, fun w hSw => ok_of fun z hz => ?_⟩, ?_⟩; rotate_left; · (obtain ⟨f0, f1, f2⟩ := HCC.out _ hSw; go_simp; exact hz))
   refine RunOK.done ?_
   try simp only [Act.put, s1, s2, s3, s4, s5, s6]
   refine rd1 17 (by decide +kernel) rfl (fun K hK => ?_)
   go_simp
   go_at_call 10
   have HEE := l12known_any _ (HGR.out _ hq6)
   refine HEE.mono ?_
   rintro e q7 ⟨rfl, h0⟩
   clear HEE
   have hq7 := btr hq6 h0
   clear h0
   go_simp
   refine Shut.out hK _ _ (hq7) (fun hS2 => ?_); clear hK K hS; have hS := hS2; clear hS2
   try simp only [Act.put, s1, s2, s3, s4, s5, s6]
   refine tkR (n := 2) [18, 19] rfl (by decide +kernel) hS ?_
   iterate 2 ((try simp only [Act.put, s1, s2, s3, s4, s5, s6]); refine ⟨_, ?_, rfl, Or.inl ⟨by kernel_rfl, fun w hSw => ok_of fun z hz => ?_⟩, ?_⟩; rotate_left; · (obtain ⟨f0, f1, f2⟩ := HCC.out _ hSw; go_simp; exact hz))
   refine RunOK.done ?_
   try simp only [Act.put, s1, s2, s3, s4, s5, s6]
   refine wpAnyH_done (by kernel_rfl) ?_ _
   try simp only [Act.put, s1, s2, s3, s4, s5, s6]
   simp only [NQ]
   have HFI := Hd (HB.out.trans ((HB1.out.trans (hq7.mono HB1.out.size)).mono HB.out.size))
   clear hS
   go_wp2_with fail
   go_ret
   exact ⟨rfl, HFI.out⟩
  have kw : IntKind.u64.wrap (M + 1) = M + 1 := by rw [IntKind.wrap_u64]; omega
  have hz1 : (M + 1 == 0) = false := by rw [beq_eq_false_iff_ne]; omega
  have PZ : putCE (timesC a b) ⟨1, 3⟩ tmZ 1 false = 0 := by rw [HTP.out.2.2.2, if_neg hm]
  have PB : putCE (timesC a b) ⟨1, 3⟩ tmB 1 true = 0 := by rw [HTP.out.2.1, if_neg hm]
  have TN := times_new HV.out.1 HV.out.2 (by rw [hM']; exact hm)
  rw [hM'] at TN
  have HXD : Hid (putC (timesC a b) ⟨1, 3⟩ tmZ 1 false = ⟨[], [⟨1, 3⟩], [⟨tmZ, [⟨⟨1, 3⟩, 1, M + 1⟩]⟩]⟩) := Hd (by unfold putC; rw [if_pos PZ]; exact TN.1)
  have HYD : Hid ((putC (timesC a b) ⟨1, 3⟩ tmB 1 true).items = [⟨tmB, [⟨⟨1, 3⟩, 1, M + 1⟩]⟩]) := Hd (by unfold putC; rw [if_pos PB]; exact TN.2)
  have HPZ := Hd PZ
  have HPB := Hd PB
  have mim := times_mi (q := 1) (d := ⟨1, 3⟩) (t := M + 1) (by unfold I64; decide) (by unfold I64; decide) (by unfold I64; decide) ⟨by omega, by omega⟩
  have HMI := Hd mim
  clear PZ PB TN mim
  go_upto_region 7 with fail
  rw [← HWC.out]
  refine NQ.to (tim7 a b WC _ _ _ _ _ _ _ _ _ _ _ _ _ _ _ _ _ _ _ _ _ _ _ _ _ _ _ _ _ _ _ _ _ _ _ _ _ _ _ _ _ _ _ _ _ _ _ _ _ _ _ _ _ _ _ _ _ _ _ HXBC.out HAC.out HPZ.out (HGL.out.below HB1.out) _ ?_)
  intro y57 y58 y59 y60 y61 y62 b7 w7 p1 p2 p3 m1 m2 m3 l1 l2 l3 hb7 hge7 hx7 hc7
  have HX7 := Hd hx7
  have HA7 := Hd hc7
  have HB7 := Hd hb7
  clear hx7 hc7 hb7 hge7
  clear eC1_0 eC1_1 eC1_2
  have z9 := trivial
  have HB2 := Lib.hid (HB1.out.trans (HB7.out.mono HB1.out.size))
  have HDC2 := Lib.hid (HDC1.out.trans (HB7.out.mono HDC1.out.size))
  clear z9
  obtain ⟨eC2_0⟩ := HCC.out w7 HDC2.out
  go_upto_region 8 with fail
  refine NQ.to (tim8 a b w7 _ _ _ _ _ _ _ _ _ _ _ _ _ _ _ _ _ _ _ _ _ _ _ _ _ _ _ _ _ _ _ _ _ _ _ _ _ _ _ _ _ _ _ _ _ _ _ _ _ _ _ _ _ _ _ _ _ _ _ _ _ _ _ _ _ _ _ ((HB7.out.block _ (lt_of_heap HXBC.out)).trans HXBC.out) (HAC.out.below HDC2.out) HPB.out (HGL.out.below HB2.out) _ ?_)
  intro y63 y64 y65 y66 y67 y68 b9 w9 s1 s2 s3 r1 r2 r3 t1 t2 t3 hb9 hge9 hx9 hc9
  have HX9 := Hd hx9
  have HA9 := Hd hc9
  have HB9 := Hd hb9
  clear hx9 hc9 hb9 hge9
  have HB3 := Lib.hid (HB2.out.trans (HB9.out.mono HB2.out.size))
  have HDC3 := Lib.hid (HDC2.out.trans (HB9.out.mono HDC2.out.size))
  clear eC2_0
  obtain ⟨eC3_0⟩ := HCC.out w9 HDC3.out
  have HCX := Hd (fun wz (hz : Below w9.heap.size w9 wz) => cel3 ((hz.block _ (lt_of_heap ((HB9.out.block _ (lt_of_heap HX7.out)).trans HX7.out))).trans ((HB9.out.block _ (lt_of_heap HX7.out)).trans HX7.out)))
  have HCY := Hd (fun wz (hz : Below w9.heap.size w9 wz) => cel3 ((hz.block _ (lt_of_heap HX9.out)).trans HX9.out))
  have HAX := Hd (HA7.out.below HB9.out)
  have HAY := HA9
  have HDX3 : Hid (Below w9.heap.size w9 w9) := Hd brf
  have HDY3 : Hid (Below w9.heap.size w9 w9) := Hd brf
  obtain ⟨eX3_0, eX3_1, eX3_2⟩ := HCX.out w9 brf
  obtain ⟨eY3_0, eY3_1, eY3_2⟩ := HCY.out w9 brf
  go_wp2_with fail
  have HEE := l12at_any (1) (3) (w9)
  refine HEE.mono ?_
  rintro e q1 ⟨rfl, h0⟩
  clear HEE
  have hq1 := btr (Below.refl _ _ : Below w9.heap.size w9 w9) h0
  clear h0
  have h0 : Below q1.heap.size q1 (q1.alloc (.cells #[.int .i64 (1), .int .i64 (3)] 30)) := bal
  have hq2 := btr hq1 h0
  have d3 : Arr DotR 2 (q1.alloc (.cells #[.int .i64 (1), .int .i64 (3)] 30)) (.slice (some ⟨q1.heap.size, 0, none⟩) 1 1) [⟨1, 3⟩] := lit_dots [⟨1, 3⟩] (by unfold maxLen; simp) (di_all (by decide))
  clear h0
  go_wp2_with fail
  have HEE := l12con_any 0 0 rfl [⟨1, 3⟩] _ _ _ _ d3 (by decide)
  refine HEE.mono ?_
  rintro e q3 ⟨vc, rfl, ⟨c1_a, c1_b, c1_c, c1_d, c1_e, c1_f, rfl, ca, cb⟩, h0⟩
  clear HEE
  have hq3 := btr hq2 h0
  clear d3
  have ca : Arr DotR 2 _ _ ([] : List DotD) := ca
  have cb : Arr DotR 2 _ _ ([⟨1, 3⟩] : List DotD) := cb
  clear h0
  go_wp2_with fail
  have HEE := l12mark_any (1) (3) (1) (M + 1) (q3)
  refine HEE.mono ?_
  rintro e q4 ⟨rfl, h0⟩
  clear HEE
  have hq4 := btr hq3 h0
  have ca := ca.dots h0
  have cb := cb.dots h0
  clear h0
  have h0 : Below q4.heap.size q4 (q4.alloc (.cells #[.int .i64 (1), .int .i64 (3), .int .i64 (1), .int .u64 (M + 1)] 55)) := bal
  have hq5 := btr hq4 h0
  have ca := ca.dots h0
  have cb := cb.dots h0
  have m1q : Arr MarkR 4 (q4.alloc (.cells #[.int .i64 (1), .int .i64 (3), .int .i64 (1), .int .u64 (M + 1)] 55)) (.slice (some ⟨q4.heap.size, 0, none⟩) 1 1) [⟨⟨1, 3⟩, 1, M + 1⟩] := lit_marks [⟨⟨1, 3⟩, 1, M + 1⟩] (by unfold maxLen; simp) (HMI.out)
  clear h0
  go_wp2_with fail
  have HEE := l12item_any tmZ (some ⟨q4.heap.size, 0, none⟩) 1 1 ((q4.alloc (.cells #[.int .i64 (1), .int .i64 (3), .int .i64 (1), .int .u64 (M + 1)] 55)))
  refine HEE.mono ?_
  rintro e q6 ⟨rfl, h0⟩
  clear HEE
  have hq6 := btr hq5 h0
  have ca := ca.dots h0
  have cb := cb.dots h0
  have m1q := m1q.marks h0
  clear h0
  have h0 : Below q6.heap.size q6 (q6.alloc (.cells #[.string tmZ, .slice (some ⟨q4.heap.size, 0, none⟩) 1 1] 50)) := bal
  have hq7 := btr hq6 h0
  have ca := ca.dots h0
  have cb := cb.dots h0
  have its : Arr ItemR 2 (q6.alloc (.cells #[.string tmZ, .slice (some ⟨q4.heap.size, 0, none⟩) 1 1] 50)) (.slice (some ⟨q6.heap.size, 0, none⟩) 1 1) [⟨tmZ, [⟨⟨1, 3⟩, 1, M + 1⟩]⟩] := lit_items [⟨⟨tmZ, [⟨⟨1, 3⟩, 1, M + 1⟩]⟩, some ⟨q4.heap.size, 0, none⟩, 1⟩] (by unfold maxLen; simp) (by
    intro p hp
    simp only [List.mem_cons, List.not_mem_nil, or_false] at hp
    rcases hp with rfl
    ·exact ⟨show ByteArray.size tmZ ≤ maxLen by decide, m1q⟩)
  clear h0
  obtain ⟨WD, HWD, HBD0, HSWD, HCD⟩ := box1 (q6.alloc (.cells #[.string tmZ, .slice (some ⟨q4.heap.size, 0, none⟩) 1 1] 50)) #[.slice c1_a c1_b c1_c, .slice c1_d c1_e c1_f, .slice (some ⟨q6.heap.size, 0, none⟩) 1 1] 28
  have hAD : CartA WD (.slice c1_a c1_b c1_c) (.slice c1_d c1_e c1_f) (.slice (some ⟨q6.heap.size, 0, none⟩) 1 1) ⟨[], [⟨1, 3⟩], [⟨tmZ, [⟨⟨1, 3⟩, 1, M + 1⟩]⟩]⟩ := (show CartA (q6.alloc (.cells #[.string tmZ, .slice (some ⟨q4.heap.size, 0, none⟩) 1 1] 50)) (.slice c1_a c1_b c1_c) (.slice c1_d c1_e c1_f) (.slice (some ⟨q6.heap.size, 0, none⟩) 1 1) ⟨[], [⟨1, 3⟩], [⟨tmZ, [⟨⟨1, 3⟩, 1, M + 1⟩]⟩]⟩ from ⟨ca, cb, its⟩).below HBD0.out
  have HAD := Hd hAD
  clear hAD
  have hb := btr hq7 HBD0.out
  have HXBD := Hd (HCD.out WD brf)
  have HCD := Hd (fun wz hz => cel3 (HCD.out wz hz))
  try simp only [alloc_size] at HCD HXBD
  have HB4 := Lib.hid (HB3.out.trans (hb.mono HB3.out.size))
  have HDC4 := Lib.hid (HDC3.out.trans (hb.mono HDC3.out.size))
  have HDX4 := Lib.hid (HDX3.out.trans (hb.mono HDX3.out.size))
  have HDY4 := Lib.hid (HDY3.out.trans (hb.mono HDY3.out.size))
  have HDD4 : Hid (Below WD.heap.size WD WD) := Lib.hid (Below.refl _ _)
  clear hb HBD0
  clear eC3_0
  obtain ⟨eC4_0⟩ := HCC.out WD HDC4.out
  clear eX3_0 eX3_1 eX3_2
  obtain ⟨eX4_0, eX4_1, eX4_2⟩ := HCX.out WD HDX4.out
  clear eY3_0 eY3_1 eY3_2
  obtain ⟨eY4_0, eY4_1, eY4_2⟩ := HCY.out WD HDY4.out
  obtain ⟨eD4_0, eD4_1, eD4_2⟩ := HCD.out WD HDD4.out
  have hay := HAY.out.2.2
  rw [HYD.out] at hay
  obtain ⟨hr3, bi, oi, mb, om, mk, hs3, hbi, i1, hmb, i2⟩ := item_cells hay
  subst hr3 hs3
  have HIC := Hd (fun wz (hz : Below w9.heap.size w9 wz) => And.intro ((hz.cell (p := ⟨_, _, _⟩) hbi).trans i1) ((hz.cell (p := ⟨_, _, _⟩) hmb).trans i2))
  clear hay hbi i1 hmb i2
  have HX := Lib.hid (r10Equal_any _ _ _ _ _ _ _ _ WD (HAX.out.below HDX4.out) (HAD.out.below HDD4.out))
  rw [HXD.out, decide_eq_true rfl] at HX
  go_wp2_with (go_loud (rw [← HWD.out]))
  refine HX.out.mono ?_
  rintro e w5 ⟨rfl, hb⟩
  clear HX
  have HB5 := Lib.hid (HB4.out.trans (hb.mono HB4.out.size))
  have HDC5 := Lib.hid (HDC4.out.trans (hb.mono HDC4.out.size))
  clear eC4_0
  obtain ⟨eC5_0⟩ := HCC.out w5 HDC5.out
  have HDX5 := Lib.hid (HDX4.out.trans (hb.mono HDX4.out.size))
  clear eX4_0 eX4_1 eX4_2
  obtain ⟨eX5_0, eX5_1, eX5_2⟩ := HCX.out w5 HDX5.out
  have HDY5 := Lib.hid (HDY4.out.trans (hb.mono HDY4.out.size))
  clear eY4_0 eY4_1 eY4_2
  obtain ⟨eY5_0, eY5_1, eY5_2⟩ := HCY.out w5 HDY5.out
  have HDD5 := Lib.hid (HDD4.out.trans (hb.mono HDD4.out.size))
  clear eD4_0 eD4_1 eD4_2
  obtain ⟨eD5_0, eD5_1, eD5_2⟩ := HCD.out w5 HDD5.out
  clear hb
  obtain ⟨i1, i2⟩ := HIC.out _ HDY5.out
  have HX := Lib.hid (l12known_any w5 (HGL.out.below HB5.out))
  go_wp2_with fail
  refine HX.out.mono ?_
  rintro e wk ⟨rfl, hbk⟩
  clear HX
  have HBK := Lib.hid (HB5.out.trans (hbk.mono HB5.out.size))
  clear hbk
  go_wp2_with fail
  go_ret
  exact ⟨rfl, HB.out.trans (HBK.out.mono HB.out.size)⟩
end Go.Proofs.YtfnfbcaoihhbpaaGreatDoor
