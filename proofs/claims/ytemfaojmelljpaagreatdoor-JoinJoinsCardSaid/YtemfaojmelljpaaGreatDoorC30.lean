/- JoinJoins inside. -/
import Derived.Test.YtemfaojmelljpaaGreatDoorC25
import Derived.Test.YtemfaojmelljpaaGreatDoorR10c
import Derived.Test.YtemfaojmelljpaaGreatDoorC29
set_option linter.unusedSimpArgs false
set_option linter.unusedVariables false
set_option maxRecDepth 100000
set_option maxHeartbeats 16000000
namespace Go.Proofs.YtemfaojmelljpaaGreatDoor
open Go.RowKit Go.Maps Go.Sort Go.Shelf

theorem OwnC.set3 {base : Nat} {w : World} {x1 x2 x3 y1 y2 y3 : Value} {c : CartD} {g : Nat} {C : Array Value} (h : OwnC base w x1 x2 x3 c) (hg : w.heap[g]? = some (.cells C 28)) : OwnC base (set3c w g y1 y2 y3) x1 x2 x3 c := by
 obtain ⟨h1, h2, ps, h3, h4⟩ := h;refine ⟨h1.stay (fun q hq => set3c_oth (erow_ne h1 hg (by decide) q hq)), h2.stay (fun q hq => set3c_oth (erow_ne h2 hg (by decide) q hq)), ps, h3, h4.stayF (fun q hq _ hq2 => set3c_oth ?_)⟩
 rcases hq2 with hq2 | ⟨p, hp, hq2⟩
 ·exact erow_ne h4.1 hg (by decide) q hq2
 ·exact erow_ne (h4.2.1 p hp).1.2.1 hg (by decide) q hq2
theorem cf3 {w : World} {g : Nat} {x y z : Value} {T : TypeId} (h : w.heap[g]? = some (.cells #[x, y, z] T)) : (w.cell? ⟨g, 0, none⟩ = some x ∧ w.cell? ⟨g, 1, none⟩ = some y ∧ w.cell? ⟨g, 2, none⟩ = some z) ∧ w.frozen? ⟨g, 0, none⟩ = false ∧ w.frozen? ⟨g, 1, none⟩ = false ∧ w.frozen? ⟨g, 2, none⟩ = false := ⟨cel3 h, froz0 h 0, froz0 h 1, froz0 h 2⟩
def OwV (B : Nat) (w : World) (v : Value) (c : CartD) : Prop := ∃ x1 x2 x3, v = .agg #[x1, x2, x3] ∧ OwnC B w x1 x2 x3 c
def BxV (B : Nat) (w : World) (v : Value) : Prop := ∃ g x y z, v = .pointer (some ⟨g, 0, none⟩) ∧ B ≤ g ∧ w.heap[g]? = some (.cells #[x, y, z] 28)
def FuV (B : Nat) (w : World) (v : Value) (c : CartD) : Prop := ∃ g x y z, v = .pointer (some ⟨g, 0, none⟩) ∧ B ≤ g ∧ w.heap[g]? = some (.cells #[x, y, z] 28) ∧ OwnC B w x y z c
def JI (B : Nat) (a b : CartD) (x y : Value) (l : Array Bool) (u : Nat → Value) (w : World) : Prop :=
 (l.getD 0 false = true → u 0 = x) ∧ (l.getD 2 false = true → u 2 = y) ∧ (l.getD 1 false = true → OwV B w (u 1) a) ∧ (l.getD 3 false = true → OwV B w (u 3) b) ∧ (l.getD 4 false = true → BxV B w (u 4)) ∧ (l.getD 5 false = true → BxV B w (u 5)) ∧
 (l.getD 4 false = true → l.getD 5 false = true → u 4 ≠ u 5) ∧ (l.getD 6 false = true → l.getD 4 false = true ∧ FuV B w (u 4) a) ∧ (l.getD 7 false = true → l.getD 5 false = true ∧ FuV B w (u 5) b)
def JK (B : Nat) (a b : CartD) (x y : Value) (l : Array Bool) (u : Nat → Value) (w : World) (v : Value) : Nat → Prop
 | 0 => v = x
 | 1 => OwV B w v a
 | 2 => v = y
 | 3 => OwV B w v b
 | 4 => BxV B w v ∧ (l.getD 5 false = true → v ≠ u 5)
 | 5 => BxV B w v ∧ (l.getD 4 false = true → u 4 ≠ v)
 | 6 => l.getD 4 false = true ∧ FuV B w (u 4) a
 | _ => l.getD 5 false = true ∧ FuV B w (u 5) b
theorem jset {l : Array Bool} {i j : Nat} (e : j ≠ i) (h : (l.setIfInBounds i true).getD j false = true) : l.getD j false = true := (getD_set_ne e).symm.trans h
theorem jset' {l : Array Bool} {i j : Nat} (e : j ≠ i) (h : l.getD j false = true) : (l.setIfInBounds i true).getD j false = true := (getD_set_ne e).trans h
theorem JI.set {B : Nat} {a b : CartD} {x y : Value} {l : Array Bool} {u : Nat → Value} {w : World} {i : Nat} {v : Value} (h : JI B a b x y l u w) (h0 : l.getD i false = false) (k : JK B a b x y l u w v i) : JI B a b x y (l.setIfInBounds i true) (upd u i v) w := by
 obtain ⟨g0, g2, g1, g3, g4, g5, gd, g6, g7⟩ := h;have n4 : l.getD 4 false = true → 4 ≠ i := fun m e => by rw [← e, m] at h0; cases h0
 have n5 : l.getD 5 false = true → 5 ≠ i := fun m e => by rw [← e, m] at h0; cases h0
 refine ⟨fun q => ?_, fun q => ?_, fun q => ?_, fun q => ?_, fun q => ?_, fun q => ?_, fun q r => ?_, fun q => ?_, fun q => ?_⟩
 ·by_cases e : 0 = i
  ·subst e
   rw [upd_same];exact k
  ·rw [upd_ne e]
   exact g0 (jset e q)
 ·by_cases e : 2 = i
  ·subst e
   rw [upd_same];exact k
  ·rw [upd_ne e]
   exact g2 (jset e q)
 ·by_cases e : 1 = i
  ·subst e
   rw [upd_same];exact k
  ·rw [upd_ne e]
   exact g1 (jset e q)
 ·by_cases e : 3 = i
  ·subst e
   rw [upd_same];exact k
  ·rw [upd_ne e]
   exact g3 (jset e q)
 ·by_cases e : 4 = i
  ·subst e
   rw [upd_same];exact k.1
  ·rw [upd_ne e]
   exact g4 (jset e q)
 ·by_cases e : 5 = i
  ·subst e
   rw [upd_same];exact k.1
  ·rw [upd_ne e]
   exact g5 (jset e q)
 ·by_cases e : 4 = i
  ·subst e
   rw [upd_same, upd_ne (by decide)]
   exact k.2 (jset (by decide) r)
  ·by_cases e5 : 5 = i
   ·subst e5
    rw [upd_same, upd_ne (by decide)]
    exact k.2 (jset (by decide) q)
   ·rw [upd_ne e, upd_ne e5]
    exact gd (jset e q) (jset e5 r)
 ·by_cases e : 6 = i
  ·subst e
   rw [upd_ne (by decide)]
   exact ⟨jset' (by decide) k.1, k.2⟩
  ·have r := g6 (jset e q)
   rw [upd_ne (n4 r.1)];exact ⟨jset' (n4 r.1) r.1, r.2⟩
 ·by_cases e : 7 = i
  ·subst e
   rw [upd_ne (by decide)]
   exact ⟨jset' (by decide) k.1, k.2⟩
  ·have r := g7 (jset e q)
   rw [upd_ne (n5 r.1)];exact ⟨jset' (n5 r.1) r.1, r.2⟩
theorem getD_rep (n j : Nat) : (Array.replicate n false).getD j false = false := by
 rw [Array.getD_eq_getD_getElem?, Array.getElem?_replicate]
 split <;> rfl
theorem BxV.below {B : Nat} {w w' : World} {v : Value} (h : BxV B w v) (hb : Below w.heap.size w w') : BxV B w' v := by
 obtain ⟨g, x, y, z, e, k, q⟩ := h;exact ⟨g, x, y, z, e, k, (hb.block _ (lt_of_heap q)).trans q⟩
theorem JI.grow {B : Nat} {a b : CartD} {x y : Value} {l : Array Bool} {u : Nat → Value} {w w' : World} (h : JI B a b x y l u w) (hb : Below w.heap.size w w') : JI B a b x y l u w' := by
 obtain ⟨g0, g2, g1, g3, g4, g5, gd, g6, g7⟩ := h;have o : ∀ {v c}, OwV B w v c → OwV B w' v c := fun ⟨x, y, z, e, q⟩ => ⟨x, y, z, e, q.below hb⟩
 have f : ∀ {v c}, FuV B w v c → FuV B w' v c := fun ⟨g, x, y, z, e, k, q, r⟩ => ⟨g, x, y, z, e, k, (hb.block _ (lt_of_heap q)).trans q, r.below hb⟩
 exact ⟨g0, g2, fun q => o (g1 q), fun q => o (g3 q), fun q => (g4 q).below hb, fun q => (g5 q).below hb, gd, fun q => ⟨(g6 q).1, f (g6 q).2⟩, fun q => ⟨(g7 q).1, f (g7 q).2⟩⟩
theorem JI.put {B : Nat} {a b : CartD} {x y : Value} {l : Array Bool} {u : Nat → Value} {w : World} {g : Nat} {c0 c1 c2 : Value} (y1 y2 y3 : Value) (h : JI B a b x y l u w) (hg : w.heap[g]? = some (.cells #[c0, c1, c2] 28)) (k6 : l.getD 6 false = true → u 4 ≠ .pointer (some ⟨g, 0, none⟩)) (k7 : l.getD 7 false = true → u 5 ≠ .pointer (some ⟨g, 0, none⟩)) : JI B a b x y l u (set3c w g y1 y2 y3) := by
 obtain ⟨g0, g2, g1, g3, g4, g5, gd, g6, g7⟩ := h;have o : ∀ {v c}, OwV B w v c → OwV B (set3c w g y1 y2 y3) v c := fun ⟨x, y, z, e, q⟩ => ⟨x, y, z, e, q.set3 hg⟩
 have bx : ∀ {v}, BxV B w v → BxV B (set3c w g y1 y2 y3) v := fun ⟨p, x, y, z, e, k, q⟩ => by
  by_cases hp : p = g
  ·subst hp
   exact ⟨p, _, _, _, e, k, set3c_same _ _ _ q⟩
  ·exact ⟨p, _, _, _, e, k, (set3c_oth hp).trans q⟩
 have f : ∀ {v c}, v ≠ .pointer (some ⟨g, 0, none⟩) → FuV B w v c → FuV B (set3c w g y1 y2 y3) v c := fun hn ⟨p, x, y, z, e, k, q, r⟩ => ⟨p, x, y, z, e, k, (set3c_oth (fun hp => hn (by rw [e, hp]))).trans q, r.set3 hg⟩
 exact ⟨g0, g2, fun q => o (g1 q), fun q => o (g3 q), fun q => bx (g4 q), fun q => bx (g5 q), gd, fun q => ⟨(g6 q).1, f (k6 q) (g6 q).2⟩, fun q => ⟨(g7 q).1, f (k7 q) (g7 q).2⟩⟩
theorem BxV.ne {B : Nat} {w : World} {v : Value} (h : BxV B w v) : v ≠ .pointer (some ⟨w.heap.size, 0, none⟩) := by
 obtain ⟨g, x, y, z, e, k, q⟩ := h;intro e2;rw [e] at e2;injection e2 with e2
 injection e2 with e2
 injection e2 with e2
 have := lt_of_heap q;omega
theorem jjR5 (a b : CartD) (o1 o2 o3 o4 o5 o6 : Option Addr) (n1 k1 n2 k2 n3 k3 n4 k4 n5 k5 n6 k6 p2 p3 : Nat) (z0 z1 z4 z5 z6 z7 z8 z9 z10 z11 z12 z13 z14 z15 z16 z17 z18 z19 z20 z21 z22 z23 z24 z25 z26 z27 z28 z29 z30 z31 z32 z33 z34 z35 z36 z37 z38 z39 z40 z41 z42 z43 z44 z45 z46 z47 z48 z49 z50 z51 z52 z53 z54 z55 z56 z57 z58 z59 z60 z61 z62 z63 z64 z65 : Value) (WL : World) (R : Act → World → Prop)
  (hx2 : WL.heap[p2]? = some (.cells #[.slice o1 n1 k1, .slice o2 n2 k2, .slice o3 n3 k3] 28)) (hx3 : WL.heap[p3]? = some (.cells #[.slice o4 n4 k4, .slice o5 n5 k5, .slice o6 n6 k6] 28))
  (ha : CartA WL (.slice o1 n1 k1) (.slice o2 n2 k2) (.slice o3 n3 k3) a) (hb : CartA WL (.slice o4 n4 k4) (.slice o5 n5 k5) (.slice o6 n6 k6) b) (hsa : SzC a) (hsb : SzC b)
  (hQ : ∀ (g5 g6 : Nat) (u33 u34 u35 u36 : Value) (wx : World), ((∃ x1 x2 x3, wx.heap[g5]? = some (.cells #[x1, x2, x3] 28) ∧ OwnC WL.heap.size wx x1 x2 x3 a) ∧ (∃ x1 x2 x3, wx.heap[g6]? = some (.cells #[x1, x2, x3] 28) ∧ OwnC WL.heap.size wx x1 x2 x3 b) ∧ Below WL.heap.size WL wx) → WL.heap.size ≤ g5 → WL.heap.size ≤ g6 → R { tmps := #[z0, z1, .pointer (some ⟨p2, 0, none⟩), .pointer (some ⟨p3, 0, none⟩), z4, .pointer (some ⟨g5, 0, none⟩), .pointer (some ⟨g6, 0, none⟩), z7, z8, z9, z10, z11, z12, z13, z14, z15, z16, z17, z18, z19, z20, z21, z22, z23, z24, z25, z26, z27, z28, z29, z30, z31, z32, u33, u34, u35, u36, z37, z38, z39, z40, z41, z42, z43, z44, z45, z46, z47, z48, z49, z50, z51, z52, z53, z54, z55, z56, z57, z58, z59, z60, z61, z62, z63, z64, z65], defers := [] } wx) :
  (codeAt [1, 1, 1, 0] (Tryz.f3.body.getD .skip)).wp Tryz.prog (NQ R) { tmps := #[z0, z1, .pointer (some ⟨p2, 0, none⟩), .pointer (some ⟨p3, 0, none⟩), z4, z5, z6, z7, z8, z9, z10, z11, z12, z13, z14, z15, z16, z17, z18, z19, z20, z21, z22, z23, z24, z25, z26, z27, z28, z29, z30, z31, z32, z33, z34, z35, z36, z37, z38, z39, z40, z41, z42, z43, z44, z45, z46, z47, z48, z49, z50, z51, z52, z53, z54, z55, z56, z57, z58, z59, z60, z61, z62, z63, z64, z65], defers := [] } WL := by
 have HC2 : Hid (∀ wz, Below WL.heap.size WL wz → _) := Hd (fun wz hz => cel3 ((hz.block _ (lt_of_heap hx2)).trans hx2))
 have HC3 : Hid (∀ wz, Below WL.heap.size WL wz → _) := Hd (fun wz hz => cel3 ((hz.block _ (lt_of_heap hx3)).trans hx3))
 have HCA : Hid (∀ wz, Below WL.heap.size WL wz → Calls Tryz.prog 12 #[.agg #[.slice o1 n1 k1, .slice o2 n2 k2, .slice o3 n3 k3]] wz fun e w' => ∃ x1 x2 x3, e = .returned (.agg #[x1, x2, x3]) ∧ OwnC wz.heap.size w' x1 x2 x3 a ∧ Below wz.heap.size wz w') := Hd (fun wz hz => r10Copy_any a _ _ _ wz (ha.below hz) hsa)
 have HCB : Hid (∀ wz, Below WL.heap.size WL wz → Calls Tryz.prog 12 #[.agg #[.slice o4 n4 k4, .slice o5 n5 k5, .slice o6 n6 k6]] wz fun e w' => ∃ x1 x2 x3, e = .returned (.agg #[x1, x2, x3]) ∧ OwnC wz.heap.size w' x1 x2 x3 b ∧ Below wz.heap.size wz w') := Hd (fun wz hz => r10Copy_any b _ _ _ wz (hb.below hz) hsb)
 clear hx2 hx3 ha hb hsa hsb;simp only [codeAt, codeL, codeR, Tryz.f3, Option.getD_some];refine wp_region_any (by kernel_rfl) ?_
 try (change wpAny _ _ _ _ _ _ _ (World.drew _))
 refine wpAny_invL 8 #[true, true, true, true, true, true, true, true] (fun l a' w' => ∃ u : Nat → Value, a' = { tmps := #[z0, z1, .pointer (some ⟨p2, 0, none⟩), .pointer (some ⟨p3, 0, none⟩), z4, u 4, u 5, z7, z8, z9, z10, z11, z12, z13, z14, z15, z16, z17, z18, z19, z20, z21, z22, z23, z24, z25, z26, z27, z28, z29, z30, z31, z32, u 0, u 1, u 2, u 3, z37, z38, z39, z40, z41, z42, z43, z44, z45, z46, z47, z48, z49, z50, z51, z52, z53, z54, z55, z56, z57, z58, z59, z60, z61, z62, z63, z64, z65], defers := [] } ∧ Below WL.heap.size WL w' ∧ JI WL.heap.size a b (.agg #[.slice o1 n1 k1, .slice o2 n2 k2, .slice o3 n3 k3]) (.agg #[.slice o4 n4 k4, .slice o5 n5 k5, .slice o6 n6 k6]) l u w') (by decide +kernel) (by decide +kernel) (by decide +kernel) (by decide +kernel) (by decide +kernel) ?_ ?_ _ _ ⟨fun j => #[z33, z34, z35, z36, z5, z6, undef, undef].getD j undef, rfl, bdr, by simp [JI, getD_rep]⟩
 ·intro i hi l a' w hl hl0 hI K hK
  obtain ⟨u, rfl, hS, hJ⟩ := hI;have hc : i = 0 ∨ i = 1 ∨ i = 2 ∨ i = 3 ∨ i = 4 ∨ i = 5 ∨ i = 6 ∨ i = 7 := by omega
  clear hi
  rcases hc with rfl | rfl | rfl | rfl | rfl | rfl | rfl | rfl
  ·refine wpOp_of rfl ?_
   obtain ⟨f0, f1, f2⟩ := HC2.out w hS;go_simp;refine hK _ _ ⟨upd u 0 (.agg #[.slice o1 n1 k1, .slice o2 n2 k2, .slice o3 n3 k3]), ?_, hS, JI.set hJ hl0 rfl⟩;simp only [Act.put, s1, s2, s3, s4, s5, s6, upd, Nat.reduceEqDiff, reduceIte]
  ·have e0 := hJ.1 (hl 0 (by decide +kernel))
   simp only [e0];refine wpOp_of rfl ?_;go_simp
   go_at_call 12
   refine (HCA.out _ hS).mono ?_;rintro e w1 ⟨x1, x2, x3, rfl, ho, hb1⟩;go_simp;refine hK _ _ ⟨upd u 1 (.agg #[x1, x2, x3]), ?_, btr hS hb1, JI.set (hJ.grow hb1) hl0 ⟨x1, x2, x3, rfl, ho.mono hS.size⟩⟩;simp only [Act.put, s1, s2, s3, s4, s5, s6, upd, Nat.reduceEqDiff, reduceIte, e0]
  ·refine wpOp_of rfl ?_
   obtain ⟨f0, f1, f2⟩ := HC3.out w hS;go_simp;refine hK _ _ ⟨upd u 2 (.agg #[.slice o4 n4 k4, .slice o5 n5 k5, .slice o6 n6 k6]), ?_, hS, JI.set hJ hl0 rfl⟩;simp only [Act.put, s1, s2, s3, s4, s5, s6, upd, Nat.reduceEqDiff, reduceIte]
  ·have e2 := hJ.2.1 (hl 2 (by decide +kernel))
   simp only [e2];refine wpOp_of rfl ?_;go_simp
   go_at_call 12
   refine (HCB.out _ hS).mono ?_;rintro e w1 ⟨x1, x2, x3, rfl, ho, hb1⟩;go_simp;refine hK _ _ ⟨upd u 3 (.agg #[x1, x2, x3]), ?_, btr hS hb1, JI.set (hJ.grow hb1) hl0 ⟨x1, x2, x3, rfl, ho.mono hS.size⟩⟩;simp only [Act.put, s1, s2, s3, s4, s5, s6, upd, Nat.reduceEqDiff, reduceIte, e2]
  ·refine wpOp_of rfl ?_
   go_simp;refine hK _ _ ⟨upd u 4 (.pointer (some ⟨w.heap.size, 0, none⟩)), ?_, btr hS bal, JI.set (hJ.grow bal) hl0 ⟨⟨_, _, _, _, rfl, hS.size, alloc_new _ _⟩, fun q => (hJ.2.2.2.2.2.1 q).ne.symm⟩⟩
   simp only [Act.put, s1, s2, s3, s4, s5, s6, upd, Nat.reduceEqDiff, reduceIte]
  ·refine wpOp_of rfl ?_
   go_simp;refine hK _ _ ⟨upd u 5 (.pointer (some ⟨w.heap.size, 0, none⟩)), ?_, btr hS bal, JI.set (hJ.grow bal) hl0 ⟨⟨_, _, _, _, rfl, hS.size, alloc_new _ _⟩, fun q => (hJ.2.2.2.2.1 q).ne⟩⟩
   simp only [Act.put, s1, s2, s3, s4, s5, s6, upd, Nat.reduceEqDiff, reduceIte]
  ·obtain ⟨x1, x2, x3, e1, ho⟩ := hJ.2.2.1 (hl 1 (by decide +kernel))
   obtain ⟨y1, r1, rfl⟩ := ho.1.slice;obtain ⟨y2, r2, rfl⟩ := ho.2.1.slice;obtain ⟨y3, t3, r3, rfl⟩ : ∃ y n r, x3 = .slice y n r := by obtain ⟨_, _, _, _, h⟩ := ho; obtain ⟨_, _, e⟩ := h.1.slice; exact ⟨_, _, _, e⟩
   obtain ⟨g, c0, c1, c2, e4, hg, hx⟩ := hJ.2.2.2.2.1 (hl 4 (by decide +kernel))
   simp only [e1, e4];refine wpOp_of rfl ?_;obtain ⟨⟨t0, t1, t2⟩, f0, f1, f2⟩ := cf3 hx;go_simp;refine hK _ _ ⟨upd u 6 (undef), ?_, set3c_below _ _ _ hS hg, JI.set (hJ.put _ _ _ hx (fun q => by rw [hl0] at q; cases q) (fun q r => hJ.2.2.2.2.2.2.1 (hl 4 (by decide +kernel)) (hJ.2.2.2.2.2.2.2.2 q).1 (e4.trans r.symm))) hl0 ⟨hl 4 (by decide +kernel), g, _, _, _, e4, hg, set3c_same _ _ _ hx, ho.set3 hx⟩⟩
   simp only [Act.put, s1, s2, s3, s4, s5, s6, upd, Nat.reduceEqDiff, reduceIte, e1, e4]
  ·obtain ⟨x1, x2, x3, e3, ho⟩ := hJ.2.2.2.1 (hl 3 (by decide +kernel))
   obtain ⟨y1, r1, rfl⟩ := ho.1.slice;obtain ⟨y2, r2, rfl⟩ := ho.2.1.slice;obtain ⟨y3, t3, r3, rfl⟩ : ∃ y n r, x3 = .slice y n r := by obtain ⟨_, _, _, _, h⟩ := ho; obtain ⟨_, _, e⟩ := h.1.slice; exact ⟨_, _, _, e⟩
   obtain ⟨g, c0, c1, c2, e5, hg, hx⟩ := hJ.2.2.2.2.2.1 (hl 5 (by decide +kernel))
   simp only [e3, e5];refine wpOp_of rfl ?_;obtain ⟨⟨t0, t1, t2⟩, f0, f1, f2⟩ := cf3 hx;go_simp;refine hK _ _ ⟨upd u 7 (undef), ?_, set3c_below _ _ _ hS hg, JI.set (hJ.put _ _ _ hx (fun q r => hJ.2.2.2.2.2.2.1 (hJ.2.2.2.2.2.2.2.1 q).1 (hl 5 (by decide +kernel)) (r.trans e5.symm)) (fun q => by rw [hl0] at q; cases q)) hl0 ⟨hl 5 (by decide +kernel), g, _, _, _, e5, hg, set3c_same _ _ _ hx, ho.set3 hx⟩⟩
   simp only [Act.put, s1, s2, s3, s4, s5, s6, upd, Nat.reduceEqDiff, reduceIte, e3, e5]
 ·intro a' w hI
  obtain ⟨u, rfl, hS, hJ⟩ := hI;obtain ⟨g5, x1, x2, x3, e4, hg5, hx5, ho5⟩ := (hJ.2.2.2.2.2.2.2.1 (by decide +kernel)).2
  obtain ⟨g6, y1, y2, y3, e5, hg6, hx6, ho6⟩ := (hJ.2.2.2.2.2.2.2.2 (by decide +kernel)).2
  simp only [e4, e5];refine wpAny_done (by kernel_rfl) ?_ _
  simp only [NQ];exact hQ _ _ _ _ _ _ w ⟨⟨_, _, _, hx5, ho5⟩, ⟨_, _, _, hx6, ho6⟩, hS⟩ hg5 hg6
theorem spoil_own {base : Nat} {w : World} {x1 x2 x3 : Value} {c : CartD} (h : OwnC base w x1 x2 x3 c) (hv : validC c = true) (hb : base ≤ w.heap.size) : Calls Tryz.prog 16 #[.agg #[x1, x2, x3]] w fun e w' => e = .returned (.tuple #[]) ∧ Below base w w' := by
 obtain ⟨h1, h2, ps, h3, h4⟩ := h;have hi := (validC_parts hv).2.1;have hap1 : ∀ b n c1, x1 = .slice (some ⟨b, 0, none⟩) n c1 → ∀ g n3 c3, x3 = .slice (some ⟨g, 0, none⟩) n3 c3 → b ≠ g := fun b n c1 e1 g n3 c3 e3 e => by
  have := rows_apart h1 h4.1 (by decide) b (by rw [e1]; rfl)
  rw [e3, e] at this;exact this rfl
 have hap2 : ∀ b n c1, x2 = .slice (some ⟨b, 0, none⟩) n c1 → ∀ g n3 c3, x3 = .slice (some ⟨g, 0, none⟩) n3 c3 → b ≠ g := fun b n c1 e1 g n3 c3 e3 e => by
  have := rows_apart h2 h4.1 (by decide) b (by rw [e1]; rfl)
  rw [e3, e] at this;exact this rfl
 have l1 := h1.le;have l2 := h2.le;obtain ⟨o1, c1, rfl, s1⟩ := h1.shpD;obtain ⟨o2, c2, rfl, s2⟩ := h2.shpD;obtain ⟨o3, c3, g, rfl, ho, hg, hle, hsh⟩ := h4.shp (fun p hp => Nat.le_trans (oneI_name ((validI_parts hi).1 _ (by rw [← h3]; exact List.mem_map_of_mem hp))) (by decide))
 refine l11spoil_any base o1 o2 o3 _ _ _ c1 c2 c3 g 0 w s1 s2 hsh ho ?_ ?_ hb hg rfl l1 l2 hle
 ·rcases ho with e | e
  ·exact Or.inl e
  ·exact Or.inr (fun b e1 => hap1 b _ _ (by rw [e1]) g _ _ (by rw [e]))
 ·rcases ho with e | e
  ·exact Or.inl e
  ·exact Or.inr (fun b e1 => hap2 b _ _ (by rw [e1]) g _ _ (by rw [e]))
theorem bad_joins {a b : CartD} (h : validC a = false ∨ validC b = false) : (decide (joinR a b = zeroC) && (joinE a b == 2)) = true := by
 unfold joinR joinE
 rcases h with h | h <;> rw [h] <;> simp
theorem l11Joins_any (a b : CartD) (xa1 xa2 xa3 xb1 xb2 xb3 : Value) (w : World) (ha : CartA w xa1 xa2 xa3 a) (hb : CartA w xb1 xb2 xb3 b) (hG : GlobIs w) :
    Calls Tryz.prog 3 #[.agg #[xa1, xa2, xa3], .agg #[xb1, xb2, xb3]] w fun e w' => e = .returned (.bool true) ∧ Below w.heap.size w w' := by
  obtain ⟨o1, k1, rfl⟩ := ha.1.slice;obtain ⟨o2, k2, rfl⟩ := ha.2.1.slice;obtain ⟨o3, k3, rfl⟩ := ha.2.2.slice;obtain ⟨o4, k4, rfl⟩ := hb.1.slice;obtain ⟨o5, k5, rfl⟩ := hb.2.1.slice;obtain ⟨o6, k6, rfl⟩ := hb.2.2.slice;obtain ⟨n1, hn1⟩ : ∃ n, n = a.vec.length := ⟨_, rfl⟩;obtain ⟨n2, hn2⟩ : ∃ n, n = a.cloud.length := ⟨_, rfl⟩;obtain ⟨n3, hn3⟩ : ∃ n, n = a.items.length := ⟨_, rfl⟩;rw [← hn1, ← hn2, ← hn3] at ha;rw [← hn1, ← hn2, ← hn3];obtain ⟨n4, hn4⟩ : ∃ n, n = b.vec.length := ⟨_, rfl⟩;obtain ⟨n5, hn5⟩ : ∃ n, n = b.cloud.length := ⟨_, rfl⟩;obtain ⟨n6, hn6⟩ : ∃ n, n = b.items.length := ⟨_, rfl⟩;rw [← hn4, ← hn5, ← hn6] at hb;rw [← hn4, ← hn5, ← hn6];obtain ⟨W0, hW0⟩ : ∃ x, x = w.alloc (.cells #[.slice o1 n1 k1, .slice o2 n2 k2, .slice o3 n3 k3] 28) := ⟨_, rfl⟩;have hs0 : W0.heap.size = w.heap.size + 1 := by rw [hW0, alloc_size]
  have hst0 : Below w.heap.size w W0 := by rw [hW0]; exact (Below.refl _ _).alloc (Nat.le_refl _) _
  have hbb0 : Below w.heap.size w W0 := hst0;have hx0_0 : W0.heap[w.heap.size]? = some (.cells #[.slice o1 n1 k1, .slice o2 n2 k2, .slice o3 n3 k3] 28) := by rw [hW0]; exact alloc_new _ _
  obtain ⟨W1, hW1⟩ : ∃ x, x = W0.alloc (.cells #[.slice o4 n4 k4, .slice o5 n5 k5, .slice o6 n6 k6] 28) := ⟨_, rfl⟩;have hs1 : W1.heap.size = w.heap.size + 1 + 1 := by rw [hW1, alloc_size, hs0]
  have hst1 : Below W0.heap.size W0 W1 := by rw [hW1]; exact (Below.refl _ _).alloc (Nat.le_refl _) _
  have hbb1 : Below w.heap.size w W1 := hbb0.trans (hst1.mono hbb0.size);have hx1_1 : W1.heap[w.heap.size + 1]? = some (.cells #[.slice o4 n4 k4, .slice o5 n5 k5, .slice o6 n6 k6] 28) := by rw [hW1, ← hs0]; exact alloc_new _ _
  have hx0_1 : W1.heap[w.heap.size]? = _ := (hst1.block _ (lt_of_heap hx0_0)).trans hx0_0;have HC : Hid (∀ wz, Below W1.heap.size W1 wz → ((wz.cell? ⟨w.heap.size, 0, none⟩ = some (.slice o1 n1 k1)) ∧ (wz.cell? ⟨w.heap.size, 1, none⟩ = some (.slice o2 n2 k2)) ∧ (wz.cell? ⟨w.heap.size, 2, none⟩ = some (.slice o3 n3 k3))) ∧ ((wz.cell? ⟨w.heap.size + 1, 0, none⟩ = some (.slice o4 n4 k4)) ∧ (wz.cell? ⟨w.heap.size + 1, 1, none⟩ = some (.slice o5 n5 k5)) ∧ (wz.cell? ⟨w.heap.size + 1, 2, none⟩ = some (.slice o6 n6 k6)))) := Lib.hid (fun wz hz => by
    have z0 := (hz.block _ (lt_of_heap hx0_1)).trans hx0_1;have z1 := (hz.block _ (lt_of_heap hx1_1)).trans hx1_1;exact ⟨⟨by rw [cell0 z0 0]; rfl, by rw [cell0 z0 1]; rfl, by rw [cell0 z0 2]; rfl⟩, ⟨by rw [cell0 z1 0]; rfl, by rw [cell0 z1 1]; rfl, by rw [cell0 z1 2]; rfl⟩⟩)
  have HK0 : Hid (∀ wz, Below W1.heap.size W1 wz → wz.heap[w.heap.size]? = some (.cells #[.slice o1 n1 k1, .slice o2 n2 k2, .slice o3 n3 k3] 28)) := Lib.hid (fun wz hz => (hz.block _ (lt_of_heap hx0_1)).trans hx0_1)
  have HK1 : Hid (∀ wz, Below W1.heap.size W1 wz → wz.heap[w.heap.size + 1]? = some (.cells #[.slice o4 n4 k4, .slice o5 n5 k5, .slice o6 n6 k6] 28)) := Lib.hid (fun wz hz => (hz.block _ (lt_of_heap hx1_1)).trans hx1_1)
  have HB := Lib.hid hbb1;have HS : Hid (W1.heap.size = w.heap.size + 1 + 1) := Lib.hid hs1;have HW : Hid (W1 = (w.alloc (.cells #[.slice o1 n1 k1, .slice o2 n2 k2, .slice o3 n3 k3] 28)).alloc (.cells #[.slice o4 n4 k4, .slice o5 n5 k5, .slice o6 n6 k6] 28)) := Lib.hid (by rw [hW1, hW0])
  have HAa := Lib.hid (ha.below hbb1);have HAb := Lib.hid (hb.below hbb1);have HGL := Lib.hid (hG.below hbb1);have HB0 : Hid (Below W1.heap.size W1 W1) := Lib.hid (Below.refl _ _);clear hW0 hs0 hst0 hW1 hs1 hst1 hx0_0 hx0_1 hx1_1 hbb0 hbb1 ha hb hG hn1 hn2 hn3 hn4 hn5 hn6;obtain ⟨⟨c0_0_0, c0_0_1, c0_0_2⟩, ⟨c0_1_0, c0_1_1, c0_1_2⟩⟩ := HC.out W1 (Below.refl _ _)
  go_enter Tryz.func3, Tryz.ntmps3
  go_wp2_with fail
  rw [← HW.out];have HX := Lib.hid (l11light_any a _ _ _ W1 (HAa.out.below HB0.out));obtain ⟨r1, hr1⟩ : ∃ r, r = lightC a := ⟨_, rfl⟩;rw [← hr1] at HX;have HRr1 := Lib.hid hr1;clear hr1;refine HX.out.mono ?_;rintro e w1 ⟨rfl, hb⟩;clear HX;have HB1 := Lib.hid (HB0.out.trans (hb.mono HB0.out.size));clear c0_0_0 c0_0_1 c0_0_2 c0_1_0 c0_1_1 c0_1_2;obtain ⟨⟨c1_0_0, c1_0_1, c1_0_2⟩, ⟨c1_1_0, c1_1_1, c1_1_2⟩⟩ := HC.out w1 HB1.out;clear hb
  cases r1 with
  | false =>
    have HX := Lib.hid (l11known_any w1 (HGL.out.below HB1.out))
    go_wp2_with fail
    refine HX.out.mono ?_;rintro e wk ⟨rfl, hbk⟩;clear HX;have HBK := Lib.hid (HB1.out.trans (hbk.mono HB1.out.size));clear hbk
    go_wp2_with fail
    go_ret
    exact ⟨rfl, HB.out.trans (HBK.out.mono HB.out.size)⟩
  | true =>
    have HLa := Lib.hid (lightC_CL HRr1.out.symm);clear HRr1;have HX := Lib.hid (l11light_any b _ _ _ w1 (HAb.out.below HB1.out));obtain ⟨r2, hr2⟩ : ∃ r, r = lightC b := ⟨_, rfl⟩;rw [← hr2] at HX;have HRr2 := Lib.hid hr2;clear hr2
    go_wp2_with fail
    refine HX.out.mono ?_;rintro e w2 ⟨rfl, hb⟩;clear HX;have HB2 := Lib.hid (HB1.out.trans (hb.mono HB1.out.size));clear c1_0_0 c1_0_1 c1_0_2 c1_1_0 c1_1_1 c1_1_2;obtain ⟨⟨c2_0_0, c2_0_1, c2_0_2⟩, ⟨c2_1_0, c2_1_1, c2_1_2⟩⟩ := HC.out w2 HB2.out;clear hb
    cases r2 with
    | false =>
      have HX := Lib.hid (l11known_any w2 (HGL.out.below HB2.out))
      go_wp2_with fail
      refine HX.out.mono ?_;rintro e wk ⟨rfl, hbk⟩;clear HX;have HBK := Lib.hid (HB2.out.trans (hbk.mono HB2.out.size));clear hbk
      go_wp2_with fail
      go_ret
      exact ⟨rfl, HB.out.trans (HBK.out.mono HB.out.size)⟩
    | true =>
      have HLb := Lib.hid (lightC_CL HRr2.out.symm);clear HRr2;have HX := Lib.hid (r10Valid_any a _ _ _ w2 (HAa.out.below HB2.out) (HLa.out.sz (by omega)).1)
      obtain ⟨v1, hv1⟩ : ∃ r, r = validC a := ⟨_, rfl⟩;rw [← hv1] at HX;have HRv1 := Lib.hid hv1;clear hv1
      go_wp2_with fail
      refine HX.out.mono ?_;rintro e w3 ⟨rfl, hb⟩;clear HX;have HB3 := Lib.hid (HB2.out.trans (hb.mono HB2.out.size));clear c2_0_0 c2_0_1 c2_0_2 c2_1_0 c2_1_1 c2_1_2;obtain ⟨⟨c3_0_0, c3_0_1, c3_0_2⟩, ⟨c3_1_0, c3_1_1, c3_1_2⟩⟩ := HC.out w3 HB3.out;clear hb
      cases v1 with
      | false =>
        have HBAD := Lib.hid (bad_joins (a := a) (b := b) (by first | exact Or.inl HRv1.out.symm | exact Or.inr HRv2.out.symm))
        have HX := Lib.hid (l11joins_any a b zeroC 2 _ _ _ _ _ _ (.slice none 0 0) (.slice none 0 0) (.slice none 0 0) w3 (HAa.out.below HB3.out) (HAb.out.below HB3.out) ⟨arr_nil, arr_nil, arr_nil⟩ (HLa.out.sz (by omega)) (HLb.out.sz (by omega)) (HGL.out.below HB3.out))
        rw [HBAD.out] at HX
        go_wp2_with fail
        refine HX.out.mono ?_;rintro e w4 ⟨rfl, hb⟩;clear HX;have HB4 := Lib.hid (HB3.out.trans (hb.mono HB3.out.size));clear c3_0_0 c3_0_1 c3_0_2 c3_1_0 c3_1_1 c3_1_2;obtain ⟨⟨c4_0_0, c4_0_1, c4_0_2⟩, ⟨c4_1_0, c4_1_1, c4_1_2⟩⟩ := HC.out w4 HB4.out;clear hb;have HX := Lib.hid (l11known_any w4 (HGL.out.below HB4.out))
        go_wp2_with fail
        refine HX.out.mono ?_;rintro e wk ⟨rfl, hbk⟩;clear HX;have HBK := Lib.hid (HB4.out.trans (hbk.mono HB4.out.size));clear hbk
        go_wp2_with fail
        go_ret
        exact ⟨rfl, HB.out.trans (HBK.out.mono HB.out.size)⟩
      | true =>
        have HX := Lib.hid (r10Valid_any b _ _ _ w3 (HAb.out.below HB3.out) (HLb.out.sz (by omega)).1)
        obtain ⟨v2, hv2⟩ : ∃ r, r = validC b := ⟨_, rfl⟩;rw [← hv2] at HX;have HRv2 := Lib.hid hv2;clear hv2
        go_wp2_with fail
        refine HX.out.mono ?_;rintro e w4 ⟨rfl, hb⟩;clear HX;have HB4 := Lib.hid (HB3.out.trans (hb.mono HB3.out.size));clear c3_0_0 c3_0_1 c3_0_2 c3_1_0 c3_1_1 c3_1_2;obtain ⟨⟨c4_0_0, c4_0_1, c4_0_2⟩, ⟨c4_1_0, c4_1_1, c4_1_2⟩⟩ := HC.out w4 HB4.out;clear hb
        cases v2 with
        | false =>
          have HBAD := Lib.hid (bad_joins (a := a) (b := b) (by first | exact Or.inl HRv1.out.symm | exact Or.inr HRv2.out.symm))
          have HX := Lib.hid (l11joins_any a b zeroC 2 _ _ _ _ _ _ (.slice none 0 0) (.slice none 0 0) (.slice none 0 0) w4 (HAa.out.below HB4.out) (HAb.out.below HB4.out) ⟨arr_nil, arr_nil, arr_nil⟩ (HLa.out.sz (by omega)) (HLb.out.sz (by omega)) (HGL.out.below HB4.out))
          rw [HBAD.out] at HX
          go_wp2_with fail
          refine HX.out.mono ?_;rintro e w5 ⟨rfl, hb⟩;clear HX;have HB5 := Lib.hid (HB4.out.trans (hb.mono HB4.out.size));clear c4_0_0 c4_0_1 c4_0_2 c4_1_0 c4_1_1 c4_1_2;obtain ⟨⟨c5_0_0, c5_0_1, c5_0_2⟩, ⟨c5_1_0, c5_1_1, c5_1_2⟩⟩ := HC.out w5 HB5.out;clear hb;have HX := Lib.hid (l11known_any w5 (HGL.out.below HB5.out))
          go_wp2_with fail
          refine HX.out.mono ?_;rintro e wk ⟨rfl, hbk⟩;clear HX;have HBK := Lib.hid (HB5.out.trans (hbk.mono HB5.out.size));clear hbk
          go_wp2_with fail
          go_ret
          exact ⟨rfl, HB.out.trans (HBK.out.mono HB.out.size)⟩
        | true =>
          have HVa := Lib.hid HRv1.out.symm;have HVb := Lib.hid HRv2.out.symm;clear HRv1 HRv2
          go_upto_region 5 with fail
          refine NQ.to (jjR5 a b o1 o2 o3 o4 o5 o6 n1 k1 n2 k2 n3 k3 n4 k4 n5 k5 n6 k6 w.heap.size (w.heap.size + 1) _ _ _ _ _ _ _ _ _ _ _ _ _ _ _ _ _ _ _ _ _ _ _ _ _ _ _ _ _ _ _ _ _ _ _ _ _ _ _ _ _ _ _ _ _ _ _ _ _ _ _ _ _ _ _ _ _ _ _ _ _ _ _ _ w4 _ (HK0.out _ HB4.out) (HK1.out _ HB4.out) (HAa.out.below HB4.out) (HAb.out.below HB4.out) (HLa.out.sz (by omega)) (HLb.out.sz (by omega)) ?_)
          intro g5 g6 u33 u34 u35 u36 wx hJ hg5 hg6;obtain ⟨⟨x1, x2, x3, hx5, ho5⟩, ⟨y1, y2, y3, hx6, ho6⟩, hbx⟩ := hJ;have hA5 := ho5.cart HVa.out;have hA6 := ho6.cart HVb.out;obtain ⟨p1, m1, q1, p2, m2, q2, p3, m3, q3, rfl, rfl, rfl, -, -, -⟩ := opn hA5;obtain ⟨p4, m4, q4, p5, m5, q5, p6, m6, q6, rfl, rfl, rfl, -, -, -⟩ := opn hA6;have HJ := Lib.hid (joinJoin_any a b _ _ _ _ _ _ wx hA5 hA6 (HLa.out.sz (by omega)) (HLb.out.sz (by omega)) (HGL.out.below (HB4.out.trans (hbx.mono HB4.out.size))))
          have HX5 := Lib.hid hx5;have HX6 := Lib.hid hx6;have HO5 := Lib.hid ho5;have HO6 := Lib.hid ho6;have HBX := Lib.hid (HB4.out.trans (hbx.mono HB4.out.size));have HG5 := Lib.hid hg5;have HG6 := Lib.hid hg6;obtain ⟨e0, e1, e2⟩ := cel3 hx5;obtain ⟨e3, e4, e5⟩ := cel3 hx6;clear hx5 hx6 ho5 ho6 hA5 hA6 hbx hg5 hg6 c4_0_0 c4_0_1 c4_0_2 c4_1_0 c4_1_1 c4_1_2;have hjt := joinR_true HVa.out HVb.out;have hvj := joinR_valid a b;rw [hjt.1] at hvj;have HVJ := Lib.hid hvj;rw [hjt.1, hjt.2] at HJ;clear hjt hvj
          go_wp2_with fail
          refine HJ.out.mono ?_;rintro e w5 ⟨z1, z2, z3, rfl, hown, hb5⟩;have hRA := hown.cart HVJ.out;obtain ⟨r1, l1, s1, r2, l2, s2, r3, l3, s3, rfl, rfl, rfl, -, -, -⟩ := opn hRA;obtain ⟨W6, HW6, HB6a, HS6, HK6⟩ := box1 w5 #[.slice r1 l1 s1, .slice r2 l2 s2, .slice r3 l3 s3] 28;have hb6 := btr hb5 HB6a.out;have HB6 := Lib.hid hb6;have HBZ := Lib.hid (btr HBX.out hb6);have HOW := Lib.hid (hown.below HB6a.out);have HRA := Lib.hid (hRA.below HB6a.out);have HCW : Hid (∀ wz, Below W6.heap.size W6 wz → _) := Lib.hid (fun wz hz => And.intro (cel3 (HK6.out wz hz)) (HC.out wz (btr HBZ.out hz)))
          have HX1 : Hid (∀ wz, Below W6.heap.size W6 wz → Calls Tryz.prog 15 #[.agg #[.slice o1 n1 k1, .slice o2 n2 k2, .slice o3 n3 k3], .agg #[.slice o4 n4 k4, .slice o5 n5 k5, .slice o6 n6 k6]] wz _) := Lib.hid (fun wz hz => r11Join_any a b _ _ _ _ _ _ wz (HAa.out.below (btr HBZ.out hz)) (HAb.out.below (btr HBZ.out hz)) HVa.out HVb.out (HLa.out.sz (by omega)) (HLb.out.sz (by omega)))
          have HEQ : Hid (∀ wz y1 y2 y3, Below W6.heap.size W6 wz → CartA wz y1 y2 y3 (refJoin a b) → Calls Tryz.prog 14 #[.agg #[.slice r1 l1 s1, .slice r2 l2 s2, .slice r3 l3 s3], .agg #[y1, y2, y3]] wz fun e w' => e = .returned (.bool true) ∧ Below wz.heap.size wz w') := Lib.hid (fun wz y1 y2 y3 hz hy => by have := r10Equal_any (refJoin a b) (refJoin a b) _ _ _ _ _ _ wz (HRA.out.below hz) hy; rw [decide_eq_true rfl] at this; exact this)
          clear hb5 hb6 hown hRA HJ HB6a e0 e1 e2 e3 e4 e5
          go_upto_region 7 with (go_loud (rw [← HW6.out]))
          refine NQ.to ?_;refine wp_region_held_drew (S := (fun wz => Below W6.heap.size W6 wz)) (by kernel_rfl) (bdr) (fun hS => ?_)
          try simp only [Act.put, s1, s2, s3, List.getElem_toArray, List.getElem_cons_succ, List.getElem_cons_zero]
          refine tkN (i := 0) (v := ?v1) rfl (by decide +kernel) (Or.inl ⟨by kernel_rfl, fun w hSw => ok_of fun z hz => ?h1⟩) hS ?_; (case h1 => (obtain ⟨⟨f0, f1, f2⟩, ⟨f3, f4, f5⟩, f6, f7, f8⟩ := HCW.out _ hSw; go_simp; exact hz))
          try simp only [Act.put, s1, s2, s3, List.getElem_toArray, List.getElem_cons_succ, List.getElem_cons_zero]
          refine tkN (i := 1) (v := ?v2) rfl (by decide +kernel) (Or.inl ⟨by kernel_rfl, fun w hSw => ok_of fun z hz => ?h2⟩) hS ?_; (case h2 => (obtain ⟨⟨f0, f1, f2⟩, ⟨f3, f4, f5⟩, f6, f7, f8⟩ := HCW.out _ hSw; go_simp; exact hz))
          try simp only [Act.put, s1, s2, s3, List.getElem_toArray, List.getElem_cons_succ, List.getElem_cons_zero]
          refine tkN (i := 2) (v := ?v3) rfl (by decide +kernel) (Or.inl ⟨by kernel_rfl, fun w hSw => ok_of fun z hz => ?h3⟩) hS ?_; (case h3 => (obtain ⟨⟨f0, f1, f2⟩, ⟨f3, f4, f5⟩, f6, f7, f8⟩ := HCW.out _ hSw; go_simp; exact hz))
          try simp only [Act.put, s1, s2, s3, List.getElem_toArray, List.getElem_cons_succ, List.getElem_cons_zero]
          refine wpAnyH_ready (rs := [3]) (by decide +kernel) (by simp) ?_
          refine (AllReadyH.cons rfl (fun K hK => ?_) AllReadyH.nil)
          go_simp
          go_at_call 15
          refine (HX1.out _ bdr).mono ?_;rintro e wx0 ⟨j1, j2, j3, rfl, hcj, hbn0⟩;obtain ⟨a1, a2, a3, a4, a5, a6, a7, a8, a9, rfl, rfl, rfl, -, -, -⟩ := opn hcj;have hbx0 := btr (show Below W6.heap.size W6 _ from bdr) hbn0
          go_simp;refine Shut.out hK _ _ (hbx0) (fun hS2 => ?_)
          clear hK K hS;have hS := hS2;clear hS2
          try simp only [Act.put, s1, s2, s3, List.getElem_toArray, List.getElem_cons_succ, List.getElem_cons_zero]
          refine wpAnyH_ready (rs := [4]) (by decide +kernel) (by simp) ?_
          refine (AllReadyH.cons rfl (fun K hK => ?_) AllReadyH.nil)
          go_simp
          go_at_call 14
          refine (HEQ.out wx0 _ _ _ hbx0 hcj).mono ?_;rintro e wx1 ⟨rfl, hbn1⟩;have hbx1 := btr hbx0 hbn1;go_simp;refine Shut.out hK _ _ (hbx1) (fun hS2 => ?_)
          clear hK K hS;have hS := hS2;clear hS2
          try simp only [Act.put, s1, s2, s3, List.getElem_toArray, List.getElem_cons_succ, List.getElem_cons_zero]
          refine tkN (i := 5) (v := ?v4) rfl (by decide +kernel) (Or.inl ⟨by kernel_rfl, fun w hSw => ok_of fun z hz => ?h4⟩) hS ?_; (case h4 => (go_simp; exact hz))
          try simp only [Act.put, s1, s2, s3, List.getElem_toArray, List.getElem_cons_succ, List.getElem_cons_zero]
          refine tkN (i := 6) (v := ?v5) rfl (by decide +kernel) (Or.inl ⟨by kernel_rfl, fun w hSw => ok_of fun z hz => ?h5⟩) hS ?_; (case h5 => (go_simp; exact hz))
          try simp only [Act.put, s1, s2, s3, List.getElem_toArray, List.getElem_cons_succ, List.getElem_cons_zero]
          refine tkN (i := 7) (v := ?v6) rfl (by decide +kernel) (Or.inl ⟨by kernel_rfl, fun w hSw => ok_of fun z hz => ?h6⟩) hS ?_; (case h6 => (go_simp; exact hz))
          try simp only [Act.put, s1, s2, s3, List.getElem_toArray, List.getElem_cons_succ, List.getElem_cons_zero]
          refine tkN (i := 8) (v := ?v7) rfl (by decide +kernel) (Or.inl ⟨by kernel_rfl, fun w hSw => ok_of fun z hz => ?h7⟩) hS ?_; (case h7 => (go_simp; exact hz))
          try simp only [Act.put, s1, s2, s3, List.getElem_toArray, List.getElem_cons_succ, List.getElem_cons_zero]
          refine tkN (i := 9) (v := ?v8) rfl (by decide +kernel) (Or.inl ⟨by kernel_rfl, fun w hSw => ok_of fun z hz => ?h8⟩) hS ?_; (case h8 => (go_simp; exact hz))
          try simp only [Act.put, s1, s2, s3, List.getElem_toArray, List.getElem_cons_succ, List.getElem_cons_zero]
          refine wpAnyH_done (by kernel_rfl) ?_ _
          try simp only [Act.put, s1, s2, s3, List.getElem_toArray, List.getElem_cons_succ, List.getElem_cons_zero]
          simp only [NQ];have HB1 := Lib.hid hbx1;obtain ⟨f0, f1, f2⟩ := (HCW.out _ hbx1).1;clear hbx0 hbx1 hbn0 hbn1 hcj hS;have HSP := Lib.hid (spoil_own (HOW.out.below HB1.out) HVJ.out (by have := HB6.out.size; have := HB1.out.size; omega))
          have HE5 : Hid (∀ wz, Below wx.heap.size wx wz → Calls Tryz.prog 14 #[.agg #[.slice p1 m1 q1, .slice p2 m2 q2, .slice p3 m3 q3], .agg #[.slice o1 n1 k1, .slice o2 n2 k2, .slice o3 n3 k3]] wz fun e w' => e = .returned (.bool true) ∧ Below wz.heap.size wz w') := Lib.hid (fun wz hz => by have := r10Equal_any a a _ _ _ _ _ _ wz ((HO5.out.cart HVa.out).below hz) (HAa.out.below (HBX.out.trans (hz.mono HBX.out.size))); rw [decide_eq_true rfl] at this; exact this)
          have HE6 : Hid (∀ wz, Below wx.heap.size wx wz → Calls Tryz.prog 14 #[.agg #[.slice p4 m4 q4, .slice p5 m5 q5, .slice p6 m6 q6], .agg #[.slice o4 n4 k4, .slice o5 n5 k5, .slice o6 n6 k6]] wz fun e w' => e = .returned (.bool true) ∧ Below wz.heap.size wz w') := Lib.hid (fun wz hz => by have := r10Equal_any b b _ _ _ _ _ _ wz ((HO6.out.cart HVb.out).below hz) (HAb.out.below (HBX.out.trans (hz.mono HBX.out.size))); rw [decide_eq_true rfl] at this; exact this)
          have HCZ : Hid (∀ wz, Below wx.heap.size wx wz → _) := Lib.hid (fun wz hz => And.intro (And.intro (cel3 ((hz.block _ (lt_of_heap HX5.out)).trans HX5.out)) (cel3 ((hz.block _ (lt_of_heap HX6.out)).trans HX6.out))) (HC.out wz (HBX.out.trans (hz.mono HBX.out.size))))
          go_wp2_with fail
          refine HSP.out.mono ?_;rintro e w9 ⟨rfl, hb9⟩;clear f0 f1 f2 HSP;have hb9t : Below wx.heap.size wx w9 := (HB6.out.trans (HB1.out.mono HB6.out.size)).trans hb9;clear hb9;obtain ⟨⟨⟨f0, f1, f2⟩, g0, g1, g2⟩, ⟨h0, h1, h2⟩, i0, i1, i2⟩ := HCZ.out w9 hb9t
          go_wp2_with fail
          refine (HE5.out w9 hb9t).mono ?_;rintro e w10 ⟨rfl, hb10⟩;have hb10t := btr hb9t hb10;clear f0 f1 f2 g0 g1 g2 h0 h1 h2 i0 i1 i2;obtain ⟨⟨⟨f0, f1, f2⟩, g0, g1, g2⟩, ⟨h0, h1, h2⟩, i0, i1, i2⟩ := HCZ.out w10 hb10t
          go_wp2_with fail
          refine (HE6.out w10 hb10t).mono ?_;rintro e w11 ⟨rfl, hb11⟩;have hb11t := btr hb10t hb11;clear f0 f1 f2 g0 g1 g2 h0 h1 h2 i0 i1 i2;have HX := Lib.hid (l11known_any w11 (HGL.out.below (HBX.out.trans (hb11t.mono HBX.out.size))))
          go_wp2_with fail
          refine HX.out.mono ?_;rintro e wk ⟨rfl, hbk⟩;clear HX;have HBK := Lib.hid (HB.out.trans ((HBX.out.trans ((btr hb11t hbk).mono HBX.out.size)).mono HB.out.size));clear hbk hb10 hb11 hb9t hb10t hb11t
          go_wp2_with fail
          go_ret
          exact ⟨rfl, HBK.out⟩
end Go.Proofs.YtemfaojmelljpaaGreatDoor
