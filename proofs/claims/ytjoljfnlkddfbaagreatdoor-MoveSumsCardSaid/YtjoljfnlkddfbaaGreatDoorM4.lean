/- move.come, move.Wish. -/
import Derived.Test.YtjoljfnlkddfbaaGreatDoorM3
import Derived.Test.YtjoljfnlkddfbaaGreatDoorMoveQ
set_option linter.unusedSimpArgs false
set_option linter.unusedVariables false
set_option maxRecDepth 100000
set_option maxHeartbeats 16000000
namespace Go.Proofs.YtjoljfnlkddfbaaGreatDoor
open Go.RowKit Go.Maps Go.Sort Go.Shelf

theorem results_ctt {fn : Func} {p u v : Tmp} {ty : TypeId} (h : fn.results = #[.cell p ty, .tmp u, .tmp v]) (tmps : Array Value) (P : Program) (w : World) :
 (results fn tmps).run P w = ((asAddr (tmps.getD p undef)).run P w).andThen fun a w₁ => ((loadVar ty a).run P w₁).andThen fun x w₂ => .ok (.tuple #[x, tmps.getD u undef, tmps.getD v undef]) w₂ := by
 simp only [results, h]
 simp [Sem.run_bind, Result.andThen]
theorem results_cct {fn : Func} {p q u : Tmp} {ty ty2 : TypeId} (h : fn.results = #[.cell p ty, .cell q ty2, .tmp u]) (tmps : Array Value) (P : Program) (w : World) :
 (results fn tmps).run P w = ((asAddr (tmps.getD p undef)).run P w).andThen fun a w₁ => ((loadVar ty a).run P w₁).andThen fun x w₂ => ((asAddr (tmps.getD q undef)).run P w₂).andThen fun a2 w₃ => ((loadVar ty2 a2).run P w₃).andThen fun y w₄ => .ok (.tuple #[x, y, tmps.getD u undef]) w₄ := by
 simp only [results, h]
 simp [Sem.run_bind, Result.andThen]
theorem results_cctt {fn : Func} {p q u v : Tmp} {ty ty2 : TypeId} (h : fn.results = #[.cell p ty, .cell q ty2, .tmp u, .tmp v]) (tmps : Array Value) (P : Program) (w : World) :
 (results fn tmps).run P w = ((asAddr (tmps.getD p undef)).run P w).andThen fun a w₁ => ((loadVar ty a).run P w₁).andThen fun x w₂ => ((asAddr (tmps.getD q undef)).run P w₂).andThen fun a2 w₃ => ((loadVar ty2 a2).run P w₃).andThen fun y w₄ => .ok (.tuple #[x, y, tmps.getD u undef, tmps.getD v undef]) w₄ := by
 simp only [results, h]
 simp [Sem.run_bind, Result.andThen]
/-- A cart of one's own, a number and an error. -/
def Own3 (R : CartD) (V E : Int) (w : World) (e : Ending) (w' : World) : Prop := ∃ x1 x2 x3, e = .returned (.tuple #[.agg #[x1, x2, x3], .int .i64 V, .int .i64 E]) ∧ OwnC w.heap.size w' x1 x2 x3 R ∧ Below w.heap.size w w'
/-- Two carts of one's own, a number and an error. -/
def Own4 (R S : CartD) (V E : Int) (w : World) (e : Ending) (w' : World) : Prop := ∃ x1 x2 x3 y1 y2 y3, e = .returned (.tuple #[.agg #[x1, x2, x3], .agg #[y1, y2, y3], .int .i64 V, .int .i64 E]) ∧ OwnC w.heap.size w' x1 x2 x3 R ∧ OwnC w.heap.size w' y1 y2 y3 S ∧ Below w.heap.size w w'
theorem comeX_bad {t : CartD} {d : DotD} {nm : ByteArray} {q : Int} (h : comeE t d nm q ≠ 0) : comeX t d nm q = zeroC ∧ comeQ t d nm q = 0 := by
 unfold comeX comeQ
 rw [if_neg h, if_neg h]
 exact ⟨rfl, rfl⟩
theorem moveCome_any (t : CartD) (d : DotD) (nm : ByteArray) (q : Int) (v1 v2 v3 : Value) (w : World) (h : CartA w v1 v2 v3 t) (hl : Lt t.items) (hn : (allDots t.items).length ≤ 9000) (hs : nm.size ≤ maxLen) (hG : GlobIs w) :
  Calls Tryz.prog 45 #[.agg #[v1, v2, v3], dotV d, .string nm, .int .i64 q] w (Own3 (comeX t d nm q) (comeQ t d nm q) (comeE t d nm q) w) := by
 obtain ⟨o1, n1, k1, o2, n2, k2, o3, n3, k3, rfl, rfl, rfl, hn1, hn2, hn3⟩ := opn4 h
 obtain ⟨W1, HW, HB, HS, HK0, HK1, HKR⟩ := box3 w #[.slice o1 n1 k1, .slice o2 n2 k2, .slice o3 n3 k3] 28 #[.int .i64 d.rep, .int .i64 d.ctr] 39 #[.slice none 0 0, .slice none 0 0, .slice none 0 0] 28
 have HC := Hd (fun wz (hz : Below W1.heap.size W1 wz) => And.intro (cel3 (HK0.out wz hz)) (cel2 (HK1.out wz hz)))
 have HA := Hd (h.below HB.out)
 have HGL := Hd (hG.below HB.out)
 have HSU := Hd (moveSum_any t nm q _ _ _ W1 HA.out hl hs HGL.out)
 have HAD : Hid (∀ wz, Below W1.heap.size W1 wz → Calls Tryz.prog 42 #[.agg #[.slice o1 n1 k1, .slice o2 n2 k2, .slice o3 n3 k3], dotV d, .string nm, .int .i64 (mSum t nm q)] wz (CartPost (putC t d nm (mSum t nm q) false) (putCE t d nm (mSum t nm q) false) wz)) := Hd (fun wz hz => deltaAddO_any t d nm _ _ _ _ wz (HA.out.below hz) hl hn hs (HGL.out.below hz))
 have HE1 : Hid (mSumE t nm q ≠ 0 → comeE t d nm q = mSumE t nm q) := Hd (fun e => by unfold comeE; rw [if_neg e])
 have HE2 : Hid (mSumE t nm q = 0 → comeE t d nm q = putCE t d nm (mSum t nm q) false ∧ comeX t d nm q = putC t d nm (mSum t nm q) false) := Hd (fun e => ⟨by unfold comeE; rw [if_pos e], comeX_eq e⟩)
 have HEQ : Hid (comeE t d nm q = 0 → comeQ t d nm q = mSum t nm q) := Hd (fun e => by unfold comeQ; rw [if_pos e])
 have HEZ : Hid (comeE t d nm q ≠ 0 → comeX t d nm q = zeroC ∧ comeQ t d nm q = 0) := Hd comeX_bad
 have HBW := Hd HB.out
 have hsz := HS.out
 clear h hl hn hs hG hn1 hn2 hn3 HB HS
 generalize comeX t d nm q = R at *
 generalize comeQ t d nm q = V at *
 generalize comeE t d nm q = E at *
 generalize mSumE t nm q = SE at *
 generalize mSum t nm q = SV at *
 generalize putC t d nm SV false = PR at *
 generalize putCE t d nm SV false = PE at *
 unfold dotV at HAD ⊢
 obtain ⟨⟨c0, c1, c2⟩, c3, c4⟩ := HC.out W1 brf
 go_enter Tryz.func45, Tryz.ntmps45
 go_wp2_with fail
 rw [← HW.out]
 go_wp2_with fail
 refine HSU.out.mono ?_
 rintro e w2 ⟨rfl, hb2⟩
 have HB2 := Hd hb2
 clear hb2 HSU c0 c1 c2 c3 c4
 by_cases hse : SE = 0
 rotate_left
 ·have hse1 : (SE != 0) = true := by simpa using hse
  have hE := HE1.out hse
  subst hE
  obtain ⟨rfl, rfl⟩ := HEZ.out hse
  clear HE1 HE2 HEQ HEZ HAD hse
  have HFB : Hid (Below w.heap.size w (set3c w2 (w.heap.size + 1 + 1) (.slice none 0 0) (.slice none 0 0) (.slice none 0 0))) := Hd (set3c_below _ _ _ (btr HBW.out HB2.out) (by omega))
  obtain ⟨y0, y1, y2⟩ := cel3 (HKR.out _ HB2.out)
  have g0 := froz0 (HKR.out _ HB2.out) 0
  have g1 := froz0 (HKR.out _ HB2.out) 1
  have g2 := froz0 (HKR.out _ HB2.out) 2
  go_wp2_with fail
  (try simp only [Exit.inBlock, Exit.then])
  refine bodyPost_ret (v := .tuple #[.agg #[.slice none 0 0, .slice none 0 0, .slice none 0 0], .int .i64 0, .int .i64 E]) ?_ rfl ⟨_, _, _, rfl, OwnC.zero _ _, HFB.out⟩
  rw [results_ctt rfl]
  go_simp
 have hse1 : (SE != 0) = false := by simpa using hse
 obtain ⟨rfl, rfl⟩ := HE2.out hse
 have HA2 := Hd (HAD.out w2 HB2.out)
 clear HE1 HE2 HAD hse
 obtain ⟨⟨c0, c1, c2⟩, c3, c4⟩ := HC.out w2 HB2.out
 go_wp2_with fail
 refine HA2.out.mono ?_
 rintro e w3 ⟨x1, x2, x3, rfl, hown, hb3⟩
 obtain ⟨p1, m1, l1, p2, m2, l2, p3, m3, l3, rfl, rfl, rfl, hm1, hm2, hm3⟩ := hown.opn
 obtain ⟨W4, HW4, HB4, HS4, HK4⟩ := box1 w3 #[.slice p1 m1 l1, .slice p2 m2 l2, .slice p3 m3 l3] 28
 have HB14 := Hd (btr HB2.out (btr hb3 HB4.out))
 have HO4 := Hd ((hown.below HB4.out).mono (Nat.le_trans HBW.out.size HB2.out.size))
 obtain ⟨t0, t1, t2⟩ := cel3 (HK4.out W4 brf)
 clear hown hb3 HB4 HA2 hm1 hm2 hm3 c0 c1 c2 c3 c4
 go_upto_region 5 with fail
 rw [← HW4.out]
 clear HW4
 by_cases hpe : E = 0
 rotate_left
 ·have hpe1 : (E != 0) = true := by simpa using hpe
  obtain ⟨rfl, rfl⟩ := HEZ.out hpe
  clear HEQ HEZ HO4 hpe
  have HFB : Hid (Below w.heap.size w (set3c W4 (w.heap.size + 1 + 1) (.slice none 0 0) (.slice none 0 0) (.slice none 0 0))) := Hd (set3c_below _ _ _ (btr HBW.out HB14.out) (by omega))
  obtain ⟨y0, y1, y2⟩ := cel3 (HKR.out _ HB14.out)
  have g0 := froz0 (HKR.out _ HB14.out) 0
  have g1 := froz0 (HKR.out _ HB14.out) 1
  have g2 := froz0 (HKR.out _ HB14.out) 2
  go_wp2_with fail
  (try simp only [Exit.inBlock, Exit.then])
  refine bodyPost_ret (v := .tuple #[.agg #[.slice none 0 0, .slice none 0 0, .slice none 0 0], .int .i64 0, .int .i64 E]) ?_ rfl ⟨_, _, _, rfl, OwnC.zero _ _, HFB.out⟩
  rw [results_ctt rfl]
  go_simp
 have hpe1 : (E != 0) = false := by simpa using hpe
 have hV := HEQ.out hpe
 subst hV hpe
 have hzz := HKR.out _ HB14.out
 have HFB : Hid (Below w.heap.size w (set3c W4 (w.heap.size + 1 + 1) (.slice p1 m1 l1) (.slice p2 m2 l2) (.slice p3 m3 l3))) := Hd (set3c_below _ _ _ (btr HBW.out HB14.out) (by omega))
 have HOF : Hid (OwnC w.heap.size (set3c W4 (w.heap.size + 1 + 1) (.slice p1 m1 l1) (.slice p2 m2 l2) (.slice p3 m3 l3)) (.slice p1 m1 l1) (.slice p2 m2 l2) (.slice p3 m3 l3) R) := Hd (HO4.out.set3c hzz _ _ _)
 obtain ⟨y0, y1, y2⟩ := cel3 hzz
 have g0 := froz0 hzz 0
 have g1 := froz0 hzz 1
 have g2 := froz0 hzz 2
 clear HEQ HEZ HO4 hzz
 go_wp2_with fail
 (try simp only [Exit.inBlock, Exit.then])
 refine bodyPost_ret (v := .tuple #[.agg #[.slice p1 m1 l1, .slice p2 m2 l2, .slice p3 m3 l3], .int .i64 V, .int .i64 0]) ?_ rfl ⟨_, _, _, rfl, HOF.out, HFB.out⟩
 rw [results_ctt rfl]
 go_simp
theorem drew_heap (w : World) : w.drew.heap = w.heap := rfl
theorem wish12 (WL : World) (b8 b9 b14 b15 : Nat) (p1 p2 p3 q1 q2 q3 : Option Addr) (m1 l1 m2 l2 m3 l3 h1 j1 h2 j2 h3 j3 : Nat) (V z0 z1 z2 z3 z4 z5 z6 z7 z10 z11 z12 z13 z17 z18 z19 z20 z21 z22 z23 z24 z25 z26 z27 z28 z29 z30 z31 z32 z33 z34 z35 z36 z37 z38 z39 z40 z41 z42 z43 z44 z45 z46 z47 z48 z49 z50 z51 z52 z53 z54 z55 z56 z57 z58 z59 z60 z61 z62 z63 z64 z65 z66 z67 z68 z69 z70 z71 z72 z73 z74 z75 z76 : Value) (y0 y1 y2 y3 y4 y5 : Value)
  (hx14 : WL.heap[b14]? = some (.cells #[.slice p1 m1 l1, .slice p2 m2 l2, .slice p3 m3 l3] 28)) (hx15 : WL.heap[b15]? = some (.cells #[.slice q1 h1 j1, .slice q2 h2 j2, .slice q3 h3 j3] 28))
  (hx8 : WL.heap[b8]? = some (.cells #[y0, y1, y2] 28)) (hx9 : WL.heap[b9]? = some (.cells #[y3, y4, y5] 28)) (hne : b8 ≠ b9 ∧ b14 ≠ b8 ∧ b15 ≠ b8 ∧ b14 ≠ b9 ∧ b15 ≠ b9) (R : Act → World → Prop)
  (hQ : ∀ (u74 u75 u76 : Value) (wx : World), Hid (wx = (set3c (set3c WL b8 (.slice p1 m1 l1) (.slice p2 m2 l2) (.slice p3 m3 l3)) b9 (.slice q1 h1 j1) (.slice q2 h2 j2) (.slice q3 h3 j3)).drew) → R { tmps := #[z0, z1, z2, z3, z4, z5, z6, z7, .pointer (some ⟨b8, 0, none⟩), .pointer (some ⟨b9, 0, none⟩), V, .int .i64 0, z12, z13, .pointer (some ⟨b14, 0, none⟩), .pointer (some ⟨b15, 0, none⟩), V, z17, z18, z19, z20, z21, z22, z23, z24, z25, z26, z27, z28, z29, z30, z31, z32, z33, z34, z35, z36, z37, z38, z39, z40, z41, z42, z43, z44, z45, z46, z47, z48, z49, z50, z51, z52, z53, z54, z55, z56, z57, z58, z59, z60, z61, z62, z63, z64, z65, z66, z67, z68, z69, z70, z71, z72, z73, u74, u75, u76], defers := [] } wx) :
  (codeAt [1, 1, 1, 1, 1, 1, 1, 1, 0] (Tryz.f19.body.getD .skip)).wp Tryz.prog (NQ R) { tmps := #[z0, z1, z2, z3, z4, z5, z6, z7, .pointer (some ⟨b8, 0, none⟩), .pointer (some ⟨b9, 0, none⟩), z10, z11, z12, z13, .pointer (some ⟨b14, 0, none⟩), .pointer (some ⟨b15, 0, none⟩), V, z17, z18, z19, z20, z21, z22, z23, z24, z25, z26, z27, z28, z29, z30, z31, z32, z33, z34, z35, z36, z37, z38, z39, z40, z41, z42, z43, z44, z45, z46, z47, z48, z49, z50, z51, z52, z53, z54, z55, z56, z57, z58, z59, z60, z61, z62, z63, z64, z65, z66, z67, z68, z69, z70, z71, z72, z73, z74, z75, z76], defers := [] } WL := by
 have HSA : Hid (∀ wz : World, wz.heap[b14]? = WL.heap[b14]? → wz.heap[b15]? = WL.heap[b15]? → (wz.cell? ⟨b14, 0, none⟩ = some (.slice p1 m1 l1) ∧ wz.cell? ⟨b14, 1, none⟩ = some (.slice p2 m2 l2) ∧ wz.cell? ⟨b14, 2, none⟩ = some (.slice p3 m3 l3)) ∧ wz.cell? ⟨b15, 0, none⟩ = some (.slice q1 h1 j1) ∧ wz.cell? ⟨b15, 1, none⟩ = some (.slice q2 h2 j2) ∧ wz.cell? ⟨b15, 2, none⟩ = some (.slice q3 h3 j3)) := Hd (fun wz e1 e2 => ⟨cel3 (e1.trans hx14), cel3 (e2.trans hx15)⟩)
 have HS0 := Hd (HSA.out WL.drew rfl rfl)
 have HS3 := Hd (HSA.out (set3c WL b8 (.slice p1 m1 l1) (.slice p2 m2 l2) (.slice p3 m3 l3)).drew (by rw [drew_heap, set3c_other hne.2.1]) (by rw [drew_heap, set3c_other hne.2.2.1]))
 have HS4 := Hd (HSA.out (set3c (set3c WL b8 (.slice p1 m1 l1) (.slice p2 m2 l2) (.slice p3 m3 l3)) b9 (.slice q1 h1 j1) (.slice q2 h2 j2) (.slice q3 h3 j3)).drew (by rw [drew_heap, set3c_other hne.2.2.2.1, set3c_other hne.2.1]) (by rw [drew_heap, set3c_other hne.2.2.2.2, set3c_other hne.2.2.1]))
 have hx9' : (set3c WL b8 (.slice p1 m1 l1) (.slice p2 m2 l2) (.slice p3 m3 l3)).heap[b9]? = some (.cells #[y3, y4, y5] 28) := by rw [set3c_other hne.1.symm]; exact hx9
 obtain ⟨e0, e1, e2⟩ := cel3 hx8
 have g0 := froz0 hx8 0
 have g1 := froz0 hx8 1
 have g2 := froz0 hx8 2
 obtain ⟨e3, e4, e5⟩ := cel3 hx9'
 have g3 := froz0 hx9' 0
 have g4 := froz0 hx9' 1
 have g5 := froz0 hx9' 2
 have HQ := Hd hQ
 have HW2 : ∃ WB : World, Hid (WB = (set3c (set3c WL b8 (.slice p1 m1 l1) (.slice p2 m2 l2) (.slice p3 m3 l3)) b9 (.slice q1 h1 j1) (.slice q2 h2 j2) (.slice q3 h3 j3)).drew) := ⟨_, Hd rfl⟩
 obtain ⟨WB, HWB⟩ := HW2
 clear HSA hx14 hx15 hx8 hx9 hx9' hne hQ
 simp only [codeAt, codeL, codeR, Tryz.f19, Option.getD_some]
 refine wp_region_held_drew (S := (fun wz => (wz.cell? ⟨b14, 0, none⟩ = some (.slice p1 m1 l1) ∧ wz.cell? ⟨b14, 1, none⟩ = some (.slice p2 m2 l2) ∧ wz.cell? ⟨b14, 2, none⟩ = some (.slice p3 m3 l3)) ∧ wz.cell? ⟨b15, 0, none⟩ = some (.slice q1 h1 j1) ∧ wz.cell? ⟨b15, 1, none⟩ = some (.slice q2 h2 j2) ∧ wz.cell? ⟨b15, 2, none⟩ = some (.slice q3 h3 j3))) (by kernel_rfl) (HS0.out) (fun hS => ?_)
 refine tkR (n := 3) [0, 1, 2] rfl (by decide +kernel) hS ?_
 iterate 3 ((try simp only [Act.put, s1, s2, s3, s4, s5, s6]); refine ⟨_, ?_, rfl, Or.inl ⟨by kernel_rfl, fun w hSw => ok_of fun z hz => ?_⟩, ?_⟩; rotate_left; · (obtain ⟨⟨f0, f1, f2⟩, f3, f4, f5⟩ := hSw; go_simp; exact hz))
 refine RunOK.done ?_
 try simp only [Act.put, s1, s2, s3, s4, s5, s6]
 refine rd1 3 (by decide +kernel) rfl (fun K hK => ?_)
 go_simp
 change K _ (set3c WL b8 (.slice p1 m1 l1) (.slice p2 m2 l2) (.slice p3 m3 l3)).drew
 refine Shut.out hK _ _ (HS3.out) (fun hS2 => ?_); clear hK K hS; have hS := hS2; clear hS2
 try simp only [Act.put, s1, s2, s3, s4, s5, s6]
 refine rd1 4 (by decide +kernel) rfl (fun K hK => ?_)
 unfold set3c
 unfold set3c at e3 e4 e5 g3 g4 g5
 go_simp
 change K _ (set3c (set3c WL b8 (.slice p1 m1 l1) (.slice p2 m2 l2) (.slice p3 m3 l3)) b9 (.slice q1 h1 j1) (.slice q2 h2 j2) (.slice q3 h3 j3)).drew
 refine Shut.out hK _ _ (HS4.out) (fun hS2 => ?_); clear hK K hS; have hS := hS2; clear hS2
 try simp only [Act.put, s1, s2, s3, s4, s5, s6]
 rw [← HWB.out] at hS ⊢
 refine tkR (n := 2) [5, 6] rfl (by decide +kernel) hS ?_
 iterate 2 ((try simp only [Act.put, s1, s2, s3, s4, s5, s6]); refine ⟨_, ?_, rfl, Or.inl ⟨by kernel_rfl, fun w hSw => ok_of fun z hz => ?_⟩, ?_⟩; rotate_left; · (obtain ⟨⟨f0, f1, f2⟩, f3, f4, f5⟩ := hSw; go_simp; exact hz))
 refine RunOK.done ?_
 try simp only [Act.put, s1, s2, s3, s4, s5, s6]
 refine wpAnyH_done (by kernel_rfl) ?_ _
 try simp only [Act.put, s1, s2, s3, s4, s5, s6]
 simp only [NQ]
 exact HQ.out _ _ _ WB HWB
theorem wish_bad {f t : CartD} {nm : ByteArray} {d : DotD} (h : wishE f t nm d ≠ 0) : wishX f t nm d = zeroC ∧ wishY f t nm d = zeroC ∧ wishQ f t nm d = 0 := by
 unfold wishX wishY wishQ
 rw [if_neg h, if_neg h, if_neg h]
 exact ⟨rfl, rfl, rfl⟩
theorem moveWish_any (f t : CartD) (nm : ByteArray) (d : DotD) (v1 v2 v3 u1 u2 u3 : Value) (w : World) (h : CartA w v1 v2 v3 f) (g : CartA w u1 u2 u3 t) (hlf : Lt f.items) (hnf : (allDots f.items).length ≤ 9000) (hlt : Lt t.items) (hnt : (allDots t.items).length ≤ 9000) (hs : nm.size ≤ maxLen) (hG : GlobIs w) :
  Calls Tryz.prog 19 #[.agg #[v1, v2, v3], .agg #[u1, u2, u3], .string nm, dotV d] w (Own4 (wishX f t nm d) (wishY f t nm d) (wishQ f t nm d) (wishE f t nm d) w) := by
 obtain ⟨o1, n1, k1, o2, n2, k2, o3, n3, k3, rfl, rfl, rfl, hn1, hn2, hn3⟩ := opn4 h
 obtain ⟨o4, n4, k4, o5, n5, k5, o6, n6, k6, rfl, rfl, rfl, hn4, hn5, hn6⟩ := opn4 g
 obtain ⟨W0, HW0, HB0, HS0, HK0, HK1, HK2, HK3⟩ := box4 w #[.slice o1 n1 k1, .slice o2 n2 k2, .slice o3 n3 k3] 28 #[.slice o4 n4 k4, .slice o5 n5 k5, .slice o6 n6 k6] 28 #[.int .i64 d.rep, .int .i64 d.ctr] 39 #[.slice none 0 0, .slice none 0 0, .slice none 0 0] 28
 obtain ⟨W1, HW1, HB1, HS1, HK4⟩ := box1 W0 #[.slice none 0 0, .slice none 0 0, .slice none 0 0] 28
 have hs0 := HS0.out
 have hs1 := HS1.out
 rw [hs0] at HK4
 have HBW := Hd (btr HB0.out HB1.out)
 have HC := Hd (fun wz (hz : Below W1.heap.size W1 wz) => And.intro (cel3 (HK0.out wz (btr HB1.out hz))) (And.intro (cel3 (HK1.out wz (btr HB1.out hz))) (cel2 (HK2.out wz (btr HB1.out hz)))))
 have HK8 := Hd (fun wz (hz : Below W1.heap.size W1 wz) => HK3.out wz (btr HB1.out hz))
 have HK9 := Hd (fun wz (hz : Below W1.heap.size W1 wz) => HK4.out wz hz)
 have HB8 : Hid (w.heap.size ≤ w.heap.size + 1 + 1 + 1) := Hd (by omega)
 have HB9 : Hid (w.heap.size ≤ w.heap.size + 1 + 1 + 1 + 1) := Hd (by omega)
 have HA := Hd (h.below HBW.out)
 have HT := Hd (g.below HBW.out)
 have HGL := Hd (hG.below HBW.out)
 have HVF := Hd (cartValid_any f _ _ _ W1 HA.out hlf HGL.out)
 have HVT : Hid (∀ wz, Below W1.heap.size W1 wz → Calls Tryz.prog 10 #[.agg #[.slice o4 n4 k4, .slice o5 n5 k5, .slice o6 n6 k6]] wz fun e w' => e = .returned (.bool (validC t)) ∧ Below wz.heap.size wz w') := Hd (fun wz hz => cartValid_any t _ _ _ wz (HT.out.below hz) hlt (HGL.out.below hz))
 have HNI : Hid (∀ wz, Below W1.heap.size W1 wz → Calls Tryz.prog 13 #[.string nm] wz fun e w' => e = .returned (.bool (nameB nm)) ∧ Below wz.heap.size wz w') := Hd (fun wz hz => namesItem_any nm wz hs (HGL.out.below hz))
 have HFR : Hid (∀ wz, Below W1.heap.size W1 wz → Calls Tryz.prog 27 #[.agg #[.slice o4 n4 k4, .slice o5 n5 k5, .slice o6 n6 k6], dotV d] wz fun e w' => e = .returned (.bool (freshC t d)) ∧ Below wz.heap.size wz w') := Hd (fun wz hz => deltaFresh_any t d _ _ _ wz (HT.out.below hz) hlt (HGL.out.below hz))
 have HQ : Hid (∀ wz, Below W1.heap.size W1 wz → Calls Tryz.prog 44 #[.agg #[.slice o1 n1 k1, .slice o2 n2 k2, .slice o3 n3 k3], .string nm] wz fun e w' => e = .returned (.tuple #[.int .i64 (qtyC f nm), .int .i64 (qtyCE f nm)]) ∧ Below wz.heap.size wz w') := Hd (fun wz hz => cartQty_any f nm _ _ _ wz (HA.out.below hz) hlf (HGL.out.below hz))
 have HRM : Hid (∀ wz, Below W1.heap.size W1 wz → Calls Tryz.prog 43 #[.agg #[.slice o1 n1 k1, .slice o2 n2 k2, .slice o3 n3 k3], .string nm] wz (CartPost (remC f nm) (remCE f nm) wz)) := Hd (fun wz hz => deltaRemoveO_any f nm _ _ _ wz (HA.out.below hz) hlf hnf hs (HGL.out.below hz))
 have HCO : Hid (∀ wz, Below W1.heap.size W1 wz → Calls Tryz.prog 45 #[.agg #[.slice o4 n4 k4, .slice o5 n5 k5, .slice o6 n6 k6], dotV d, .string nm, .int .i64 (qtyC f nm)] wz (Own3 (comeX t d nm (qtyC f nm)) (comeQ t d nm (qtyC f nm)) (comeE t d nm (qtyC f nm)) wz)) := Hd (fun wz hz => moveCome_any t d nm _ _ _ _ wz (HT.out.below hz) hlt hnt hs (HGL.out.below hz))
 have HE1 : Hid ((validC f && validC t && nameB nm && freshC t d) = false → wishE f t nm d = 2) := Hd (fun e => by unfold wishE wishOk; rw [e]; rfl)
 have HE2 : Hid (validC f = true → validC t = true → nameB nm = true → freshC t d = true → (thereB f.items nm = false → wishE f t nm d = 9 ∧ qtyCE f nm = 9) ∧ (thereB f.items nm = true → wishE f t nm d = comeE t d nm (qtyC f nm) ∧ qtyCE f nm = 0 ∧ remCE f nm = 0)) := Hd (fun a1 a2 a3 a4 => by
  have hk : wishOk f t nm d = true := by unfold wishOk; rw [a1, a2, a3, a4]; rfl
  refine ⟨fun e => ⟨by unfold wishE; rw [hk, e]; rfl, by unfold qtyCE; rw [a1, e]; rfl⟩, fun e => ⟨by unfold wishE; rw [hk, e]; rfl, by unfold qtyCE; rw [a1, e]; rfl, rem_there a1 a3 e⟩⟩)
 have HEZ : Hid (wishE f t nm d ≠ 0 → wishX f t nm d = zeroC ∧ wishY f t nm d = zeroC ∧ wishQ f t nm d = 0) := Hd wish_bad
 have HEY : Hid (wishE f t nm d = 0 → wishX f t nm d = remC f nm ∧ wishY f t nm d = comeX t d nm (qtyC f nm) ∧ wishQ f t nm d = comeQ t d nm (qtyC f nm)) := Hd (fun e => by unfold wishX wishY wishQ; rw [if_pos e, if_pos e, if_pos e]; exact ⟨rfl, rfl, rfl⟩)
 clear h g hlf hnf hlt hnt hs hG hn1 hn2 hn3 hn4 hn5 hn6 HB0 HB1 HS0 HS1 HK0 HK1 HK2 HK3 HK4 HA HT HGL
 generalize wishX f t nm d = X at *
 generalize wishY f t nm d = Y at *
 generalize wishQ f t nm d = V at *
 generalize wishE f t nm d = E at *
 generalize comeX t d nm (qtyC f nm) = CX at *
 generalize comeQ t d nm (qtyC f nm) = CQ at *
 generalize comeE t d nm (qtyC f nm) = CE at *
 generalize remC f nm = RX at *
 generalize remCE f nm = RE at *
 generalize qtyC f nm = Q at *
 generalize qtyCE f nm = QE at *
 obtain ⟨r1, hr1⟩ : ∃ r, r = validC f := ⟨_, rfl⟩
 obtain ⟨r2, hr2⟩ : ∃ r, r = validC t := ⟨_, rfl⟩
 obtain ⟨r3, hr3⟩ : ∃ r, r = nameB nm := ⟨_, rfl⟩
 obtain ⟨r4, hr4⟩ : ∃ r, r = freshC t d := ⟨_, rfl⟩
 obtain ⟨r5, hr5⟩ : ∃ r, r = thereB f.items nm := ⟨_, rfl⟩
 rw [← hr1] at HVF HE1 HE2
 rw [← hr2] at HVT HE1 HE2
 rw [← hr3] at HNI HE1 HE2
 rw [← hr4] at HFR HE1 HE2
 rw [← hr5] at HE2
 clear hr1 hr2 hr3 hr4 hr5
 unfold dotV at HFR HCO ⊢
 obtain ⟨b8, hb8⟩ : ∃ b, b = w.heap.size + 1 + 1 + 1 := ⟨_, rfl⟩
 obtain ⟨b9, hb9⟩ : ∃ b, b = w.heap.size + 1 + 1 + 1 + 1 := ⟨_, rfl⟩
 obtain ⟨⟨c0, c1, c2⟩, ⟨c3, c4, c5⟩, c6, c7⟩ := HC.out W1 brf
 go_enter Tryz.func19, Tryz.ntmps19
 go_wp2_with fail
 rw [← HW0.out, ← HW1.out]
 clear HW0 HW1
 rw [← hb9] at HK9 HB9 ⊢
 rw [← hb8] at HK8 HB8 ⊢
 have hne89 : b8 ≠ b9 := by omega
 clear hb8 hb9
 refine HVF.out.mono ?_
 rintro e w2 ⟨rfl, hb2⟩
 have HB2 := Hd hb2
 clear hb2 HVF c0 c1 c2 c3 c4 c5 c6 c7
 obtain ⟨⟨c0, c1, c2⟩, ⟨c3, c4, c5⟩, c6, c7⟩ := HC.out w2 HB2.out
 cases r1 with
 | false =>
  obtain rfl := HE1.out rfl
  obtain ⟨rfl, rfl, rfl⟩ := HEZ.out (by decide)
  clear HE1 HE2 HEZ HEY HVT HNI HFR HQ HRM HCO
  have hz8 := HK8.out _ HB2.out
  have hz9 := HK9.out _ HB2.out
  have HFB : Hid (Below w.heap.size w (set3c (set3c w2 b8 (.slice none 0 0) (.slice none 0 0) (.slice none 0 0)) b9 (.slice none 0 0) (.slice none 0 0) (.slice none 0 0))) := Hd (set3c_below _ _ _ (set3c_below _ _ _ (btr HBW.out HB2.out) HB8.out) HB9.out)
  obtain ⟨y0, y1, y2⟩ := cel3 hz8
  have g0 := froz0 hz8 0
  have g1 := froz0 hz8 1
  have g2 := froz0 hz8 2
  obtain ⟨y3, y4, y5⟩ := cel3 hz9
  have g3 := froz0 hz9 0
  have g4 := froz0 hz9 1
  have g5 := froz0 hz9 2
  clear hz8 hz9
  go_wp2_with fail
  (try simp only [Exit.inBlock, Exit.then])
  refine bodyPost_ret (v := .tuple #[.agg #[.slice none 0 0, .slice none 0 0, .slice none 0 0], .agg #[.slice none 0 0, .slice none 0 0, .slice none 0 0], .int .i64 0, .int .i64 2]) ?_ rfl ⟨_, _, _, _, _, _, rfl, OwnC.zero _ _, OwnC.zero _ _, HFB.out⟩
  rw [results_cctt rfl]
  go_simp
 | true =>
 have HV3 := Hd (HVT.out w2 HB2.out)
 go_wp2_with fail
 refine HV3.out.mono ?_
 rintro e w3 ⟨rfl, hb3⟩
 have HB3 := Hd (btr HB2.out hb3)
 clear hb3 HVT HV3 c0 c1 c2 c3 c4 c5 c6 c7
 obtain ⟨⟨c0, c1, c2⟩, ⟨c3, c4, c5⟩, c6, c7⟩ := HC.out w3 HB3.out
 cases r2 with
 | false =>
  obtain rfl := HE1.out rfl
  obtain ⟨rfl, rfl, rfl⟩ := HEZ.out (by decide)
  clear HE1 HE2 HEZ HEY HNI HFR HQ HRM HCO
  have hz8 := HK8.out _ HB3.out
  have hz9 := HK9.out _ HB3.out
  have HFB : Hid (Below w.heap.size w (set3c (set3c w3 b8 (.slice none 0 0) (.slice none 0 0) (.slice none 0 0)) b9 (.slice none 0 0) (.slice none 0 0) (.slice none 0 0))) := Hd (set3c_below _ _ _ (set3c_below _ _ _ (btr HBW.out HB3.out) HB8.out) HB9.out)
  obtain ⟨y0, y1, y2⟩ := cel3 hz8
  have g0 := froz0 hz8 0
  have g1 := froz0 hz8 1
  have g2 := froz0 hz8 2
  obtain ⟨y3, y4, y5⟩ := cel3 hz9
  have g3 := froz0 hz9 0
  have g4 := froz0 hz9 1
  have g5 := froz0 hz9 2
  clear hz8 hz9
  go_wp2_with fail
  (try simp only [Exit.inBlock, Exit.then])
  refine bodyPost_ret (v := .tuple #[.agg #[.slice none 0 0, .slice none 0 0, .slice none 0 0], .agg #[.slice none 0 0, .slice none 0 0, .slice none 0 0], .int .i64 0, .int .i64 2]) ?_ rfl ⟨_, _, _, _, _, _, rfl, OwnC.zero _ _, OwnC.zero _ _, HFB.out⟩
  rw [results_cctt rfl]
  go_simp
 | true =>
 have HV4 := Hd (HNI.out w3 HB3.out)
 go_wp2_with fail
 refine HV4.out.mono ?_
 rintro e w4 ⟨rfl, hb4⟩
 have HB4 := Hd (btr HB3.out hb4)
 clear hb4 HNI HV4 c0 c1 c2 c3 c4 c5 c6 c7
 obtain ⟨⟨c0, c1, c2⟩, ⟨c3, c4, c5⟩, c6, c7⟩ := HC.out w4 HB4.out
 cases r3 with
 | false =>
  obtain rfl := HE1.out rfl
  obtain ⟨rfl, rfl, rfl⟩ := HEZ.out (by decide)
  clear HE1 HE2 HEZ HEY HFR HQ HRM HCO
  have hz8 := HK8.out _ HB4.out
  have hz9 := HK9.out _ HB4.out
  have HFB : Hid (Below w.heap.size w (set3c (set3c w4 b8 (.slice none 0 0) (.slice none 0 0) (.slice none 0 0)) b9 (.slice none 0 0) (.slice none 0 0) (.slice none 0 0))) := Hd (set3c_below _ _ _ (set3c_below _ _ _ (btr HBW.out HB4.out) HB8.out) HB9.out)
  obtain ⟨y0, y1, y2⟩ := cel3 hz8
  have g0 := froz0 hz8 0
  have g1 := froz0 hz8 1
  have g2 := froz0 hz8 2
  obtain ⟨y3, y4, y5⟩ := cel3 hz9
  have g3 := froz0 hz9 0
  have g4 := froz0 hz9 1
  have g5 := froz0 hz9 2
  clear hz8 hz9
  go_wp2_with fail
  (try simp only [Exit.inBlock, Exit.then])
  refine bodyPost_ret (v := .tuple #[.agg #[.slice none 0 0, .slice none 0 0, .slice none 0 0], .agg #[.slice none 0 0, .slice none 0 0, .slice none 0 0], .int .i64 0, .int .i64 2]) ?_ rfl ⟨_, _, _, _, _, _, rfl, OwnC.zero _ _, OwnC.zero _ _, HFB.out⟩
  rw [results_cctt rfl]
  go_simp
 | true =>
 have HV5 := Hd (HFR.out w4 HB4.out)
 go_wp2_with fail
 refine HV5.out.mono ?_
 rintro e w5 ⟨rfl, hb5⟩
 have HB5 := Hd (btr HB4.out hb5)
 clear hb5 HFR HV5 c0 c1 c2 c3 c4 c5 c6 c7
 obtain ⟨⟨c0, c1, c2⟩, ⟨c3, c4, c5⟩, c6, c7⟩ := HC.out w5 HB5.out
 cases r4 with
 | false =>
  obtain rfl := HE1.out rfl
  obtain ⟨rfl, rfl, rfl⟩ := HEZ.out (by decide)
  clear HE1 HE2 HEZ HEY HQ HRM HCO
  have hz8 := HK8.out _ HB5.out
  have hz9 := HK9.out _ HB5.out
  have HFB : Hid (Below w.heap.size w (set3c (set3c w5 b8 (.slice none 0 0) (.slice none 0 0) (.slice none 0 0)) b9 (.slice none 0 0) (.slice none 0 0) (.slice none 0 0))) := Hd (set3c_below _ _ _ (set3c_below _ _ _ (btr HBW.out HB5.out) HB8.out) HB9.out)
  obtain ⟨y0, y1, y2⟩ := cel3 hz8
  have g0 := froz0 hz8 0
  have g1 := froz0 hz8 1
  have g2 := froz0 hz8 2
  obtain ⟨y3, y4, y5⟩ := cel3 hz9
  have g3 := froz0 hz9 0
  have g4 := froz0 hz9 1
  have g5 := froz0 hz9 2
  clear hz8 hz9
  go_wp2_with fail
  (try simp only [Exit.inBlock, Exit.then])
  refine bodyPost_ret (v := .tuple #[.agg #[.slice none 0 0, .slice none 0 0, .slice none 0 0], .agg #[.slice none 0 0, .slice none 0 0, .slice none 0 0], .int .i64 0, .int .i64 2]) ?_ rfl ⟨_, _, _, _, _, _, rfl, OwnC.zero _ _, OwnC.zero _ _, HFB.out⟩
  rw [results_cctt rfl]
  go_simp
 | true =>
 have HQ5 := Hd (HQ.out w5 HB5.out)
 have HE3 := Hd (HE2.out trivial trivial trivial rfl)
 clear HE1 HE2 HQ
 go_wp2_with fail
 refine HQ5.out.mono ?_
 rintro e w6 ⟨rfl, hb6⟩
 have HB6 := Hd (btr HB5.out hb6)
 clear hb6 HQ5 c0 c1 c2 c3 c4 c5 c6 c7
 obtain ⟨⟨c0, c1, c2⟩, ⟨c3, c4, c5⟩, c6, c7⟩ := HC.out w6 HB6.out
 cases r5 with
 | false =>
  obtain ⟨rfl, rfl⟩ := HE3.out.1 rfl
  obtain ⟨rfl, rfl, rfl⟩ := HEZ.out (by decide)
  clear HE3 HEZ HEY HRM HCO
  have hz8 := HK8.out _ HB6.out
  have hz9 := HK9.out _ HB6.out
  have HFB : Hid (Below w.heap.size w (set3c (set3c w6 b8 (.slice none 0 0) (.slice none 0 0) (.slice none 0 0)) b9 (.slice none 0 0) (.slice none 0 0) (.slice none 0 0))) := Hd (set3c_below _ _ _ (set3c_below _ _ _ (btr HBW.out HB6.out) HB8.out) HB9.out)
  obtain ⟨y0, y1, y2⟩ := cel3 hz8
  have g0 := froz0 hz8 0
  have g1 := froz0 hz8 1
  have g2 := froz0 hz8 2
  obtain ⟨y3, y4, y5⟩ := cel3 hz9
  have g3 := froz0 hz9 0
  have g4 := froz0 hz9 1
  have g5 := froz0 hz9 2
  clear hz8 hz9
  go_wp2_with fail
  (try simp only [Exit.inBlock, Exit.then])
  refine bodyPost_ret (v := .tuple #[.agg #[.slice none 0 0, .slice none 0 0, .slice none 0 0], .agg #[.slice none 0 0, .slice none 0 0, .slice none 0 0], .int .i64 0, .int .i64 9]) ?_ rfl ⟨_, _, _, _, _, _, rfl, OwnC.zero _ _, OwnC.zero _ _, HFB.out⟩
  rw [results_cctt rfl]
  go_simp
 | true =>
 obtain ⟨rfl, rfl, rfl⟩ := HE3.out.2 rfl
 have HR6 := Hd (HRM.out w6 HB6.out)
 clear HE3 HRM
 go_wp2_with fail
 refine HR6.out.mono ?_
 rintro e w7 ⟨x1, x2, x3, rfl, hown, hb7⟩
 obtain ⟨p1, m1, l1, p2, m2, l2, p3, m3, l3, rfl, rfl, rfl, hm1, hm2, hm3⟩ := hown.opn
 obtain ⟨W8, HW8, HB8', HS8, HK14⟩ := box1 w7 #[.slice p1 m1 l1, .slice p2 m2 l2, .slice p3 m3 l3] 28
 have HB18 := Hd (btr HB6.out (btr hb7 HB8'.out))
 have HO8 := Hd ((hown.below HB8'.out).mono (Nat.le_trans HBW.out.size HB6.out.size))
 have HC8 := Hd (HCO.out W8 HB18.out)
 have hs18 : W1.heap.size ≤ w7.heap.size := Nat.le_trans HB6.out.size hb7.size
 have hl8 := lt_of_heap (HK8.out W1 brf)
 have hl9 := lt_of_heap (HK9.out W1 brf)
 clear hown hb7 HB8' HR6 HCO hm1 hm2 hm3 c0 c1 c2 c3 c4 c5 c6 c7
 obtain ⟨⟨c0, c1, c2⟩, ⟨c3, c4, c5⟩, c6, c7⟩ := HC.out W8 HB18.out
 obtain ⟨t0, t1, t2⟩ := cel3 (HK14.out W8 brf)
 go_wp2_with (go_loud (rw [← HW8.out]))
 refine HC8.out.mono ?_
 rintro e w9 ⟨x1, x2, x3, rfl, hown, hb9⟩
 obtain ⟨q1, h1, j1, q2, h2, j2, q3, h3, j3, rfl, rfl, rfl, hm1, hm2, hm3⟩ := hown.opn
 obtain ⟨W10, HW10, HB10, HS10, HK15⟩ := box1 w9 #[.slice q1 h1 j1, .slice q2 h2 j2, .slice q3 h3 j3] 28
 have HB8A := Hd (btr hb9 HB10.out)
 have HB110 := Hd (btr HB18.out HB8A.out)
 have HO10 := Hd (HO8.out.below HB8A.out)
 have HP10 := Hd ((hown.below HB10.out).mono (Nat.le_trans HBW.out.size HB18.out.size))
 have HX14 := Hd (HK14.out W10 HB8A.out)
 have HX15 := Hd (HK15.out W10 brf)
 have hs19 : W1.heap.size ≤ w9.heap.size := Nat.le_trans HB18.out.size hb9.size
 clear hown hb9 HB10 HC8 hm1 hm2 hm3 c0 c1 c2 c3 c4 c5 c6 c7 t0 t1 t2
 go_upto_region 10 with fail
 rw [← HW10.out]
 clear HW10 HW8
 by_cases hce : E = 0
 rotate_left
 ·have hce1 : (E != 0) = true := by simpa using hce
  obtain ⟨rfl, rfl, rfl⟩ := HEZ.out hce
  clear HEZ HEY HO10 HP10 hce
  have hz8 := HK8.out _ HB110.out
  have hz9 := HK9.out _ HB110.out
  have HFB : Hid (Below w.heap.size w (set3c (set3c W10 b8 (.slice none 0 0) (.slice none 0 0) (.slice none 0 0)) b9 (.slice none 0 0) (.slice none 0 0) (.slice none 0 0))) := Hd (set3c_below _ _ _ (set3c_below _ _ _ (btr HBW.out HB110.out) HB8.out) HB9.out)
  obtain ⟨y0, y1, y2⟩ := cel3 hz8
  have g0 := froz0 hz8 0
  have g1 := froz0 hz8 1
  have g2 := froz0 hz8 2
  obtain ⟨y3, y4, y5⟩ := cel3 hz9
  have g3 := froz0 hz9 0
  have g4 := froz0 hz9 1
  have g5 := froz0 hz9 2
  clear hz8 hz9
  go_wp2_with fail
  (try simp only [Exit.inBlock, Exit.then])
  refine bodyPost_ret (v := .tuple #[.agg #[.slice none 0 0, .slice none 0 0, .slice none 0 0], .agg #[.slice none 0 0, .slice none 0 0, .slice none 0 0], .int .i64 0, .int .i64 E]) ?_ rfl ⟨_, _, _, _, _, _, rfl, OwnC.zero _ _, OwnC.zero _ _, HFB.out⟩
  rw [results_cctt rfl]
  go_simp
 have hce1 : (E != 0) = false := by simpa using hce
 obtain ⟨rfl, rfl, rfl⟩ := HEY.out hce
 subst hce
 have hz8 := HK8.out _ HB110.out
 have hz9 := HK9.out _ HB110.out
 have hm8 : (set3c W10 b8 (.slice p1 m1 l1) (.slice p2 m2 l2) (.slice p3 m3 l3)).heap[b9]? = some (.cells #[.slice none 0 0, .slice none 0 0, .slice none 0 0] 28) := by rw [set3c_other hne89.symm]; exact hz9
 obtain ⟨WF, hWF⟩ : ∃ x, x = set3c (set3c W10 b8 (.slice p1 m1 l1) (.slice p2 m2 l2) (.slice p3 m3 l3)) b9 (.slice q1 h1 j1) (.slice q2 h2 j2) (.slice q3 h3 j3) := ⟨_, rfl⟩
 have hof : OwnC w.heap.size WF (.slice p1 m1 l1) (.slice p2 m2 l2) (.slice p3 m3 l3) X := by rw [hWF]; exact (HO10.out.set3c hz8 _ _ _).set3c hm8 _ _ _
 have hpf : OwnC w.heap.size WF (.slice q1 h1 j1) (.slice q2 h2 j2) (.slice q3 h3 j3) Y := by rw [hWF]; exact (HP10.out.set3c hz8 _ _ _).set3c hm8 _ _ _
 have hfb : Below w.heap.size w WF := by rw [hWF]; exact set3c_below _ _ _ (set3c_below _ _ _ (btr HBW.out HB110.out) HB8.out) HB9.out
 have hy8 : WF.heap[b8]? = some (.cells #[.slice p1 m1 l1, .slice p2 m2 l2, .slice p3 m3 l3] 28) := by rw [hWF, set3c_other hne89]; exact set3c_same _ _ _ hz8
 have hy9 : WF.heap[b9]? = some (.cells #[.slice q1 h1 j1, .slice q2 h2 j2, .slice q3 h3 j3] 28) := by rw [hWF]; exact set3c_same _ _ _ hm8
 have HOF := Hd (hof.below bdr)
 have HPF := Hd (hpf.below bdr)
 have HFB : Hid (Below w.heap.size w WF.drew) := Hd (hfb.trans bdr)
 have HY8 : Hid (WF.drew.heap[b8]? = some (.cells #[.slice p1 m1 l1, .slice p2 m2 l2, .slice p3 m3 l3] 28)) := Hd (by rw [drew_heap]; exact hy8)
 have HY9 : Hid (WF.drew.heap[b9]? = some (.cells #[.slice q1 h1 j1, .slice q2 h2 j2, .slice q3 h3 j3] 28)) := Hd (by rw [drew_heap]; exact hy9)
 have HWF := Hd hWF
 clear HEZ HEY HO10 HP10 hof hpf hfb hy8 hy9 hm8 hWF
 go_upto_region 12 with fail
 refine NQ.to (wish12 W10 b8 b9 _ _ p1 p2 p3 q1 q2 q3 m1 l1 m2 l2 m3 l3 h1 j1 h2 j2 h3 j3 (.int .i64 V) _ _ _ _ _ _ _ _ _ _ _ _ _ _ _ _ _ _ _ _ _ _ _ _ _ _ _ _ _ _ _ _ _ _ _ _ _ _ _ _ _ _ _ _ _ _ _ _ _ _ _ _ _ _ _ _ _ _ _ _ _ _ _ _ _ _ _ _ _ _ _ _ _ _ _ _ _ _ HX14.out HX15.out hz8 hz9 ⟨hne89, by omega, by omega, by omega, by omega⟩ _ ?_)
 intro u74 u75 u76 wx hwx
 have hwx := hwx.out
 rw [← HWF.out] at hwx
 subst hwx
 clear HWF hz8 hz9 HX14 HX15
 generalize WF.drew = W20 at *
 obtain ⟨y0, y1, y2⟩ := cel3 HY8.out
 obtain ⟨y3, y4, y5⟩ := cel3 HY9.out
 go_wp2_with fail
 (try simp only [Exit.inBlock, Exit.then])
 refine bodyPost_ret (v := .tuple #[.agg #[.slice p1 m1 l1, .slice p2 m2 l2, .slice p3 m3 l3], .agg #[.slice q1 h1 j1, .slice q2 h2 j2, .slice q3 h3 j3], .int .i64 V, .int .i64 0]) ?_ rfl ⟨_, _, _, _, _, _, rfl, HOF.out, HPF.out, HFB.out⟩
 rw [results_cctt rfl]
 go_simp
end Go.Proofs.YtjoljfnlkddfbaaGreatDoor
