/- move.Login. -/
import Derived.Test.YtjoljfnlkddfbaaGreatDoorM6
set_option linter.unusedSimpArgs false
set_option linter.unusedVariables false
set_option maxRecDepth 100000
set_option maxHeartbeats 16000000
namespace Go.Proofs.YtjoljfnlkddfbaaGreatDoor
open Go.RowKit Go.Maps Go.Sort Go.Shelf

/-- Two carts of one's own and an error. -/
def OwnT (R S : CartD) (E : Int) (w : World) (e : Ending) (w' : World) : Prop := ∃ x1 x2 x3 y1 y2 y3, e = .returned (.tuple #[.agg #[x1, x2, x3], .agg #[y1, y2, y3], .int .i64 E]) ∧ OwnC w.heap.size w' x1 x2 x3 R ∧ OwnC w.heap.size w' y1 y2 y3 S ∧ Below w.heap.size w w'
theorem log_bad {f t : CartD} {l : List DotD} (h : logE f t l ≠ 0) : logX f t l = zeroC ∧ logY f t l = zeroC := by
 unfold logX logY
 rw [if_neg h, if_neg h]
 exact ⟨rfl, rfl⟩
/-- How great the carts of Login are at most. -/
def SzL (M : Nat) (f t : CartD) : Prop := 1 ≤ M ∧ M ≤ 500 ∧ (∀ x ∈ t.items, x.marks.length ≤ M) ∧ t.items.length + f.items.length ≤ 900 ∧ (t.items.length + f.items.length) * M ≤ 9000 ∧ t.vec.length + t.cloud.length + f.items.length ≤ 9000 ∧ (M + 1) * f.items.length ≤ 1000 ∧ Lt f.items ∧ (allDots f.items).length ≤ 9000
theorem SzL.lt {M : Nat} {f t : CartD} (h : SzL M f t) : Lt t.items := by
 obtain ⟨h1, h2, h3, h4, -⟩ := h
 exact ⟨by omega, fun x hx => by have := h3 x hx; omega⟩
/-- What holds of the loop's cart at every step. -/
theorem SzL.step {M : Nat} {f t : CartD} {l : List DotD} (h : SzL M f t) (ht : validC t = true) (k : Nat) :
 Lt (logL f t ((f.items.zip l).take k) []).1.items ∧ (allDots (logL f t ((f.items.zip l).take k) []).1.items).length ≤ 9000 ∧ (logL f t ((f.items.zip l).take k) []).1.vec.length + (logL f t ((f.items.zip l).take k) []).1.cloud.length ≤ 9900 ∧
 (logL f t ((f.items.zip l).take k) []).2.1.length ≤ f.items.length ∧ (∀ c ∈ (logL f t ((f.items.zip l).take k) []).2.1, validC c = true ∧ CL (M + 1) c) ∧ validC (logL f t ((f.items.zip l).take k) []).1 = true ∧
 ∀ d nm q, SzC (comeX (logL f t ((f.items.zip l).take k) []).1 d nm q) := by
 obtain ⟨h1, h2, h3, h4, h5, h6, h7, -⟩ := h
 obtain ⟨i1, i2, i3, -⟩ := log_inv h1 f ((f.items.zip l).take k) t [] _ _ ⟨ht, Nat.le_refl _, h3, Nat.le_refl _⟩ (by simp)
 have hlen : ((f.items.zip l).take k).length ≤ f.items.length := by
  rw [List.length_take, List.length_zip]
  omega
 generalize logL f t ((f.items.zip l).take k) [] = r at *
 obtain ⟨j1, j2, j3, j4⟩ := i1
 have hlt : Lt r.1.items := ⟨by omega, fun x hx => by have := j3 x hx; omega⟩
 have hmul : r.1.items.length * M ≤ 9000 := Nat.le_trans (Nat.mul_le_mul_right M (show r.1.items.length ≤ t.items.length + f.items.length by omega)) h5
 refine ⟨hlt, Nat.le_trans (allDots_mul r.1.items j3) hmul, by omega, by simp only [List.length_nil] at i3; omega, i2, j1, fun d nm q => ?_⟩
 by_cases he : comeE r.1 d nm q = 0
 ·have := log_step (M := M) (n := r.1.items.length) (v := r.1.vec.length + r.1.cloud.length) ⟨j1, Nat.le_refl _, j3, Nat.le_refl _⟩ h1 he
  exact this.2.2.sz (by omega)
 ·rw [(comeX_bad he).1]
  exact ⟨⟨by simp [zeroC], fun x hx => by simp [zeroC] at hx⟩, by simp [zeroC]⟩
theorem zip_take {α β : Type} {a : List α} {b : List β} {k : Nat} (h1 : k < a.length) (h2 : k < b.length) : (a.zip b).take (k + 1) = (a.zip b).take k ++ [(a[k], b[k])] := by
 have hz : k < (a.zip b).length := by rw [List.length_zip]; omega
 rw [List.take_succ_eq_append_getElem hz, List.getElem_zip]
theorem login19 (WL : World) (b8 b9 b14 b15 : Nat) (p1 p2 p3 q1 q2 q3 : Option Addr) (m1 l1 m2 l2 m3 l3 h1 j1 h2 j2 h3 j3 : Nat) (z0 z1 z2 z3 z4 z5 z8 z9 z10 z11 z12 z13 z14 z16 z18 z19 z20 z21 z22 z23 z24 z25 z26 z27 z28 z29 z30 z31 z32 z33 z34 z35 z36 z37 z38 z39 z40 z41 z42 z43 z44 z45 z46 z47 z48 z49 z50 z51 z52 z53 z54 z55 z56 z57 z58 z59 z60 z61 z62 z63 z64 z65 z66 z67 z68 z69 z70 z71 : Value) (y0 y1 y2 y3 y4 y5 : Value)
  (hx14 : WL.heap[b14]? = some (.cells #[.slice p1 m1 l1, .slice p2 m2 l2, .slice p3 m3 l3] 28)) (hx15 : WL.heap[b15]? = some (.cells #[.slice q1 h1 j1, .slice q2 h2 j2, .slice q3 h3 j3] 28))
  (hx8 : WL.heap[b8]? = some (.cells #[y0, y1, y2] 28)) (hx9 : WL.heap[b9]? = some (.cells #[y3, y4, y5] 28)) (hne : b8 ≠ b9 ∧ b14 ≠ b8 ∧ b15 ≠ b8 ∧ b14 ≠ b9 ∧ b15 ≠ b9) (R : Act → World → Prop)
  (hQ : ∀ (u70 u71 : Value) (wx : World), Hid (wx = (set3c (set3c WL b8 (.slice p1 m1 l1) (.slice p2 m2 l2) (.slice p3 m3 l3)) b9 (.slice q1 h1 j1) (.slice q2 h2 j2) (.slice q3 h3 j3)).drew) → R { tmps := #[z0, z1, z2, z3, z4, z5, .pointer (some ⟨b8, 0, none⟩), .pointer (some ⟨b9, 0, none⟩), .int .i64 0, z9, z10, z11, z12, z13, z14, .pointer (some ⟨b14, 0, none⟩), z16, .pointer (some ⟨b15, 0, none⟩), z18, z19, z20, z21, z22, z23, z24, z25, z26, z27, z28, z29, z30, z31, z32, z33, z34, z35, z36, z37, z38, z39, z40, z41, z42, z43, z44, z45, z46, z47, z48, z49, z50, z51, z52, z53, z54, z55, z56, z57, z58, z59, z60, z61, z62, z63, z64, z65, z66, z67, z68, z69, u70, u71], defers := [] } wx) :
  (codeAt [1, 1, 1, 1, 1, 1, 1, 1, 1, 0] (Tryz.f24.body.getD .skip)).wp Tryz.prog (NQ R) { tmps := #[z0, z1, z2, z3, z4, z5, .pointer (some ⟨b8, 0, none⟩), .pointer (some ⟨b9, 0, none⟩), z8, z9, z10, z11, z12, z13, z14, .pointer (some ⟨b14, 0, none⟩), z16, .pointer (some ⟨b15, 0, none⟩), z18, z19, z20, z21, z22, z23, z24, z25, z26, z27, z28, z29, z30, z31, z32, z33, z34, z35, z36, z37, z38, z39, z40, z41, z42, z43, z44, z45, z46, z47, z48, z49, z50, z51, z52, z53, z54, z55, z56, z57, z58, z59, z60, z61, z62, z63, z64, z65, z66, z67, z68, z69, z70, z71], defers := [] } WL := by
 have HSA : Hid (∀ wz : World, wz.heap[b14]? = WL.heap[b14]? → wz.heap[b15]? = WL.heap[b15]? → (wz.cell? ⟨b14, 0, none⟩ = some (.slice p1 m1 l1) ∧ wz.cell? ⟨b14, 1, none⟩ = some (.slice p2 m2 l2) ∧ wz.cell? ⟨b14, 2, none⟩ = some (.slice p3 m3 l3)) ∧ wz.cell? ⟨b15, 0, none⟩ = some (.slice q1 h1 j1) ∧ wz.cell? ⟨b15, 1, none⟩ = some (.slice q2 h2 j2) ∧ wz.cell? ⟨b15, 2, none⟩ = some (.slice q3 h3 j3)) := Hd (fun wz e1 e2 => ⟨cel3 (e1.trans hx14), cel3 (e2.trans hx15)⟩)
 have HS0 := Hd (HSA.out WL.drew rfl rfl)
 have HS3 := Hd (HSA.out (set3c WL b8 (.slice p1 m1 l1) (.slice p2 m2 l2) (.slice p3 m3 l3)).drew (by rw [drew_heap, set3c_other hne.2.1]) (by rw [drew_heap, set3c_other hne.2.2.1]))
 have HS4 := Hd (HSA.out (set3c (set3c WL b8 (.slice p1 m1 l1) (.slice p2 m2 l2) (.slice p3 m3 l3)) b9 (.slice q1 h1 j1) (.slice q2 h2 j2) (.slice q3 h3 j3)).drew (by rw [drew_heap, set3c_other hne.2.2.2.1, set3c_other hne.2.1]) (by rw [drew_heap, set3c_other hne.2.2.2.2, set3c_other hne.2.2.1]))
 have hx9' : (set3c WL b8 (.slice p1 m1 l1) (.slice p2 m2 l2) (.slice p3 m3 l3)).heap[b9]? = some (.cells #[y3, y4, y5] 28) := by rw [set3c_other hne.1.symm]; exact hx9
 obtain ⟨e0, e1, e2⟩ := cel3 hx8
 have g0 := froz0 hx8 0
 have g1 := froz0 hx8 1
 have g2 := froz0 hx8 2
 obtain ⟨e3, e4, e5⟩ := cel3 hx9'
 have g3 := froz0 hx9' 0
 have g4 := froz0 hx9' 1
 have g5 := froz0 hx9' 2
 have HQ := Hd hQ
 have HW2 : ∃ WB : World, Hid (WB = (set3c (set3c WL b8 (.slice p1 m1 l1) (.slice p2 m2 l2) (.slice p3 m3 l3)) b9 (.slice q1 h1 j1) (.slice q2 h2 j2) (.slice q3 h3 j3)).drew) := ⟨_, Hd rfl⟩
 obtain ⟨WB, HWB⟩ := HW2
 clear HSA hx14 hx15 hx8 hx9 hx9' hne hQ
 simp only [codeAt, codeL, codeR, Tryz.f24, Option.getD_some]
 refine wp_region_held_drew (S := (fun wz => (wz.cell? ⟨b14, 0, none⟩ = some (.slice p1 m1 l1) ∧ wz.cell? ⟨b14, 1, none⟩ = some (.slice p2 m2 l2) ∧ wz.cell? ⟨b14, 2, none⟩ = some (.slice p3 m3 l3)) ∧ wz.cell? ⟨b15, 0, none⟩ = some (.slice q1 h1 j1) ∧ wz.cell? ⟨b15, 1, none⟩ = some (.slice q2 h2 j2) ∧ wz.cell? ⟨b15, 2, none⟩ = some (.slice q3 h3 j3))) (by kernel_rfl) (HS0.out) (fun hS => ?_)
 refine tkR (n := 2) [0, 1] rfl (by decide +kernel) hS ?_
 iterate 2 ((try simp only [Act.put, s1, s2, s3, s4, s5, s6]); refine ⟨_, ?_, rfl, Or.inl ⟨by kernel_rfl, fun w hSw => ok_of fun z hz => ?_⟩, ?_⟩; rotate_left; · (obtain ⟨⟨f0, f1, f2⟩, f3, f4, f5⟩ := hSw; go_simp; exact hz))
 refine RunOK.done ?_
 try simp only [Act.put, s1, s2, s3, s4, s5, s6]
 refine rd1 2 (by decide +kernel) rfl (fun K hK => ?_)
 go_simp
 change K _ (set3c WL b8 (.slice p1 m1 l1) (.slice p2 m2 l2) (.slice p3 m3 l3)).drew
 refine Shut.out hK _ _ (HS3.out) (fun hS2 => ?_); clear hK K hS; have hS := hS2; clear hS2
 try simp only [Act.put, s1, s2, s3, s4, s5, s6]
 refine rd1 3 (by decide +kernel) rfl (fun K hK => ?_)
 unfold set3c
 unfold set3c at e3 e4 e5 g3 g4 g5
 go_simp
 change K _ (set3c (set3c WL b8 (.slice p1 m1 l1) (.slice p2 m2 l2) (.slice p3 m3 l3)) b9 (.slice q1 h1 j1) (.slice q2 h2 j2) (.slice q3 h3 j3)).drew
 refine Shut.out hK _ _ (HS4.out) (fun hS2 => ?_); clear hK K hS; have hS := hS2; clear hS2
 try simp only [Act.put, s1, s2, s3, s4, s5, s6]
 rw [← HWB.out] at hS ⊢
 refine tkR (n := 1) [4] rfl (by decide +kernel) hS ?_
 iterate 1 ((try simp only [Act.put, s1, s2, s3, s4, s5, s6]); refine ⟨_, ?_, rfl, Or.inl ⟨by kernel_rfl, fun w hSw => ok_of fun z hz => ?_⟩, ?_⟩; rotate_left; · (obtain ⟨⟨f0, f1, f2⟩, f3, f4, f5⟩ := hSw; go_simp; exact hz))
 refine RunOK.done ?_
 try simp only [Act.put, s1, s2, s3, s4, s5, s6]
 refine wpAnyH_done (by kernel_rfl) ?_ _
 try simp only [Act.put, s1, s2, s3, s4, s5, s6]
 simp only [NQ]
 exact HQ.out _ _ WB HWB

theorem moveLogin_any (M : Nat) (f t : CartD) (l : List DotD) (v1 v2 v3 u1 u2 u3 vl : Value) (w : World) (h : CartA w v1 v2 v3 f) (g : CartA w u1 u2 u3 t) (hl : Arr DotR 2 w vl l) (hsz : SzL M f t) (hG : GlobIs w) :
  Calls Tryz.prog 24 #[.agg #[v1, v2, v3], .agg #[u1, u2, u3], vl] w (OwnT (logX f t l) (logY f t l) (logE f t l) w) := by
 obtain ⟨hs1, hs2, hs3, hs4, hs5, hs6, hs7, hlf, hnf⟩ := id hsz
 have hni := h.2.2.len
 obtain ⟨o3', k3', e3', hel⟩ := h.2.2.itemAt
 obtain ⟨o1, n1, k1, o2, n2, k2, o3, n3, k3, rfl, rfl, rfl, hn1, hn2, hn3⟩ := opn4 h
 injection e3' with e31 e32 e33
 subst e31 e33
 clear e32
 obtain ⟨o4, n4, k4, o5, n5, k5, o6, n6, k6, rfl, rfl, rfl, hn4, hn5, hn6⟩ := opn4 g
 obtain ⟨W0, HW0, HB0, HS0, HK0, HK1, HK2, HK3⟩ := box4 w #[.slice o1 n1 k1, .slice o2 n2 k2, .slice o3 n3 k3] 28 #[.slice o4 n4 k4, .slice o5 n5 k5, .slice o6 n6 k6] 28 #[.slice none 0 0, .slice none 0 0, .slice none 0 0] 28 #[.slice none 0 0, .slice none 0 0, .slice none 0 0] 28
 have HLO := Hd (movelogin_any f t l _ _ _ _ _ _ vl W0 (h.below HB0.out) (g.below HB0.out) (hl.dots HB0.out) hlf hsz.lt (hG.below HB0.out))
 obtain ⟨ol, cl, rfl, hdl⟩ := hl.dotAt
 have HEL := Hd hel
 have HDL := Hd hdl
 have HN3 := Hd hn3
 have HF := Hd h
 have HT := Hd g
 have HSL := Hd hsz
 have HGL := Hd hG
 have HNF := Hd (show Lt f.items ∧ (allDots f.items).length ≤ 9000 from ⟨hlf, hnf⟩)
 have HE1 : Hid (loginE f t l ≠ 0 → logE f t l = loginE f t l) := Hd (fun e => by unfold logE; rw [if_neg e])
 have HE2 : Hid (loginE f t l = 0 → loginOk f t l = true ∧ loginMuch f t = false ∧ logE f t l = (logL f t (f.items.zip l) []).2.2) := Hd (fun e => by
  refine ⟨?_, ?_, by unfold logE logF; rw [if_pos e]⟩
  ·cases hk : loginOk f t l with
   | true => rfl
   | false => rw [loginOk_bad hk] at e; cases e
  ·cases hm : loginMuch f t with
   | false => rfl
   | true =>
    cases hk : loginOk f t l with
    | true => rw [much_bad hk hm] at e; cases e
    | false => rw [loginOk_bad hk] at e; cases e)
 have HEZ : Hid (logE f t l ≠ 0 → logX f t l = zeroC ∧ logY f t l = zeroC) := Hd log_bad
 have HEY : Hid (logE f t l = 0 → logX f t l = clrC f ∧ logY f t l = allC (logL f t (f.items.zip l) []).2.1) := Hd (fun e => ⟨by unfold logX; rw [if_pos e], by unfold logY logF; rw [if_pos e]⟩)
 rw [← hn3] at hni
 have hs0 := HS0.out
 obtain ⟨nl, hnl'⟩ : ∃ n, n = l.length := ⟨_, rfl⟩
 have HNL := Hd hnl'
 rw [← hnl']
 rw [← hnl'] at HLO
 clear h g hl hel hdl hsz hG hlf hnf hs1 hs2 hs3 hs4 hs5 hs6 hs7 hn1 hn2 hn3 hn4 hn5 hn6 hnl'
 obtain ⟨E, hE⟩ : ∃ E, E = logE f t l := ⟨_, rfl⟩
 obtain ⟨X, hX⟩ : ∃ E, E = logX f t l := ⟨_, rfl⟩
 obtain ⟨Y, hY⟩ : ∃ E, E = logY f t l := ⟨_, rfl⟩
 rw [← hE, ← hX, ← hY]
 rw [← hE] at HE1 HE2 HEZ HEY
 rw [← hX, ← hY] at HEZ HEY
 clear hE hX hY
 obtain ⟨LE, hLE⟩ : ∃ E, E = loginE f t l := ⟨_, rfl⟩
 rw [← hLE] at HLO HE1 HE2
 clear hLE
 obtain ⟨c0, c1, c2⟩ := cel3 (HK0.out W0 brf)
 obtain ⟨c3, c4, c5⟩ := cel3 (HK1.out W0 brf)
 go_enter Tryz.func24, Tryz.ntmps24
 go_wp2_with fail
 rw [← HW0.out]
 go_wp2_with fail
 refine HLO.out.mono ?_
 rintro e w2 ⟨rfl, hb2⟩
 -- the boxes
 obtain ⟨r6, hr6⟩ : ∃ b, b = w.heap.size + 1 + 1 := ⟨_, rfl⟩
 obtain ⟨r7, hr7⟩ : ∃ b, b = w.heap.size + 1 + 1 + 1 := ⟨_, rfl⟩
 have HB6 : Hid (w.heap.size ≤ r6) := Hd (by omega)
 have HB7 : Hid (w.heap.size ≤ r7) := Hd (by omega)
 have hz2 := hb2.size
 obtain ⟨W3, hW3⟩ : ∃ x, x = w2.alloc (.cells #[.slice none 0 0] 64) := ⟨_, rfl⟩
 have hb23 : Below w2.heap.size w2 W3 := by rw [hW3]; exact bal
 have hb03 := btr hb2 hb23
 have hs3 : W3.heap.size = w2.heap.size + 1 := by rw [hW3, alloc_size]
 have hD3 : W3.heap[w2.heap.size]? = some (.cells #[.slice none 0 0] 64) := by rw [hW3]; exact alloc_new _ _
 obtain ⟨B2, hB2⟩ : ∃ b, b = W3.heap.size := ⟨_, rfl⟩
 have hne67 : r6 ≠ r7 := by omega
 have HBX : Hid (BX w B2 w.heap.size (w.heap.size + 1) r6 r7 w2.heap.size) := Hd ⟨by omega, by omega, by omega, by omega, by omega, by omega, by omega, by omega, by omega, by omega, by omega, by omega, by omega, by omega, by omega, by omega⟩
 have HG3 : Hid (LG w W3 B2 w.heap.size (w.heap.size + 1) r6 r7 w2.heap.size #[.slice o1 n1 k1, .slice o2 n2 k2, .slice o3 n3 k3] t [])   := Hd ⟨btr HB0.out hb03, Nat.le_of_eq hB2, HK0.out W3 hb03, by rw [hr6]; exact HK2.out W3 hb03, by rw [hr7]; exact HK3.out W3 hb03, ⟨_, _, _, HK1.out W3 hb03, Or.inl ⟨HT.out, btr HB0.out hb03⟩⟩, .slice none 0 0, [], hD3, Enc.Row.nil _ _, rfl, fun q hq => by cases hq⟩
 have HG2 : Hid (Below w.heap.size w w2 ∧ w2.heap[r6]? = some (.cells #[.slice none 0 0, .slice none 0 0, .slice none 0 0] 28) ∧ w2.heap[r7]? = some (.cells #[.slice none 0 0, .slice none 0 0, .slice none 0 0] 28)) := Hd ⟨btr HB0.out hb2, by rw [hr6]; exact HK2.out w2 hb2, by rw [hr7]; exact HK3.out w2 hb2⟩
 rw [← hr7, ← hr6]
 clear hB2 HLO hb2 hb23 hb03 hs3 hD3 HK1 HK2 HK3 HB0 HW0 HS0 hs0 hz2 c0 c1 c2 c3 c4 c5 hr6 hr7
 by_cases hle : LE = 0
 rotate_left
 ·have hle1 : (LE != 0) = true := by simpa using hle
  obtain rfl := HE1.out hle
  obtain ⟨rfl, rfl⟩ := HEZ.out hle
  clear HE1 HE2 HEZ HEY hle HG3
  have hz8 := HG2.out.2.1
  have hz9 := HG2.out.2.2
  have HFB : Hid (Below w.heap.size w (set3c (set3c w2 r6 (.slice none 0 0) (.slice none 0 0) (.slice none 0 0)) r7 (.slice none 0 0) (.slice none 0 0) (.slice none 0 0))) := Hd (set3c_below _ _ _ (set3c_below _ _ _ HG2.out.1 HB6.out) HB7.out)
  obtain ⟨y0, y1, y2⟩ := cel3 hz8
  have g0 := froz0 hz8 0
  have g1 := froz0 hz8 1
  have g2 := froz0 hz8 2
  obtain ⟨y3, y4, y5⟩ := cel3 hz9
  have g3 := froz0 hz9 0
  have g4 := froz0 hz9 1
  have g5 := froz0 hz9 2
  clear hz8 hz9
  go_wp2_with fail
  (try simp only [Exit.inBlock, Exit.then])
  refine bodyPost_ret (v := .tuple #[.agg #[.slice none 0 0, .slice none 0 0, .slice none 0 0], .agg #[.slice none 0 0, .slice none 0 0, .slice none 0 0], .int .i64 E]) ?_ rfl ⟨_, _, _, _, _, _, rfl, OwnC.zero _ _, OwnC.zero _ _, HFB.out⟩
  rw [results_cct rfl]
  go_simp
 have hle1 : (LE != 0) = false := by simpa using hle
 obtain ⟨hok, hmu, hEL⟩ := HE2.out hle
 obtain ⟨hvf, hvt, hll, hset, hfr⟩ := loginOk_parts hok
 have HVF := Hd hvf
 have HST := Hd (fun k => SzL.step (l := l) HSL.out hvt k)
 have HLL : Hid (nl = n3) := Hd (by rw [HNL.out, HN3.out]; exact hll)
 have HZT : Hid ((f.items.zip l).take n3 = f.items.zip l) := Hd (List.take_of_length_le (by rw [List.length_zip, HN3.out]; omega))
 have HEL2 := Hd hEL
 clear HE1 HE2 hle hok hmu hEL hvf hvt hll hset hfr HG2
 go_upto_region 6 with fail
 rw [← hW3]
 clear hW3
 generalize w2.heap.size = bD at *
 obtain ⟨c0, c1, c2⟩ := cel3 HG3.out.hF
 go_wp2_with fail
 go_loopw [31] (fun i wr => ∃ k : Nat, k ≤ n3 ∧ i = .int .i64 k ∧ (logL f t ((f.items.zip l).take k) []).2.2 = 0 ∧ LG w wr B2 w.heap.size (w.heap.size + 1) r6 r7 bD #[.slice o1 n1 k1, .slice o2 n2 k2, .slice o3 n3 k3] (logL f t ((f.items.zip l).take k) []).1 (logL f t ((f.items.zip l).take k) []).2.1) (fun i _ => n3 - (intOf i).toNat)
 case atStart => exact ⟨0, Nat.zero_le _, rfl, rfl, HG3.out⟩
 case round =>
  obtain ⟨k, hk, rfl, h0, hLG⟩ := hrel
  have HG := Hd hLG
  have H0 := Hd h0
  clear hLG h0 c0 c1 c2 HG3
  obtain ⟨c0, c1, c2⟩ := cel3 HG.out.hF
  by_cases hlt : k < n3
  ·have hlt1 : k < f.items.length := by rw [← HN3.out]; exact hlt
   have hlt2 : k < l.length := by rw [← HNL.out, HLL.out]; exact hlt
   obtain ⟨b, off, mv, rfl, hbl, e0, e1, hns, hmk⟩ := HEL.out k hlt1
   obtain ⟨bl, offl, rfl, hbd, f0, f1⟩ := HDL.out k hlt2
   obtain ⟨om, cm, rfl⟩ := hmk.slice
   have hBw := HG.out.below
   have d0 : wr.cell? ⟨b, off + k * 2, none⟩ = some (.string f.items[k].name) := by rw [hBw.cell (p := ⟨_, _, _⟩) hbl]; exact e0
   have d1 : wr.cell? ⟨b, off + k * 2 + 1, none⟩ = some (.slice om f.items[k].marks.length cm) := by rw [hBw.cell (p := ⟨_, _, _⟩) hbl]; exact e1
   obtain ⟨s1', s2', s3', s4', s5', s6', s7'⟩ := HST.out k
   have HLS : Hid (logL f t ((f.items.zip l).take (k + 1)) [] = if comeE (logL f t ((f.items.zip l).take k) []).1 l[k] f.items[k].name (qtyC f f.items[k].name) = 0 then (refJoin (logL f t ((f.items.zip l).take k) []).1 (comeX (logL f t ((f.items.zip l).take k) []).1 l[k] f.items[k].name (qtyC f f.items[k].name)), (logL f t ((f.items.zip l).take k) []).2.1 ++ [comeX (logL f t ((f.items.zip l).take k) []).1 l[k] f.items[k].name (qtyC f f.items[k].name)], 0) else ((logL f t ((f.items.zip l).take k) []).1, (logL f t ((f.items.zip l).take k) []).2.1, comeE (logL f t ((f.items.zip l).take k) []).1 l[k] f.items[k].name (qtyC f f.items[k].name))) := Hd (by
    rw [zip_take hlt1 hlt2, logL_snoc, if_pos H0.out])
   have HSTOP : Hid ((logL f t ((f.items.zip l).take (k + 1)) []).2.2 ≠ 0 → E = (logL f t ((f.items.zip l).take (k + 1)) []).2.2) := Hd (fun e => by
    rw [HEL2.out]
    conv => lhs; rw [← List.take_append_drop (k + 1) (f.items.zip l)]
    rw [logL_stop f _ _ t [] e])
   generalize f.items[k] = x at *
   generalize l[k] = d at *
   obtain ⟨W5, HW5, HB5, HS5, HK5⟩ := box1 wr #[.string x.name, .slice om x.marks.length cm] 55
   have HG5 := Hd (HG.out.move HB5.out)
   have hx5 := HK5.out W5 brf
   have HS9 : Hid (∀ wz, (KeepT W5 wz ∧ Below w.heap.size w wz) → wz.cell? ⟨wr.heap.size, 0, none⟩ = some (.string x.name) ∧ wz.cell? ⟨bl, offl + k * 2, none⟩ = some (.int .i64 d.rep) ∧ wz.cell? ⟨bl, offl + k * 2 + 1, none⟩ = some (.int .i64 d.ctr)) := Hd (fun wz hz => by
    have h1 := (hz.1.2 _ _ _ hx5 (by decide) (by decide)).trans hx5
    exact ⟨(cel2 h1).1, by rw [hz.2.cell (p := ⟨_, _, _⟩) hbd]; exact f0, by rw [hz.2.cell (p := ⟨_, _, _⟩) hbd]; exact f1⟩)
   have hnf := HNF.out
   have HC9 := Hd (moveLogin1_any f (logL f t ((f.items.zip l).take k) []).1 (logL f t ((f.items.zip l).take k) []).2.1 x.name d w W5.drew B2 w.heap.size (w.heap.size + 1) r6 r7 bD _ _ _ HBX.out (HG5.out.move bdr) HF.out hnf.1 s1' s2' s3' (s7' _ _ _) (by have := hnf.1.1; omega) hns HGL.out)
   have HKD : Hid (KeepT W5 W5.drew ∧ Below w.heap.size w W5.drew) := Hd ⟨KeepT.below bdr, (HG5.out.move bdr).below⟩
   have a0 : (0 : Int) ≤ k := by omega
   have a1 : (k : Int) < n3 := by omega
   have a2 : (k : Int) < nl := by have := HLL.out; omega
   have hkw := wr1 k (by omega)
   have HEA : Hid (E ≠ 0 → X = zeroC ∧ Y = zeroC) := HEZ
   clear e0 e1 f0 f1 hns hmk hBw hnf s1' s2' s3' s4' s5' s6' s7' hx5 hbl hbd
   obtain ⟨rn, hrn0⟩ : ∃ r, r = logL f t ((f.items.zip l).take (k + 1)) [] := ⟨_, rfl⟩
   rw [← hrn0] at HLS HSTOP
   have HRN := Hd hrn0
   clear hrn0
   generalize logL f t ((f.items.zip l).take k) [] = rk at *
   unfold dotV at HC9
   obtain ⟨CE, hCE⟩ : ∃ e, e = comeE rk.1 d x.name (qtyC f x.name) := ⟨_, rfl⟩
   rw [← hCE] at HC9 HLS
   clear hCE
   go_upto_region 9 with fail
   rw [← HW5.out]
   clear HW5 c0 c1 c2 d0 d1
   refine NQ.to ?_
   refine wp_region_held_drew (S := (fun wz => KeepT W5 wz ∧ Below w.heap.size w wz)) (by kernel_rfl) (HKD.out) (fun hS => ?_)
   refine tkR (n := 7) [0, 1, 2, 3, 4, 5, 6] rfl (by decide +kernel) hS ?_
   iterate 7 ((try simp only [Act.put, s1, s2, s3, s4, s5, s6]); refine ⟨_, ?_, rfl, Or.inl ⟨by kernel_rfl, fun w hSw => ok_of fun z hz => ?_⟩, ?_⟩; rotate_left; · (obtain ⟨f0, f1, f2⟩ := HS9.out _ hSw; go_simp; exact hz))
   refine RunOK.done ?_
   try simp only [Act.put, s1, s2, s3, s4, s5, s6]
   refine rd1 7 (by decide +kernel) rfl (fun K hK => ?_)
   go_simp
   go_at_call 50
   refine HC9.out.mono ?_
   rintro e w9 ⟨rfl, hbad, hgood, hkt⟩
   have hkt9 : KeepT W5 w9 ∧ Below w.heap.size w w9 := ⟨HKD.out.1.trans hkt, Classical.byCases (p := CE = 0) (fun h => (hgood h).below) (fun h => (hbad h).below)⟩
   go_simp
   refine Shut.out hK _ _ (hkt9) (fun hS2 => ?_); clear hK K hS; have hS := hS2; clear hS2
   try simp only [Act.put, s1, s2, s3, s4, s5, s6]
   refine tkR (n := 1) [8] rfl (by decide +kernel) hS ?_
   iterate 1 ((try simp only [Act.put, s1, s2, s3, s4, s5, s6]); refine ⟨_, ?_, rfl, Or.inl ⟨by kernel_rfl, fun w hSw => ok_of fun z hz => ?_⟩, ?_⟩; rotate_left; · (obtain ⟨f0, f1, f2⟩ := HS9.out _ hSw; go_simp; exact hz))
   refine RunOK.done ?_
   try simp only [Act.put, s1, s2, s3, s4, s5, s6]
   refine wpAnyH_done (by kernel_rfl) ?_ _
   try simp only [Act.put, s1, s2, s3, s4, s5, s6]
   simp only [NQ]
   clear hS
   by_cases hce : CE = 0
   rotate_left
   ·have hce1 : (CE != 0) = true := by simpa using hce
    have HG9 := Hd (hbad hce)
    have hrn : rn.2.2 = CE := by rw [HLS.out, if_neg hce]
    have hEC : E = CE := by
     have := HSTOP.out (by rw [hrn]; exact hce)
     rw [this, hrn]
    subst hEC
    obtain ⟨rfl, rfl⟩ := HEZ.out hce
    clear HLS HSTOP HEZ HEY HEA hce hgood hbad HC9 HEL2 hrn HG HG5
    have hz8 := HG9.out.h6
    have hz9 := HG9.out.h7
    have HFB : Hid (Below w.heap.size w (set3c (set3c w9 r6 (.slice none 0 0) (.slice none 0 0) (.slice none 0 0)) r7 (.slice none 0 0) (.slice none 0 0) (.slice none 0 0))) := Hd (set3c_below _ _ _ (set3c_below _ _ _ HG9.out.below HB6.out) HB7.out)
    obtain ⟨y0, y1, y2⟩ := cel3 hz8
    have g0 := froz0 hz8 0
    have g1 := froz0 hz8 1
    have g2 := froz0 hz8 2
    obtain ⟨y3, y4, y5⟩ := cel3 hz9
    have g3 := froz0 hz9 0
    have g4 := froz0 hz9 1
    have g5 := froz0 hz9 2
    clear hz8 hz9
    go_wp2_with fail
    (try simp only [Exit.inBlock, Exit.then])
    refine bodyPost_ret (v := .tuple #[.agg #[.slice none 0 0, .slice none 0 0, .slice none 0 0], .agg #[.slice none 0 0, .slice none 0 0, .slice none 0 0], .int .i64 E]) ?_ rfl ⟨_, _, _, _, _, _, rfl, OwnC.zero _ _, OwnC.zero _ _, HFB.out⟩
    rw [results_cct rfl]
    go_simp
   have hce1 : (CE != 0) = false := by simpa using hce
   have HG9 := Hd (hgood hce)
   have hrn : rn = (refJoin rk.1 (comeX rk.1 d x.name (qtyC f x.name)), rk.2.1 ++ [comeX rk.1 d x.name (qtyC f x.name)], 0) := by rw [HLS.out, if_pos hce]
   have HF0 : Hid ((logL f t ((f.items.zip l).take (k + 1)) []).2.2 = 0) := Hd (by rw [← HRN.out, hrn])
   have HF1 : Hid (LG w w9 B2 w.heap.size (w.heap.size + 1) r6 r7 bD #[.slice o1 n1 k1, .slice o2 n2 k2, .slice (some ⟨b, off, none⟩) n3 k3] (logL f t ((f.items.zip l).take (k + 1)) []).1 (logL f t ((f.items.zip l).take (k + 1)) []).2.1) := Hd (by rw [← HRN.out, hrn]; exact HG9.out)
   clear HLS HSTOP HEA hce hgood hbad HC9 hrn HG HG5 HG9
   go_wp2_with fail
   go_roundw
   case rel => exact ⟨k + 1, by omega, by go_num, HF0.out, HF1.out⟩
   case measure => simp [intOf]; omega
  ·have hke : k = n3 := by omega
   have hz := HZT.out
   rw [← hke] at hz
   have hE0 : E = 0 := by rw [HEL2.out, ← hz]; exact H0.out
   obtain ⟨hX, hY⟩ := HEY.out hE0
   rw [← hz] at hY
   obtain ⟨s1', s2', s3', s4', s5', s6', s7'⟩ := HST.out k
   have hcl : clrCE f = 0 := by unfold clrCE; rw [if_pos HVF.out]
   have HCL := Hd (deltaClearO_any f _ _ _ wr (HF.out.below HG.out.below) HNF.out.1 HNF.out.2 (HGL.out.below HG.out.below))
   rw [hcl] at HCL
   have HX0 := Hd hX
   have HY0 := Hd hY
   have HDV : Hid (∀ c ∈ (logL f t ((f.items.zip l).take k) []).2.1, validC c = true ∧ CL (M + 1) c) := Hd s5'
   have HLN : Hid ((M + 1) * (logL f t ((f.items.zip l).take k) []).2.1.length ≤ 1000) := Hd (Nat.le_trans (Nat.mul_le_mul_left _ s4') HSL.out.2.2.2.2.2.2.1)
   have b1 : ¬ (k : Int) < (n3 : Int) := by omega
   subst hE0
   clear hX hY s1' s2' s3' s4' s5' s6' s7' hcl hz hke HZT HEL2 HEY HEZ HST
   generalize (logL f t ((f.items.zip l).take k) []).2.1 = ds at *
   generalize (logL f t ((f.items.zip l).take k) []).1 = tk at *
   go_wp2_with fail
   refine HCL.out.mono ?_
   rintro e w4 ⟨x1, x2, x3, rfl, hown, hb4⟩
   obtain ⟨p1, m1, l1, p2, m2, l2, p3, m3, l3, rfl, rfl, rfl, hm1, hm2, hm3⟩ := hown.opn
   obtain ⟨W5, HW5, HB5, HS5, HK5⟩ := box1 w4 #[.slice p1 m1 l1, .slice p2 m2 l2, .slice p3 m3 l3] 28
   have HG5 := Hd (HG.out.move (btr hb4 HB5.out))
   have HO5 := Hd ((hown.below HB5.out).mono HG.out.below.size)
   have hs45 : wr.heap.size ≤ w4.heap.size := hb4.size
   have hB2 := HG.out.size
   clear hown hb4 HCL c0 c1 c2 HB5 hm1 hm2 hm3 HG
   obtain ⟨dv, qs, h1, h2, h3, h4⟩ := HG5.out.hD
   have hAR : Arr CartR 3 W5 dv ds := by
    rw [← h3]
    exact Arr.of_ctw (Arr.of_row (E := ECart) h2 (fun a ha => ⟨rfl, (h4 a ha).1.cart (h4 a ha).2⟩))
   have HAL := Hd (joinAllN_any (M + 1) ds _ W5 hAR HLN.out (fun c hc => (HDV.out c hc).2) (HGL.out.below HG5.out.below))
   have hav : allV ds = true := List.all_eq_true.2 (fun c hc => (HDV.out c hc).1)
   have har : allR ds = allC ds := by unfold allR; rw [if_pos hav]
   have hae : allE ds = 0 := by unfold allE; rw [if_pos hav]
   rw [har, hae] at HAL
   obtain ⟨od, kd, rfl⟩ := h2.slice
   have d0 := cel1 h1
   clear h1 h2 h3 h4 hAR hav har hae
   go_upto_region 14 with fail
   rw [← HW5.out]
   clear HW5
   go_wp2_with fail
   refine HAL.out.mono ?_
   rintro e w6 ⟨x1, x2, x3, rfl, hown, hb6⟩
   obtain ⟨q1, h1, j1, q2, h2, j2, q3, h3, j3, rfl, rfl, rfl, hm1, hm2, hm3⟩ := hown.opn
   obtain ⟨W7, HW7, HB7', HS7, HK7⟩ := box1 w6 #[.slice q1 h1 j1, .slice q2 h2 j2, .slice q3 h3 j3] 28
   have HG7 := Hd (HG5.out.move (btr hb6 HB7'.out))
   have HO7 := Hd (HO5.out.below (btr hb6 HB7'.out))
   have HP7 := Hd ((hown.below HB7'.out).mono HG5.out.below.size)
   have HX14 := Hd (HK5.out W7 (btr hb6 HB7'.out))
   have HX15 := Hd (HK7.out W7 brf)
   have hs67 : W5.heap.size ≤ w6.heap.size := hb6.size
   have hs5 := HS5.out
   clear hown hb6 HAL d0 HB7' hm1 hm2 hm3 HG5 HO5
   go_upto_region 17 with fail
   rw [← HW7.out]
   clear HW7
   have hz8 := HG7.out.h6
   have hz9 := HG7.out.h7
   have hbx := HBX.out
   obtain ⟨-, -, hc2, hc3, -⟩ := hbx
   have hm8 : (set3c W7 r6 (.slice p1 m1 l1) (.slice p2 m2 l2) (.slice p3 m3 l3)).heap[r7]? = some (.cells #[.slice none 0 0, .slice none 0 0, .slice none 0 0] 28) := by rw [set3c_other hne67.symm]; exact hz9
   obtain ⟨WF, hWF⟩ : ∃ x, x = set3c (set3c W7 r6 (.slice p1 m1 l1) (.slice p2 m2 l2) (.slice p3 m3 l3)) r7 (.slice q1 h1 j1) (.slice q2 h2 j2) (.slice q3 h3 j3) := ⟨_, rfl⟩
   have hof : OwnC w.heap.size WF (.slice p1 m1 l1) (.slice p2 m2 l2) (.slice p3 m3 l3) X := by rw [hWF, HX0.out]; exact (HO7.out.set3c hz8 _ _ _).set3c hm8 _ _ _
   have hpf : OwnC w.heap.size WF (.slice q1 h1 j1) (.slice q2 h2 j2) (.slice q3 h3 j3) Y := by rw [hWF, HY0.out]; exact (HP7.out.set3c hz8 _ _ _).set3c hm8 _ _ _
   have hfb : Below w.heap.size w WF := by rw [hWF]; exact set3c_below _ _ _ (set3c_below _ _ _ HG7.out.below HB6.out) HB7.out
   have hy8 : WF.heap[r6]? = some (.cells #[.slice p1 m1 l1, .slice p2 m2 l2, .slice p3 m3 l3] 28) := by rw [hWF, set3c_other hne67]; exact set3c_same _ _ _ hz8
   have hy9 : WF.heap[r7]? = some (.cells #[.slice q1 h1 j1, .slice q2 h2 j2, .slice q3 h3 j3] 28) := by rw [hWF]; exact set3c_same _ _ _ hm8
   have HOF := Hd (hof.below bdr)
   have HPF := Hd (hpf.below bdr)
   have HFB : Hid (Below w.heap.size w WF.drew) := Hd (hfb.trans bdr)
   have HY8 : Hid (WF.drew.heap[r6]? = some (.cells #[.slice p1 m1 l1, .slice p2 m2 l2, .slice p3 m3 l3] 28)) := Hd (by rw [drew_heap]; exact hy8)
   have HY9 : Hid (WF.drew.heap[r7]? = some (.cells #[.slice q1 h1 j1, .slice q2 h2 j2, .slice q3 h3 j3] 28)) := Hd (by rw [drew_heap]; exact hy9)
   have HWF := Hd hWF
   clear HO7 HP7 hof hpf hfb hy8 hy9 hm8 hWF
   go_upto_region 19 with fail
   refine NQ.to (login19 W7 r6 r7 _ _ p1 p2 p3 q1 q2 q3 m1 l1 m2 l2 m3 l3 h1 j1 h2 j2 h3 j3 _ _ _ _ _ _ _ _ _ _ _ _ _ _ _ _ _ _ _ _ _ _ _ _ _ _ _ _ _ _ _ _ _ _ _ _ _ _ _ _ _ _ _ _ _ _ _ _ _ _ _ _ _ _ _ _ _ _ _ _ _ _ _ _ _ _ _ _ _ _ _ _ _ _ HX14.out HX15.out hz8 hz9 ⟨hne67, by omega, by omega, by omega, by omega⟩ _ ?_)
   intro u70 u71 wx hwx
   have hwx := hwx.out
   rw [← HWF.out] at hwx
   subst hwx
   clear HWF hz8 hz9 HX14 HX15
   generalize WF.drew = W20 at *
   obtain ⟨y0, y1, y2⟩ := cel3 HY8.out
   obtain ⟨y3, y4, y5⟩ := cel3 HY9.out
   go_wp2_with fail
   (try simp only [Exit.inBlock, Exit.then])
   refine bodyPost_ret (v := .tuple #[.agg #[.slice p1 m1 l1, .slice p2 m2 l2, .slice p3 m3 l3], .agg #[.slice q1 h1 j1, .slice q2 h2 j2, .slice q3 h3 j3], .int .i64 0]) ?_ rfl ⟨_, _, _, _, _, _, rfl, HOF.out, HPF.out, HFB.out⟩
   rw [results_cct rfl]
   go_simp
end Go.Proofs.YtjoljfnlkddfbaaGreatDoor

