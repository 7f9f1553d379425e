/- DeltaTwo inside. -/
import Derived.Test.YtfnfbcaoihhbpaaGreatDoorE5b
import Derived.Test.YtfnfbcaoihhbpaaGreatDoorC21
set_option linter.unusedSimpArgs false
set_option linter.unusedVariables false
set_option maxRecDepth 100000
set_option maxHeartbeats 16000000
namespace Go.Proofs.YtfnfbcaoihhbpaaGreatDoor
open Go.RowKit Go.Maps Go.Sort Go.Shelf
def chg2C (k : Int) (c : CartD) (f : DotD) (other : ByteArray) : CartD := if k = 0 then remC c other else if k = 1 then clrC c else putC c f other 1 true
def chg2E (k : Int) (c : CartD) (f : DotD) (other : ByteArray) : Int := if k = 0 then remCE c other else if k = 1 then clrCE c else putCE c f other 1 true
theorem chg2_ok {k : Int} {c : CartD} {f : DotD} {other : ByteArray} (hk : k = 0 ∨ k = 1 ∨ k = 2) (h : chg2E k c f other = 0) (hd : (allDots c.items).length ≤ 200) : validC (chg2C k c f other) = true ∧ CL 201 (chg2C k c f other) := by
 have hl := dotsC_le c other
 unfold chg2E at h
 unfold chg2C
 rcases hk with rfl | rfl | rfl <;> simp at h ⊢
 ·obtain ⟨e, h1, -, h2, -⟩ := rem_holds h
  rw [e]
  exact ⟨h2, goneC_sz (by omega)⟩
 ·obtain ⟨e, h1, h2, -⟩ := clr_holds h
  rw [e]
  exact ⟨h2, goneC_sz (by have := setD_leL (allDots c.items); omega)⟩
 ·obtain ⟨e, h1, -, h2, -⟩ := put_holds h
  rw [e]
  exact ⟨h2, putOf_CL (by omega)⟩
theorem two_plain {k : Int} {c : CartD} {d f : DotD} {nm other : ByteArray} {q : Int} (hk : k = 0 ∨ k = 1 ∨ k = 2) (hp : putCE c d nm q false = 0) (h : chg2E k c f other = 0) (hne : d ≠ f) :
  qtyCE (allC [c, putOf c d nm q, chg2C k c f other]) nm = 0 ∧ ((k = 2 ∧ other = nm) ∨ qtyC (allC [c, putOf c d nm q, chg2C k c f other]) nm = q) := by
 obtain ⟨-, hc, hf, hX, hn, hm, -⟩ := put_holds hp
 unfold chg2E at h
 unfold chg2C
 rcases hk with rfl | rfl | rfl <;> simp at h ⊢
 ·obtain ⟨e, h1, -, h2, -, h3⟩ := rem_holds h
  rw [e]
  have hno : hasC (goneC (dotsC c other)) d = false := by rw [h3]; exact rem_not hf
  obtain ⟨a1, a2⟩ := two_holds hf hn hm h2 hno
  exact ⟨a1, a2 (gone_none (by rw [h3]; exact dotsM_valid (validC_parts hc).2.1 other) nm)⟩
 ·obtain ⟨e, h1, h2, -⟩ := clr_holds h
  rw [e]
  obtain ⟨a1, a2⟩ := two_holds hf hn hm h2 (clr_not hf)
  exact ⟨a1, a2 (gone_none (dotsM_valid_all (validC_parts hc).2.1) nm)⟩
 ·obtain ⟨e, h1, hf2, h2, hn2, -⟩ := put_holds h
  rw [e]
  obtain ⟨a1, a2⟩ := two_holds hf hn hm h2 (put_not hf2 hn2 hf hne)
  refine ⟨a1, ?_⟩
  by_cases ho : other = nm
  ·exact Or.inl ho
  ·exact Or.inr (a2 (put_none hf2 hn2 ho))
theorem carts_lit (w : World) (T : TypeId) {a b c : CartD} {x1 x2 x3 y1 y2 y3 z1 z2 z3 : Value} (ha : CartA w x1 x2 x3 a) (hb : CartA w y1 y2 y3 b) (hc : CartA w z1 z2 z3 c) :
  Arr CartR 3 (w.alloc (.cells #[x1, x2, x3, y1, y2, y3, z1, z2, z3] T)) (.slice (some ⟨w.heap.size, 0, none⟩) 3 3) [a, b, c] := by
 have hbb : Below w.heap.size w (w.alloc (.cells #[x1, x2, x3, y1, y2, y3, z1, z2, z3] T)) := bal
 have A := ha.below hbb
 have B := hb.below hbb
 have C := hc.below hbb
 refine ⟨_, _, rfl, Nat.le_refl _, by unfold maxLen; simp, fun i hi => ?_⟩
 have hi : i < 3 := by simpa using hi
 have hlt : w.heap.size < (w.alloc (.cells #[x1, x2, x3, y1, y2, y3, z1, z2, z3] T)).heap.size := by rw [alloc_size]; omega
 match i, hi with
 | 0, _ => exact ⟨_, 0, [x1, x2, x3], rfl, hlt, rfl, ⟨_, _, _, rfl, A⟩, fun j hj => by rw [cell0 (alloc_new _ _)]; match j, hj with | 0, _ => rfl | 1, _ => rfl | 2, _ => rfl⟩
 | 1, _ => exact ⟨_, 0, [y1, y2, y3], rfl, hlt, rfl, ⟨_, _, _, rfl, B⟩, fun j hj => by rw [cell0 (alloc_new _ _)]; match j, hj with | 0, _ => rfl | 1, _ => rfl | 2, _ => rfl⟩
 | 2, _ => exact ⟨_, 0, [z1, z2, z3], rfl, hlt, rfl, ⟨_, _, _, rfl, C⟩, fun j hj => by rw [cell0 (alloc_new _ _)]; match j, hj with | 0, _ => rfl | 1, _ => rfl | 2, _ => rfl⟩
set_option linter.unusedSimpArgs false in
set_option linter.unusedVariables false in
set_option maxRecDepth 100000 in
set_option maxHeartbeats 16000000 in
theorem l12Two_any (c : CartD) (xc1 xc2 xc3 : Value) (d : DotD) (f : DotD) (nm : ByteArray) (q : Int) (other : ByteArray) (what : Int) (hw0 : 0 ≤ what) (hw1 : what < 256) (w : World) (hc : CartA w xc1 xc2 xc3 c) (hG : GlobIs w) :
    Calls Tryz.prog 7 #[.agg #[xc1, xc2, xc3], dotV d, dotV f, .string nm, .int .i64 q, .string other, .int .u8 what] w fun e w' => e = .returned (.bool true) ∧ Below w.heap.size w w' := by
  obtain ⟨o1, n1, k1, o2, n2, k2, o3, n3, k3, rfl, rfl, rfl, hn1, hn2, hn3⟩ := opn4 hc
  obtain ⟨W0, hW0⟩ : ∃ x, x = w.alloc (.cells #[.slice o1 n1 k1, .slice o2 n2 k2, .slice o3 n3 k3] 28) := ⟨_, rfl⟩
  have hs0 : W0.heap.size = w.heap.size + 1 := by rw [hW0, alloc_size]
  have hst0 : Below w.heap.size w W0 := by rw [hW0]; exact (Below.refl _ _).alloc (Nat.le_refl _) _
  have hbb0 : Below w.heap.size w W0 := hst0
  have hx0_0 : W0.heap[w.heap.size]? = some (.cells #[.slice o1 n1 k1, .slice o2 n2 k2, .slice o3 n3 k3] 28) := by rw [hW0]; exact alloc_new _ _
  obtain ⟨W1, hW1⟩ : ∃ x, x = W0.alloc (.cells #[.int .i64 d.rep, .int .i64 d.ctr] 30) := ⟨_, rfl⟩
  have hs1 : W1.heap.size = w.heap.size + 1 + 1 := by rw [hW1, alloc_size, hs0]
  have hst1 : Below W0.heap.size W0 W1 := by rw [hW1]; exact (Below.refl _ _).alloc (Nat.le_refl _) _
  have hbb1 : Below w.heap.size w W1 := hbb0.trans (hst1.mono hbb0.size)
  have hx1_1 : W1.heap[w.heap.size + 1]? = some (.cells #[.int .i64 d.rep, .int .i64 d.ctr] 30) := by rw [hW1, ← hs0]; exact alloc_new _ _
  have hx0_1 : W1.heap[w.heap.size]? = _ := (hst1.block _ (lt_of_heap hx0_0)).trans hx0_0
  obtain ⟨W2, hW2⟩ : ∃ x, x = W1.alloc (.cells #[.int .i64 f.rep, .int .i64 f.ctr] 30) := ⟨_, rfl⟩
  have hs2 : W2.heap.size = w.heap.size + 1 + 1 + 1 := by rw [hW2, alloc_size, hs1]
  have hst2 : Below W1.heap.size W1 W2 := by rw [hW2]; exact (Below.refl _ _).alloc (Nat.le_refl _) _
  have hbb2 : Below w.heap.size w W2 := hbb1.trans (hst2.mono hbb1.size)
  have hx2_2 : W2.heap[w.heap.size + 1 + 1]? = some (.cells #[.int .i64 f.rep, .int .i64 f.ctr] 30) := by rw [hW2, ← hs1]; exact alloc_new _ _
  have hx0_2 : W2.heap[w.heap.size]? = _ := (hst2.block _ (lt_of_heap hx0_1)).trans hx0_1
  have hx1_2 : W2.heap[w.heap.size + 1]? = _ := (hst2.block _ (lt_of_heap hx1_1)).trans hx1_1
  have HC : Hid (∀ wz, Below W2.heap.size W2 wz → ((wz.cell? ⟨w.heap.size, 0, none⟩ = some (.slice o1 n1 k1)) ∧ (wz.cell? ⟨w.heap.size, 1, none⟩ = some (.slice o2 n2 k2)) ∧ (wz.cell? ⟨w.heap.size, 2, none⟩ = some (.slice o3 n3 k3))) ∧ ((wz.cell? ⟨w.heap.size + 1, 0, none⟩ = some (.int .i64 d.rep)) ∧ (wz.cell? ⟨w.heap.size + 1, 1, none⟩ = some (.int .i64 d.ctr))) ∧ ((wz.cell? ⟨w.heap.size + 1 + 1, 0, none⟩ = some (.int .i64 f.rep)) ∧ (wz.cell? ⟨w.heap.size + 1 + 1, 1, none⟩ = some (.int .i64 f.ctr)))) := Lib.hid (fun wz hz => by
    have z0 := (hz.block _ (lt_of_heap hx0_2)).trans hx0_2
    have z1 := (hz.block _ (lt_of_heap hx1_2)).trans hx1_2
    have z2 := (hz.block _ (lt_of_heap hx2_2)).trans hx2_2
    exact ⟨⟨by rw [cell0 z0 0]; rfl, by rw [cell0 z0 1]; rfl, by rw [cell0 z0 2]; rfl⟩, ⟨by rw [cell0 z1 0]; rfl, by rw [cell0 z1 1]; rfl⟩, ⟨by rw [cell0 z2 0]; rfl, by rw [cell0 z2 1]; rfl⟩⟩)
  have HK0 : Hid (∀ wz, Below W2.heap.size W2 wz → wz.heap[w.heap.size]? = some (.cells #[.slice o1 n1 k1, .slice o2 n2 k2, .slice o3 n3 k3] 28)) := Lib.hid (fun wz hz => (hz.block _ (lt_of_heap hx0_2)).trans hx0_2)
  have HK1 : Hid (∀ wz, Below W2.heap.size W2 wz → wz.heap[w.heap.size + 1]? = some (.cells #[.int .i64 d.rep, .int .i64 d.ctr] 30)) := Lib.hid (fun wz hz => (hz.block _ (lt_of_heap hx1_2)).trans hx1_2)
  have HK2 : Hid (∀ wz, Below W2.heap.size W2 wz → wz.heap[w.heap.size + 1 + 1]? = some (.cells #[.int .i64 f.rep, .int .i64 f.ctr] 30)) := Lib.hid (fun wz hz => (hz.block _ (lt_of_heap hx2_2)).trans hx2_2)
  have HB := Lib.hid hbb2
  have HS : Hid (W2.heap.size = w.heap.size + 1 + 1 + 1) := Lib.hid hs2
  have HW : Hid (W2 = ((w.alloc (.cells #[.slice o1 n1 k1, .slice o2 n2 k2, .slice o3 n3 k3] 28)).alloc (.cells #[.int .i64 d.rep, .int .i64 d.ctr] 30)).alloc (.cells #[.int .i64 f.rep, .int .i64 f.ctr] 30)) := Lib.hid (by rw [hW2, hW1, hW0])
  have HAc := Lib.hid (hc.below hbb2)
  have HGL := Lib.hid (hG.below hbb2)
  have HB0 : Hid (Below W2.heap.size W2 W2) := Lib.hid (Below.refl _ _)
  clear hW0 hs0 hst0 hW1 hs1 hst1 hW2 hs2 hst2 hx0_0 hx0_1 hx1_1 hx0_2 hx1_2 hx2_2 hbb0 hbb1 hbb2 hc hG hn1 hn2 hn3
  obtain ⟨⟨c0_0_0, c0_0_1, c0_0_2⟩, ⟨c0_1_0, c0_1_1⟩, ⟨c0_2_0, c0_2_1⟩⟩ := HC.out W2 (Below.refl _ _)
  unfold dotV
  go_enter Tryz.func7, Tryz.ntmps7
  go_wp2_with fail
  rw [← HW.out]
  have HX := Lib.hid (l12light_any c _ _ _ W2 (HAc.out.below HB0.out))
  obtain ⟨r1, hr1⟩ : ∃ r, r = lightC c := ⟨_, rfl⟩
  rw [← hr1] at HX
  have HRr1 := Lib.hid hr1
  clear hr1
  refine HX.out.mono ?_
  rintro e w1 ⟨rfl, hb⟩
  clear HX
  have HB1 := Lib.hid (HB0.out.trans (hb.mono HB0.out.size))
  clear c0_0_0 c0_0_1 c0_0_2 c0_1_0 c0_1_1 c0_2_0 c0_2_1
  obtain ⟨⟨c1_0_0, c1_0_1, c1_0_2⟩, ⟨c1_1_0, c1_1_1⟩, ⟨c1_2_0, c1_2_1⟩⟩ := HC.out w1 HB1.out
  clear hb
  cases r1 with
  | false =>
    have HX := Lib.hid (l12known_any w1 (HGL.out.below HB1.out))
    go_wp2_with fail
    refine HX.out.mono ?_
    rintro e wk ⟨rfl, hbk⟩
    clear HX
    have HBK := Lib.hid (HB1.out.trans (hbk.mono HB1.out.size))
    clear hbk
    go_wp2_with fail
    go_ret
    exact ⟨rfl, HB.out.trans (HBK.out.mono HB.out.size)⟩
  | true =>
    have HLD := Hd (light_dots HRr1.out.symm)
    have HLc := Hd (lightC_CL HRr1.out.symm)
    clear HRr1
    by_cases h100 : 100 < nm.size
    ·have a0 : (100 : Int) < (nm.size : Int) := by omega
     clear h100
     have HX := Lib.hid (l12known_any w1 (HGL.out.below HB1.out))
     go_wp2_with fail
     refine HX.out.mono ?_
     rintro e wk ⟨rfl, hbk⟩
     clear HX
     have HBK := Lib.hid (HB1.out.trans (hbk.mono HB1.out.size))
     clear hbk
     go_wp2_with fail
     go_ret
     exact ⟨rfl, HB.out.trans (HBK.out.mono HB.out.size)⟩
    have a0 : ¬ ((100 : Int) < (nm.size : Int)) := by omega
    have HSN0 : Hid (nm.size ≤ maxLen) := Hd (by unfold maxLen; omega)
    clear h100
    by_cases h100 : 100 < other.size
    ·have a1 : (100 : Int) < (other.size : Int) := by omega
     clear h100
     have HX := Lib.hid (l12known_any w1 (HGL.out.below HB1.out))
     go_wp2_with fail
     refine HX.out.mono ?_
     rintro e wk ⟨rfl, hbk⟩
     clear HX
     have HBK := Lib.hid (HB1.out.trans (hbk.mono HB1.out.size))
     clear hbk
     go_wp2_with fail
     go_ret
     exact ⟨rfl, HB.out.trans (HBK.out.mono HB.out.size)⟩
    have a1 : ¬ ((100 : Int) < (other.size : Int)) := by omega
    have HSN1 : Hid (other.size ≤ maxLen) := Hd (by unfold maxLen; omega)
    clear h100
    have HX := Lib.hid (cartValid_any c _ _ _ w1 (HAc.out.below HB1.out) (HLc.out.sz (by omega)).1 (HGL.out.below HB1.out))
    obtain ⟨rv, hrv⟩ : ∃ r, r = validC c := ⟨_, rfl⟩
    rw [← hrv] at HX
    have HRrv := Lib.hid hrv
    clear hrv
    go_wp2_with fail
    refine HX.out.mono ?_
    rintro e w2 ⟨rfl, hb⟩
    clear HX
    have HB2 := Lib.hid (HB1.out.trans (hb.mono HB1.out.size))
    clear c1_0_0 c1_0_1 c1_0_2 c1_1_0 c1_1_1 c1_2_0 c1_2_1
    obtain ⟨⟨c2_0_0, c2_0_1, c2_0_2⟩, ⟨c2_1_0, c2_1_1⟩, ⟨c2_2_0, c2_2_1⟩⟩ := HC.out w2 HB2.out
    clear hb
    cases rv with
    | false =>
      have HX := Lib.hid (l12known_any w2 (HGL.out.below HB2.out))
      go_wp2_with fail
      refine HX.out.mono ?_
      rintro e wk ⟨rfl, hbk⟩
      clear HX
      have HBK := Lib.hid (HB2.out.trans (hbk.mono HB2.out.size))
      clear hbk
      go_wp2_with fail
      go_ret
      exact ⟨rfl, HB.out.trans (HBK.out.mono HB.out.size)⟩
    | true =>
      have HVC := Hd HRrv.out.symm
      clear HRrv
      have heq : ∀ wz : World, Sem.run Tryz.prog (binOp .eql 30 (.agg #[.int .i64 d.rep, .int .i64 d.ctr]) (.agg #[.int .i64 f.rep, .int .i64 f.ctr])) wz = .ok (.bool (decide (d = f))) wz := fun wz => eqDot d f wz
      have hgd : ∀ (op : BinOp) (a b : Operand) (wz : World), Sem.run Tryz.prog (eqGuard op 30 a b (.agg #[.int .i64 d.rep, .int .i64 d.ctr]) (.agg #[.int .i64 f.rep, .int .i64 f.ctr])) wz = .ok () wz := fun op a b wz => guardDot op a b d f wz
      by_cases hdf : d = f
      ·rw [decide_eq_true hdf] at heq
       clear hdf
       have HX := Lib.hid (l12known_any w2 (HGL.out.below HB2.out))
       go_wp2_with fail
       refine HX.out.mono ?_
       rintro e wk ⟨rfl, hbk⟩
       clear HX
       have HBK := Lib.hid (HB2.out.trans (hbk.mono HB2.out.size))
       clear hbk
       go_wp2_with fail
       go_ret
       exact ⟨rfl, HB.out.trans (HBK.out.mono HB.out.size)⟩
      rw [decide_eq_false hdf] at heq
      have HDF := Hd hdf
      clear hdf
      obtain ⟨X, hX⟩ : ∃ X, X = putC c d nm q false := ⟨_, rfl⟩
      obtain ⟨E, hE⟩ : ∃ E, E = putCE c d nm q false := ⟨_, rfl⟩
      have HXE := Hd (And.intro hX hE)
      have HJ1 := deltaAdd_any c d nm q _ _ _ w2 (HAc.out.below HB2.out) (HLc.out.sz (by omega)).1 (by have := HLD.out; omega) HSN0.out (HGL.out.below HB2.out)
      rw [← hX, ← hE] at HJ1
      unfold dotV at HJ1
      clear hX hE
      have HX := Lib.hid (HJ1)
      go_wp2_with fail
      refine HX.out.mono ?_
      rintro e vX ⟨y1, y2, y3, rfl, hRA, hb⟩
      clear HX
      obtain ⟨pX1, mX1, lX1, pX2, mX2, lX2, pX3, mX3, lX3, rfl, rfl, rfl, hm1, hm2, hm3⟩ := opn4 hRA
      obtain ⟨WX, HWX, HBX0, HSWX, HCX⟩ := box1 vX #[.slice pX1 mX1 lX1, .slice pX2 mX2 lX2, .slice pX3 mX3 lX3] 28
      have HXX := Hd (HCX.out WX brf)
      have HDBX := Hd (btr hb HBX0.out)
      have HDVX := Hd hb.size
      have HCX := Hd (fun wz hz => cel3 (HCX.out wz hz))
      have HAX := Hd (hRA.below HBX0.out)
      have HMX := Hd hm3
      have HB3 := Lib.hid (HB2.out.trans ((btr hb HBX0.out).mono HB2.out.size))
      have HDX3 : Hid (Below WX.heap.size WX WX) := Lib.hid (Below.refl _ _)
      clear hRA hb HBX0 hm1 hm2 hm3
      clear c2_0_0 c2_0_1 c2_0_2 c2_1_0 c2_1_1 c2_2_0 c2_2_1
      obtain ⟨⟨c3_0_0, c3_0_1, c3_0_2⟩, ⟨c3_1_0, c3_1_1⟩, ⟨c3_2_0, c3_2_1⟩⟩ := HC.out WX HB3.out
      obtain ⟨eX3_0, eX3_1, eX3_2⟩ := HCX.out WX HDX3.out
      clear HJ1
      have HWX2 := Hd HWX.out
      by_cases hE0 : E = 0
      rotate_left
      ·have hne : (E != 0) = true := by simpa using hE0
       clear hE0
       have HX := Lib.hid (l12known_any WX (HGL.out.below HB3.out))
       go_wp2_with (go_loud (rw [← HWX.out]))
       refine HX.out.mono ?_
       rintro e wk ⟨rfl, hbk⟩
       clear HX
       have HBK := Lib.hid (HB3.out.trans (hbk.mono HB3.out.size))
       clear hbk
       go_wp2_with fail
       go_ret
       exact ⟨rfl, HB.out.trans (HBK.out.mono HB.out.size)⟩
      have hne : (E != 0) = false := by simpa using hE0
      have hpe : putCE c d nm q false = 0 := by rw [← HXE.out.2]; exact hE0
      have hpx : X = putOf c d nm q := by rw [HXE.out.1]; exact (put_holds hpe).1
      have HPE := Hd hpe
      have HPX := Hd hpx
      have HVX : Hid (validC X = true) := Hd (by rw [hpx]; exact (put_holds hpe).2.2.2.1)
      have HXC : Hid (CL 201 X) := Hd (by rw [hpx]; exact putOf_CL (by have := dotsC_le c nm; have := HLD.out; omega))
      clear hpe hpx
      have hk : what % 3 = 0 ∨ what % 3 = 1 ∨ what % 3 = 2 := by omega
      have HK3 := Hd hk
      obtain ⟨Y, hY⟩ : ∃ Y, Y = chg2C (what % 3) c f other := ⟨_, rfl⟩
      obtain ⟨F, hF⟩ : ∃ F, F = chg2E (what % 3) c f other := ⟨_, rfl⟩
      obtain ⟨WB, HWB, HBB, HSB, HKB⟩ := box1 WX #[.slice none 0 0, .slice none 0 0, .slice none 0 0] 28
      have HF0 : Hid (what % 3 = 0 → Y = remC c other ∧ F = remCE c other) := Hd (fun hm => by rw [hY, hF, hm]; exact ⟨rfl, rfl⟩)
      have HA0 : Hid (what % 3 = 0 → Calls Tryz.prog 31 _ WB (CtrPost Y F WB)) := Hd (fun hm => by
        rw [(HF0.out hm).1, (HF0.out hm).2]
        exact deltaRemove_any c other _ _ _ WB ((HAc.out.below HB3.out).below HBB.out) (HLc.out.sz (by omega)).1 (by have := HLD.out; omega) HSN1.out ((HGL.out.below HB3.out).below HBB.out))
      have HF1 : Hid (what % 3 = 1 → Y = clrC c ∧ F = clrCE c) := Hd (fun hm => by rw [hY, hF, hm]; exact ⟨rfl, rfl⟩)
      have HA1 : Hid (what % 3 = 1 → Calls Tryz.prog 32 _ WB (CtrPost Y F WB)) := Hd (fun hm => by
        rw [(HF1.out hm).1, (HF1.out hm).2]
        exact deltaClear_any c  _ _ _ WB ((HAc.out.below HB3.out).below HBB.out) (HLc.out.sz (by omega)).1 (by have := HLD.out; omega) ((HGL.out.below HB3.out).below HBB.out))
      have HF2 : Hid (what % 3 = 2 → Y = putC c f other 1 true ∧ F = putCE c f other 1 true) := Hd (fun hm => by rw [hY, hF, hm]; exact ⟨rfl, rfl⟩)
      have HA2 : Hid (what % 3 = 2 → Calls Tryz.prog 29 _ WB (CtrPost Y F WB)) := Hd (fun hm => by
        rw [(HF2.out hm).1, (HF2.out hm).2]
        exact deltaSet_any c f other 1 _ _ _ WB ((HAc.out.below HB3.out).below HBB.out) (HLc.out.sz (by omega)).1 (by have := HLD.out; omega) HSN1.out ((HGL.out.below HB3.out).below HBB.out))
      unfold dotV at HA2
      have HOK : Hid (F = 0 → validC Y = true ∧ CL 201 Y ∧ qtyCE (allC [c, X, Y]) nm = 0 ∧ ((what % 3 = 2 ∧ other = nm) ∨ qtyC (allC [c, X, Y]) nm = q)) := Hd (fun h => by
        rw [hF] at h
        rw [hY]
        obtain ⟨a1, a2⟩ := chg2_ok HK3.out h HLD.out
        have a3 := two_plain HK3.out HPE.out h HDF.out
        rw [HPX.out]
        exact ⟨a1, a2, a3⟩)
      clear hY hF
      rcases hk with hm | hm | hm
      all_goals
       have HB4 := Lib.hid (HB3.out.trans (HBB.out.mono HB3.out.size))
       clear c3_0_0 c3_0_1 c3_0_2 c3_1_0 c3_1_1 c3_2_0 c3_2_1
       obtain ⟨⟨c4_0_0, c4_0_1, c4_0_2⟩, ⟨c4_1_0, c4_1_1⟩, ⟨c4_2_0, c4_2_1⟩⟩ := HC.out WB HB4.out
       have HDX4 := Lib.hid (HDX3.out.trans (HBB.out.mono HDX3.out.size))
       clear eX3_0 eX3_1 eX3_2
       obtain ⟨eX4_0, eX4_1, eX4_2⟩ := HCX.out WB HDX4.out
       go_wp2_with (first | go_loud (rw [← HWX.out]) | go_loud (rw [← HWB.out]))
       first
       | refine (HA0.out hm).mono ?_
       | refine (HA1.out hm).mono ?_
       | refine (HA2.out hm).mono ?_
       rintro e vB ⟨y1, y2, y3, rfl, hRA, hb⟩
       obtain ⟨pB1, mB1, lB1, pB2, mB2, lB2, pB3, mB3, lB3, rfl, rfl, rfl, hm1, hm2, hm3⟩ := opn4 hRA
       clear HA0 HA1 HA2
       have hzz := HKB.out vB hb
       obtain ⟨WY, hWY⟩ : ∃ x, x = set3c vB (WX.heap.size) (.slice pB1 mB1 lB1) (.slice pB2 mB2 lB2) (.slice pB3 mB3 lB3) := ⟨_, rfl⟩
       have hbX : Below WX.heap.size WX WY := by rw [hWY]; exact set3c_below _ _ _ (btr HBB.out hb) (Nat.le_refl _)
       have hxX : WY.heap[WX.heap.size]? = some (.cells #[.slice pB1 mB1 lB1, .slice pB2 mB2 lB2, .slice pB3 mB3 lB3] 28) := by rw [hWY]; exact set3c_same _ _ _ hzz
       have hAX : CartA WY (.slice pB1 mB1 lB1) (.slice pB2 mB2 lB2) (.slice pB3 mB3 lB3) Y := by rw [hWY]; exact ⟨set3c_dots hRA.1 hzz, set3c_dots hRA.2.1 hzz, set3c_items hRA.2.2 hzz⟩
       obtain ⟨y0, y1, y2⟩ := cel3 hzz
       have g0 := froz0 hzz 0
       have g1 := froz0 hzz 1
       have g2 := froz0 hzz 2
       have HAB := Hd hAX
       have HCB := Hd (fun wz (hz : Below WY.heap.size WY wz) => cel3 ((hz.block _ (lt_of_heap hxX)).trans hxX))
       have HBX := Hd hbX
       have HWY := Hd hWY
       clear hRA hb hzz hWY hbX hxX hAX hm1 hm2 hm3
       go_upto_region 13 with fail
       rw [← set3c_eq, ← HWY.out]
       clear y0 y1 y2 g0 g1 g2 HWY
       have HB5 := Lib.hid (HB3.out.trans (HBX.out.mono HB3.out.size))
       clear c4_0_0 c4_0_1 c4_0_2 c4_1_0 c4_1_1 c4_2_0 c4_2_1
       obtain ⟨⟨c5_0_0, c5_0_1, c5_0_2⟩, ⟨c5_1_0, c5_1_1⟩, ⟨c5_2_0, c5_2_1⟩⟩ := HC.out WY HB5.out
       have HDX5 := Lib.hid (HDX3.out.trans (HBX.out.mono HDX3.out.size))
       clear eX4_0 eX4_1 eX4_2
       obtain ⟨eX5_0, eX5_1, eX5_2⟩ := HCX.out WY HDX5.out
       have HDB5 : Hid (Below WY.heap.size WY WY) := Hd brf
       obtain ⟨eB5_0, eB5_1, eB5_2⟩ := HCB.out WY brf
       by_cases hF0 : F = 0
       rotate_left
       ·have hne2 : (F != 0) = true := by simpa using hF0
        clear hF0
        have HX := Lib.hid (l12known_any WY (HGL.out.below HB5.out))
        go_wp2_with fail
        refine HX.out.mono ?_
        rintro e wk ⟨rfl, hbk⟩
        clear HX
        have HBK := Lib.hid (HB5.out.trans (hbk.mono HB5.out.size))
        clear hbk
        go_wp2_with fail
        go_ret
        exact ⟨rfl, HB.out.trans (HBK.out.mono HB.out.size)⟩
       have hne2 : (F != 0) = false := by simpa using hF0
       obtain ⟨hvy, hcy, hqe, hqq⟩ := HOK.out hF0
       have h3 := all_three HVC.out HVX.out hvy
       have hxy := joinR_true HVX.out hvy
       have hjv := join_valid HVX.out hvy
       have hcj := joinR_true HVC.out hjv
       have hA1 : allR [c, X, Y] = allC [c, X, Y] ∧ allE [c, X, Y] = 0 := by unfold allR allE allV; simp [HVC.out, HVX.out, hvy]
       have hA2 : allR [c, Y, X] = allC [c, X, Y] ∧ allE [c, Y, X] = 0 := by unfold allR allE allV; simp [HVC.out, HVX.out, hvy, h3.2.1]
       have hTV : validC (allC [c, X, Y]) = true := allC_valid (fun x hx => by
         simp only [List.mem_cons, List.not_mem_nil, or_false] at hx
         rcases hx with rfl | rfl | rfl
         ·exact HVC.out
         ·exact HVX.out
         ·exact hvy)
       have hTC : CL 482 (allC [c, X, Y]) := by rw [h3.1]; exact refJoin_CL (join_valid HVC.out HVX.out) hvy (refJoin_CL HVC.out HVX.out HLc.out HXC.out) hcy
       have hJC : CL 402 (refJoin X Y) := refJoin_CL HVX.out hvy HXC.out hcy
       rw [h3.2.2] at hcj
       have H1 := Hd hA1
       have H2 := Hd hA2
       have HXY := Hd hxy
       have HJV := Hd hjv
       have HJC := Hd hcj
       have HTV := Hd hTV
       have HTS := Hd (hTC.sz (by omega))
       have HJS := Hd (hJC.sz (by omega))
       have HXS := Hd (HXC.out.sz (by omega))
       have HYS := Hd (hcy.sz (by omega))
       have HQE := Hd hqe
       have HQQ := Hd hqq
       have HC3 : Hid (∀ x ∈ [c, X, Y], CL 201 x) := Hd (fun x hx => by
         simp only [List.mem_cons, List.not_mem_nil, or_false] at hx
         rcases hx with rfl | rfl | rfl
         ·exact HLc.out.mono (by omega)
         ·exact HXC.out
         ·exact hcy)
       have HC4 : Hid (∀ x ∈ [c, Y, X], CL 201 x) := Hd (fun x hx => HC3.out x (by
         simp only [List.mem_cons, List.not_mem_nil, or_false] at hx ⊢
         rcases hx with h | h | h
         ·exact Or.inl h
         ·exact Or.inr (Or.inr h)
         ·exact Or.inr (Or.inl h)))
       obtain ⟨T, hT⟩ : ∃ T, T = allC [c, X, Y] := ⟨_, rfl⟩
       rw [← hT] at H1 H2 HJC HTV HTS HQE HQQ
       obtain ⟨J, hJ⟩ : ∃ J, J = refJoin X Y := ⟨_, rfl⟩
       rw [← hJ] at HXY HJV HJC HJS
       clear hvy hcy hqe hqq h3 hxy hjv hcj hA1 hA2 hTV hTC hJC hT hJ hF0 hE0 HOK HXE
       obtain ⟨WLT, HWLT, HBLT, HSLT, HKLT⟩ := box1 WY #[.slice o1 n1 k1, .slice o2 n2 k2, .slice o3 n3 k3, .slice pX1 mX1 lX1, .slice pX2 mX2 lX2, .slice pX3 mX3 lX3, .slice pB1 mB1 lB1, .slice pB2 mB2 lB2, .slice pB3 mB3 lB3] 28
       have HALT : Hid (Arr CartR 3 WLT (.slice (some ⟨WY.heap.size, 0, none⟩) 3 3) [c, X, Y]) := Hd (by rw [HWLT.out]; exact carts_lit WY _ (HAc.out.below HB5.out) (HAX.out.below HDX5.out) (HAB.out.below HDB5.out))
       have HB6 := Lib.hid (HB5.out.trans (HBLT.out.mono HB5.out.size))
       have HDX6 := Lib.hid (HDX5.out.trans (HBLT.out.mono HDX5.out.size))
       have HDB6 := Lib.hid (HDB5.out.trans (HBLT.out.mono HDB5.out.size))
       have HX := Lib.hid (joinAllN_any 201 [c, X, Y] _ WLT HALT.out (by simp) HC3.out (HGL.out.below HB6.out))
       rw [H1.out.1, H1.out.2] at HX
       go_wp2_with (first | go_loud (rw [← HWLT.out]))
       refine HX.out.mono ?_
       rintro e vT ⟨y1, y2, y3, rfl, hown, hb⟩
       clear HX
       have hRA := hown.cart HTV.out
       obtain ⟨pT1, mT1, lT1, pT2, mT2, lT2, pT3, mT3, lT3, rfl, rfl, rfl, hm1, hm2, hm3⟩ := opn4 hRA
       obtain ⟨WT, HWT, HBT0, HSWT, HCT⟩ := box1 vT #[.slice pT1 mT1 lT1, .slice pT2 mT2 lT2, .slice pT3 mT3 lT3] 28
       have HXT := Hd (HCT.out WT brf)
       have HDBT := Hd (btr hb HBT0.out)
       have HDVT := Hd hb.size
       have HCT := Hd (fun wz hz => cel3 (HCT.out wz hz))
       have HAT := Hd (hRA.below HBT0.out)
       have HMT := Hd hm3
       have HB7 := Lib.hid (HB6.out.trans ((btr hb HBT0.out).mono HB6.out.size))
       have HDX7 := Lib.hid (HDX6.out.trans ((btr hb HBT0.out).mono HDX6.out.size))
       have HDB7 := Lib.hid (HDB6.out.trans ((btr hb HBT0.out).mono HDB6.out.size))
       have HDT7 : Hid (Below WT.heap.size WT WT) := Lib.hid (Below.refl _ _)
       clear hown hRA hb HBT0 hm1 hm2 hm3
       clear c5_0_0 c5_0_1 c5_0_2 c5_1_0 c5_1_1 c5_2_0 c5_2_1
       obtain ⟨⟨c7_0_0, c7_0_1, c7_0_2⟩, ⟨c7_1_0, c7_1_1⟩, ⟨c7_2_0, c7_2_1⟩⟩ := HC.out WT HB7.out
       clear eX5_0 eX5_1 eX5_2
       obtain ⟨eX7_0, eX7_1, eX7_2⟩ := HCX.out WT HDX7.out
       clear eB5_0 eB5_1 eB5_2
       obtain ⟨eB7_0, eB7_1, eB7_2⟩ := HCB.out WT HDB7.out
       obtain ⟨eT7_0, eT7_1, eT7_2⟩ := HCT.out WT HDT7.out
       obtain ⟨WLU, HWLU, HBLU, HSLU, HKLU⟩ := box1 WT #[.slice o1 n1 k1, .slice o2 n2 k2, .slice o3 n3 k3, .slice pB1 mB1 lB1, .slice pB2 mB2 lB2, .slice pB3 mB3 lB3, .slice pX1 mX1 lX1, .slice pX2 mX2 lX2, .slice pX3 mX3 lX3] 28
       have HALU : Hid (Arr CartR 3 WLU (.slice (some ⟨WT.heap.size, 0, none⟩) 3 3) [c, Y, X]) := Hd (by rw [HWLU.out]; exact carts_lit WT _ (HAc.out.below HB7.out) (HAB.out.below HDB7.out) (HAX.out.below HDX7.out))
       have HB8 := Lib.hid (HB7.out.trans (HBLU.out.mono HB7.out.size))
       have HDX8 := Lib.hid (HDX7.out.trans (HBLU.out.mono HDX7.out.size))
       have HDB8 := Lib.hid (HDB7.out.trans (HBLU.out.mono HDB7.out.size))
       have HDT8 := Lib.hid (HDT7.out.trans (HBLU.out.mono HDT7.out.size))
       have HX := Lib.hid (joinAllN_any 201 [c, Y, X] _ WLU HALU.out (by simp) HC4.out (HGL.out.below HB8.out))
       rw [H2.out.1, H2.out.2] at HX
       go_wp2_with (first | go_loud (rw [← HWT.out]) | go_loud (rw [← HWLU.out]))
       refine HX.out.mono ?_
       rintro e vU ⟨y1, y2, y3, rfl, hown, hb⟩
       clear HX
       have hRA := hown.cart HTV.out
       obtain ⟨pU1, mU1, lU1, pU2, mU2, lU2, pU3, mU3, lU3, rfl, rfl, rfl, hm1, hm2, hm3⟩ := opn4 hRA
       obtain ⟨WU, HWU, HBU0, HSWU, HCU⟩ := box1 vU #[.slice pU1 mU1 lU1, .slice pU2 mU2 lU2, .slice pU3 mU3 lU3] 28
       have HXU := Hd (HCU.out WU brf)
       have HDBU := Hd (btr hb HBU0.out)
       have HDVU := Hd hb.size
       have HCU := Hd (fun wz hz => cel3 (HCU.out wz hz))
       have HAU := Hd (hRA.below HBU0.out)
       have HMU := Hd hm3
       have HB9 := Lib.hid (HB8.out.trans ((btr hb HBU0.out).mono HB8.out.size))
       have HDX9 := Lib.hid (HDX8.out.trans ((btr hb HBU0.out).mono HDX8.out.size))
       have HDB9 := Lib.hid (HDB8.out.trans ((btr hb HBU0.out).mono HDB8.out.size))
       have HDT9 := Lib.hid (HDT8.out.trans ((btr hb HBU0.out).mono HDT8.out.size))
       have HDU9 : Hid (Below WU.heap.size WU WU) := Lib.hid (Below.refl _ _)
       clear hown hRA hb HBU0 hm1 hm2 hm3
       clear c7_0_0 c7_0_1 c7_0_2 c7_1_0 c7_1_1 c7_2_0 c7_2_1
       obtain ⟨⟨c9_0_0, c9_0_1, c9_0_2⟩, ⟨c9_1_0, c9_1_1⟩, ⟨c9_2_0, c9_2_1⟩⟩ := HC.out WU HB9.out
       clear eX7_0 eX7_1 eX7_2
       obtain ⟨eX9_0, eX9_1, eX9_2⟩ := HCX.out WU HDX9.out
       clear eB7_0 eB7_1 eB7_2
       obtain ⟨eB9_0, eB9_1, eB9_2⟩ := HCB.out WU HDB9.out
       clear eT7_0 eT7_1 eT7_2
       obtain ⟨eT9_0, eT9_1, eT9_2⟩ := HCT.out WU HDT9.out
       obtain ⟨eU9_0, eU9_1, eU9_2⟩ := HCU.out WU HDU9.out
       have HX := Lib.hid (joinJoin_any X Y _ _ _ _ _ _ WU (HAX.out.below HDX9.out) (HAB.out.below HDB9.out) HXS.out HYS.out (HGL.out.below HB9.out))
       rw [HXY.out.1, HXY.out.2] at HX
       go_wp2_with (go_loud (rw [← HWU.out]))
       refine HX.out.mono ?_
       rintro e vJ ⟨y1, y2, y3, rfl, hown, hb⟩
       clear HX
       have hRA := hown.cart HJV.out
       obtain ⟨pJ1, mJ1, lJ1, pJ2, mJ2, lJ2, pJ3, mJ3, lJ3, rfl, rfl, rfl, hm1, hm2, hm3⟩ := opn4 hRA
       obtain ⟨WJ, HWJ, HBJ0, HSWJ, HCJ⟩ := box1 vJ #[.slice pJ1 mJ1 lJ1, .slice pJ2 mJ2 lJ2, .slice pJ3 mJ3 lJ3] 28
       have HXJ := Hd (HCJ.out WJ brf)
       have HDBJ := Hd (btr hb HBJ0.out)
       have HDVJ := Hd hb.size
       have HCJ := Hd (fun wz hz => cel3 (HCJ.out wz hz))
       have HAJ := Hd (hRA.below HBJ0.out)
       have HMJ := Hd hm3
       have HB10 := Lib.hid (HB9.out.trans ((btr hb HBJ0.out).mono HB9.out.size))
       have HDX10 := Lib.hid (HDX9.out.trans ((btr hb HBJ0.out).mono HDX9.out.size))
       have HDB10 := Lib.hid (HDB9.out.trans ((btr hb HBJ0.out).mono HDB9.out.size))
       have HDT10 := Lib.hid (HDT9.out.trans ((btr hb HBJ0.out).mono HDT9.out.size))
       have HDU10 := Lib.hid (HDU9.out.trans ((btr hb HBJ0.out).mono HDU9.out.size))
       have HDJ10 : Hid (Below WJ.heap.size WJ WJ) := Lib.hid (Below.refl _ _)
       clear hown hRA hb HBJ0 hm1 hm2 hm3
       clear c9_0_0 c9_0_1 c9_0_2 c9_1_0 c9_1_1 c9_2_0 c9_2_1
       obtain ⟨⟨c10_0_0, c10_0_1, c10_0_2⟩, ⟨c10_1_0, c10_1_1⟩, ⟨c10_2_0, c10_2_1⟩⟩ := HC.out WJ HB10.out
       clear eX9_0 eX9_1 eX9_2
       obtain ⟨eX10_0, eX10_1, eX10_2⟩ := HCX.out WJ HDX10.out
       clear eB9_0 eB9_1 eB9_2
       obtain ⟨eB10_0, eB10_1, eB10_2⟩ := HCB.out WJ HDB10.out
       clear eT9_0 eT9_1 eT9_2
       obtain ⟨eT10_0, eT10_1, eT10_2⟩ := HCT.out WJ HDT10.out
       clear eU9_0 eU9_1 eU9_2
       obtain ⟨eU10_0, eU10_1, eU10_2⟩ := HCU.out WJ HDU10.out
       obtain ⟨eJ10_0, eJ10_1, eJ10_2⟩ := HCJ.out WJ HDJ10.out
       have HX := Lib.hid (r10Equal_any T T _ _ _ _ _ _ WJ (HAT.out.below HDT10.out) (HAU.out.below HDU10.out))
       rw [decide_eq_true (rfl : T = T)] at HX
       go_wp2_with (go_loud (rw [← HWJ.out]))
       refine HX.out.mono ?_
       rintro e w11 ⟨rfl, hb⟩
       clear HX
       have HB11 := Lib.hid (HB10.out.trans (hb.mono HB10.out.size))
       clear c10_0_0 c10_0_1 c10_0_2 c10_1_0 c10_1_1 c10_2_0 c10_2_1
       obtain ⟨⟨c11_0_0, c11_0_1, c11_0_2⟩, ⟨c11_1_0, c11_1_1⟩, ⟨c11_2_0, c11_2_1⟩⟩ := HC.out w11 HB11.out
       have HDX11 := Lib.hid (HDX10.out.trans (hb.mono HDX10.out.size))
       clear eX10_0 eX10_1 eX10_2
       obtain ⟨eX11_0, eX11_1, eX11_2⟩ := HCX.out w11 HDX11.out
       have HDB11 := Lib.hid (HDB10.out.trans (hb.mono HDB10.out.size))
       clear eB10_0 eB10_1 eB10_2
       obtain ⟨eB11_0, eB11_1, eB11_2⟩ := HCB.out w11 HDB11.out
       have HDT11 := Lib.hid (HDT10.out.trans (hb.mono HDT10.out.size))
       clear eT10_0 eT10_1 eT10_2
       obtain ⟨eT11_0, eT11_1, eT11_2⟩ := HCT.out w11 HDT11.out
       have HDU11 := Lib.hid (HDU10.out.trans (hb.mono HDU10.out.size))
       clear eU10_0 eU10_1 eU10_2
       obtain ⟨eU11_0, eU11_1, eU11_2⟩ := HCU.out w11 HDU11.out
       have HDJ11 := Lib.hid (HDJ10.out.trans (hb.mono HDJ10.out.size))
       clear eJ10_0 eJ10_1 eJ10_2
       obtain ⟨eJ11_0, eJ11_1, eJ11_2⟩ := HCJ.out w11 HDJ11.out
       clear hb
       have HX := Lib.hid (joinJoin_any c J _ _ _ _ _ _ w11 (HAc.out.below HB11.out) (HAJ.out.below HDJ11.out) (HLc.out.sz (by omega)) HJS.out (HGL.out.below HB11.out))
       rw [HJC.out.1, HJC.out.2] at HX
       go_wp2_with fail
       refine HX.out.mono ?_
       rintro e vV ⟨y1, y2, y3, rfl, hown, hb⟩
       clear HX
       have hRA := hown.cart HTV.out
       obtain ⟨pV1, mV1, lV1, pV2, mV2, lV2, pV3, mV3, lV3, rfl, rfl, rfl, hm1, hm2, hm3⟩ := opn4 hRA
       obtain ⟨WV, HWV, HBV0, HSWV, HCV⟩ := box1 vV #[.slice pV1 mV1 lV1, .slice pV2 mV2 lV2, .slice pV3 mV3 lV3] 28
       have HXV := Hd (HCV.out WV brf)
       have HDBV := Hd (btr hb HBV0.out)
       have HDVV := Hd hb.size
       have HCV := Hd (fun wz hz => cel3 (HCV.out wz hz))
       have HAV := Hd (hRA.below HBV0.out)
       have HMV := Hd hm3
       have HB12 := Lib.hid (HB11.out.trans ((btr hb HBV0.out).mono HB11.out.size))
       have HDX12 := Lib.hid (HDX11.out.trans ((btr hb HBV0.out).mono HDX11.out.size))
       have HDB12 := Lib.hid (HDB11.out.trans ((btr hb HBV0.out).mono HDB11.out.size))
       have HDT12 := Lib.hid (HDT11.out.trans ((btr hb HBV0.out).mono HDT11.out.size))
       have HDU12 := Lib.hid (HDU11.out.trans ((btr hb HBV0.out).mono HDU11.out.size))
       have HDJ12 := Lib.hid (HDJ11.out.trans ((btr hb HBV0.out).mono HDJ11.out.size))
       have HDV12 : Hid (Below WV.heap.size WV WV) := Lib.hid (Below.refl _ _)
       clear hown hRA hb HBV0 hm1 hm2 hm3
       clear c11_0_0 c11_0_1 c11_0_2 c11_1_0 c11_1_1 c11_2_0 c11_2_1
       obtain ⟨⟨c12_0_0, c12_0_1, c12_0_2⟩, ⟨c12_1_0, c12_1_1⟩, ⟨c12_2_0, c12_2_1⟩⟩ := HC.out WV HB12.out
       clear eX11_0 eX11_1 eX11_2
       obtain ⟨eX12_0, eX12_1, eX12_2⟩ := HCX.out WV HDX12.out
       clear eB11_0 eB11_1 eB11_2
       obtain ⟨eB12_0, eB12_1, eB12_2⟩ := HCB.out WV HDB12.out
       clear eT11_0 eT11_1 eT11_2
       obtain ⟨eT12_0, eT12_1, eT12_2⟩ := HCT.out WV HDT12.out
       clear eU11_0 eU11_1 eU11_2
       obtain ⟨eU12_0, eU12_1, eU12_2⟩ := HCU.out WV HDU12.out
       clear eJ11_0 eJ11_1 eJ11_2
       obtain ⟨eJ12_0, eJ12_1, eJ12_2⟩ := HCJ.out WV HDJ12.out
       obtain ⟨eV12_0, eV12_1, eV12_2⟩ := HCV.out WV HDV12.out
       obtain ⟨Q, hQ⟩ : ∃ Q, Q = qtyC T nm := ⟨_, rfl⟩
       rw [← hQ] at HQQ
       have HX := Lib.hid (cartQty_any T nm _ _ _ WV (HAT.out.below HDT12.out) HTS.out.1 (HGL.out.below HB12.out))
       rw [HQE.out, ← hQ] at HX
       go_wp2_with (go_loud (rw [← HWV.out]))
       refine HX.out.mono ?_
       rintro e w13 ⟨rfl, hb⟩
       clear HX
       have HB13 := Lib.hid (HB12.out.trans (hb.mono HB12.out.size))
       clear c12_0_0 c12_0_1 c12_0_2 c12_1_0 c12_1_1 c12_2_0 c12_2_1
       obtain ⟨⟨c13_0_0, c13_0_1, c13_0_2⟩, ⟨c13_1_0, c13_1_1⟩, ⟨c13_2_0, c13_2_1⟩⟩ := HC.out w13 HB13.out
       have HDX13 := Lib.hid (HDX12.out.trans (hb.mono HDX12.out.size))
       clear eX12_0 eX12_1 eX12_2
       obtain ⟨eX13_0, eX13_1, eX13_2⟩ := HCX.out w13 HDX13.out
       have HDB13 := Lib.hid (HDB12.out.trans (hb.mono HDB12.out.size))
       clear eB12_0 eB12_1 eB12_2
       obtain ⟨eB13_0, eB13_1, eB13_2⟩ := HCB.out w13 HDB13.out
       have HDT13 := Lib.hid (HDT12.out.trans (hb.mono HDT12.out.size))
       clear eT12_0 eT12_1 eT12_2
       obtain ⟨eT13_0, eT13_1, eT13_2⟩ := HCT.out w13 HDT13.out
       have HDU13 := Lib.hid (HDU12.out.trans (hb.mono HDU12.out.size))
       clear eU12_0 eU12_1 eU12_2
       obtain ⟨eU13_0, eU13_1, eU13_2⟩ := HCU.out w13 HDU13.out
       have HDJ13 := Lib.hid (HDJ12.out.trans (hb.mono HDJ12.out.size))
       clear eJ12_0 eJ12_1 eJ12_2
       obtain ⟨eJ13_0, eJ13_1, eJ13_2⟩ := HCJ.out w13 HDJ13.out
       have HDV13 := Lib.hid (HDV12.out.trans (hb.mono HDV12.out.size))
       clear eV12_0 eV12_1 eV12_2
       obtain ⟨eV13_0, eV13_1, eV13_2⟩ := HCV.out w13 HDV13.out
       clear hb
       clear hQ
       have HX := Lib.hid (r10Equal_any T T _ _ _ _ _ _ w13 (HAV.out.below HDV13.out) (HAT.out.below HDT13.out))
       rw [decide_eq_true (rfl : T = T)] at HX
       go_wp2_with fail
       refine HX.out.mono ?_
       rintro e w14 ⟨rfl, hb⟩
       clear HX
       have HB14 := Lib.hid (HB13.out.trans (hb.mono HB13.out.size))
       clear c13_0_0 c13_0_1 c13_0_2 c13_1_0 c13_1_1 c13_2_0 c13_2_1
       obtain ⟨⟨c14_0_0, c14_0_1, c14_0_2⟩, ⟨c14_1_0, c14_1_1⟩, ⟨c14_2_0, c14_2_1⟩⟩ := HC.out w14 HB14.out
       have HDX14 := Lib.hid (HDX13.out.trans (hb.mono HDX13.out.size))
       clear eX13_0 eX13_1 eX13_2
       obtain ⟨eX14_0, eX14_1, eX14_2⟩ := HCX.out w14 HDX14.out
       have HDB14 := Lib.hid (HDB13.out.trans (hb.mono HDB13.out.size))
       clear eB13_0 eB13_1 eB13_2
       obtain ⟨eB14_0, eB14_1, eB14_2⟩ := HCB.out w14 HDB14.out
       have HDT14 := Lib.hid (HDT13.out.trans (hb.mono HDT13.out.size))
       clear eT13_0 eT13_1 eT13_2
       obtain ⟨eT14_0, eT14_1, eT14_2⟩ := HCT.out w14 HDT14.out
       have HDU14 := Lib.hid (HDU13.out.trans (hb.mono HDU13.out.size))
       clear eU13_0 eU13_1 eU13_2
       obtain ⟨eU14_0, eU14_1, eU14_2⟩ := HCU.out w14 HDU14.out
       have HDJ14 := Lib.hid (HDJ13.out.trans (hb.mono HDJ13.out.size))
       clear eJ13_0 eJ13_1 eJ13_2
       obtain ⟨eJ14_0, eJ14_1, eJ14_2⟩ := HCJ.out w14 HDJ14.out
       have HDV14 := Lib.hid (HDV13.out.trans (hb.mono HDV13.out.size))
       clear eV13_0 eV13_1 eV13_2
       obtain ⟨eV14_0, eV14_1, eV14_2⟩ := HCV.out w14 HDV14.out
       clear hb
       have hse := strDec other nm
       have hqq := HQQ.out
       clear HQQ
       rcases hqq with ⟨h2, h3⟩ | h2
       ·first
        | (exfalso; omega)
        | (have hs2 : (other.toList == nm.toList) = true := by rw [hse]; exact decide_eq_true h3
           clear hse
           have HX := Lib.hid (l12known_any w14 (HGL.out.below HB14.out))
           go_wp2_with fail
           refine HX.out.mono ?_
           rintro e wk ⟨rfl, hbk⟩
           clear HX
           have HBK := Lib.hid (HB14.out.trans (hbk.mono HB14.out.size))
           clear hbk
           go_wp2_with fail
           go_ret
           exact ⟨rfl, HB.out.trans (HBK.out.mono HB.out.size)⟩)
       ·simp only [h2]
        obtain ⟨b, hb⟩ : ∃ b, b = decide (other = nm) := ⟨_, rfl⟩
        rw [← hb] at hse
        clear hb
        cases b
        all_goals
         have HX := Lib.hid (l12known_any w14 (HGL.out.below HB14.out))
         go_wp2_with fail
         refine HX.out.mono ?_
         rintro e wk ⟨rfl, hbk⟩
         clear HX
         have HBK := Lib.hid (HB14.out.trans (hbk.mono HB14.out.size))
         clear hbk
         go_wp2_with fail
         go_ret
         exact ⟨rfl, HB.out.trans (HBK.out.mono HB.out.size)⟩
end Go.Proofs.YtfnfbcaoihhbpaaGreatDoor
