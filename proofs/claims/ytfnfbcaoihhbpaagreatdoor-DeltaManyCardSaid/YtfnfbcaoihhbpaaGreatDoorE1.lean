/- Stage 12: context.Of, the deltas' Fresh and Empty, the reference's Fresh, Gone and Empty (written ahead of the seat: not built yet). -/
import Derived.Test.YtfnfbcaoihhbpaaGreatDoorD10
import Derived.Test.YtfnfbcaoihhbpaaGreatDoorDeltaK
import Derived.Test.YtfnfbcaoihhbpaaGreatDoorR11k
import Derived.Test.YtfnfbcaoihhbpaaGreatDoorR3f
import Derived.Test.YtfnfbcaoihhbpaaGreatDoorC17
set_option linter.unusedSimpArgs false
set_option linter.unusedVariables false
set_option maxRecDepth 100000
set_option maxHeartbeats 8000000
namespace Go.Proofs.YtfnfbcaoihhbpaaGreatDoor
open Go.RowKit Go.Maps Go.Sort Go.Shelf

/-! ### Plain -/
theorem goneC_snoc (l : List DotD) (d : DotD) : goneC (l ++ [d]) = goneC (d :: l) := by
 unfold goneC
 rw [addX_perm ([], []) (l := l ++ [d]) (m := d :: l) (fun e => by simp [or_comm])]
/-! ### Parts of a slice -/
theorem arr_take {w : World} {o : Option Addr} {n c : Nat} {l : List DotD} (h : Arr DotR 2 w (.slice o n c) l) (k : Nat) (hk : k ≤ l.length) : Arr DotR 2 w (.slice o k c) (l.take k) := by
 obtain ⟨o', c', e, h1, h2, hel⟩ := h
 injection e with e1 e2 e3
 subst e1 e3
 have hl : (l.take k).length = k := by rw [List.length_take]; omega
 refine ⟨o, c, by rw [hl], by omega, h2, fun i hi => ?_⟩
 obtain ⟨b, off, cs, g1, g2, g3, g4, g5⟩ := hel i (by omega)
 exact ⟨b, off, cs, g1, g2, g3, by rw [List.getElem_take]; exact g4, g5⟩
theorem arr_drop {w : World} {o : Option Addr} {n c : Nat} {l : List DotD} (h : Arr DotR 2 w (.slice o n c) l) (k : Nat) (hk : k ≤ l.length) : Arr DotR 2 w (.slice (if c = k then o else o.map (fun x => x.add (k * 2))) (l.length - k) (c - k)) (l.drop k) := by
 obtain ⟨o', c', e, h1, h2, hel⟩ := h
 injection e with e1 e2 e3
 subst e1 e3
 have hl : (l.drop k).length = l.length - k := List.length_drop
 refine ⟨_, c - k, by rw [hl], by omega, by omega, fun i hi => ?_⟩
 obtain ⟨b, off, cs, g1, g2, g3, g4, g5⟩ := hel (k + i) (by omega)
 refine ⟨b, off + k * 2, cs, ?_, g2, g3, by rw [List.getElem_drop]; exact g4, fun j hj => ?_⟩
 ·rw [if_neg (by omega), g1]
  simp [Addr.add]
 ·rw [← g5 j hj]
  congr 2
  omega
/-! ### The program -/
theorem ctxOf_any (l : List DotD) (v : Value) (w : World) (h : Arr DotR 2 w v l) (hd : l.all validDotD = true) (hn : l.length ≤ 20000) : Calls Tryz.prog 115 #[v] w fun e w' => ∃ u1 u2, e = .returned (.tuple #[.agg #[u1, u2], .int .i64 0]) ∧ Arr DotR 2 w' u1 (addX ([], []) l).1 ∧ Arr DotR 2 w' u2 (addX ([], []) l).2 ∧ Below w.heap.size w w' := by
 obtain ⟨W1, HW, HB, HS, HK⟩ := box1 w #[.slice none 0 0, .slice none 0 0] 25
 have HA := Hd (ctxAdd_any [] [] l (.slice none 0 0) (.slice none 0 0) v W1 arr_nil arr_nil (h.dots HB.out) rfl hd (by simp; omega))
 have HDI : Hid (∀ d ∈ (addX ([], []) l).1, DI d) := Hd (validC_DI (goneC_spec hd).1).1
 have HDJ : Hid (∀ d ∈ (addX ([], []) l).2, DI d) := Hd (validC_DI (goneC_spec hd).1).2
 have HBW := Hd HB.out
 have hsz := HS.out
 obtain ⟨o, c, rfl⟩ := h.slice
 clear h hd hn HB HS
 go_enter Tryz.func115, Tryz.ntmps115
 go_wp2_with fail
 rw [← HW.out]
 go_wp2_with fail
 refine HA.out.mono ?_
 rintro e w2 ⟨u1, u2, rfl, h1, h2, hb⟩
 have g1 := h1.dots HDI.out
 have g2 := h2.dots HDJ.out
 obtain ⟨p1, q1, rfl⟩ := g1.slice
 obtain ⟨p2, q2, rfl⟩ := g2.slice
 have hx := HK.out w2 hb
 have HF : Hid (Below w.heap.size w (set2 w2 w.heap.size (.slice p1 (addX ([], []) l).1.length q1) (.slice p2 (addX ([], []) l).2.length q2))) := Hd (set2_below _ _ (btr HBW.out hb) (Nat.le_refl _))
 have H1 : Hid (Arr DotR 2 (set2 w2 w.heap.size (.slice p1 (addX ([], []) l).1.length q1) (.slice p2 (addX ([], []) l).2.length q2)) (.slice p1 (addX ([], []) l).1.length q1) (addX ([], []) l).1) := Hd (arr_set2 g1 hx)
 have H2 : Hid (Arr DotR 2 (set2 w2 w.heap.size (.slice p1 (addX ([], []) l).1.length q1) (.slice p2 (addX ([], []) l).2.length q2)) (.slice p2 (addX ([], []) l).2.length q2) (addX ([], []) l).2) := Hd (arr_set2 g2 hx)
 obtain ⟨x0, x1⟩ := cel2 hx
 have f0 := froz0 hx 0
 have f1 := froz0 hx 1
 generalize (addX ([], []) l).1.length = m1 at *
 generalize (addX ([], []) l).2.length = m2 at *
 clear h1 h2 g1 g2 hb HA HDI HDJ hx
 go_wp2_with fail
 (try simp only [Exit.inBlock, Exit.then])
 refine bodyPost_ret (v := .tuple #[.agg #[.slice p1 m1 q1, .slice p2 m2 q2], .int .i64 0]) ?_ rfl ⟨_, _, rfl, H1.out, H2.out, HF.out⟩
 rw [results_cell_tmp rfl]
 go_simp
theorem deltaEmpty_any (c : CartD) (v1 v2 v3 : Value) (w : World) (h : CartA w v1 v2 v3 c) :
  Calls Tryz.prog 20 #[.agg #[v1, v2, v3]] w fun e w' => e = .returned (.bool (emptyC c)) ∧ Below w.heap.size w w' := by
 obtain ⟨o1, n1, k1, o2, n2, k2, o3, n3, k3, rfl, rfl, rfl, hn1, hn2, hn3⟩ := opn4 h
 obtain ⟨W1, HW, HB, HS, HK0⟩ := box1 w #[.slice o1 n1 k1, .slice o2 n2 k2, .slice o3 n3 k3] 28
 have HQ := Hd (show Calls Tryz.prog 50 _ W1 (fun e w' => e = .returned (.bool (emptyC c)) ∧ Below W1.heap.size W1 w') from cartEqual_any c zeroC _ _ _ (.slice none 0 0) (.slice none 0 0) (.slice none 0 0) W1 (h.below HB.out) ⟨arr_nil, arr_nil, arr_nil⟩)
 obtain ⟨x0, x1, x2⟩ := cel3 (HK0.out W1 brf)
 generalize emptyC c = r at *
 clear h hn1 hn2 hn3
 go_enter Tryz.func20, Tryz.ntmps20
 go_wp2_with fail
 rw [← HW.out]
 go_wp2_with fail
 refine HQ.out.mono ?_
 rintro e w5 ⟨rfl, hb5⟩
 have HBF := Hd (btr HB.out hb5)
 clear hb5 HQ x0 x1 x2
 go_wp2_with fail
 go_ret
 exact ⟨rfl, HBF.out⟩
theorem deltaFresh_any (c : CartD) (d : DotD) (v1 v2 v3 : Value) (w : World) (h : CartA w v1 v2 v3 c) (hl : Lt c.items) (hG : GlobIs w) :
  Calls Tryz.prog 22 #[.agg #[v1, v2, v3], dotV d] w fun e w' => e = .returned (.bool (freshC c d)) ∧ Below w.heap.size w w' := by
 obtain ⟨o1, n1, k1, o2, n2, k2, o3, n3, k3, rfl, rfl, rfl, hn1, hn2, hn3⟩ := opn4 h
 obtain ⟨W1, HW, HB, HS, HK0, HK1⟩ := box2 w #[.slice o1 n1 k1, .slice o2 n2 k2, .slice o3 n3 k3] 28 #[.int .i64 d.rep, .int .i64 d.ctr] 30
 have HC := Hd (fun wz (hz : Below W1.heap.size W1 wz) => And.intro (cel3 (HK0.out wz hz)) (cel2 (HK1.out wz hz)))
 have HA := Hd (h.below HB.out)
 have HV := Hd (cartValid_any c _ _ _ W1 HA.out hl (hG.below HB.out))
 have HD := Hd (fun wz => dotValid_any d wz)
 have HH := Hd (fun wz (hz : Below W1.heap.size W1 wz) => ctxHas_any c.vec c.cloud d _ _ wz (HA.out.below hz).1 (HA.out.below hz).2.1)
 have HF : Hid (freshC c d = (validC c && validDotD d && !hasX c.vec c.cloud d)) := Hd rfl
 have HBW := Hd HB.out
 clear h hl hG hn1 hn2 hn3 HB
 obtain ⟨r, hr⟩ : ∃ r, r = freshC c d := ⟨_, rfl⟩
 rw [← hr] at HF ⊢
 obtain ⟨r1, hr1⟩ : ∃ r, r = validC c := ⟨_, rfl⟩
 rw [← hr1] at HV HF
 obtain ⟨r2, hr2⟩ : ∃ r, r = validDotD d := ⟨_, rfl⟩
 rw [← hr2] at HD HF
 obtain ⟨r3, hr3⟩ : ∃ r, r = hasX c.vec c.cloud d := ⟨_, rfl⟩
 rw [← hr3] at HH HF
 clear hr hr1 hr2 hr3
 unfold dotV at HD HH ⊢
 obtain ⟨⟨c0, c1, c2⟩, c3, c4⟩ := HC.out W1 brf
 go_enter Tryz.func22, Tryz.ntmps22
 go_wp2_with fail
 rw [← HW.out]
 go_wp2_with fail
 refine HV.out.mono ?_
 rintro e w2 ⟨rfl, hb2⟩
 have HB2 := Hd hb2
 clear c0 c1 c2 c3 c4 hb2 HV
 obtain ⟨⟨c0, c1, c2⟩, c3, c4⟩ := HC.out w2 HB2.out
 cases r1 with
 | false =>
  have HF2 : Hid (r = false) := Hd (by rw [HF.out]; rfl)
  clear HF
  go_wp2_with fail
  go_ret
  exact ⟨by rw [HF2.out]; rfl, btr HBW.out HB2.out⟩
 | true =>
  have HD2 := Hd (HD.out w2)
  go_wp2_with fail
  refine HD2.out.mono ?_
  rintro e w3 ⟨rfl, hb3⟩
  have HB3 := Hd (btr HB2.out hb3)
  clear c0 c1 c2 c3 c4 hb3 HD HD2
  obtain ⟨⟨c0, c1, c2⟩, c3, c4⟩ := HC.out w3 HB3.out
  cases r2 with
  | false =>
   have HF2 : Hid (r = false) := Hd (by rw [HF.out]; rfl)
   clear HF
   go_wp2_with fail
   go_ret
   exact ⟨by rw [HF2.out]; rfl, btr HBW.out HB3.out⟩
  | true =>
   have HH2 := Hd (HH.out w3 HB3.out)
   go_wp2_with fail
   refine HH2.out.mono ?_
   rintro e w4 ⟨rfl, hb4⟩
   have HB4 := Hd (btr HB3.out hb4)
   have HF2 : Hid (r = !r3) := Hd (by rw [HF.out]; rfl)
   clear c0 c1 c2 c3 c4 hb4 HH HH2 HF
   go_wp2_with fail
   go_ret
   exact ⟨by rw [HF2.out]; rfl, btr HBW.out HB4.out⟩
/-! ### The reference -/
end Go.Proofs.YtfnfbcaoihhbpaaGreatDoor
