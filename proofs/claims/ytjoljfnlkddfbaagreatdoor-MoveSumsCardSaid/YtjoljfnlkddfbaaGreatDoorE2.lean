/- Stage 12: the deltas' make (with its closure), Add, Set, Remove, Clear. -/
import Derived.Test.YtjoljfnlkddfbaaGreatDoorD10
import Derived.Test.YtjoljfnlkddfbaaGreatDoorDeltaK
import Derived.Test.YtjoljfnlkddfbaaGreatDoorR11k
import Derived.Test.YtjoljfnlkddfbaaGreatDoorR3f
import Derived.Test.YtjoljfnlkddfbaaGreatDoorC17
import Derived.Test.YtjoljfnlkddfbaaGreatDoorE7
set_option linter.unusedSimpArgs false
set_option linter.unusedVariables false
set_option maxRecDepth 100000
set_option maxHeartbeats 8000000
namespace Go.Proofs.YtjoljfnlkddfbaaGreatDoor
open Go.RowKit Go.Maps Go.Sort Go.Shelf

/-! ### Plain -/
theorem goneC_snoc (l : List DotD) (d : DotD) : goneC (l ++ [d]) = goneC (d :: l) := by
 unfold goneC
 rw [addX_perm ([], []) (l := l ++ [d]) (m := d :: l) (fun e => by simp [or_comm])]
/-! ### Parts of a slice -/
/-! ### The program -/
theorem ctxOfR_any (l : List DotD) (v : Value) (w : World) (h : Arr DotR 2 w v l) (hd : l.all validDotD = true) (hn : l.length ≤ 20000) : Calls Tryz.prog 125 #[v] w fun e w' => ∃ u1 u2, e = .returned (.tuple #[.agg #[u1, u2], .int .i64 0]) ∧ EDot.Row w.heap.size w' u1 (addX ([], []) l).1 ∧ EDot.Row w.heap.size w' u2 (addX ([], []) l).2 ∧ Below w.heap.size w w' := by
 obtain ⟨W1, HW, HB, HS, HK⟩ := box1 w #[.slice none 0 0, .slice none 0 0] 25
 have HA := Hd (ctxAdd_any [] [] l (.slice none 0 0) (.slice none 0 0) v W1 arr_nil arr_nil (h.dots HB.out) rfl hd (by simp; omega))
 have HDI : Hid (∀ d ∈ (addX ([], []) l).1, DI d) := Hd (validC_DI (goneC_spec hd).1).1
 have HDJ : Hid (∀ d ∈ (addX ([], []) l).2, DI d) := Hd (validC_DI (goneC_spec hd).1).2
 have HBW := Hd HB.out
 have hsz := HS.out
 obtain ⟨o, c, rfl⟩ := h.slice
 clear h hd hn HB HS
 go_enter Tryz.func125, Tryz.ntmps125
 go_wp2_with fail
 rw [← HW.out]
 go_wp2_with fail
 refine HA.out.mono ?_
 rintro e w2 ⟨u1, u2, rfl, h1, h2, hb⟩
 have g1 := h1.dots HDI.out
 have g2 := h2.dots HDJ.out
 obtain ⟨p1, q1, rfl⟩ := g1.slice
 obtain ⟨p2, q2, rfl⟩ := g2.slice
 have hx := HK.out w2 hb
 have HF : Hid (Below w.heap.size w (set2 w2 w.heap.size (.slice p1 (addX ([], []) l).1.length q1) (.slice p2 (addX ([], []) l).2.length q2))) := Hd (set2_below _ _ (btr HBW.out hb) (Nat.le_refl _))
 have H1 : Hid (EDot.Row w.heap.size (set2 w2 w.heap.size (.slice p1 (addX ([], []) l).1.length q1) (.slice p2 (addX ([], []) l).2.length q2)) (.slice p1 (addX ([], []) l).1.length q1) (addX ([], []) l).1) := Hd ((h1.stay (fun k hk => set2_other (erow_ne h1 hx (by decide) k hk))).mono (by omega))
 have H2 : Hid (EDot.Row w.heap.size (set2 w2 w.heap.size (.slice p1 (addX ([], []) l).1.length q1) (.slice p2 (addX ([], []) l).2.length q2)) (.slice p2 (addX ([], []) l).2.length q2) (addX ([], []) l).2) := Hd ((h2.stay (fun k hk => set2_other (erow_ne h2 hx (by decide) k hk))).mono (by omega))
 obtain ⟨x0, x1⟩ := cel2 hx
 have f0 := froz0 hx 0
 have f1 := froz0 hx 1
 generalize (addX ([], []) l).1.length = m1 at *
 generalize (addX ([], []) l).2.length = m2 at *
 clear h1 h2 g1 g2 hb HA HDI HDJ hx
 go_wp2_with fail
 (try simp only [Exit.inBlock, Exit.then])
 refine bodyPost_ret (v := .tuple #[.agg #[.slice p1 m1 q1, .slice p2 m2 q2], .int .i64 0]) ?_ rfl ⟨_, _, rfl, H1.out, H2.out, HF.out⟩
 rw [results_cell_tmp rfl]
 go_simp
theorem deltaFresh_any (c : CartD) (d : DotD) (v1 v2 v3 : Value) (w : World) (h : CartA w v1 v2 v3 c) (hl : Lt c.items) (hG : GlobIs w) :
  Calls Tryz.prog 27 #[.agg #[v1, v2, v3], dotV d] w fun e w' => e = .returned (.bool (freshC c d)) ∧ Below w.heap.size w w' := by
 obtain ⟨o1, n1, k1, o2, n2, k2, o3, n3, k3, rfl, rfl, rfl, hn1, hn2, hn3⟩ := opn4 h
 obtain ⟨W1, HW, HB, HS, HK0, HK1⟩ := box2 w #[.slice o1 n1 k1, .slice o2 n2 k2, .slice o3 n3 k3] 28 #[.int .i64 d.rep, .int .i64 d.ctr] 39
 have HC := Hd (fun wz (hz : Below W1.heap.size W1 wz) => And.intro (cel3 (HK0.out wz hz)) (cel2 (HK1.out wz hz)))
 have HA := Hd (h.below HB.out)
 have HV := Hd (cartValid_any c _ _ _ W1 HA.out hl (hG.below HB.out))
 have HD := Hd (fun wz => dotValid_any d wz)
 have HH := Hd (fun wz (hz : Below W1.heap.size W1 wz) => ctxHas_any c.vec c.cloud d _ _ wz (HA.out.below hz).1 (HA.out.below hz).2.1)
 have HF : Hid (freshC c d = (validC c && validDotD d && !hasX c.vec c.cloud d)) := Hd rfl
 have HBW := Hd HB.out
 clear h hl hG hn1 hn2 hn3 HB
 obtain ⟨r, hr⟩ : ∃ r, r = freshC c d := ⟨_, rfl⟩
 rw [← hr] at HF ⊢
 obtain ⟨r1, hr1⟩ : ∃ r, r = validC c := ⟨_, rfl⟩
 rw [← hr1] at HV HF
 obtain ⟨r2, hr2⟩ : ∃ r, r = validDotD d := ⟨_, rfl⟩
 rw [← hr2] at HD HF
 obtain ⟨r3, hr3⟩ : ∃ r, r = hasX c.vec c.cloud d := ⟨_, rfl⟩
 rw [← hr3] at HH HF
 clear hr hr1 hr2 hr3
 unfold dotV at HD HH ⊢
 obtain ⟨⟨c0, c1, c2⟩, c3, c4⟩ := HC.out W1 brf
 go_enter Tryz.func27, Tryz.ntmps27
 go_wp2_with fail
 rw [← HW.out]
 go_wp2_with fail
 refine HV.out.mono ?_
 rintro e w2 ⟨rfl, hb2⟩
 have HB2 := Hd hb2
 clear c0 c1 c2 c3 c4 hb2 HV
 obtain ⟨⟨c0, c1, c2⟩, c3, c4⟩ := HC.out w2 HB2.out
 cases r1 with
 | false =>
  have HF2 : Hid (r = false) := Hd (by rw [HF.out]; rfl)
  clear HF
  go_wp2_with fail
  go_ret
  exact ⟨by rw [HF2.out]; rfl, btr HBW.out HB2.out⟩
 | true =>
  have HD2 := Hd (HD.out w2)
  go_wp2_with fail
  refine HD2.out.mono ?_
  rintro e w3 ⟨rfl, hb3⟩
  have HB3 := Hd (btr HB2.out hb3)
  clear c0 c1 c2 c3 c4 hb3 HD HD2
  obtain ⟨⟨c0, c1, c2⟩, c3, c4⟩ := HC.out w3 HB3.out
  cases r2 with
  | false =>
   have HF2 : Hid (r = false) := Hd (by rw [HF.out]; rfl)
   clear HF
   go_wp2_with fail
   go_ret
   exact ⟨by rw [HF2.out]; rfl, btr HBW.out HB3.out⟩
  | true =>
   have HH2 := Hd (HH.out w3 HB3.out)
   go_wp2_with fail
   refine HH2.out.mono ?_
   rintro e w4 ⟨rfl, hb4⟩
   have HB4 := Hd (btr HB3.out hb4)
   have HF2 : Hid (r = !r3) := Hd (by rw [HF.out]; rfl)
   clear c0 c1 c2 c3 c4 hb4 HH HH2 HF
   go_wp2_with fail
   go_ret
   exact ⟨by rw [HF2.out]; rfl, btr HBW.out HB4.out⟩
/-! ### The reference -/
end Go.Proofs.YtjoljfnlkddfbaaGreatDoor
set_option linter.unusedSimpArgs false
set_option linter.unusedVariables false
set_option maxRecDepth 100000
set_option maxHeartbeats 16000000
namespace Go.Proofs.YtjoljfnlkddfbaaGreatDoor
open Go.RowKit Go.Maps Go.Sort Go.Shelf

/-! ### Plain -/
def alsoE (set th : Bool) (n : Int) : Int := if set then (if th then 0 else 9) else (if !th && decide (256 ≤ n) then 13 else 0)
theorem dotsC_valid (c : CartD) (nm : ByteArray) : (dotsC c nm).all validDotD = true := by
 unfold dotsC
 split
 ·rename_i hv
  have hi := (validC_parts hv).2.1
  split
  ·exact dotsM_valid_all hi
  ·exact dotsM_valid hi nm
 ·rfl
theorem dotsC_there {c : CartD} (hv : validC c = true) {nm : ByteArray} (hn : nameB nm = true) : decide (0 < (dotsC c nm).length) = thereB c.items nm := by
 rw [dotsC_named hv hn, thereB_marks (validC_parts hv).2.1 nm]
 unfold dotsM
 rw [List.length_map]
theorem putCE_bad {c : CartD} {d : DotD} {nm : ByteArray} {q : Int} {set : Bool} (h : (freshC c d && nameB nm) = false) : putCE c d nm q set = 2 := by unfold putCE; simp [h]
theorem putCE_qty {c : CartD} {d : DotD} {nm : ByteArray} {q : Int} {set : Bool} (h : freshC c d = true) (hn : nameB nm = true) (hq : validQ q = false) : putCE c d nm q set = 14 := by unfold putCE; simp [h, hn, hq]
theorem putCE_also {c : CartD} {d : DotD} {nm : ByteArray} {q : Int} {set : Bool} (h : freshC c d = true) (hn : nameB nm = true) (hq : validQ q = true) :
  putCE c d nm q set = if alsoE set (decide (0 < (dotsC c nm).length)) c.items.length = 0 then timeCE c else alsoE set (decide (0 < (dotsC c nm).length)) c.items.length := by
 rw [dotsC_there (freshC_parts h).1 hn]
 unfold putCE alsoE
 rw [h, hn, hq]
 cases set <;> cases thereB c.items nm <;> by_cases h6 : 256 ≤ c.items.length
 all_goals simp [h6]
 all_goals (try omega)
 all_goals (try (have h6' : ¬ (256 : Int) ≤ c.items.length := by omega))
 all_goals (try simp [h6'])
 all_goals (try (have h6' : (256 : Int) ≤ c.items.length := by omega))
 all_goals (try simp [h6'])
theorem remCE_bad {c : CartD} {nm : ByteArray} (h : (validC c && nameB nm) = false) : remCE c nm = 2 := by unfold remCE; simp [h]
/-- A cart and an error. -/
def CtrPost (R : CartD) (E : Int) (w : World) (e : Ending) (w' : World) : Prop :=
 ∃ x1 x2 x3, e = .returned (.tuple #[.agg #[x1, x2, x3], .int .i64 E]) ∧ CartA w' x1 x2 x3 R ∧ Below w.heap.size w w'
theorem CartPost.ctr {R : CartD} {E : Int} {w w' : World} {e : Ending} (hv : validC R = true) (h : CartPost R E w e w') : CtrPost R E w e w' := by
 obtain ⟨x1, x2, x3, he, ho, hb⟩ := h
 exact ⟨x1, x2, x3, he, ho.cart hv, hb⟩
theorem OwnC.opn {base : Nat} {w : World} {v1 v2 v3 : Value} {c : CartD} (h : OwnC base w v1 v2 v3 c) : ∃ o1 n1 k1 o2 n2 k2 o3 n3 k3, v1 = .slice o1 n1 k1 ∧ v2 = .slice o2 n2 k2 ∧ v3 = .slice o3 n3 k3 ∧ n1 = c.vec.length ∧ n2 = c.cloud.length ∧ n3 = c.items.length := by
 obtain ⟨h1, h2, ps, h3, h4⟩ := h
 obtain ⟨o1, k1, e1⟩ := h1.slice
 obtain ⟨o2, k2, e2⟩ := h2.slice
 obtain ⟨o3, k3, e3⟩ := h4.1.slice
 exact ⟨o1, _, k1, o2, _, k2, o3, _, k3, e1, e2, e3, rfl, rfl, by rw [← h3, List.length_map]⟩
theorem OwnC.set3c {base bo : Nat} {w : World} {x1 x2 x3 : Value} {c : CartD} {C : Array Value} (h : OwnC base w x1 x2 x3 c) (hx : w.heap[bo]? = some (.cells C 28)) (y1 y2 y3 : Value) : OwnC base (set3c w bo y1 y2 y3) x1 x2 x3 c := by
 obtain ⟨h1, h2, ps, h3, h4⟩ := h
 refine ⟨h1.stay (fun k hk => set3c_other (erow_ne h1 hx (by decide) k hk)), h2.stay (fun k hk => set3c_other (erow_ne h2 hx (by decide) k hk)), ps, h3, h4.stayF (fun q hq _ hq2 => set3c_other ?_)⟩
 rcases hq2 with hq2 | ⟨p, hp, hq2⟩
 ·exact erow_ne h4.1 hx (by decide) q hq2
 ·exact erow_ne (h4.2.1 p hp).1.2.1 hx (by decide) q hq2
def HasSet : Prop := False
def fvD (set : Bool) : Value := .func (.func (if set then 0 else 80)) #[] #[]

/-! ### strings in a slice -/
def hasN (l : List ByteArray) (nm : ByteArray) : Bool := l.any (fun x => decide (x = nm))
theorem indexStr_any (l : List ByteArray) (nm : ByteArray) (v : Value) (w : World) (h : StrS w v l) :
  Calls Tryz.prog 124 #[v, .string nm] w fun e w' => ∃ i : Int, e = .returned (.int .i64 i) ∧ decide (0 ≤ i) = hasN l nm ∧ Below w.heap.size w w' := by
 obtain ⟨o, c, rfl, hn, hel⟩ := h
 have HEL := Hd hel
 clear hel
 go_enter Tryz.func124, Tryz.ntmps124
 go_wp2_with fail
 go_loopw [8] (fun i wr => ∃ k : Nat, k ≤ l.length ∧ i = .int .i64 k ∧ hasN (l.take k) nm = false ∧ Below w.heap.size w wr) (fun i _ => l.length - (intOf i).toNat)
 case atStart => exact ⟨0, Nat.zero_le _, rfl, rfl, Below.refl _ _⟩
 case round =>
  obtain ⟨k, hk, rfl, hno, hB⟩ := hrel
  have HNOT := Hd hno
  have HB := Hd hB
  clear hno hB
  by_cases hlt : k < l.length
  ·obtain ⟨b, off, rfl, hbl, e0⟩ := HEL.out k hlt
   have c0 : wr.cell? ⟨b, off + k, none⟩ = some (.string l[k]) := by rw [HB.out.cell (p := ⟨_, _, _⟩) hbl]; exact e0
   have HTK : Hid (l.take (k + 1) = l.take k ++ [l[k]]) := Hd (List.take_succ_eq_append_getElem hlt)
   have HMEM : Hid (l[k] ∈ l) := Hd (List.getElem_mem hlt)
   have hse := strDec nm l[k]
   generalize l[k] = x at *
   have a0 : (0 : Int) ≤ k := by omega
   have a1 : (k : Int) < l.length := by omega
   have hkw := wr1 k (by unfold maxLen at hn; omega)
   clear e0
   by_cases hxy : nm = x
   ·rw [decide_eq_true hxy] at hse
    have HF : Hid (hasN l nm = true) := Hd (List.any_eq_true.2 ⟨x, HMEM.out, decide_eq_true hxy.symm⟩)
    clear HMEM HTK HNOT hxy
    go_wp2_with fail
    go_ret
    exact ⟨(k : Int), rfl, by rw [HF.out]; exact decide_eq_true (by omega), HB.out⟩
   ·rw [decide_eq_false hxy] at hse
    have HF : Hid (hasN (l.take (k + 1)) nm = false) := Hd (by
     have h1 := HNOT.out
     unfold hasN at h1 ⊢
     rw [HTK.out, List.any_append, h1]
     simpa using fun e => hxy e.symm)
    clear HMEM HTK HNOT hxy
    go_wp2_with fail
    go_roundw
    case rel => exact ⟨k + 1, by omega, by go_num, HF.out, HB.out⟩
    case measure => simp [intOf]; omega
  ·have hke : k = l.length := by omega
   have HF : Hid (hasN l nm = false) := Hd (by have := HNOT.out; rw [hke, List.take_length] at this; exact this)
   clear HNOT
   go_wp2_with fail
   go_ret
   exact ⟨-1, rfl, by rw [HF.out]; rfl, HB.out⟩
theorem containsStr_any (l : List ByteArray) (nm : ByteArray) (v : Value) (w : World) (h : StrS w v l) :
  Calls Tryz.prog 82 #[v, .string nm] w fun e w' => e = .returned (.bool (hasN l nm)) ∧ Below w.heap.size w w' := by
 have HI := Hd (indexStr_any l nm v w h)
 obtain ⟨o, c, rfl, -⟩ := h
 go_enter Tryz.func82, Tryz.ntmps82
 go_wp2_with fail
 refine HI.out.mono ?_
 rintro e w2 ⟨i, rfl, hi, hb2⟩
 have HF := Hd hi
 clear hi
 go_wp2_with fail
 go_ret
 exact ⟨by rw [← HF.out]; rfl, hb2⟩

/-! ### The program -/
theorem deltaAddP_any (th : Bool) (n : Int) (w : World) : Calls Tryz.prog 80 #[.bool th, .int .i64 n] w fun e w' => e = .returned (.int .i64 (alsoE false th n)) ∧ w' = w := by
 go_enter Tryz.func80, Tryz.ntmps80
 cases th with
 | true =>
  go_wp2_with fail
  go_ret
  exact ⟨rfl, rfl⟩
 | false =>
  by_cases h : n ≥ 256
  ·have HF : Hid (alsoE false false n = 13) := Hd (by unfold alsoE; simp; omega)
   go_wp2_with fail
   go_ret
   exact ⟨by rw [HF.out]; rfl, rfl⟩
  ·have HF : Hid (alsoE false false n = 0) := Hd (by unfold alsoE; simp; omega)
   have h' : ¬ (256 ≤ n) := h
   go_wp2_with fail
   go_ret
   exact ⟨by rw [HF.out]; rfl, rfl⟩
theorem deltaMake1_any (set : Bool) (hset : set = true → HasSet) (bx bo bc : Nat) (w : World) (o3 : Option Addr) (n3 k3 : Nat) (od : Option Addr) (nd kd : Nat) (hx : w.cell? ⟨bx, 1, none⟩ = some (fvD set)) (ho : w.cell? ⟨bo, 0, none⟩ = some (.slice od nd kd)) (hc : w.cell? ⟨bc, 2, none⟩ = some (.slice o3 n3 k3)) :
  Calls Tryz.prog 122 #[.pointer (some ⟨bx, 0, none⟩), .pointer (some ⟨bo, 0, none⟩), .pointer (some ⟨bc, 0, none⟩)] w fun e w' => e = .returned (.int .i64 (alsoE set (decide (0 < nd)) n3)) ∧ w' = w := by
 cases set with
 | false =>
  have HC := Hd (deltaAddP_any (decide (0 < nd)) n3 w)
  unfold fvD at hx
  simp only [Bool.false_eq_true, if_false] at hx
  go_enter Tryz.func122, Tryz.ntmps122
  go_wp2_with fail
  refine HC.out.mono ?_
  rintro e w2 ⟨rfl, rfl⟩
  go_wp2_with fail
  go_ret
  exact ⟨rfl, rfl⟩
 | true =>
  exact (hset rfl).elim
theorem deltaForgetO_any (l : List DotD) (v : Value) (w : World) (h : Arr DotR 2 w v l) (hd : l.all validDotD = true) (hn : l.length ≤ 20000) : Calls Tryz.prog 83 #[v] w fun e w' => ∃ x1 x2 x3, e = .returned (.agg #[x1, x2, x3]) ∧ OwnC w.heap.size w' x1 x2 x3 (goneC l) ∧ Below w.heap.size w w' := by
 obtain ⟨W1, HW, HB, HS, HK⟩ := box1 w #[.slice none 0 0, .slice none 0 0, .slice none 0 0] 28
 have HA := Hd (ctxOfR_any l v W1 (h.dots HB.out) hd hn)
 have HBW := Hd HB.out
 have hsz := HS.out
 obtain ⟨o, c, rfl⟩ := h.slice
 clear h hd hn HB HS
 go_enter Tryz.func83, Tryz.ntmps83
 go_wp2_with fail
 rw [← HW.out]
 go_wp2_with fail
 refine HA.out.mono ?_
 rintro e w2 ⟨u1, u2, rfl, h1, h2, hb⟩
 have g1 := h1
 have g2 := h2
 obtain ⟨p1, q1, rfl⟩ := g1.slice
 obtain ⟨p2, q2, rfl⟩ := g2.slice
 obtain ⟨W3, HW3, HB3, HS3, HK3⟩ := box1 w2 #[.slice p1 (addX ([], []) l).1.length q1, .slice p2 (addX ([], []) l).2.length q2] 25
 have hb13 := btr hb HB3.out
 have hx := HK.out W3 hb13
 have HF : Hid (Below w.heap.size w (set3c W3 w.heap.size (.slice p1 (addX ([], []) l).1.length q1) (.slice p2 (addX ([], []) l).2.length q2) (.slice none 0 0))) := Hd (set3c_below _ _ _ (btr HBW.out hb13) (Nat.le_refl _))
 have hown : OwnC W1.heap.size W3 (.slice p1 (addX ([], []) l).1.length q1) (.slice p2 (addX ([], []) l).2.length q2) (.slice none 0 0) (goneC l) := ⟨g1.below HB3.out, g2.below HB3.out, [], rfl, Enc.Row.nil _ _, fun p hp => by simp at hp, List.Pairwise.nil⟩
 have HCA : Hid (OwnC w.heap.size (set3c W3 w.heap.size (.slice p1 (addX ([], []) l).1.length q1) (.slice p2 (addX ([], []) l).2.length q2) (.slice none 0 0)) (.slice p1 (addX ([], []) l).1.length q1) (.slice p2 (addX ([], []) l).2.length q2) (.slice none 0 0) (goneC l)) := Hd ((hown.set3c hx _ _ _).mono HBW.out.size)
 clear hown
 obtain ⟨y0, y1⟩ := cel2 (HK3.out W3 brf)
 obtain ⟨x0, x1, x2⟩ := cel3 hx
 have f0 := froz0 hx 0
 have f1 := froz0 hx 1
 have f2 := froz0 hx 2
 generalize (addX ([], []) l).1.length = m1 at *
 generalize (addX ([], []) l).2.length = m2 at *
 clear h1 h2 g1 g2 hb HA hb13 hx HB3 HK3 HK
 go_upto_region 2 with fail
 rw [← HW3.out]
 go_wp2_with fail
 (try simp only [Exit.inBlock, Exit.then])
 refine bodyPost_ret (v := .agg #[.slice p1 m1 q1, .slice p2 m2 q2, .slice none 0 0]) ?_ rfl ⟨_, _, _, rfl, HCA.out, HF.out⟩
 rw [results_cell_one rfl]
 go_simp
theorem allMarks_MI {w : World} {v : Value} {l : List ItemD} (h : Arr ItemR 2 w v l) : ∀ m ∈ allMarks l, MI m := fun m hm => by
 unfold allMarks at hm
 obtain ⟨x, hx, hm⟩ := List.mem_flatMap.1 hm
 obtain ⟨i, hi, rfl⟩ := List.mem_iff_getElem.1 hx
 obtain ⟨o, k, -, hel⟩ := h.itemAt
 obtain ⟨_, _, _, _, _, _, _, _, h6⟩ := hel i hi
 exact h6.marksMI m hm
theorem timeC_bound {w : World} {v1 v2 v3 : Value} {c : CartD} (h : CartA w v1 v2 v3 c) (hv : validC c = true) : 0 ≤ timeC c ∧ timeC c ≤ 18446744073709551615 := by
 have hp := allMarks_time (validC_parts hv).2.1
 have hm := allMarks_MI h.2.2
 have hl := lastT_newest hp
 have hb : 0 ≤ lastT (allMarks c.items) ∧ lastT (allMarks c.items) ≤ 18446744073709551615 := by
  rw [hl]
  by_cases e : allMarks c.items = []
  ·rw [e]
   decide
  ·exact (hm _ (newestM_mem e)).2.2.2
 unfold timeC
 rw [hv]
 by_cases e : lastT (allMarks c.items) = 18446744073709551615
 ·simp [e]
 ·simp only [e, if_true, if_false]
  omega
theorem newM_MI {w : World} {v1 v2 v3 : Value} {c : CartD} {d : DotD} {q : Int} (h : CartA w v1 v2 v3 c) (hv : validC c = true) (hm : validMarkD (newM c d q) = true) : MI (newM c d q) := by
 obtain ⟨h1, h2, h3, -⟩ := validMark_parts hm
 have hd := DI_valid h1
 exact ⟨hd.1, hd.2, ⟨by omega, by omega⟩, timeC_bound h hv⟩
/-- A cart gets an item of one mark. -/
theorem new_item (w : World) (k bo : Nat) (nm : ByteArray) (m : MarkD) (hk : w.heap.size = k) {p1 p2 p3 : Option Addr} {m1 m2 m3 l1 l2 l3 : Nat} {c : CartD} (hx : w.heap[bo]? = some (.cells #[.slice p1 m1 l1, .slice p2 m2 l2, .slice p3 m3 l3] 28)) (h : CartA w (.slice p1 m1 l1) (.slice p2 m2 l2) (.slice p3 m3 l3) c) (hm : MI m) (hs : nm.size ≤ maxLen) :
  ∃ W : World, Hid (W = ((w.setCell ⟨bo, 2, none⟩ (.slice (some ⟨k + 1, 0, none⟩) 1 1)).alloc (.cells #[.int .i64 m.dot.rep, .int .i64 m.dot.ctr, .int .i64 m.qty, .int .u64 m.time] 85)).alloc (.cells #[.string nm, .slice (some ⟨k, 0, none⟩) 1 1] 55)) ∧ Hid (∀ B w0, B ≤ bo → Below B w0 w → Below B w0 W) ∧ Hid (W.heap[bo]? = some (.cells #[.slice p1 m1 l1, .slice p2 m2 l2, .slice (some ⟨k + 1, 0, none⟩) 1 1] 28)) ∧ Hid (CartA W (.slice p1 m1 l1) (.slice p2 m2 l2) (.slice (some ⟨k + 1, 0, none⟩) 1 1) ⟨c.vec, c.cloud, [⟨nm, [m]⟩]⟩) := by
 obtain ⟨W1, hW1⟩ : ∃ x, x = w.setCell ⟨bo, 2, none⟩ (.slice (some ⟨k + 1, 0, none⟩) 1 1) := ⟨_, rfl⟩
 have hs1 : W1.heap.size = k := by rw [hW1, setCell_size]; exact hk
 have hx1 : W1.heap[bo]? = some (.cells #[.slice p1 m1 l1, .slice p2 m2 l2, .slice (some ⟨k + 1, 0, none⟩) 1 1] 28) := by rw [hW1]; exact setCell_same hx 2 _
 have hd1 : Arr DotR 2 W1 (.slice p1 m1 l1) c.vec := by rw [hW1]; exact dots_setB _ h.1 hx (slB3 _ _ _ _ _ _ _ _ _)
 have hd2 : Arr DotR 2 W1 (.slice p2 m2 l2) c.cloud := by rw [hW1]; exact dots_setB _ h.2.1 hx (slB3 _ _ _ _ _ _ _ _ _)
 obtain ⟨W2, hW2⟩ : ∃ x, x = W1.alloc (.cells #[.int .i64 m.dot.rep, .int .i64 m.dot.ctr, .int .i64 m.qty, .int .u64 m.time] 85) := ⟨_, rfl⟩
 have hb2 : Below W1.heap.size W1 W2 := by rw [hW2]; exact bal
 have hs2 : W2.heap.size = k + 1 := by rw [hW2, alloc_size, hs1]
 have hm2 : Arr MarkR 4 W2 (.slice (some ⟨k, 0, none⟩) 1 1) [m] := by
  rw [hW2, ← hs1]
  exact lit_marks [m] (by unfold maxLen; simp) (fun y hy => by rw [List.mem_singleton.1 hy]; exact hm)
 have hi3 : Arr ItemR 2 (W2.alloc (.cells #[.string nm, .slice (some ⟨k, 0, none⟩) 1 1] 55)) (.slice (some ⟨W2.heap.size, 0, none⟩) 1 1) [⟨nm, [m]⟩] := lit_items [⟨⟨nm, [m]⟩, some ⟨k, 0, none⟩, 1⟩] (by unfold maxLen; simp) (fun p hp => by
  rw [List.mem_singleton.1 hp]
  exact ⟨hs, hm2⟩)
 have hb3 : Below W2.heap.size W2 (W2.alloc (.cells #[.string nm, .slice (some ⟨k, 0, none⟩) 1 1] 55)) := bal
 have hb13 := btr hb2 hb3
 rw [hs2] at hi3
 refine ⟨W2.alloc (.cells #[.string nm, .slice (some ⟨k, 0, none⟩) 1 1] 55), Hd (by rw [hW2, hW1]), Hd (fun B w0 hB hb => ?_), Hd ((hb13.block _ (lt_of_heap hx1)).trans hx1), Hd ⟨hd1.dots hb13, hd2.dots hb13, hi3⟩⟩
 have h1 : Below B w0 W1 := by rw [hW1]; exact hb.setCell (p := ⟨bo, 2, none⟩) hB _
 have hBk : B ≤ W1.heap.size := by
  have := lt_of_heap hx1
  omega
 exact h1.trans (hb13.mono hBk)
/-- As new_item, for a cart of one's own. -/
theorem new_itemO (w : World) (base k bo : Nat) (nm : ByteArray) (m : MarkD) (hk : w.heap.size = k) {p1 p2 p3 : Option Addr} {m1 m2 m3 l1 l2 l3 : Nat} {c : CartD} (hx : w.heap[bo]? = some (.cells #[.slice p1 m1 l1, .slice p2 m2 l2, .slice p3 m3 l3] 28)) (h : OwnC base w (.slice p1 m1 l1) (.slice p2 m2 l2) (.slice p3 m3 l3) c) (hm : MI m) (hs : nm.size ≤ maxLen) (hbk : base ≤ k) :
  ∃ W : World, Hid (W = ((w.setCell ⟨bo, 2, none⟩ (.slice (some ⟨k + 1, 0, none⟩) 1 1)).alloc (.cells #[.int .i64 m.dot.rep, .int .i64 m.dot.ctr, .int .i64 m.qty, .int .u64 m.time] 85)).alloc (.cells #[.string nm, .slice (some ⟨k, 0, none⟩) 1 1] 55)) ∧ Hid (∀ B w0, B ≤ bo → Below B w0 w → Below B w0 W) ∧ Hid (W.heap[bo]? = some (.cells #[.slice p1 m1 l1, .slice p2 m2 l2, .slice (some ⟨k + 1, 0, none⟩) 1 1] 28)) ∧ Hid (OwnC base W (.slice p1 m1 l1) (.slice p2 m2 l2) (.slice (some ⟨k + 1, 0, none⟩) 1 1) ⟨c.vec, c.cloud, [⟨nm, [m]⟩]⟩) := by
 obtain ⟨W1, hW1⟩ : ∃ x, x = w.setCell ⟨bo, 2, none⟩ (.slice (some ⟨k + 1, 0, none⟩) 1 1) := ⟨_, rfl⟩
 have hs1 : W1.heap.size = k := by rw [hW1, setCell_size]; exact hk
 have hx1 : W1.heap[bo]? = some (.cells #[.slice p1 m1 l1, .slice p2 m2 l2, .slice (some ⟨k + 1, 0, none⟩) 1 1] 28) := by rw [hW1]; exact setCell_same hx 2 _
 obtain ⟨g1, g2, -⟩ := h
 have hd1 : EDot.Row base W1 (.slice p1 m1 l1) c.vec := by rw [hW1]; exact g1.stay (fun q hq => setCell_other (erow_ne g1 hx (by decide) q hq))
 have hd2 : EDot.Row base W1 (.slice p2 m2 l2) c.cloud := by rw [hW1]; exact g2.stay (fun q hq => setCell_other (erow_ne g2 hx (by decide) q hq))
 obtain ⟨W2, hW2⟩ : ∃ x, x = W1.alloc (.cells #[.int .i64 m.dot.rep, .int .i64 m.dot.ctr, .int .i64 m.qty, .int .u64 m.time] 85) := ⟨_, rfl⟩
 have hb2 : Below W1.heap.size W1 W2 := by rw [hW2]; exact bal
 have hs2 : W2.heap.size = k + 1 := by rw [hW2, alloc_size, hs1]
 have hm2 : EMark.Row k W2 (.slice (some ⟨k, 0, none⟩) 1 1) [m] := by
  have := row_lit EMark [m] W1 (by unfold maxLen; simp)
  rw [hs1] at this
  rw [hW2]
  exact this
 have hb3 : Below W2.heap.size W2 (W2.alloc (.cells #[.string nm, .slice (some ⟨k, 0, none⟩) 1 1] 55)) := bal
 have hi3 : EItem.Row (k + 1) (W2.alloc (.cells #[.string nm, .slice (some ⟨k, 0, none⟩) 1 1] 55)) (.slice (some ⟨k + 1, 0, none⟩) 1 1) [⟨⟨nm, [m]⟩, some ⟨k, 0, none⟩, 1⟩] := by
  have := row_lit EItem [⟨⟨nm, [m]⟩, some ⟨k, 0, none⟩, 1⟩] W2 (by unfold maxLen; simp)
  rw [hs2] at this
  exact this
 have hb13 := btr hb2 hb3
 refine ⟨W2.alloc (.cells #[.string nm, .slice (some ⟨k, 0, none⟩) 1 1] 55), Hd (by rw [hW2, hW1]), Hd (fun B w0 hB hb => ?_), Hd ((hb13.block _ (lt_of_heap hx1)).trans hx1), Hd ⟨hd1.below hb13, hd2.below hb13, [⟨⟨nm, [m]⟩, some ⟨k, 0, none⟩, 1⟩], rfl, hi3.mono (by omega), fun p hp => ?_, List.pairwise_singleton _ _⟩⟩
 ·have h1 : Below B w0 W1 := by rw [hW1]; exact hb.setCell (p := ⟨bo, 2, none⟩) hB _
  have hBk : B ≤ W1.heap.size := by
   have := lt_of_heap hx1
   omega
  exact h1.trans (hb13.mono hBk)
 ·rw [List.mem_singleton.1 hp]
  refine ⟨⟨hs, (hm2.below hb3).mono hbk, fun y hy => by rw [List.mem_singleton.1 hy]; exact hm⟩, fun q hq hq2 => ?_⟩
  have e1 : k + 1 = q := by simpa [Value.ownBlock] using hq
  have e2 : k = q := by simpa [Value.ownBlock, ItW.v] using hq2
  omega
theorem deltaMakeO_any (c : CartD) (d : DotD) (nm : ByteArray) (q : Int) (set : Bool) (hset : set = true → HasSet) (v1 v2 v3 : Value) (w : World) (h : CartA w v1 v2 v3 c) (hl : Lt c.items) (hn : (allDots c.items).length ≤ 9000) (hs : nm.size ≤ maxLen) (hG : GlobIs w) :
  Calls Tryz.prog 81 #[.agg #[.string nm, fvD set], .agg #[v1, v2, v3], dotV d, .int .i64 q] w (CartPost (putC c d nm q set) (putCE c d nm q set) w) := by
 obtain ⟨o1, n1, k1, o2, n2, k2, o3, n3, k3, rfl, rfl, rfl, hn1, hn2, hn3⟩ := opn4 h
 obtain ⟨fv, hfv⟩ : ∃ fv, fv = fvD set := ⟨_, rfl⟩
 obtain ⟨W1, HW, HB, HS, HK0, HK1, HK2, HKR⟩ := box4 w #[.string nm, fv] 123 #[.slice o1 n1 k1, .slice o2 n2 k2, .slice o3 n3 k3] 28 #[.int .i64 d.rep, .int .i64 d.ctr] 39 #[.slice none 0 0, .slice none 0 0, .slice none 0 0] 28
 have HC := Hd (fun wz (hz : Below W1.heap.size W1 wz) => And.intro (cel2 (HK0.out wz hz)) (And.intro (cel3 (HK1.out wz hz)) (cel2 (HK2.out wz hz))))
 have HA := Hd (h.below HB.out)
 have HGL := Hd (hG.below HB.out)
 have HD := Hd (cartDots_any c nm _ _ _ W1 HA.out hl HGL.out)
 have HDL : Hid ((dotsC c nm).length ≤ 9000) := Hd (Nat.le_trans (dotsC_le c nm) hn)
 have HDI : Hid (∀ d ∈ dotsC c nm, DI d) := Hd (fun x hx => DI_valid (List.all_eq_true.1 (dotsC_valid c nm) x hx))
 have HFR : Hid (∀ wz, Below W1.heap.size W1 wz → Calls Tryz.prog 27 #[.agg #[.slice o1 n1 k1, .slice o2 n2 k2, .slice o3 n3 k3], dotV d] wz fun e w' => e = .returned (.bool (freshC c d)) ∧ Below wz.heap.size wz w') := Hd (fun wz hz => deltaFresh_any c d _ _ _ wz (HA.out.below hz) hl (HGL.out.below hz))
 have HNI : Hid (∀ wz, Below W1.heap.size W1 wz → Calls Tryz.prog 13 #[.string nm] wz fun e w' => e = .returned (.bool (nameB nm)) ∧ Below wz.heap.size wz w') := Hd (fun wz hz => namesItem_any nm wz hs (HGL.out.below hz))
 have HQV := Hd (fun wz => qtyValid_any q wz)
 have HTM : Hid (∀ wz, Below W1.heap.size W1 wz → Calls Tryz.prog 123 #[.agg #[.slice o1 n1 k1, .slice o2 n2 k2, .slice o3 n3 k3]] wz fun e w' => e = .returned (.tuple #[.int .u64 (timeC c), .int .i64 (timeCE c)]) ∧ Below wz.heap.size wz w') := Hd (fun wz hz => cartTime_any c _ _ _ wz (HA.out.below hz) hl (HGL.out.below hz))
 have HE0 : Hid ((freshC c d && nameB nm) = false → putCE c d nm q set = 2) := Hd putCE_bad
 have HE1 : Hid (freshC c d = true → nameB nm = true → validQ q = false → putCE c d nm q set = 14) := Hd putCE_qty
 have HE2 : Hid (freshC c d = true → nameB nm = true → validQ q = true → putCE c d nm q set = if alsoE set (decide (0 < (dotsC c nm).length)) n3 = 0 then timeCE c else alsoE set (decide (0 < (dotsC c nm).length)) n3) := Hd (by rw [hn3]; exact putCE_also)
 have HZR : Hid (∀ E, E ≠ 0 → putCE c d nm q set = E → putC c d nm q set = zeroC) := Hd (fun E h1 h2 => by unfold putC; rw [h2, if_neg h1])
 have HPR : Hid (putCE c d nm q set = 0 → putC c d nm q set = putOf c d nm q) := Hd (fun h => by unfold putC; rw [if_pos h])
 have HTR : Hid (freshC c d = true → validC c = true ∧ validDotD d = true) := Hd (fun h => ⟨(freshC_parts h).1, (freshC_parts h).2.1⟩)
 have HTT : Hid (freshC c d = true → validQ q = true → timeCE c = 0 → validMarkD (newM c d q) = true) := Hd (fun h hq ht => newM_valid h hq (fun e => by unfold timeCE at ht; rw [(freshC_parts h).1] at ht; simp [e] at ht))
 have HBW := Hd HB.out
 have hsz := HS.out
 have HSS : Hid (nm.size ≤ maxLen) := Hd hs
 obtain ⟨R, hR⟩ : ∃ R, R = putC c d nm q set := ⟨_, rfl⟩
 obtain ⟨E, hE⟩ : ∃ E, E = putCE c d nm q set := ⟨_, rfl⟩
 rw [← hR, ← hE]
 rw [← hR] at HZR HPR
 rw [← hE] at HE0 HE1 HE2 HZR HPR
 clear hR hE
 obtain ⟨r1, hr1⟩ : ∃ r, r = freshC c d := ⟨_, rfl⟩
 obtain ⟨r2, hr2⟩ : ∃ r, r = nameB nm := ⟨_, rfl⟩
 obtain ⟨r3, hr3⟩ : ∃ r, r = validQ q := ⟨_, rfl⟩
 rw [← hr1] at HFR HE0 HE1 HE2 HTR HTT
 rw [← hr2] at HNI HE0 HE1 HE2
 rw [← hr3] at HQV HE1 HE2 HTT
 obtain ⟨a, ha⟩ : ∃ a, a = alsoE set (decide (0 < (dotsC c nm).length)) n3 := ⟨_, rfl⟩
 rw [← ha] at HE2
 have HAE := Hd ha
 obtain ⟨T, hT⟩ : ∃ T, T = timeC c := ⟨_, rfl⟩
 obtain ⟨F, hF⟩ : ∃ F, F = timeCE c := ⟨_, rfl⟩
 rw [← hT, ← hF] at HTM
 rw [← hF] at HE2 HTT
 have HNM : Hid (newM c d q = ⟨d, q, T⟩) := Hd (by unfold newM; rw [hT])
 have HFV := Hd hfv
 rw [← hfv]
 clear h hl hn hG hn1 hn2 hn3 hs HB HS ha hT hF hr1 hr2 hr3 hfv
 unfold dotV at HFR ⊢
 obtain ⟨⟨z0, z1⟩, ⟨c0, c1, c2⟩, c3, c4⟩ := HC.out W1 brf
 go_enter Tryz.func81, Tryz.ntmps81
 go_wp2_with fail
 rw [← HW.out]
 go_wp2_with fail
 refine HD.out.mono ?_
 rintro e w2 ⟨v2, rfl, hrow, hb2⟩
 obtain ⟨od, kd, rfl⟩ := hrow.slice
 obtain ⟨W3, HW3, HB3, HS3, HK3⟩ := box1 w2 #[.slice od (dotsC c nm).length kd] 22
 have HB13 := Hd (btr hb2 HB3.out)
 have HR3 := Hd (hrow.below HB3.out)
 have HC3 := Hd (fun wz (hz : Below W3.heap.size W3 wz) => cel1 (HK3.out wz hz))
 have hlt2 : W1.heap.size ≤ w2.heap.size := hb2.size
 have HS3' : Hid (W3.heap.size = w2.heap.size + 1) := HS3
 have HF3 := Hd (HFR.out W3 HB13.out)
 clear hrow hb2 HB3 HS3 z0 z1 c0 c1 c2 c3 c4 HD HFR
 obtain ⟨⟨z0, z1⟩, ⟨c0, c1, c2⟩, c3, c4⟩ := HC.out W3 HB13.out
 have y3 := HC3.out W3 brf
 have HAL : Hid (∀ wz, Below W3.heap.size W3 wz → Calls Tryz.prog 122 #[.pointer (some ⟨w.heap.size, 0, none⟩), .pointer (some ⟨w2.heap.size, 0, none⟩), .pointer (some ⟨w.heap.size + 1, 0, none⟩)] wz fun e w' => e = .returned (.int .i64 a) ∧ w' = wz) := Hd (fun wz hz => by
  rw [HAE.out]
  obtain ⟨⟨z0, z1⟩, ⟨c0, c1, c2⟩, -, -⟩ := HC.out wz (btr HB13.out hz)
  rw [HFV.out] at z1
  exact deltaMake1_any set hset w.heap.size w2.heap.size (w.heap.size + 1) wz o3 n3 k3 od _ kd z1 (HC3.out wz hz) c2)
 go_wp2_with (go_loud (rw [← HW3.out]))
 refine HF3.out.mono ?_
 rintro e w4 ⟨rfl, hb4⟩
 have HB34 := Hd hb4
 have HB4 := Hd (btr HB13.out hb4)
 clear hb4 HF3 z0 z1 c0 c1 c2 c3 c4 y3
 obtain ⟨⟨z0, z1⟩, ⟨c0, c1, c2⟩, c3, c4⟩ := HC.out w4 HB4.out
 cases r1 with
 | false =>
  have HE : Hid (E = 2) := Hd (HE0.out rfl)
  have HR : Hid (R = zeroC) := Hd (HZR.out 2 (by decide) HE.out)
  clear HE0 HE1 HE2 HZR HPR HTR HTT
  have HFB : Hid (Below w.heap.size w (set3c w4 (w.heap.size + 1 + 1 + 1) (.slice none 0 0) (.slice none 0 0) (.slice none 0 0))) := Hd (set3c_below _ _ _ (btr HBW.out HB4.out) (by omega))
  obtain ⟨y0, y1, y2⟩ := cel3 (HKR.out _ HB4.out)
  have g0 := froz0 (HKR.out _ HB4.out) 0
  have g1 := froz0 (HKR.out _ HB4.out) 1
  have g2 := froz0 (HKR.out _ HB4.out) 2
  go_wp2_with fail
  (try simp only [Exit.inBlock, Exit.then])
  refine bodyPost_ret (v := .tuple #[.agg #[.slice none 0 0, .slice none 0 0, .slice none 0 0], .int .i64 2]) ?_ rfl ⟨_, _, _, by rw [HE.out], by rw [HR.out]; exact OwnC.zero _ _, HFB.out⟩
  rw [results_cell_tmp rfl]
  go_simp
 | true =>
  have HN4 := Hd (HNI.out w4 HB4.out)
  go_wp2_with fail
  refine HN4.out.mono ?_
  rintro e w5 ⟨rfl, hb5⟩
  have HB35 := Hd (btr HB34.out hb5)
  have HB5 := Hd (btr HB4.out hb5)
  clear hb5 HN4 z0 z1 c0 c1 c2 c3 c4
  obtain ⟨⟨z0, z1⟩, ⟨c0, c1, c2⟩, c3, c4⟩ := HC.out w5 HB5.out
  cases r2 with
  | false =>
   have HE : Hid (E = 2) := Hd (HE0.out rfl)
   have HR : Hid (R = zeroC) := Hd (HZR.out 2 (by decide) HE.out)
   clear HE0 HE1 HE2 HZR HPR HTR HTT
   have HFB : Hid (Below w.heap.size w (set3c w5 (w.heap.size + 1 + 1 + 1) (.slice none 0 0) (.slice none 0 0) (.slice none 0 0))) := Hd (set3c_below _ _ _ (btr HBW.out HB5.out) (by omega))
   obtain ⟨y0, y1, y2⟩ := cel3 (HKR.out _ HB5.out)
   have g0 := froz0 (HKR.out _ HB5.out) 0
   have g1 := froz0 (HKR.out _ HB5.out) 1
   have g2 := froz0 (HKR.out _ HB5.out) 2
   go_wp2_with fail
   (try simp only [Exit.inBlock, Exit.then])
   refine bodyPost_ret (v := .tuple #[.agg #[.slice none 0 0, .slice none 0 0, .slice none 0 0], .int .i64 2]) ?_ rfl ⟨_, _, _, by rw [HE.out], by rw [HR.out]; exact OwnC.zero _ _, HFB.out⟩
   rw [results_cell_tmp rfl]
   go_simp
  | true =>
   have HQ5 := Hd (HQV.out w5)
   go_wp2_with fail
   refine HQ5.out.mono ?_
   rintro e w6 ⟨rfl, rfl⟩
   clear HQ5
   cases r3 with
   | false =>
    have HE : Hid (E = 14) := Hd (HE1.out trivial trivial rfl)
    have HR : Hid (R = zeroC) := Hd (HZR.out 14 (by decide) HE.out)
    clear HE0 HE1 HE2 HZR HPR HTR HTT
    have HFB : Hid (Below w.heap.size w (set3c w6 (w.heap.size + 1 + 1 + 1) (.slice none 0 0) (.slice none 0 0) (.slice none 0 0))) := Hd (set3c_below _ _ _ (btr HBW.out HB5.out) (by omega))
    obtain ⟨y0, y1, y2⟩ := cel3 (HKR.out _ HB5.out)
    have g0 := froz0 (HKR.out _ HB5.out) 0
    have g1 := froz0 (HKR.out _ HB5.out) 1
    have g2 := froz0 (HKR.out _ HB5.out) 2
    go_wp2_with fail
    (try simp only [Exit.inBlock, Exit.then])
    refine bodyPost_ret (v := .tuple #[.agg #[.slice none 0 0, .slice none 0 0, .slice none 0 0], .int .i64 14]) ?_ rfl ⟨_, _, _, by rw [HE.out], by rw [HR.out]; exact OwnC.zero _ _, HFB.out⟩
    rw [results_cell_tmp rfl]
    go_simp
   | true =>
    have HA6 := Hd (HAL.out w6 HB35.out)
    go_wp2_with fail
    refine HA6.out.mono ?_
    rintro e w7 ⟨rfl, rfl⟩
    by_cases ha0 : a = 0
    rotate_left
    ·have HE : Hid (E = a) := Hd (by rw [HE2.out trivial trivial (by first | rfl | trivial), if_neg ha0])
     have HR : Hid (R = zeroC) := Hd (HZR.out a ha0 HE.out)
     have ha1 : (a != 0) = true := by simpa using ha0
     have HFB : Hid (Below w.heap.size w (set3c w7 (w.heap.size + 1 + 1 + 1) (.slice none 0 0) (.slice none 0 0) (.slice none 0 0))) := Hd (set3c_below _ _ _ (btr HBW.out HB5.out) (by omega))
     obtain ⟨y0, y1, y2⟩ := cel3 (HKR.out _ HB5.out)
     have g0 := froz0 (HKR.out _ HB5.out) 0
     have g1 := froz0 (HKR.out _ HB5.out) 1
     have g2 := froz0 (HKR.out _ HB5.out) 2
     clear HE0 HE1 HE2 HZR HPR HTR HTT
     go_wp2_with fail
     refine HA6.out.mono ?_
     rintro e w8 ⟨rfl, rfl⟩
     go_wp2_with fail
     (try simp only [Exit.inBlock, Exit.then])
     refine bodyPost_ret (v := .tuple #[.agg #[.slice none 0 0, .slice none 0 0, .slice none 0 0], .int .i64 a]) ?_ rfl ⟨_, _, _, by rw [HE.out], by rw [HR.out]; exact OwnC.zero _ _, HFB.out⟩
     rw [results_cell_tmp rfl]
     go_simp
    have ha1 : (a != 0) = false := by simpa using ha0
    have HEF : Hid (E = F) := Hd (by rw [HE2.out trivial trivial (by first | rfl | trivial), if_pos ha0])
    have HT7 := Hd (HTM.out w7 HB5.out)
    clear HE0 HE1 HE2 HA6
    go_wp2_with fail
    refine HT7.out.mono ?_
    rintro e w8 ⟨rfl, hb8⟩
    have HB38 := Hd (btr HB35.out hb8)
    have HB8 := Hd (btr HB5.out hb8)
    clear hb8 HT7 z0 z1 c0 c1 c2 c3 c4
    obtain ⟨⟨z0, z1⟩, ⟨c0, c1, c2⟩, c3, c4⟩ := HC.out w8 HB8.out
    by_cases hf0 : F = 0
    rotate_left
    ·have HE : Hid (E = F) := HEF
     have HR : Hid (R = zeroC) := Hd (HZR.out F hf0 HE.out)
     have hf1 : (F != 0) = true := by simpa using hf0
     clear HZR HPR HTR HTT HEF
     have HFB : Hid (Below w.heap.size w (set3c w8 (w.heap.size + 1 + 1 + 1) (.slice none 0 0) (.slice none 0 0) (.slice none 0 0))) := Hd (set3c_below _ _ _ (btr HBW.out HB8.out) (by omega))
     obtain ⟨y0, y1, y2⟩ := cel3 (HKR.out _ HB8.out)
     have g0 := froz0 (HKR.out _ HB8.out) 0
     have g1 := froz0 (HKR.out _ HB8.out) 1
     have g2 := froz0 (HKR.out _ HB8.out) 2
     go_wp2_with fail
     (try simp only [Exit.inBlock, Exit.then])
     refine bodyPost_ret (v := .tuple #[.agg #[.slice none 0 0, .slice none 0 0, .slice none 0 0], .int .i64 F]) ?_ rfl ⟨_, _, _, by rw [HE.out], by rw [HR.out]; exact OwnC.zero _ _, HFB.out⟩
     rw [results_cell_tmp rfl]
     go_simp
    have hf1 : (F != 0) = false := by simpa using hf0
    have HE : Hid (E = 0) := Hd (by rw [HEF.out, hf0])
    have HR : Hid (R = putOf c d nm q) := Hd (HPR.out HE.out)
    obtain ⟨hvc, hvd⟩ := HTR.out trivial
    have HVM := Hd (HTT.out trivial trivial hf0)
    have HMI := Hd (newM_MI HA.out hvc HVM.out)
    have HDD : Hid (∀ x ∈ dotsC c nm ++ [d], DI x) := Hd (fun x hx => by
     rcases List.mem_append.1 hx with h | h
     ·exact HDI.out x h
     ·rw [List.mem_singleton.1 h]; exact DI_valid hvd)
    have HAV : Hid ((dotsC c nm ++ [d]).all validDotD = true) := Hd (by rw [List.all_append, dotsC_valid]; simp [hvd])
    have HG1 : Hid (goneC (dotsC c nm ++ [d]) = goneC (d :: dotsC c nm)) := Hd (goneC_snoc _ _)
    have HPO : Hid (putOf c d nm q = ⟨(goneC (d :: dotsC c nm)).vec, (goneC (d :: dotsC c nm)).cloud, [⟨nm, [newM c d q]⟩]⟩) := Hd rfl
    have y8 := HC3.out w8 HB38.out
    have hb89 : Below w8.heap.size w8 (w8.alloc (.cells #[.int .i64 d.rep, .int .i64 d.ctr] 39)) := bal
    have HR9 := Hd (HR3.out.below (btr HB38.out hb89))
    have HSRC : Hid (EDot.Src (w8.alloc (.cells #[.int .i64 d.rep, .int .i64 d.ctr] 39)) (.slice (some ⟨w8.heap.size, 0, none⟩) 1 1) [d]) := Hd (Enc.Src.one_lit (E := EDot) w8 39 d)
    have hs9 := (btr HB8.out hb89).size
    have HB9 := Hd (btr HB8.out hb89)
    have hll := HDL.out
    generalize hDL : dotsC c nm = DL at *
    clear HZR HPR HTR HTT HEF HNI HQV HAL hvc hvd hb89
    go_wp2_with (at_builtin; go_loud (refine wpList_append_row rfl _ _ 22 rfl EDot W1.heap.size (.agg #[.int .i64 0, .int .i64 0]) 16 Tryz.underlying22 infoDot (by decide) (by decide) _ _ rfl HR9.out _ [d] rfl HSRC.out (by first | omega | (simp; omega)) hs9 ?_); intro v10 w10 hrow hgr)
    have HB10 := Hd (HB9.out.grown hgr hs9 (fun j hj => (HR9.out.lt _ hj).1))
    have har := hrow.dots HDD.out
    obtain ⟨oa, ka, rfl⟩ := hrow.slice
    have HFG := Hd (deltaForgetO_any (DL ++ [d]) _ w10 har HAV.out (by simp; omega))
    rw [HG1.out] at HFG
    clear hrow hgr har HR9 HSRC HB9 HR3 z0 z1 c0 c1 c2 c3 c4 y8
    obtain ⟨⟨z0, z1⟩, ⟨c0, c1, c2⟩, c3, c4⟩ := HC.out w10 HB10.out
    go_wp2_with fail
    refine HFG.out.mono ?_
    rintro e w11 ⟨x1, x2, x3, rfl, hca, hb11⟩
    obtain ⟨p1, m1, l1, p2, m2, l2, p3, m3, l3, rfl, rfl, rfl, hm1, hm2, hm3⟩ := hca.opn
    obtain ⟨W12, HW12, HB12, HS12, HK12⟩ := box1 w11 #[.slice p1 m1 l1, .slice p2 m2 l2, .slice p3 m3 l3] 28
    have HB13' := Hd (btr HB10.out (btr hb11 HB12.out))
    have HCA := Hd (hca.below HB12.out)
    have hx12 := HK12.out W12 brf
    obtain ⟨t0, t1, t2⟩ := cel3 hx12
    have u2 := froz0 hx12 2
    have hlt12 : W1.heap.size ≤ w11.heap.size := Nat.le_trans HB10.out.size hb11.size
    have hs12 := HS12.out
    have hlb12 : w10.heap.size ≤ w11.heap.size + 1 := by have := hb11.size; omega
    clear hm1 hm2 hm3 hca HFG HB12 HS12 hb11 z0 z1 c0 c1 c2 c3 c4
    obtain ⟨⟨z0, z1⟩, ⟨c0, c1, c2⟩, c3, c4⟩ := HC.out W12 HB13'.out
    obtain ⟨y0, y1, y2⟩ := cel3 (HKR.out _ HB13'.out)
    have g0 := froz0 (HKR.out _ HB13'.out) 0
    have g1 := froz0 (HKR.out _ HB13'.out) 1
    have g2 := froz0 (HKR.out _ HB13'.out) 2
    go_upto_region 13 with fail
    rw [← HW12.out]
    clear HW12
    have HX12 := Hd hx12
    clear hx12
    generalize hbo : w11.heap.size = bo at *
    obtain ⟨W14, HW14, HB14, HX14, HCA14⟩ := new_itemO W12 w10.heap.size (bo + 1) bo nm (newM c d q) hs12 HX12.out HCA.out HMI.out HSS.out hlb12
    rw [HNM.out] at HW14
    have hb14 := HB14.out W1.heap.size W1 hlt12 HB13'.out
    have HFB : Hid (Below w.heap.size w (set3c W14 (w.heap.size + 1 + 1 + 1) (.slice p1 m1 l1) (.slice p2 m2 l2) (.slice (some ⟨bo + 1 + 1, 0, none⟩) 1 1))) := Hd (set3c_below _ _ _ (btr HBW.out hb14) (by omega))
    have hzz := HKR.out _ hb14
    have HCF : Hid (OwnC w.heap.size (set3c W14 (w.heap.size + 1 + 1 + 1) (.slice p1 m1 l1) (.slice p2 m2 l2) (.slice (some ⟨bo + 1 + 1, 0, none⟩) 1 1)) (.slice p1 m1 l1) (.slice p2 m2 l2) (.slice (some ⟨bo + 1 + 1, 0, none⟩) 1 1) R) := Hd (by
     rw [HR.out, HPO.out]
     exact (HCA14.out.set3c hzz _ _ _).mono (Nat.le_trans HBW.out.size HB10.out.size))
    go_upto_region 14 with fail
    rw [← HW14.out]
    clear HW14 t0 t1 t2 u2 y0 y1 y2 g0 g1 g2 z0 z1 c0 c1 c2 c3 c4
    obtain ⟨t0, t1, t2⟩ := cel3 HX14.out
    obtain ⟨y0, y1, y2⟩ := cel3 hzz
    have g0 := froz0 hzz 0
    have g1 := froz0 hzz 1
    have g2 := froz0 hzz 2
    go_wp2_with fail
    (try simp only [Exit.inBlock, Exit.then])
    refine bodyPost_ret (v := .tuple #[.agg #[.slice p1 m1 l1, .slice p2 m2 l2, .slice (some ⟨bo + 1 + 1, 0, none⟩) 1 1], .int .i64 0]) ?_ rfl ⟨_, _, _, by rw [HE.out], HCF.out, HFB.out⟩
    rw [results_cell_tmp rfl]
    go_simp
theorem deltaAddO_any (c : CartD) (d : DotD) (nm : ByteArray) (q : Int) (v1 v2 v3 : Value) (w : World) (h : CartA w v1 v2 v3 c) (hl : Lt c.items) (hn : (allDots c.items).length ≤ 9000) (hs : nm.size ≤ maxLen) (hG : GlobIs w) :
  Calls Tryz.prog 42 #[.agg #[v1, v2, v3], dotV d, .string nm, .int .i64 q] w (CartPost (putC c d nm q false) (putCE c d nm q false) w) := by
 obtain ⟨o1, n1, k1, o2, n2, k2, o3, n3, k3, rfl, rfl, rfl, hn1, hn2, hn3⟩ := opn4 h
 obtain ⟨W1, HW, HB, HS, HK0, HK1, HKR⟩ := box3 w #[.slice o1 n1 k1, .slice o2 n2 k2, .slice o3 n3 k3] 28 #[.int .i64 d.rep, .int .i64 d.ctr] 39 #[.slice none 0 0, .slice none 0 0, .slice none 0 0] 28
 have HM := Hd (deltaMakeO_any c d nm q false (fun h => by cases h) _ _ _ W1 (h.below HB.out) hl hn hs (hG.below HB.out))
 rw [show fvD false = .func (.func 80) #[] #[] from rfl] at HM
 unfold dotV at HM ⊢
 generalize putC c d nm q false = R at *
 generalize putCE c d nm q false = E at *
 have HBW := Hd HB.out
 have hsz := HS.out
 obtain ⟨c0, c1, c2⟩ := cel3 (HK0.out W1 brf)
 obtain ⟨c3, c4⟩ := cel2 (HK1.out W1 brf)
 clear h hl hn hs hG hn1 hn2 hn3 HB HS
 go_enter Tryz.func42, Tryz.ntmps42
 go_wp2_with fail
 rw [← HW.out]
 go_wp2_with fail
 refine HM.out.mono ?_
 rintro e w2 ⟨x1, x2, x3, rfl, hca, hb2⟩
 obtain ⟨p1, m1, l1, p2, m2, l2, p3, m3, l3, rfl, rfl, rfl, hm1, hm2, hm3⟩ := hca.opn
 clear HM c0 c1 c2 c3 c4
 have hzz := HKR.out _ hb2
 have HFB : Hid (Below w.heap.size w (set3c w2 (w.heap.size + 1 + 1) (.slice p1 m1 l1) (.slice p2 m2 l2) (.slice p3 m3 l3))) := Hd (set3c_below _ _ _ (btr HBW.out hb2) (by omega))
 have HCA : Hid (OwnC w.heap.size (set3c w2 (w.heap.size + 1 + 1) (.slice p1 m1 l1) (.slice p2 m2 l2) (.slice p3 m3 l3)) (.slice p1 m1 l1) (.slice p2 m2 l2) (.slice p3 m3 l3) R) := Hd ((hca.set3c hzz _ _ _).mono HBW.out.size)
 obtain ⟨y0, y1, y2⟩ := cel3 hzz
 have g0 := froz0 hzz 0
 have g1 := froz0 hzz 1
 have g2 := froz0 hzz 2
 clear hzz hca hm1 hm2 hm3
 go_wp2_with fail
 (try simp only [Exit.inBlock, Exit.then])
 refine bodyPost_ret (v := .tuple #[.agg #[.slice p1 m1 l1, .slice p2 m2 l2, .slice p3 m3 l3], .int .i64 E]) ?_ rfl ⟨_, _, _, rfl, HCA.out, HFB.out⟩
 rw [results_cell_tmp rfl]
 go_simp
theorem deltaRemoveO_any (c : CartD) (nm : ByteArray) (v1 v2 v3 : Value) (w : World) (h : CartA w v1 v2 v3 c) (hl : Lt c.items) (hn : (allDots c.items).length ≤ 9000) (hs : nm.size ≤ maxLen) (hG : GlobIs w) :
  Calls Tryz.prog 43 #[.agg #[v1, v2, v3], .string nm] w (CartPost (remC c nm) (remCE c nm) w) := by
 obtain ⟨o1, n1, k1, o2, n2, k2, o3, n3, k3, rfl, rfl, rfl, hn1, hn2, hn3⟩ := opn4 h
 obtain ⟨W1, HW, HB, HS, HK0, HKR⟩ := box2 w #[.slice o1 n1 k1, .slice o2 n2 k2, .slice o3 n3 k3] 28 #[.slice none 0 0, .slice none 0 0, .slice none 0 0] 28
 have HC := Hd (fun wz (hz : Below W1.heap.size W1 wz) => cel3 (HK0.out wz hz))
 have HA := Hd (h.below HB.out)
 have HGL := Hd (hG.below HB.out)
 have HV := Hd (cartValid_any c _ _ _ W1 HA.out hl HGL.out)
 have HNI : Hid (∀ wz, Below W1.heap.size W1 wz → Calls Tryz.prog 13 #[.string nm] wz fun e w' => e = .returned (.bool (nameB nm)) ∧ Below wz.heap.size wz w') := Hd (fun wz hz => namesItem_any nm wz hs (HGL.out.below hz))
 have HNA : Hid (∀ wz, Below W1.heap.size W1 wz → Calls Tryz.prog 55 #[.agg #[.slice o1 n1 k1, .slice o2 n2 k2, .slice o3 n3 k3]] wz fun e w' => ∃ v', e = .returned v' ∧ EStr.Row wz.heap.size w' v' (namesV c) ∧ Below wz.heap.size wz w') := Hd (fun wz hz => cartNames_any c _ _ _ wz (HA.out.below hz) hl (HGL.out.below hz))
 have HD : Hid (∀ wz, Below W1.heap.size W1 wz → Calls Tryz.prog 84 #[.agg #[.slice o1 n1 k1, .slice o2 n2 k2, .slice o3 n3 k3], .string nm] wz fun e w' => ∃ v', e = .returned v' ∧ EDot.Row wz.heap.size w' v' (dotsC c nm) ∧ Below wz.heap.size wz w') := Hd (fun wz hz => cartDots_any c nm _ _ _ wz (HA.out.below hz) hl (HGL.out.below hz))
 have HDL : Hid ((dotsC c nm).length ≤ 9000) := Hd (Nat.le_trans (dotsC_le c nm) hn)
 have HDI : Hid (∀ d ∈ dotsC c nm, DI d) := Hd (fun x hx => DI_valid (List.all_eq_true.1 (dotsC_valid c nm) x hx))
 have HDV : Hid ((dotsC c nm).all validDotD = true) := Hd (dotsC_valid c nm)
 have HE0 : Hid ((validC c && nameB nm) = false → remCE c nm = 2) := Hd remCE_bad
 have HE1 : Hid (validC c = true → nameB nm = true → remCE c nm = if hasN (namesV c) nm then 0 else 9) := Hd (fun h1 h2 => by
  have : hasN (namesV c) nm = thereB c.items nm := by
   unfold namesV thereB hasN
   rw [h1, if_pos rfl, List.any_map]
   rfl
  rw [this]
  unfold remCE
  rw [h1, h2]
  rfl)
 have HZR : Hid (∀ E, E ≠ 0 → remCE c nm = E → remC c nm = zeroC) := Hd (fun E h1 h2 => by unfold remC; rw [h2, if_neg h1])
 have HPR : Hid (remCE c nm = 0 → remC c nm = goneC (dotsC c nm)) := Hd (fun h => by unfold remC; rw [if_pos h])
 have HBW := Hd HB.out
 have hsz := HS.out
 obtain ⟨R, hR⟩ : ∃ R, R = remC c nm := ⟨_, rfl⟩
 obtain ⟨E, hE⟩ : ∃ E, E = remCE c nm := ⟨_, rfl⟩
 rw [← hR, ← hE]
 rw [← hR] at HZR HPR
 rw [← hE] at HE0 HE1 HZR HPR
 clear hR hE
 obtain ⟨r1, hr1⟩ : ∃ r, r = validC c := ⟨_, rfl⟩
 obtain ⟨r2, hr2⟩ : ∃ r, r = nameB nm := ⟨_, rfl⟩
 obtain ⟨r3, hr3⟩ : ∃ r, r = hasN (namesV c) nm := ⟨_, rfl⟩
 rw [← hr1] at HV HE0 HE1
 rw [← hr2] at HNI HE0 HE1
 rw [← hr3] at HE1
 have HR3 := Hd hr3
 clear h hl hn hG hn1 hn2 hn3 hs HB HS hr1 hr2 hr3
 obtain ⟨c0, c1, c2⟩ := HC.out W1 brf
 go_enter Tryz.func43, Tryz.ntmps43
 go_wp2_with fail
 rw [← HW.out]
 go_wp2_with fail
 refine HV.out.mono ?_
 rintro e w2 ⟨rfl, hb2⟩
 have HB2 := Hd hb2
 clear hb2 HV c0 c1 c2
 cases r1 with
 | false =>
  have HE : Hid (E = 2) := Hd (HE0.out rfl)
  have HR : Hid (R = zeroC) := Hd (HZR.out 2 (by decide) HE.out)
  clear HE0 HE1 HZR HPR
  have HFB : Hid (Below w.heap.size w (set3c w2 (w.heap.size + 1) (.slice none 0 0) (.slice none 0 0) (.slice none 0 0))) := Hd (set3c_below _ _ _ (btr HBW.out HB2.out) (by omega))
  obtain ⟨y0, y1, y2⟩ := cel3 (HKR.out _ HB2.out)
  have g0 := froz0 (HKR.out _ HB2.out) 0
  have g1 := froz0 (HKR.out _ HB2.out) 1
  have g2 := froz0 (HKR.out _ HB2.out) 2
  go_wp2_with fail
  (try simp only [Exit.inBlock, Exit.then])
  refine bodyPost_ret (v := .tuple #[.agg #[.slice none 0 0, .slice none 0 0, .slice none 0 0], .int .i64 2]) ?_ rfl ⟨_, _, _, by rw [HE.out], by rw [HR.out]; exact OwnC.zero _ _, HFB.out⟩
  rw [results_cell_tmp rfl]
  go_simp
 | true =>
  have HN2 := Hd (HNI.out w2 HB2.out)
  go_wp2_with fail
  refine HN2.out.mono ?_
  rintro e w3 ⟨rfl, hb3⟩
  have HB3 := Hd (btr HB2.out hb3)
  clear hb3 HN2
  obtain ⟨c0, c1, c2⟩ := HC.out w3 HB3.out
  cases r2 with
  | false =>
   have HE : Hid (E = 2) := Hd (HE0.out rfl)
   have HR : Hid (R = zeroC) := Hd (HZR.out 2 (by decide) HE.out)
   clear HE0 HE1 HZR HPR
   have HFB : Hid (Below w.heap.size w (set3c w3 (w.heap.size + 1) (.slice none 0 0) (.slice none 0 0) (.slice none 0 0))) := Hd (set3c_below _ _ _ (btr HBW.out HB3.out) (by omega))
   obtain ⟨y0, y1, y2⟩ := cel3 (HKR.out _ HB3.out)
   have g0 := froz0 (HKR.out _ HB3.out) 0
   have g1 := froz0 (HKR.out _ HB3.out) 1
   have g2 := froz0 (HKR.out _ HB3.out) 2
   go_wp2_with fail
   (try simp only [Exit.inBlock, Exit.then])
   refine bodyPost_ret (v := .tuple #[.agg #[.slice none 0 0, .slice none 0 0, .slice none 0 0], .int .i64 2]) ?_ rfl ⟨_, _, _, by rw [HE.out], by rw [HR.out]; exact OwnC.zero _ _, HFB.out⟩
   rw [results_cell_tmp rfl]
   go_simp
  | true =>
   have HN3 := Hd (HNA.out w3 HB3.out)
   go_wp2_with fail
   refine HN3.out.mono ?_
   rintro e w4 ⟨v4, rfl, hr4, hb4⟩
   have hst := StrS.of_row hr4
   have HCO := Hd (containsStr_any _ nm _ w4 hst)
   rw [← HR3.out] at HCO
   obtain ⟨o4, k4, rfl⟩ := hr4.slice
   have HB4 := Hd (btr HB3.out hb4)
   clear hb4 HN3 hst hr4 c0 c1 c2
   go_wp2_with fail
   refine HCO.out.mono ?_
   rintro e w5 ⟨rfl, hb5⟩
   have HB5 := Hd (btr HB4.out hb5)
   clear hb5 HCO HR3
   obtain ⟨c0, c1, c2⟩ := HC.out w5 HB5.out
   cases r3 with
   | false =>
    have HE : Hid (E = 9) := Hd (HE1.out trivial trivial)
    have HR : Hid (R = zeroC) := Hd (HZR.out 9 (by decide) HE.out)
    clear HE0 HE1 HZR HPR
    have HFB : Hid (Below w.heap.size w (set3c w5 (w.heap.size + 1) (.slice none 0 0) (.slice none 0 0) (.slice none 0 0))) := Hd (set3c_below _ _ _ (btr HBW.out HB5.out) (by omega))
    obtain ⟨y0, y1, y2⟩ := cel3 (HKR.out _ HB5.out)
    have g0 := froz0 (HKR.out _ HB5.out) 0
    have g1 := froz0 (HKR.out _ HB5.out) 1
    have g2 := froz0 (HKR.out _ HB5.out) 2
    go_wp2_with fail
    (try simp only [Exit.inBlock, Exit.then])
    refine bodyPost_ret (v := .tuple #[.agg #[.slice none 0 0, .slice none 0 0, .slice none 0 0], .int .i64 9]) ?_ rfl ⟨_, _, _, by rw [HE.out], by rw [HR.out]; exact OwnC.zero _ _, HFB.out⟩
    rw [results_cell_tmp rfl]
    go_simp
   | true =>
    have HE : Hid (E = 0) := Hd (HE1.out trivial trivial)
    have HR : Hid (R = goneC (dotsC c nm)) := Hd (HPR.out HE.out)
    clear HE0 HE1 HZR HPR
    have HD5 := Hd (HD.out w5 HB5.out)
    clear HD
    go_wp2_with fail
    refine HD5.out.mono ?_
    rintro e w6 ⟨v6, rfl, hr6, hb6⟩
    have har := hr6.dots HDI.out
    have HFG := Hd (deltaForgetO_any _ _ w6 har HDV.out (by have := HDL.out; omega))
    obtain ⟨o6, k6, rfl⟩ := har.slice
    have HB6 := Hd (btr HB5.out hb6)
    clear hr6 har hb6 c0 c1 c2 HD5
    go_wp2_with fail
    refine HFG.out.mono ?_
    rintro e w7 ⟨x1, x2, x3, rfl, hca, hb7⟩
    obtain ⟨p1, m1, l1, p2, m2, l2, p3, m3, l3, rfl, rfl, rfl, hm1, hm2, hm3⟩ := hca.opn
    have hb7 := btr HB6.out hb7
    clear HFG
    have hzz := HKR.out _ hb7
    have HFB : Hid (Below w.heap.size w (set3c w7 (w.heap.size + 1) (.slice p1 m1 l1) (.slice p2 m2 l2) (.slice p3 m3 l3))) := Hd (set3c_below _ _ _ (btr HBW.out hb7) (by omega))
    have HCA : Hid (OwnC w.heap.size (set3c w7 (w.heap.size + 1) (.slice p1 m1 l1) (.slice p2 m2 l2) (.slice p3 m3 l3)) (.slice p1 m1 l1) (.slice p2 m2 l2) (.slice p3 m3 l3) (goneC (dotsC c nm))) := Hd ((hca.set3c hzz _ _ _).mono (Nat.le_trans HBW.out.size HB6.out.size))
    obtain ⟨y0, y1, y2⟩ := cel3 hzz
    have g0 := froz0 hzz 0
    have g1 := froz0 hzz 1
    have g2 := froz0 hzz 2
    clear hzz hca hm1 hm2 hm3
    go_wp2_with fail
    (try simp only [Exit.inBlock, Exit.then])
    refine bodyPost_ret (v := .tuple #[.agg #[.slice p1 m1 l1, .slice p2 m2 l2, .slice p3 m3 l3], .int .i64 0]) ?_ rfl ⟨_, _, _, by rw [HE.out], by rw [HR.out]; exact HCA.out, HFB.out⟩
    rw [results_cell_tmp rfl]
    go_simp
theorem deltaClearO_any (c : CartD) (v1 v2 v3 : Value) (w : World) (h : CartA w v1 v2 v3 c) (hl : Lt c.items) (hn : (allDots c.items).length ≤ 9000) (hG : GlobIs w) :
  Calls Tryz.prog 48 #[.agg #[v1, v2, v3]] w (CartPost (clrC c) (clrCE c) w) := by
 obtain ⟨o1, n1, k1, o2, n2, k2, o3, n3, k3, rfl, rfl, rfl, hn1, hn2, hn3⟩ := opn4 h
 obtain ⟨W1, HW, HB, HS, HK0, HKR⟩ := box2 w #[.slice o1 n1 k1, .slice o2 n2 k2, .slice o3 n3 k3] 28 #[.slice none 0 0, .slice none 0 0, .slice none 0 0] 28
 have HC := Hd (fun wz (hz : Below W1.heap.size W1 wz) => cel3 (HK0.out wz hz))
 have HA := Hd (h.below HB.out)
 have HGL := Hd (hG.below HB.out)
 have HV := Hd (cartValid_any c _ _ _ W1 HA.out hl HGL.out)
 have HD : Hid (∀ wz, Below W1.heap.size W1 wz → Calls Tryz.prog 84 #[.agg #[.slice o1 n1 k1, .slice o2 n2 k2, .slice o3 n3 k3], .string ⟨#[]⟩] wz fun e w' => ∃ v', e = .returned v' ∧ EDot.Row wz.heap.size w' v' (dotsC c ⟨#[]⟩) ∧ Below wz.heap.size wz w') := Hd (fun wz hz => cartDots_any c ⟨#[]⟩ _ _ _ wz (HA.out.below hz) hl (HGL.out.below hz))
 have HDL : Hid ((dotsC c ⟨#[]⟩).length ≤ 9000) := Hd (Nat.le_trans (dotsC_le c ⟨#[]⟩) hn)
 have HDI : Hid (∀ d ∈ dotsC c ⟨#[]⟩, DI d) := Hd (fun x hx => DI_valid (List.all_eq_true.1 (dotsC_valid c ⟨#[]⟩) x hx))
 have HDV : Hid ((dotsC c ⟨#[]⟩).all validDotD = true) := Hd (dotsC_valid c ⟨#[]⟩)
 have HE0 : Hid (validC c = false → clrCE c = 2 ∧ clrC c = zeroC) := Hd (fun h => by unfold clrC clrCE; simp [h])
 have HE1 : Hid (validC c = true → clrCE c = 0 ∧ clrC c = goneC (dotsC c ⟨#[]⟩)) := Hd (fun h => by unfold clrC clrCE dotsC; rw [h]; exact ⟨rfl, rfl⟩)
 have HBW := Hd HB.out
 have hsz := HS.out
 obtain ⟨R, hR⟩ : ∃ R, R = clrC c := ⟨_, rfl⟩
 obtain ⟨E, hE⟩ : ∃ E, E = clrCE c := ⟨_, rfl⟩
 rw [← hR, ← hE]
 rw [← hR, ← hE] at HE0 HE1
 clear hR hE
 obtain ⟨r1, hr1⟩ : ∃ r, r = validC c := ⟨_, rfl⟩
 rw [← hr1] at HV HE0 HE1
 clear h hl hn hG hn1 hn2 hn3 HB HS hr1
 obtain ⟨c0, c1, c2⟩ := HC.out W1 brf
 go_enter Tryz.func48, Tryz.ntmps48
 go_wp2_with fail
 rw [← HW.out]
 go_wp2_with fail
 refine HV.out.mono ?_
 rintro e w2 ⟨rfl, hb2⟩
 have HB2 := Hd hb2
 clear hb2 HV c0 c1 c2
 cases r1 with
 | false =>
  have HE : Hid (E = 2) := Hd (HE0.out rfl).1
  have HR : Hid (R = zeroC) := Hd (HE0.out rfl).2
  clear HE0 HE1
  have HFB : Hid (Below w.heap.size w (set3c w2 (w.heap.size + 1) (.slice none 0 0) (.slice none 0 0) (.slice none 0 0))) := Hd (set3c_below _ _ _ (btr HBW.out HB2.out) (by omega))
  obtain ⟨y0, y1, y2⟩ := cel3 (HKR.out _ HB2.out)
  have g0 := froz0 (HKR.out _ HB2.out) 0
  have g1 := froz0 (HKR.out _ HB2.out) 1
  have g2 := froz0 (HKR.out _ HB2.out) 2
  go_wp2_with fail
  (try simp only [Exit.inBlock, Exit.then])
  refine bodyPost_ret (v := .tuple #[.agg #[.slice none 0 0, .slice none 0 0, .slice none 0 0], .int .i64 2]) ?_ rfl ⟨_, _, _, by rw [HE.out], by rw [HR.out]; exact OwnC.zero _ _, HFB.out⟩
  rw [results_cell_tmp rfl]
  go_simp
 | true =>
  have HE : Hid (E = 0) := Hd (HE1.out rfl).1
  have HR : Hid (R = goneC (dotsC c ⟨#[]⟩)) := Hd (HE1.out rfl).2
  clear HE0 HE1
  obtain ⟨c0, c1, c2⟩ := HC.out w2 HB2.out
  have HD5 := Hd (HD.out w2 HB2.out)
  clear HD
  go_wp2_with fail
  refine HD5.out.mono ?_
  rintro e w6 ⟨v6, rfl, hr6, hb6⟩
  have har := hr6.dots HDI.out
  have HFG := Hd (deltaForgetO_any _ _ w6 har HDV.out (by have := HDL.out; omega))
  obtain ⟨o6, k6, rfl⟩ := har.slice
  have HB6 := Hd (btr HB2.out hb6)
  clear hr6 har hb6 c0 c1 c2 HD5
  go_wp2_with fail
  refine HFG.out.mono ?_
  rintro e w7 ⟨x1, x2, x3, rfl, hca, hb7⟩
  obtain ⟨p1, m1, l1, p2, m2, l2, p3, m3, l3, rfl, rfl, rfl, hm1, hm2, hm3⟩ := hca.opn
  have hb7 := btr HB6.out hb7
  clear HFG
  have hzz := HKR.out _ hb7
  have HFB : Hid (Below w.heap.size w (set3c w7 (w.heap.size + 1) (.slice p1 m1 l1) (.slice p2 m2 l2) (.slice p3 m3 l3))) := Hd (set3c_below _ _ _ (btr HBW.out hb7) (by omega))
  have HCA : Hid (OwnC w.heap.size (set3c w7 (w.heap.size + 1) (.slice p1 m1 l1) (.slice p2 m2 l2) (.slice p3 m3 l3)) (.slice p1 m1 l1) (.slice p2 m2 l2) (.slice p3 m3 l3) (goneC (dotsC c ⟨#[]⟩))) := Hd ((hca.set3c hzz _ _ _).mono (Nat.le_trans HBW.out.size HB6.out.size))
  obtain ⟨y0, y1, y2⟩ := cel3 hzz
  have g0 := froz0 hzz 0
  have g1 := froz0 hzz 1
  have g2 := froz0 hzz 2
  clear hzz hca hm1 hm2 hm3
  go_wp2_with fail
  (try simp only [Exit.inBlock, Exit.then])
  refine bodyPost_ret (v := .tuple #[.agg #[.slice p1 m1 l1, .slice p2 m2 l2, .slice p3 m3 l3], .int .i64 0]) ?_ rfl ⟨_, _, _, by rw [HE.out], by rw [HR.out]; exact HCA.out, HFB.out⟩
  rw [results_cell_tmp rfl]
  go_simp
end Go.Proofs.YtjoljfnlkddfbaaGreatDoor
