/- The reference's Union of contexts. -/
import Derived.Test.YtfnfbcaoihhbpaaGreatDoorR3b
set_option linter.unusedSimpArgs false
set_option linter.unusedVariables false
set_option maxRecDepth 100000
set_option maxHeartbeats 8000000
namespace Go.Proofs.YtfnfbcaoihhbpaaGreatDoor
open Go.RowKit Go.Maps

/-- A slice that can be read and a row of memory that is one's own do not share a block. -/
def SepD (l : List DotD) (v r : Value) : Prop := l ≠ [] → ∀ g, r.ownBlock = some g → v.ownBlock ≠ some g
theorem arr_blk {w : World} {v : Value} {l : List DotD} (h : Arr DotR 2 w v l) (hl : l ≠ []) : ∃ b, v.ownBlock = some b ∧ b < w.heap.size := by
 obtain ⟨o, c, rfl, _, _, h4⟩ := h
 have hp : 0 < l.length := List.length_pos_iff.2 hl
 obtain ⟨b, off, cs, rfl, hb, -⟩ := h4 0 hp
 exact ⟨b, rfl, hb⟩
theorem arr_grown {w w' : World} {v r : Value} {l : List DotD} (h : Arr DotR 2 w v l) (hgr : w.grownBy w' r.ownBlock) (hs : SepD l v r) : Arr DotR 2 w' v l := by
 obtain ⟨o, c, rfl, h1, h2, h4⟩ := h
 refine ⟨o, c, rfl, h1, h2, fun i hi => ?_⟩
 obtain ⟨b, off, cs, rfl, hb, hc, hR, hcell⟩ := h4 i hi
 have hne : l ≠ [] := fun e => by rw [e] at hi; exact absurd hi (Nat.not_lt_zero i)
 have hbk : w'.heap[b]? = w.heap[b]? := hgr.block b hb (fun e => hs hne b e.symm rfl)
 refine ⟨b, off, cs, rfl, Nat.lt_of_lt_of_le hb hgr.size, hc, hR, fun j hj => ?_⟩
 rw [← hcell j hj]
 unfold World.cell?
 rw [hbk]
theorem arr_len_eq {w : World} {o : Option Addr} {n c : Nat} {l : List DotD} (h : Arr DotR 2 w (.slice o n c) l) : n = l.length := by
 obtain ⟨o', c', e, _⟩ := h
 injection e
/-- Dots do not lie in a box of a context. -/
theorem arr_set {w : World} {v : Value} {l : List DotD} {b i : Nat} {a1 a2 : Option Addr} {n1 k1 n2 k2 : Nat} {T : TypeId} (x : Value) (h : Arr DotR 2 w v l) (hb : w.heap[b]? = some (.cells #[.slice a1 n1 k1, .slice a2 n2 k2] T)) : Arr DotR 2 (w.setCell ⟨b, i, none⟩ x) v l := by
 obtain ⟨o, c, rfl, h1, h2, h4⟩ := h
 refine ⟨o, c, rfl, h1, h2, fun j hj => ?_⟩
 obtain ⟨b', off, cs, rfl, hlt, hc, hR, hcell⟩ := h4 j hj
 have hne : b' ≠ b := fun e => by
  subst e
  have h0 := hcell 0 (by decide)
  rw [cell0 hb, hR.1] at h0
  generalize off + j * 2 + 0 = q at h0
  match q, h0 with
  | 0, h0 => simp at h0
  | 1, h0 => simp at h0
  | n + 2, h0 => simp at h0
 refine ⟨b', off, cs, rfl, by rw [setCell_size]; exact hlt, hc, hR, fun q hq => ?_⟩
 rw [← hcell q hq]
 unfold World.cell?
 rw [setCell_other hne]
def set2 (w : World) (b : Nat) (x0 x1 : Value) : World := (w.setCell ⟨b, 0, none⟩ x0).setCell ⟨b, 1, none⟩ x1
theorem set2_eq (w : World) (b : Nat) (x0 x1 : Value) : set2 w b x0 x1 = (w.setCell ⟨b, 0, none⟩ x0).setCell ⟨b, 1, none⟩ x1 := rfl
theorem set2_same {w : World} {b : Nat} {y0 y1 : Value} (x0 x1 : Value) {T : TypeId} {f : Nat × Nat} (h : w.heap[b]? = some (.cells #[y0, y1] T f)) : (set2 w b x0 x1).heap[b]? = some (.cells #[x0, x1] T f) := by
 unfold set2
 rw [setCell_same (setCell_same h 0 x0) 1 x1]
 rfl
theorem set2_cell {w : World} {a b i : Nat} {x y : Value} (h : a ≠ b) : (set2 w b x y).cell? ⟨a, i, none⟩ = w.cell? ⟨a, i, none⟩ := by
  unfold World.cell? set2
  rw [setCell_other h, setCell_other h]
theorem set2_other {w : World} {b k : Nat} {x0 x1 : Value} (h : k ≠ b) : (set2 w b x0 x1).heap[k]? = w.heap[k]? := by
 unfold set2
 rw [setCell_other h, setCell_other h]
theorem set2_below {w0 w : World} {n b : Nat} (x0 x1 : Value) (h : Below n w0 w) (hb : n ≤ b) : Below n w0 (set2 w b x0 x1) :=
 (h.setCell (p := ⟨b, 0, none⟩) hb _).setCell (p := ⟨b, 1, none⟩) hb _
theorem arr_set2 {w : World} {v : Value} {l : List DotD} {b : Nat} {a1 a2 o1 o2 : Option Addr} {n1 k1 n2 k2 m1 q1 m2 q2 : Nat} {T : TypeId} (h : Arr DotR 2 w v l) (hb : w.heap[b]? = some (.cells #[.slice a1 n1 k1, .slice a2 n2 k2] T)) : Arr DotR 2 (set2 w b (.slice o1 m1 q1) (.slice o2 m2 q2)) v l :=
 arr_set _ (arr_set _ h hb) (by rw [setCell_same hb 0 (.slice o1 m1 q1)]; rfl)
theorem sep_row {n : Nat} {w w' : World} {v r : Value} {l m : List DotD} (h : EDot.Row n w' v l) (hr : EDot.Row 0 w r m) (hn : w.heap.size ≤ n) : SepD l v r := fun _ g hg e => by
 have h1 := (h.lt g e).1
 have h2 := (hr.lt g hg).2
 omega
theorem r3Compact_any (vl cl : List DotD) (v1 v2 : Value) (w : World) (h1 : Arr DotR 2 w v1 vl) (h2 : Arr DotR 2 w v2 cl) (hx : validX vl cl = true) (hlv : vl.length ≤ 100000) (hlc : cl.length ≤ 100000) :
  Calls Tryz.prog 145 #[.agg #[v1, v2]] w fun e w' => ∃ y1 y2, e = .returned (.agg #[y1, y2]) ∧ Arr DotR 2 w' y1 (compactX vl cl).1 ∧ Arr DotR 2 w' y2 (compactX vl cl).2 ∧ Below w.heap.size w w' := by
 have hn := h2.len
 have HX := Hd hx
 have HLV := Hd hlv
 have HLC := Hd hlc
 have HSP := Hd (compactX_spec hx).1
 have HFO : Hid (cl.foldl stepX3 (vl, []) = compactX vl cl) := Hd (foldX3 cl (vl, []) (validX_parts hx).1 (validX_parts hx).2.2).1
 have HDV : Hid (∀ k (hk : k < cl.length), validDotD cl[k] = true) := Hd (fun k hk => List.all_eq_true.1 (validX_parts hx).2.2 _ (List.getElem_mem hk))
 have HSELF : Hid (compactB vl cl = true → compactX vl cl = (vl, cl)) := Hd compactX_self
 obtain ⟨o2, k2, rfl, hel⟩ := h2.dotAt
 have HEL := Hd hel
 clear hel hx hlv hlc
 obtain ⟨o1, k1, rfl⟩ := h1.slice
 obtain ⟨n1, hn1⟩ : ∃ n, n = vl.length := ⟨_, rfl⟩
 obtain ⟨n2, hn2⟩ : ∃ n, n = cl.length := ⟨_, rfl⟩
 rw [← hn1] at h1
 rw [← hn2] at h2 hn
 rw [← hn1, ← hn2]
 obtain ⟨W1, HW, HB, HS, HK0, HK1⟩ := box2 w #[.slice o1 n1 k1, .slice o2 n2 k2] 25 #[.slice none 0 0, .slice none 0 0] 25
 have HC := Hd (fun wz (hz : Below W1.heap.size W1 wz) => And.intro (cel2 (HK0.out wz hz)) (cel2 (HK1.out wz hz)))
 have hbb1 := HB.out
 have HA1 := Hd (h1.dots hbb1)
 have HA2 := Hd (h2.dots hbb1)
 have HN2 := Hd hn2
 have HBW := Hd HB.out
 have hsz := HS.out
 have HIC := Hd (r3IsCompact_any vl cl _ _ W1 HA1.out HA2.out)
 clear hbb1 h1 h2 hn1 hn2
 obtain ⟨⟨c0, c1⟩, ⟨d0, d1⟩⟩ := HC.out W1 brf
 obtain ⟨r0, hr0⟩ : ∃ r, r = compactB vl cl := ⟨_, rfl⟩
 rw [← hr0] at HIC HSELF
 clear hr0
 go_enter Tryz.func145, Tryz.ntmps145
 go_wp2_with fail
 rw [← HW.out]
 cases r0 with
 | true =>
  have HE : Hid (compactX vl cl = (vl, cl)) := Hd (by first | exact HSELF.out rfl | exact HSELF.out trivial)
  clear HSELF
  refine wp_loop_rounds 1 ?_
  rw [rounds_succ]
  go_wp2_with fail
  refine HIC.out.mono ?_
  rintro e w2 ⟨rfl, hb2⟩
  have HB2 := Hd hb2
  have HZ := Hd (HK1.out w2 hb2)
  have H1 := Hd (HA1.out.dots hb2)
  have H2 := Hd (HA2.out.dots hb2)
  have HBF := Hd (btr HBW.out hb2)
  clear hb2 c0 c1 d0 d1 HIC
  obtain ⟨⟨c0, c1⟩, ⟨d0, d1⟩⟩ := HC.out w2 HB2.out
  have f0 := froz0 HZ.out 0
  have f1 := froz0 HZ.out 1
  go_wp2_with fail
  obtain ⟨W9, hW9⟩ : ∃ wq, wq = set2 w2 (w.heap.size + 1) (.slice o1 n1 k1) (.slice o2 n2 k2) := ⟨_, rfl⟩
  have y9 : W9.heap[w.heap.size + 1]? = some (.cells #[.slice o1 n1 k1, .slice o2 n2 k2] 25) := by rw [hW9]; exact set2_same _ _ HZ.out
  have hbf9 : Below w.heap.size w W9 := by rw [hW9]; exact set2_below _ _ HBF.out (by omega)
  have q1 : Arr DotR 2 W9 (.slice o1 n1 k1) (compactX vl cl).1 := by rw [hW9, HE.out]; exact arr_set2 H1.out HZ.out
  have q2 : Arr DotR 2 W9 (.slice o2 n2 k2) (compactX vl cl).2 := by rw [hW9, HE.out]; exact arr_set2 H2.out HZ.out
  have HQ1 := Hd q1
  have HQ2 := Hd q2
  have y0 : W9.cell? ⟨w.heap.size + 1, 0, none⟩ = some (.slice o1 n1 k1) := cl0 y9 0 rfl
  have y1 : W9.cell? ⟨w.heap.size + 1, 1, none⟩ = some (.slice o2 n2 k2) := cl0 y9 1 rfl
  (try simp only [Exit.inBlock, Exit.then])
  change bodyPost _ _ _ _ _ (set2 w2 (w.heap.size + 1) (.slice o1 n1 k1) (.slice o2 n2 k2))
  rw [← hW9]
  clear hW9 y9 q1 q2
  refine bodyPost_ret (v := .agg #[.slice o1 n1 k1, .slice o2 n2 k2]) ?_ rfl ⟨_, _, rfl, HQ1.out, HQ2.out, hbf9⟩
  rw [results_cell_one rfl]
  go_simp
 | false =>
  clear HSELF
  refine wp_loop_rounds 2 ?_
  rw [rounds_succ]
  go_wp2_with fail
  refine HIC.out.mono ?_
  rintro e w2 ⟨rfl, hb2⟩
  have HB2 := Hd hb2
  clear hb2 c0 c1 d0 d1 HIC
  obtain ⟨⟨c0, c1⟩, ⟨d0, d1⟩⟩ := HC.out w2 HB2.out
  go_wp2_with fail
  go_loopw [3, 4, 5] (fun rv vv i wr => ∃ k : Nat, k ≤ n2 ∧ i = .int .i64 k ∧ EDot.Row W1.heap.size wr rv ((cl.take k).foldl stepX3 (vl, [])).2 ∧ Arr DotR 2 wr vv ((cl.take k).foldl stepX3 (vl, [])).1 ∧ SepD ((cl.take k).foldl stepX3 (vl, [])).1 vv rv ∧ validV ((cl.take k).foldl stepX3 (vl, [])).1 = true ∧ ((cl.take k).foldl stepX3 (vl, [])).1.length ≤ vl.length + k ∧ ((cl.take k).foldl stepX3 (vl, [])).2.length ≤ k ∧ Below W1.heap.size W1 wr) (fun _ _ i _ => n2 - (intOf i).toNat)
  case atStart => exact ⟨0, Nat.zero_le _, rfl, Enc.Row.nil _ _, HA1.out.dots HB2.out, (fun _ g hg => by simp [Value.ownBlock] at hg), (validX_parts HX.out).1, Nat.le_refl _, Nat.le_refl _, HB2.out⟩
  case round =>
   obtain ⟨k, hk, rfl, hrow, harr, hsep, hpv, hle1, hle2, hB⟩ := hrel
   have HSEP := Hd hsep
   have HB := Hd hB
   have HROW := Hd hrow
   have HARR := Hd harr
   have HPV := Hd hpv
   clear hB c0 c1 d0 d1 hrow harr hpv hsep
   obtain ⟨⟨c0, c1⟩, ⟨d0, d1⟩⟩ := HC.out wr HB.out
   by_cases hlt : k < n2
   ·have hlt' : k < cl.length := by rw [← HN2.out]; exact hlt
    have hkc : k ≤ 100000 := by have := HLC.out; omega
    obtain ⟨b, off, rfl, hbl, e0, e1⟩ := HEL.out k hlt'
    have e2 : wr.cell? ⟨b, off + k * 2, none⟩ = some (.int .i64 cl[k].rep) := by rw [(HBW.out.trans (HB.out.mono HBW.out.size)).cell (p := ⟨_, _, _⟩) hbl]; exact e0
    have e3 : wr.cell? ⟨b, off + k * 2 + 1, none⟩ = some (.int .i64 cl[k].ctr) := by rw [(HBW.out.trans (HB.out.mono HBW.out.size)).cell (p := ⟨_, _, _⟩) hbl]; exact e1
    have hblw : b < wr.heap.size := Nat.lt_of_lt_of_le hbl (Nat.le_trans HBW.out.size HB.out.size)
    have hwr : w.heap.size < wr.heap.size := Nat.lt_of_lt_of_le (by omega) HB.out.size
    have HXV := Hd (HDV.out k hlt')
    have HST0 : Hid ((cl.take (k + 1)).foldl stepX3 (vl, []) = stepX3 ((cl.take k).foldl stepX3 (vl, [])) cl[k]) := Hd (by rw [List.take_succ_eq_append_getElem hlt', List.foldl_append]; rfl)
    generalize cl[k] = x at *
    obtain ⟨p, hp⟩ : ∃ p, p = (cl.take k).foldl stepX3 (vl, []) := ⟨_, rfl⟩
    rw [← hp] at HST0 HROW HARR HPV HSEP hle1 hle2
    obtain ⟨p1, p2⟩ := p
    simp only at HROW HARR HPV HSEP hle1 hle2
    clear hp e0 e1
    obtain ⟨oq, cq, rfl⟩ := HROW.out.slice
    obtain ⟨or, cr, rfl⟩ := HARR.out.slice
    have a0 : (0 : Int) ≤ k := by omega
    have a1 : (k : Int) < (n2 : Int) := by omega
    have hkw := wr1 k (by omega)
    obtain ⟨W5, hW5⟩ : ∃ wq, wq = wr.alloc (.cells #[.int .i64 x.rep, .int .i64 x.ctr] 30) := ⟨_, rfl⟩
    have hb5 : Below wr.heap.size wr W5 := by rw [hW5]; exact bal
    have hg5 : W5.heap[wr.heap.size]? = some (.cells #[.int .i64 x.rep, .int .i64 x.ctr] 30) := by rw [hW5]; exact alloc_new _ _
    have HCX := Hd (fun wz (hz : Below W5.heap.size W5 wz) => cel2 ((hz.block _ (lt_of_heap hg5)).trans hg5))
    have HB5 := Hd (btr HB.out hb5)
    have H15 := Hd (HARR.out.dots hb5)
    have H25 := Hd (HROW.out.below hb5)
    have HHX := Hd (r2Has_any p1 x _ W5 H15.out)
    have HW5 := Hd hW5
    unfold dotV at HHX
    obtain ⟨r, hr⟩ : ∃ r, r = hasV p1 x := ⟨_, rfl⟩
    rw [← hr] at HHX
    have HRR := Hd hr
    clear hW5 hb5 hg5 hr
    go_wp2_with (go_at_call 100; go_loud (rw [← HW5.out]))
    refine HHX.out.mono ?_
    rintro e w8 ⟨rfl, hb8⟩
    have HB8 := Hd (btr HB5.out hb8)
    have HD8 := Hd hb8
    have H18 := Hd (H15.out.dots hb8)
    have H28 := Hd (H25.out.below hb8)
    clear hb8 c0 c1 e2 e3 HHX
    obtain ⟨z1, z2⟩ := HCX.out w8 HD8.out
    cases r with
    | true =>
     have HST : Hid ((cl.take (k + 1)).foldl stepX3 (vl, []) = (p1, p2)) := Hd (by rw [HST0.out]; unfold stepX3; rw [if_pos HRR.out.symm])
     clear HST0 HRR z1 z2
     go_wp2_with fail
     go_roundw
     case rel => exact ⟨k + 1, by omega, by go_num, by rw [HST.out]; exact H28.out, by rw [HST.out]; exact H18.out, by rw [HST.out]; exact HSEP.out, by rw [HST.out]; exact HPV.out, by rw [HST.out]; simp only; omega, by rw [HST.out]; simp only; omega, HB8.out⟩
     case measure => simp [intOf]; omega
    | false =>
     have HGX := Hd ((r2Get_any p1 x.rep _ w8.drew (H18.out.dots bdr)).mono (R' := fun e w' => e = .returned (.int .i64 (getV p1 x.rep)) ∧ Below w8.heap.size w8 w') (fun _ _ ⟨a1, a2⟩ => ⟨a1, bdr.trans a2⟩))
     have hgl := getV_le (validV_parts HPV.out).1 x.rep
     have hg0 := getV_nonneg (validV_parts HPV.out).1 x.rep
     obtain ⟨gn, hgn⟩ : ∃ g, g = getV p1 x.rep := ⟨_, rfl⟩
     rw [← hgn] at HGX hgl hg0
     have HGN := Hd hgn
     have hwg : IntKind.i64.wrap (gn + 1) = gn + 1 := by rw [IntKind.wrap_i64]; omega
     clear hgn hgl hg0
     by_cases q : x.ctr = gn + 1
     ·have t : (x.ctr == gn + 1) = true := beq_iff_eq.2 q
      have HST : Hid ((cl.take (k + 1)).foldl stepX3 (vl, []) = (raiseR p1 x, p2)) := Hd (by rw [HST0.out]; unfold stepX3; rw [if_neg (by simp [← HRR.out]), if_pos (by rw [← HGN.out]; exact q)])
      clear HST0 HRR q
      go_upto_region 10 with fail
      refine NQ.to ?_
      refine wp_region_held_drew (S := (fun wz => wz.cell? ⟨wr.heap.size, 0, none⟩ = some (.int .i64 x.rep) ∧ wz.cell? ⟨wr.heap.size, 1, none⟩ = some (.int .i64 x.ctr))) (by kernel_rfl) (HCX.out _ (btr HD8.out bdr)) (fun hS => ?_)
      refine tkR (n := 5) [0, 1, 2, 3, 4] rfl (by decide +kernel) hS ?_
      iterate 5 ((try simp only [Act.put, s1, s2, s3, s4, s5, s6]); refine ⟨_, ?_, rfl, Or.inl ⟨by kernel_rfl, fun w hSw => ok_of fun z hz => ?_⟩, ?_⟩; rotate_left; · (obtain ⟨f1, f2⟩ := hSw; go_simp; exact hz))
      refine RunOK.done ?_
      try simp only [Act.put, s1, s2, s3, s4, s5, s6]
      refine rd1 5 (by decide +kernel) rfl (fun K hK => ?_)
      go_simp
      go_at_call 147
      refine HGX.out.mono ?_
      rintro e w9 ⟨rfl, hb9⟩
      go_simp
      refine Shut.out hK _ _ (HCX.out w9 (btr HD8.out hb9)) (fun hS2 => ?_); clear hK K hS; have hS := hS2; clear hS2
      refine tkR (n := 3) [6, 7, 8] rfl (by decide +kernel) hS ?_
      iterate 3 ((try simp only [Act.put, s1, s2, s3, s4, s5, s6]); refine ⟨_, ?_, rfl, Or.inl ⟨by kernel_rfl, fun w hSw => ok_of fun z hz => ?_⟩, ?_⟩; rotate_left; · (go_simp; exact hz))
      refine RunOK.done ?_
      try simp only [Act.put, s1, s2, s3, s4, s5, s6]
      refine wpAnyH_done (by kernel_rfl) ?_ _
      try simp only [Act.put, s1, s2, s3, s4, s5, s6]
      simp only [NQ]
      clear hS
      have HB9 := Hd (btr HB8.out hb9)
      have HD9 := Hd (btr HD8.out hb9)
      have H19 := Hd (H18.out.dots hb9)
      have H29 := Hd (H28.out.below hb9)
      have HRS := Hd (r2RaiseO_any p1 x _ w9 H19.out HPV.out HXV.out (by have := HLV.out; have := HLC.out; omega))
      have HRL := Hd (raiseR_len p1 x)
      unfold dotV at HRS
      clear hb9 z1 z2
      obtain ⟨z1, z2⟩ := HCX.out w9 HD9.out
      go_wp2_with fail
      refine HRS.out.mono ?_
      rintro e wa ⟨va, rfl, ha, hvo, hba⟩
      have HBA := Hd (btr HB9.out hba)
      have HAA := Hd ha
      have H2A := Hd (H29.out.below hba)
      have HSA : Hid (SepD (raiseR p1 x) va (.slice oq p2.length cq)) := Hd (by
       rcases hvo with e9 | e9
       ·subst e9
        intro hne
        by_cases hp1 : p1 = []
        ·intro g hg e
         have hlen : (Value.slice or p1.length cr).ownBlock = some g := e
         exact absurd (List.length_eq_zero_iff.1 (by rw [← arr_len_eq ha, hp1]; rfl)) hne
        ·exact HSEP.out hp1
       ·exact sep_row e9 (H29.out.mono (Nat.zero_le _)) (Nat.le_refl _))
      clear hba ha hvo z1 z2
      obtain ⟨oa, ca, rfl⟩ := HAA.out.slice
      go_wp2_with fail
      go_roundw
      case rel => exact ⟨k + 1, by omega, by go_num, by rw [HST.out]; exact H2A.out, by rw [HST.out]; exact HAA.out, by rw [HST.out]; exact HSA.out, by rw [HST.out]; exact raiseR_valid HPV.out HXV.out, by rw [HST.out]; have := HRL.out; simp only; omega, by rw [HST.out]; simp only; omega, HBA.out⟩
      case measure => simp [intOf]; omega
     ·have t : (x.ctr == gn + 1) = false := beq_eq_false_iff_ne.2 q
      have HST : Hid ((cl.take (k + 1)).foldl stepX3 (vl, []) = (p1, p2 ++ [x])) := Hd (by rw [HST0.out]; unfold stepX3; rw [if_neg (by simp [← HRR.out]), if_neg (by rw [← HGN.out]; exact q)])
      clear HST0 HRR q
      go_upto_region 10 with fail
      refine NQ.to ?_
      refine wp_region_held_drew (S := (fun wz => wz.cell? ⟨wr.heap.size, 0, none⟩ = some (.int .i64 x.rep) ∧ wz.cell? ⟨wr.heap.size, 1, none⟩ = some (.int .i64 x.ctr))) (by kernel_rfl) (HCX.out _ (btr HD8.out bdr)) (fun hS => ?_)
      refine tkR (n := 5) [0, 1, 2, 3, 4] rfl (by decide +kernel) hS ?_
      iterate 5 ((try simp only [Act.put, s1, s2, s3, s4, s5, s6]); refine ⟨_, ?_, rfl, Or.inl ⟨by kernel_rfl, fun w hSw => ok_of fun z hz => ?_⟩, ?_⟩; rotate_left; · (obtain ⟨f1, f2⟩ := hSw; go_simp; exact hz))
      refine RunOK.done ?_
      try simp only [Act.put, s1, s2, s3, s4, s5, s6]
      refine rd1 5 (by decide +kernel) rfl (fun K hK => ?_)
      go_simp
      go_at_call 147
      refine HGX.out.mono ?_
      rintro e w9 ⟨rfl, hb9⟩
      go_simp
      refine Shut.out hK _ _ (HCX.out w9 (btr HD8.out hb9)) (fun hS2 => ?_); clear hK K hS; have hS := hS2; clear hS2
      refine tkR (n := 3) [6, 7, 8] rfl (by decide +kernel) hS ?_
      iterate 3 ((try simp only [Act.put, s1, s2, s3, s4, s5, s6]); refine ⟨_, ?_, rfl, Or.inl ⟨by kernel_rfl, fun w hSw => ok_of fun z hz => ?_⟩, ?_⟩; rotate_left; · (go_simp; exact hz))
      refine RunOK.done ?_
      try simp only [Act.put, s1, s2, s3, s4, s5, s6]
      refine wpAnyH_done (by kernel_rfl) ?_ _
      try simp only [Act.put, s1, s2, s3, s4, s5, s6]
      simp only [NQ]
      clear hS
      have HB9 := Hd (btr HB8.out hb9)
      have HD9 := Hd (btr HD8.out hb9)
      have H19 := Hd (H18.out.dots hb9)
      have H29 := Hd (H28.out.below hb9)
      clear hb9 z1 z2
      obtain ⟨z1, z2⟩ := HCX.out w9 HD9.out
      obtain ⟨Wz, hWz⟩ : ∃ wq, wq = w9.alloc (.cells #[.int .i64 x.rep, .int .i64 x.ctr] 30) := ⟨_, rfl⟩
      have hbz : Below w9.heap.size w9 Wz := by rw [hWz]; exact bal
      have HRz := Hd (H29.out.below hbz)
      have H1z := Hd (H19.out.dots hbz)
      have HSz : Hid (Enc.Src EDot Wz (.slice (some ⟨w9.heap.size, 0, none⟩) 1 1) [x]) := Hd (by rw [hWz]; exact Enc.Src.one_lit w9 30 x)
      have HBz := Hd (btr HB9.out hbz)
      have hszz : W1.heap.size ≤ Wz.heap.size := HBz.out.size
      have HWz := Hd hWz
      clear hbz hWz
      go_wp2_with (at_builtin; go_loud (rw [← HWz.out]); go_loud (refine wpList_append_row_at rfl _ _ 22 rfl EDot W1.heap.size (.agg #[.int .i64 0, .int .i64 0]) 16 Tryz.underlying22 infoDot (by decide) (by decide) _ _ rfl HRz.out _ _ rfl HSz.out (by first | omega | (simp; omega)) hszz ?_); intro v8 wb hown hgr hat)
      have HRB : Hid (EDot.Row W1.heap.size wb v8 (p2 ++ [x])) := Hd hown
      have HBB := Hd (HBz.out.grown hgr hszz (fun j hj => (HRz.out.lt _ hj).1))
      have H1B := Hd (arr_grown H1z.out hgr HSEP.out)
      have HSB : Hid (SepD p1 (.slice or p1.length cr) v8) := Hd (fun hne g hg => by
       rcases hat with e | e
       ·rw [e] at hg; exact HSEP.out hne g hg
       ·rw [e] at hg
        obtain ⟨b1, hb1, hlt1⟩ := arr_blk H1z.out hne
        rw [hb1]
        intro e3
        injection hg with hg
        injection e3 with e3
        omega)
      clear hown hgr hat z1 z2
      obtain ⟨o8, c8, rfl⟩ := HRB.out.slice
      go_roundw
      case rel => exact ⟨k + 1, by omega, by go_num, by rw [HST.out]; exact HRB.out, by rw [HST.out]; exact H1B.out, by rw [HST.out]; exact HSB.out, by rw [HST.out]; exact HPV.out, by rw [HST.out]; simp only; omega, by rw [HST.out]; simp only [List.length_append, List.length_singleton]; omega, HBB.out⟩
      case measure => simp [intOf]; omega
   ·have hke : k = n2 := by omega
    have HTK : Hid ((cl.take k).foldl stepX3 (vl, []) = compactX vl cl) := Hd (by rw [hke, HN2.out, List.take_length]; exact HFO.out)
    rw [HTK.out] at HROW HARR HSEP HPV
    obtain ⟨oq, cq, rfl⟩ := HROW.out.slice
    obtain ⟨or, cr, rfl⟩ := HARR.out.slice
    have a1 : ¬ ((k : Int) < (n2 : Int)) := by omega
    have HZ0 := Hd (HK0.out wr HB.out)
    have HZ1 := Hd (HK1.out wr HB.out)
    have f0 := froz0 HZ0.out 0
    have f1 := froz0 HZ0.out 1
    obtain ⟨p1, hp1⟩ : ∃ p, p = (compactX vl cl).1 := ⟨_, rfl⟩
    obtain ⟨p2, hp2⟩ : ∃ p, p = (compactX vl cl).2 := ⟨_, rfl⟩
    have hsp := HSP.out
    rw [← hp1] at HARR HPV HSEP hsp
    rw [← hp2] at HROW hsp
    rw [← hp1, ← hp2]
    obtain ⟨W8, hW8⟩ : ∃ wq, wq = set2 wr w.heap.size (.slice or p1.length cr) (.slice oq p2.length cq) := ⟨_, rfl⟩
    have hz80 : W8.heap[w.heap.size]? = some (.cells #[.slice or p1.length cr, .slice oq p2.length cq] 25) := by rw [hW8]; exact set2_same _ _ HZ0.out
    have hz81 : W8.heap[w.heap.size + 1]? = some (.cells #[.slice none 0 0, .slice none 0 0] 25) := by rw [hW8, set2_other (by omega)]; exact HZ1.out
    have hs8 : W8.heap.size = wr.heap.size := by rw [hW8]; unfold set2; rw [setCell_size, setCell_size]
    have hb8 : Below w.heap.size w W8 := by rw [hW8]; exact set2_below _ _ (HBW.out.trans (HB.out.mono HBW.out.size)) (Nat.le_refl _)
    have ha81 : Arr DotR 2 W8 (.slice or p1.length cr) p1 := by rw [hW8]; exact arr_set2 HARR.out HZ0.out
    have hr8 : EDot.Row W1.heap.size W8 (.slice oq p2.length cq) p2 := HROW.out.stay (fun r hr => by
     have := (HROW.out.lt r hr).1
     rw [hW8, set2_other (by omega)])
    have hdi : ∀ d ∈ p2, DI d := fun d hd => DI_valid (List.all_eq_true.1 (validX_parts (compactB_parts hsp).1).2.2 d hd)
    have ha82 : Arr DotR 2 W8 (.slice oq p2.length cq) p2 := hr8.dots hdi
    have HI8 := Hd (r3IsCompact_any p1 p2 _ _ W8 ha81 ha82)
    rw [hsp] at HI8
    have b0 : W8.cell? ⟨w.heap.size, 0, none⟩ = some (.slice or p1.length cr) := cl0 hz80 0 rfl
    have b1 : W8.cell? ⟨w.heap.size, 1, none⟩ = some (.slice oq p2.length cq) := cl0 hz80 1 rfl
    have HZ80 := Hd hz80
    have HZ81 := Hd hz81
    have HB8 := Hd hb8
    have HA81 := Hd ha81
    have HA82 := Hd ha82
    have HW8 := Hd hW8
    have HP1 := Hd hp1
    have HP2 := Hd hp2
    clear hz80 hz81 hb8 ha81 ha82 hr8 hW8 hp1 hp2 hsp hdi hle1 hle2 HTK hs8
    generalize p1.length = l1 at *
    generalize p2.length = l2 at *
    go_wp2_with fail
    change Code.rounds _ _ _ _ _ (set2 wr w.heap.size (.slice or l1 cr) (.slice oq l2 cq))
    rw [← HW8.out, rounds_succ]
    clear c0 c1 d0 d1 f0 f1
    go_wp2_with fail
    refine HI8.out.mono ?_
    rintro e w3 ⟨rfl, hb3⟩
    have hz0 : w3.heap[w.heap.size]? = _ := (hb3.block _ (lt_of_heap HZ80.out)).trans HZ80.out
    have HZ := Hd ((hb3.block _ (lt_of_heap HZ81.out)).trans HZ81.out)
    have H1 := Hd (HA81.out.dots hb3)
    have H2 := Hd (HA82.out.dots hb3)
    have HBF := Hd (btr HB8.out hb3)
    have b0' : w3.cell? ⟨w.heap.size, 0, none⟩ = some (.slice or l1 cr) := cl0 hz0 0 rfl
    have b1' : w3.cell? ⟨w.heap.size, 1, none⟩ = some (.slice oq l2 cq) := cl0 hz0 1 rfl
    have f0 := froz0 HZ.out 0
    have f1 := froz0 HZ.out 1
    have d0 : w3.cell? ⟨w.heap.size + 1, 0, none⟩ = some (.slice none 0 0) := cl0 HZ.out 0 rfl
    have d1 : w3.cell? ⟨w.heap.size + 1, 1, none⟩ = some (.slice none 0 0) := cl0 HZ.out 1 rfl
    clear hb3 hz0 b0 b1 HI8
    go_wp2_with fail
    obtain ⟨W9, hW9⟩ : ∃ wq, wq = set2 w3 (w.heap.size + 1) (.slice or l1 cr) (.slice oq l2 cq) := ⟨_, rfl⟩
    have y9 : W9.heap[w.heap.size + 1]? = some (.cells #[.slice or l1 cr, .slice oq l2 cq] 25) := by rw [hW9]; exact set2_same _ _ HZ.out
    have hbf9 : Below w.heap.size w W9 := by rw [hW9]; exact set2_below _ _ HBF.out (by omega)
    have q1 : Arr DotR 2 W9 (.slice or l1 cr) (compactX vl cl).1 := by rw [hW9, ← HP1.out]; exact arr_set2 H1.out HZ.out
    have q2 : Arr DotR 2 W9 (.slice oq l2 cq) (compactX vl cl).2 := by rw [hW9, ← HP2.out]; exact arr_set2 H2.out HZ.out
    have HQ1 := Hd q1
    have HQ2 := Hd q2
    have y0 : W9.cell? ⟨w.heap.size + 1, 0, none⟩ = some (.slice or l1 cr) := cl0 y9 0 rfl
    have y1 : W9.cell? ⟨w.heap.size + 1, 1, none⟩ = some (.slice oq l2 cq) := cl0 y9 1 rfl
    (try simp only [Exit.inBlock, Exit.then])
    change bodyPost _ _ _ _ _ (set2 w3 (w.heap.size + 1) (.slice or l1 cr) (.slice oq l2 cq))
    rw [← hW9]
    clear hW9 y9 q1 q2
    refine bodyPost_ret (v := .agg #[.slice or l1 cr, .slice oq l2 cq]) ?_ rfl ⟨_, _, rfl, HQ1.out, HQ2.out, hbf9⟩
    rw [results_cell_one rfl]
    go_simp
end Go.Proofs.YtfnfbcaoihhbpaaGreatDoor
namespace Go.Proofs.YtfnfbcaoihhbpaaGreatDoor
open Go.RowKit Go.Maps

set_option linter.unusedSimpArgs false
set_option linter.unusedVariables false
set_option maxHeartbeats 8000000
/-- The reference's Add. -/
theorem r3Add_any (va ca l : List DotD) (x1 x2 x3 : Value) (w : World) (h1 : Arr DotR 2 w x1 va) (h2 : Arr DotR 2 w x2 ca) (h3 : Arr DotR 2 w x3 l) (hxa : validX va ca = true) (hl : l.all validDotD = true) (l1 : va.length ≤ 10000) (l2 : ca.length ≤ 10000) (l3 : l.length ≤ 20000) :
  Calls Tryz.prog 90 #[.agg #[x1, x2], x3] w fun e w' => ∃ y1 y2, e = .returned (.agg #[y1, y2]) ∧ Arr DotR 2 w' y1 (addX (va, ca) l).1 ∧ Arr DotR 2 w' y2 (addX (va, ca) l).2 ∧ Below w.heap.size w w' := by
 have hux : addX (va, ca) l = compactX va (unionD ca l) := by unfold addX; rw [unionD_eq]
 have hvx : validX va (unionD ca l) = true := by
  obtain ⟨a1, a2, a3⟩ := validX_parts hxa
  refine validX_of a1 (by rw [unionD_eq]; exact setD_ss _) ?_
  rw [List.all_eq_true]
  intro d hd
  rw [unionD_eq, setD_mem, List.mem_append] at hd
  rcases hd with hd | hd
  ·exact List.all_eq_true.1 a3 d hd
  ·exact List.all_eq_true.1 hl d hd
 have hcl : (unionD ca l).length ≤ 100000 := by
  rw [unionD_eq]
  have := setD_leL (ca ++ l)
  rw [List.length_append] at this
  omega
 obtain ⟨o1, k1, rfl⟩ := h1.slice
 obtain ⟨o2, k2, rfl⟩ := h2.slice
 obtain ⟨o3, k3, rfl⟩ := h3.slice
 obtain ⟨n1, hn1⟩ : ∃ n, n = va.length := ⟨_, rfl⟩
 rw [← hn1] at h1
 rw [← hn1]
 obtain ⟨n2, hn2⟩ : ∃ n, n = ca.length := ⟨_, rfl⟩
 rw [← hn2] at h2
 rw [← hn2]
 obtain ⟨n3, hn3⟩ : ∃ n, n = l.length := ⟨_, rfl⟩
 rw [← hn3] at h3
 rw [← hn3]
 obtain ⟨W1, HW, HB, HS, HK0, HK1⟩ := box2 w #[.slice o1 n1 k1, .slice o2 n2 k2] 25 #[.slice none 0 0, .slice none 0 0] 25
 have HC := Hd (fun wz (hz : Below W1.heap.size W1 wz) => cel2 (HK0.out wz hz))
 have HUN := Hd (fun wz (hz : Below W1.heap.size W1 wz) => r1Union_any ca l _ _ wz (h2.dots (btr HB.out hz)) (h3.dots (btr HB.out hz)) (by omega) (by omega))
 have HCO := Hd (fun wz z2 (hz : Below W1.heap.size W1 wz) (h : Arr DotR 2 wz z2 (unionD ca l)) => r3Compact_any va (unionD ca l) _ z2 wz (h1.dots (btr HB.out hz)) h hvx (by omega) hcl)
 have HUX := Hd hux
 have HBW := Hd HB.out
 clear h1 h2 h3 hvx hcl hux hxa hl hn1 hn2 hn3
 go_enter Tryz.func90, Tryz.ntmps90
 go_upto_region 1 with fail
 rw [← HW.out]
 refine NQ.to ?_
 refine wp_region_held_drew (S := (fun wz => wz.cell? ⟨w.heap.size, 0, none⟩ = some (.slice o1 n1 k1) ∧ wz.cell? ⟨w.heap.size, 1, none⟩ = some (.slice o2 n2 k2))) (by kernel_rfl) (HC.out _ bdr) (fun hS => ?_)
 refine tkR (n := 5) [0, 1, 2, 3, 4] rfl (by decide +kernel) hS ?_
 iterate 5 ((try simp only [Act.put, s1, s2, s3, s4, s5, s6]); refine ⟨_, ?_, rfl, Or.inl ⟨by kernel_rfl, fun w hSw => ok_of fun z hz => ?_⟩, ?_⟩; rotate_left; · (obtain ⟨f0, f1⟩ := hSw; go_simp; exact hz))
 refine RunOK.done ?_
 try simp only [Act.put, s1, s2, s3, s4, s5, s6]
 refine rd1 5 (by decide +kernel) rfl (fun K hK => ?_)
 go_simp
 go_at_call 146
 refine (HUN.out _ bdr).mono ?_
 rintro e w3 ⟨v3, rfl, g3, hb3⟩
 obtain ⟨p3, q3, rfl⟩ := g3.slice
 have hb3 := btr (show Below W1.heap.size W1 W1.drew from bdr) hb3
 go_simp
 refine Shut.out hK _ _ (HC.out _ hb3) (fun hS2 => ?_); clear hK K hS; have hS := hS2; clear hS2
 try simp only [Act.put, s1, s2, s3, s4, s5, s6]
 refine tkR (n := 1) [6] rfl (by decide +kernel) hS ?_
 iterate 1 ((try simp only [Act.put, s1, s2, s3, s4, s5, s6]); refine ⟨_, ?_, rfl, Or.inl ⟨by kernel_rfl, fun w hSw => ok_of fun z hz => ?_⟩, ?_⟩; rotate_left; · (obtain ⟨f0, f1⟩ := hSw; go_simp; exact hz))
 refine RunOK.done ?_
 try simp only [Act.put, s1, s2, s3, s4, s5, s6]
 refine rd1 7 (by decide +kernel) rfl (fun K hK => ?_)
 go_simp
 go_at_call 145
 refine (HCO.out w3 _ hb3 g3).mono ?_
 rintro e w4 ⟨y1, y2, rfl, g1, g2, hb4⟩
 obtain ⟨p4, q4, rfl⟩ := g1.slice
 obtain ⟨p5, q5, rfl⟩ := g2.slice
 have hb4 := btr hb3 hb4
 go_simp
 refine Shut.out hK _ _ (HC.out _ hb4) (fun hS2 => ?_); clear hK K hS; have hS := hS2; clear hS2
 try simp only [Act.put, s1, s2, s3, s4, s5, s6]
 refine rd1 8 (by decide +kernel) rfl (fun K hK => ?_)
 have hz := HK1.out w4 hb4
 have f0 := froz0 hz 0
 have f1 := froz0 hz 1
 obtain ⟨e0, e1⟩ := cel2 hz
 go_simp
 refine Shut.out hK _ _ (by rw [← set2_eq, set2_cell (by omega), set2_cell (by omega)]; exact HC.out _ hb4) (fun hS2 => ?_); clear hK K hS; have hS := hS2; clear hS2
 try simp only [Act.put, s1, s2, s3, s4, s5, s6]
 refine wpAnyH_done (by kernel_rfl) ?_ _
 try simp only [Act.put, s1, s2, s3, s4, s5, s6]
 simp only [NQ]
 have hz := HK1.out w4 hb4
 obtain ⟨W9, hW9⟩ : ∃ wq, wq = set2 w4 (w.heap.size + 1) (.slice p4 (compactX va (unionD ca l)).1.length q4) (.slice p5 (compactX va (unionD ca l)).2.length q5) := ⟨_, rfl⟩
 have y9 : W9.heap[w.heap.size + 1]? = some (.cells #[.slice p4 (compactX va (unionD ca l)).1.length q4, .slice p5 (compactX va (unionD ca l)).2.length q5] 25) := by rw [hW9]; exact set2_same _ _ hz
 have hbf9 : Below w.heap.size w W9 := by rw [hW9]; exact set2_below _ _ (btr HBW.out hb4) (by omega)
 have q1 : Arr DotR 2 W9 (.slice p4 (compactX va (unionD ca l)).1.length q4) (addX (va, ca) l).1 := by rw [hW9, HUX.out]; exact arr_set2 g1 hz
 have q2 : Arr DotR 2 W9 (.slice p5 (compactX va (unionD ca l)).2.length q5) (addX (va, ca) l).2 := by rw [hW9, HUX.out]; exact arr_set2 g2 hz
 have HQ1 := Hd q1
 have HQ2 := Hd q2
 obtain ⟨y0, y1⟩ := cel2 y9
 clear hS hz g1 g2 q1 q2 e0 e1 f0 f1
 go_wp2_with fail
 (try simp only [Exit.inBlock, Exit.then])
 change bodyPost _ _ _ _ _ (set2 w4 (w.heap.size + 1) (.slice p4 (compactX va (unionD ca l)).1.length q4) (.slice p5 (compactX va (unionD ca l)).2.length q5))
 rw [← hW9]
 clear hW9 y9
 refine bodyPost_ret (v := .agg #[.slice p4 (compactX va (unionD ca l)).1.length q4, .slice p5 (compactX va (unionD ca l)).2.length q5]) ?_ rfl ⟨_, _, rfl, HQ1.out, HQ2.out, hbf9⟩
 rw [results_cell_one rfl]
 go_simp
end Go.Proofs.YtfnfbcaoihhbpaaGreatDoor

