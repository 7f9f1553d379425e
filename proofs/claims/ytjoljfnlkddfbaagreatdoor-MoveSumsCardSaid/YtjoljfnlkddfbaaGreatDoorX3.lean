/- slices.DeleteFunc at dots; context.Missing. -/
import Derived.Test.YtjoljfnlkddfbaaGreatDoorV1
import Derived.Test.YtjoljfnlkddfbaaGreatDoorIt6
import Derived.Test.YtjoljfnlkddfbaaGreatDoorCart
set_option linter.unusedSimpArgs false
set_option linter.unusedVariables false
set_option maxRecDepth 100000
set_option maxHeartbeats 4000000
namespace Go.Proofs.YtjoljfnlkddfbaaGreatDoor
open Go.RowKit Go.Maps

theorem ctxvalid1_any (d : DotD) (w : World) : Calls Tryz.prog 159 #[dotV d] w fun e w' => e = .returned (.bool (!validDotD d)) ∧ Below w.heap.size w w' := by
 obtain ⟨W1, hW1⟩ : ∃ W1, W1 = w.alloc (.cells #[.int .i64 d.rep, .int .i64 d.ctr] 39) := ⟨_, rfl⟩
 have hb1 : Below w.heap.size w W1 := by rw [hW1]; exact bal
 have HD := Hd (dotValid_any d W1)
 have HW := Hd hW1
 unfold dotV at HD ⊢
 generalize validDotD d = r at *
 clear hW1
 go_enter Tryz.func159, Tryz.ntmps159
 go_wp2_with fail
 rw [← HW.out]
 refine HD.out.mono ?_
 rintro e w2 ⟨rfl, hb2⟩
 go_wp2_with fail
 go_ret
 exact ⟨rfl, btr hb1 hb2⟩

theorem indexFDots_any (p : DotD → Bool) (g : Nat) (eg : ∀ args w, (callFunc g args).run Tryz.prog w = .ok (.enter g args) w)
  (l : List DotD) (v : Value) (w : World) (hp : ∀ (d : DotD) W, d ∈ l → Below w.heap.size w W → Calls Tryz.prog g #[dotV d] W fun e w' => e = .returned (.bool (p d)) ∧ Below W.heap.size W w')
  (h : Arr DotR 2 w v l) : Calls Tryz.prog 108 #[v, .func (.func g) #[] #[]] w (IdxAt p l w) := by
 have hn := h.len
 obtain ⟨o, c, rfl, hel⟩ := h.dotAt
 have HEL := Hd hel
 have HP := Hd hp
 clear hel h hp
 go_enter Tryz.func108, Tryz.ntmps108
 go_wp2_with fail
 go_loopw [8] (fun i wr => ∃ k : Nat, k ≤ l.length ∧ i = .int .i64 k ∧ (l.take k).any p = false ∧ Below w.heap.size w wr) (fun i _ => l.length - (intOf i).toNat)
 case atStart => exact ⟨0, Nat.zero_le _, rfl, rfl, Below.refl _ _⟩
 case round =>
  obtain ⟨k, hk, rfl, hall, hB⟩ := hrel
  have HALL := Hd hall
  have HB := Hd hB
  clear hall hB
  by_cases hlt : k < l.length
  ·obtain ⟨b, off, rfl, hbl, e0, e1⟩ := HEL.out k hlt
   have c0 : wr.cell? ⟨b, off + k * 2, none⟩ = some (.int .i64 l[k].rep) := by rw [HB.out.cell (p := ⟨_, _, _⟩) hbl]; exact e0
   have c1 : wr.cell? ⟨b, off + k * 2 + 1, none⟩ = some (.int .i64 l[k].ctr) := by rw [HB.out.cell (p := ⟨_, _, _⟩) hbl]; exact e1
   have HS := Hd (any_take_snoc p l k hlt)
   have HIX : Hid (p l[k] = true → IdxIs p l (k : Int)) := Hd (fun h => Or.inr ⟨k, hlt, rfl, h, HALL.out⟩)
   have HPX := Hd (HP.out l[k] wr (List.getElem_mem hlt) HB.out)
   unfold dotV at HPX
   generalize l[k] = x at *
   have a0 : (0 : Int) ≤ k := by omega
   have a1 : (k : Int) < l.length := by omega
   have hkw := wr1 k (by omega)
   clear e0 e1
   obtain ⟨r, hr⟩ : ∃ r, r = p x := ⟨_, rfl⟩
   rw [← hr] at HPX HS HIX
   clear hr
   cases r with
   | true =>
    have HF := Hd (HIX.out rfl)
    go_wp2_with (go_at_fn g; refine HPX.out.mono ?_; rintro e w2 ⟨rfl, hb2⟩)
    go_ret
    exact ⟨k, rfl, HF.out, btr HB.out hb2⟩
   | false =>
    have HF : Hid ((l.take (k + 1)).any p = false) := Hd (by rw [HS.out, HALL.out]; rfl)
    go_wp2_with (go_at_fn g; refine HPX.out.mono ?_; rintro e w2 ⟨rfl, hb2⟩)
    have hbf := btr HB.out hb2
    go_roundw
    case rel => exact ⟨k + 1, by omega, by go_num, HF.out, hbf⟩
    case measure => simp [intOf]; omega
  ·have hke : k = l.length := by omega
   have HF : Hid (IdxIs p l (-1)) := Hd (Or.inl ⟨rfl, by have := HALL.out; rw [hke, List.take_length] at this; exact this⟩)
   clear HALL
   go_wp2_with fail
   go_ret
   exact ⟨-1, rfl, HF.out, HB.out⟩

theorem indexFDotsQ_any (p : DotD → Bool) (g q0 : Nat) (eg : ∀ args w, (callFunc g args).run Tryz.prog w = .ok (.enter g args) w)
  (l : List DotD) (v : Value) (w : World) (hp : ∀ (d : DotD) W, d ∈ l → Below w.heap.size w W → Calls Tryz.prog g #[dotV d, .pointer (some ⟨q0, 0, none⟩)] W fun e w' => e = .returned (.bool (p d)) ∧ Below W.heap.size W w')
  (h : Arr DotR 2 w v l) : Calls Tryz.prog 108 #[v, .func (.func g) #[] #[.pointer (some ⟨q0, 0, none⟩)]] w (IdxAt p l w) := by
 have hn := h.len
 obtain ⟨o, c, rfl, hel⟩ := h.dotAt
 have HEL := Hd hel
 have HP := Hd hp
 clear hel h hp
 go_enter Tryz.func108, Tryz.ntmps108
 go_wp2_with fail
 go_loopw [8] (fun i wr => ∃ k : Nat, k ≤ l.length ∧ i = .int .i64 k ∧ (l.take k).any p = false ∧ Below w.heap.size w wr) (fun i _ => l.length - (intOf i).toNat)
 case atStart => exact ⟨0, Nat.zero_le _, rfl, rfl, Below.refl _ _⟩
 case round =>
  obtain ⟨k, hk, rfl, hall, hB⟩ := hrel
  have HALL := Hd hall
  have HB := Hd hB
  clear hall hB
  by_cases hlt : k < l.length
  ·obtain ⟨b, off, rfl, hbl, e0, e1⟩ := HEL.out k hlt
   have c0 : wr.cell? ⟨b, off + k * 2, none⟩ = some (.int .i64 l[k].rep) := by rw [HB.out.cell (p := ⟨_, _, _⟩) hbl]; exact e0
   have c1 : wr.cell? ⟨b, off + k * 2 + 1, none⟩ = some (.int .i64 l[k].ctr) := by rw [HB.out.cell (p := ⟨_, _, _⟩) hbl]; exact e1
   have HS := Hd (any_take_snoc p l k hlt)
   have HIX : Hid (p l[k] = true → IdxIs p l (k : Int)) := Hd (fun h => Or.inr ⟨k, hlt, rfl, h, HALL.out⟩)
   have HPX := Hd (HP.out l[k] wr (List.getElem_mem hlt) HB.out)
   unfold dotV at HPX
   generalize l[k] = x at *
   have a0 : (0 : Int) ≤ k := by omega
   have a1 : (k : Int) < l.length := by omega
   have hkw := wr1 k (by omega)
   clear e0 e1
   obtain ⟨r, hr⟩ : ∃ r, r = p x := ⟨_, rfl⟩
   rw [← hr] at HPX HS HIX
   clear hr
   cases r with
   | true =>
    have HF := Hd (HIX.out rfl)
    go_wp2_with (go_at_fn g; refine HPX.out.mono ?_; rintro e w2 ⟨rfl, hb2⟩)
    go_ret
    exact ⟨k, rfl, HF.out, btr HB.out hb2⟩
   | false =>
    have HF : Hid ((l.take (k + 1)).any p = false) := Hd (by rw [HS.out, HALL.out]; rfl)
    go_wp2_with (go_at_fn g; refine HPX.out.mono ?_; rintro e w2 ⟨rfl, hb2⟩)
    have hbf := btr HB.out hb2
    go_roundw
    case rel => exact ⟨k + 1, by omega, by go_num, HF.out, hbf⟩
    case measure => simp [intOf]; omega
  ·have hke : k = l.length := by omega
   have HF : Hid (IdxIs p l (-1)) := Hd (Or.inl ⟨rfl, by have := HALL.out; rw [hke, List.take_length] at this; exact this⟩)
   clear HALL
   go_wp2_with fail
   go_ret
   exact ⟨-1, rfl, HF.out, HB.out⟩

theorem containsFDots_any (p : DotD → Bool) (g : Nat) (eg : ∀ args w, (callFunc g args).run Tryz.prog w = .ok (.enter g args) w)
  (l : List DotD) (v : Value) (w : World) (hp : ∀ (d : DotD) W, d ∈ l → Below w.heap.size w W → Calls Tryz.prog g #[dotV d] W fun e w' => e = .returned (.bool (p d)) ∧ Below W.heap.size W w')
  (h : Arr DotR 2 w v l) : Calls Tryz.prog 65 #[v, .func (.func g) #[] #[]] w fun e w' => e = .returned (.bool (l.any p)) ∧ Below w.heap.size w w' := by
 have HI := Hd (indexFDots_any p g eg l v w hp h)
 clear h hp
 go_enter Tryz.func65, Tryz.ntmps65
 go_wp2_with fail
 refine HI.out.mono ?_
 rintro e w2 ⟨i, rfl, hix, hb2⟩
 rcases hix with ⟨rfl, hno⟩ | ⟨k, hk, rfl, hpk, -⟩
 ·have HF := Hd hno
  clear hno
  go_wp2_with fail
  go_ret
  exact ⟨by rw [HF.out]; rfl, hb2⟩
 ·have HF : Hid (l.any p = true) := Hd (List.any_eq_true.2 ⟨_, List.getElem_mem hk, hpk⟩)
  have t : decide ((0 : Int) ≤ (k : Int)) = true := decide_eq_true (by omega)
  clear hpk
  go_wp2_with fail
  go_ret
  exact ⟨by rw [HF.out]; rfl, hb2⟩

theorem containsFDotsQ_any (p : DotD → Bool) (g q0 : Nat) (eg : ∀ args w, (callFunc g args).run Tryz.prog w = .ok (.enter g args) w)
  (l : List DotD) (v : Value) (w : World) (hp : ∀ (d : DotD) W, d ∈ l → Below w.heap.size w W → Calls Tryz.prog g #[dotV d, .pointer (some ⟨q0, 0, none⟩)] W fun e w' => e = .returned (.bool (p d)) ∧ Below W.heap.size W w')
  (h : Arr DotR 2 w v l) : Calls Tryz.prog 65 #[v, .func (.func g) #[] #[.pointer (some ⟨q0, 0, none⟩)]] w fun e w' => e = .returned (.bool (l.any p)) ∧ Below w.heap.size w w' := by
 have HI := Hd (indexFDotsQ_any p g q0 eg l v w hp h)
 clear h hp
 go_enter Tryz.func65, Tryz.ntmps65
 go_wp2_with fail
 refine HI.out.mono ?_
 rintro e w2 ⟨i, rfl, hix, hb2⟩
 rcases hix with ⟨rfl, hno⟩ | ⟨k, hk, rfl, hpk, -⟩
 ·have HF := Hd hno
  clear hno
  go_wp2_with fail
  go_ret
  exact ⟨by rw [HF.out]; rfl, hb2⟩
 ·have HF : Hid (l.any p = true) := Hd (List.any_eq_true.2 ⟨_, List.getElem_mem hk, hpk⟩)
  have t : decide ((0 : Int) ≤ (k : Int)) = true := decide_eq_true (by omega)
  clear hpk
  go_wp2_with fail
  go_ret
  exact ⟨by rw [HF.out]; rfl, hb2⟩

theorem ctxvalid_any (l : List DotD) (v : Value) (w : World) (h : Arr DotR 2 w v l) : Calls Tryz.prog 107 #[v] w fun e w' => e = .returned (.bool (l.all validDotD)) ∧ Below w.heap.size w w' := by
 have HC := Hd (containsFDots_any (fun d => !validDotD d) 159 (enters_of Tryz.func159 (by kernel_rfl) rfl) l v w (fun d W _ _ => ctxvalid1_any d W) h)
 have HNA : Hid ((!l.any (fun d => !validDotD d)) = l.all validDotD) := Hd (by simp [List.any_eq_not_all_not])
 obtain ⟨o, c, rfl, -⟩ := id h
 generalize l.any (fun d => !validDotD d) = r at *
 clear h
 go_enter Tryz.func107, Tryz.ntmps107
 go_wp2_with fail
 refine HC.out.mono ?_
 rintro e w2 ⟨rfl, hb2⟩
 go_wp2_with fail
 go_ret
 exact ⟨by rw [← HNA.out]; rfl, hb2⟩
theorem ctxValid_any (vs cl : List DotD) (v1 v2 : Value) (w : World) (h : Arr DotR 2 w v1 vs) (h2 : Arr DotR 2 w v2 cl) : Calls Tryz.prog 64 #[.agg #[v1, v2]] w fun e w' => e = .returned (.bool (validX vs cl)) ∧ Below w.heap.size w w' := by
 obtain ⟨o1, c1, rfl, -⟩ := id h
 obtain ⟨o2, c2, rfl, -⟩ := id h2
 obtain ⟨W1, hW1⟩ : ∃ W1, W1 = w.alloc (.cells #[.slice o1 vs.length c1, .slice o2 cl.length c2] 25) := ⟨_, rfl⟩
 have hb1 : Below w.heap.size w W1 := by rw [hW1]; exact bal
 have hg1 : W1.heap[w.heap.size]? = some (.cells #[.slice o1 vs.length c1, .slice o2 cl.length c2] 25) := by rw [hW1]; exact alloc_new _ _
 have HC : Hid (∀ wz, Below W1.heap.size W1 wz → wz.cell? ⟨w.heap.size, 0, none⟩ = some (.slice o1 vs.length c1) ∧ wz.cell? ⟨w.heap.size, 1, none⟩ = some (.slice o2 cl.length c2)) := Hd (fun wz hz => ⟨by rw [hz.cell (p := ⟨w.heap.size, 0, none⟩) (lt_of_heap hg1), cell0 hg1 0]; rfl, by rw [hz.cell (p := ⟨w.heap.size, 1, none⟩) (lt_of_heap hg1), cell0 hg1 1]; rfl⟩)
 have HA := Hd h
 have HA2 := Hd h2
 have HB1 := Hd hb1
 have HW := Hd hW1
 have HV : Hid (validX vs cl = (validV vs && isSetB cl && cl.all validDotD)) := Hd rfl
 have HVV := Hd (vecValid_any vs _ W1 (h.dots hb1))
 clear h h2 hg1 hb1 hW1
 obtain ⟨r1, hr1⟩ : ∃ r, r = validV vs := ⟨_, rfl⟩
 rw [← hr1] at HVV HV
 clear hr1
 obtain ⟨x0, x1⟩ := HC.out W1 brf
 go_enter Tryz.func64, Tryz.ntmps64
 go_wp2_with fail
 rw [← HW.out]
 go_wp2_with fail
 refine HVV.out.mono ?_
 rintro e w2 ⟨rfl, hb2⟩
 have HB2 := Hd (btr HB1.out hb2)
 obtain ⟨y0, y1⟩ := HC.out w2 hb2
 have HQ2 := Hd hb2
 clear x0 x1 hb2 HVV
 cases r1 with
 | false =>
  go_wp2_with fail
  go_ret
  exact ⟨by rw [HV.out]; rfl, HB2.out⟩
 | true =>
  have HIS := Hd (dotIsSet_any cl _ w2 (HA2.out.dots HB2.out))
  obtain ⟨r2, hr2⟩ : ∃ r, r = isSetB cl := ⟨_, rfl⟩
  rw [← hr2] at HIS HV
  clear hr2
  go_wp2_with fail
  refine HIS.out.mono ?_
  rintro e w3 ⟨rfl, hb3⟩
  have HB3 := Hd (btr HB2.out hb3)
  obtain ⟨z0, z1⟩ := HC.out w3 (btr HQ2.out hb3)
  clear y0 y1 hb3 HIS
  cases r2 with
  | false =>
   go_wp2_with fail
   go_ret
   exact ⟨by rw [HV.out]; rfl, HB3.out⟩
  | true =>
   have HVA := Hd (ctxvalid_any cl _ w3 (HA2.out.dots HB3.out))
   generalize cl.all validDotD = r3 at *
   go_wp2_with fail
   refine HVA.out.mono ?_
   rintro e w4 ⟨rfl, hb4⟩
   have HB4 := Hd (btr HB3.out hb4)
   clear z0 z1 hb4 HVA
   go_wp2_with fail
   go_ret
   exact ⟨by rw [HV.out]; rfl, HB4.out⟩
theorem ctxIsCompact1_any (l : List DotD) (q : Nat) (d : DotD) (o : Option Addr) (c : Nat) (w : World) (hq : w.cell? ⟨q, 0, none⟩ = some (.slice o l.length c)) (h : Arr DotR 2 w (.slice o l.length c) l) (hl : validV l = true) : Calls Tryz.prog 62 #[dotV d, .pointer (some ⟨q, 0, none⟩)] w fun e w' => e = .returned (.bool (nearX l d)) ∧ Below w.heap.size w w' := by
 have hql : q < w.heap.size := by
  obtain ⟨b, off, e, hlt⟩ := addr_plain hq
  cases e
  exact hlt
 obtain ⟨W1, hW1⟩ : ∃ W1, W1 = w.alloc (.cells #[.int .i64 d.rep, .int .i64 d.ctr] 39) := ⟨_, rfl⟩
 have hb1 : Below w.heap.size w W1 := by rw [hW1]; exact bal
 have hg1 : W1.heap[w.heap.size]? = some (.cells #[.int .i64 d.rep, .int .i64 d.ctr] 39) := by rw [hW1]; exact alloc_new _ _
 have HC : Hid (∀ wz, Below W1.heap.size W1 wz → (wz.cell? ⟨w.heap.size, 0, none⟩ = some (.int .i64 d.rep) ∧ wz.cell? ⟨w.heap.size, 1, none⟩ = some (.int .i64 d.ctr)) ∧ wz.cell? ⟨q, 0, none⟩ = some (.slice o l.length c)) := Hd (fun wz hz => ⟨⟨by rw [hz.cell (p := ⟨w.heap.size, 0, none⟩) (lt_of_heap hg1), cell0 hg1 0]; rfl, by rw [hz.cell (p := ⟨w.heap.size, 1, none⟩) (lt_of_heap hg1), cell0 hg1 1]; rfl⟩, by rw [(btr hb1 hz).cell (p := ⟨q, 0, none⟩) hql]; exact hq⟩)
 have HG := Hd ((vecGet_any l d.rep _ W1.drew (h.dots (below_drew1 hb1))).mono (R' := fun e w' => e = .returned (.int .i64 (getV l d.rep)) ∧ Below W1.heap.size W1 w') (fun _ _ ⟨a1, a2⟩ => ⟨a1, bdr.trans a2⟩))
 have HN : Hid (nearX l d = decide (d.ctr ≤ getV l d.rep + 1)) := Hd rfl
 have hn1 := getV_nonneg (validV_parts hl).1 d.rep
 have hn2 := getV_le (validV_parts hl).1 d.rep
 have HB1 := Hd hb1
 have HW := Hd hW1
 unfold dotV
 clear h hg1 hb1 hW1 hq
 generalize getV l d.rep = gn at *
 have hgw : IntKind.i64.wrap (gn + 1) = gn + 1 := by rw [IntKind.wrap_i64]; omega
 go_enter Tryz.func62, Tryz.ntmps62
 go_upto_region 1 with fail
 rw [← HW.out]
 refine NQ.to ?_
 refine wp_region_held_drew (S := (fun wz => (wz.cell? ⟨w.heap.size, 0, none⟩ = some (.int .i64 d.rep) ∧ wz.cell? ⟨w.heap.size, 1, none⟩ = some (.int .i64 d.ctr)) ∧ wz.cell? ⟨q, 0, none⟩ = some (.slice o l.length c))) (by kernel_rfl) (HC.out _ bdr) (fun hS => ?_)
 refine tkR (n := 6) [0, 1, 2, 3, 4, 5] rfl (by decide +kernel) hS ?_
 iterate 6 ((try simp only [Act.put, s1, s2, s3, s4, s5, s6]); refine ⟨_, ?_, rfl, Or.inl ⟨by kernel_rfl, fun w hSw => ok_of fun z hz => ?_⟩, ?_⟩; rotate_left; · (obtain ⟨⟨f1, f2⟩, f3⟩ := hSw; go_simp; exact hz))
 refine RunOK.done ?_
 try simp only [Act.put, s1, s2, s3, s4, s5, s6]
 refine rd1 6 (by decide +kernel) rfl (fun K hK => ?_)
 go_simp
 go_at_call 63
 refine HG.out.mono ?_
 rintro e w2 ⟨rfl, hb2⟩
 go_simp
 refine Shut.out hK _ _ (HC.out w2 hb2) (fun hS2 => ?_); clear hK K hS; have hS := hS2; clear hS2
 refine tkR (n := 3) [7, 8, 9] rfl (by decide +kernel) hS ?_
 iterate 3 ((try simp only [Act.put, s1, s2, s3, s4, s5, s6]); refine ⟨_, ?_, rfl, Or.inl ⟨by kernel_rfl, fun w hSw => ok_of fun z hz => ?_⟩, ?_⟩; rotate_left; · (go_simp; exact hz))
 refine RunOK.done ?_
 try simp only [Act.put, s1, s2, s3, s4, s5, s6]
 refine wpAnyH_done (by kernel_rfl) ?_ _
 try simp only [Act.put, s1, s2, s3, s4, s5, s6]
 simp only [NQ]
 have hbf := btr HB1.out hb2
 go_wp2_with fail
 go_ret
 exact ⟨by rw [HN.out]; rfl, hbf⟩
theorem ctxIsCompact_any (vs cl : List DotD) (v1 v2 : Value) (w : World) (h : Arr DotR 2 w v1 vs) (h2 : Arr DotR 2 w v2 cl) : Calls Tryz.prog 34 #[.agg #[v1, v2]] w fun e w' => e = .returned (.bool (compactB vs cl)) ∧ Below w.heap.size w w' := by
 obtain ⟨o1, c1, rfl, -⟩ := id h
 obtain ⟨o2, c2, rfl, -⟩ := id h2
 obtain ⟨W1, hW1⟩ : ∃ W1, W1 = w.alloc (.cells #[.slice o1 vs.length c1, .slice o2 cl.length c2] 25) := ⟨_, rfl⟩
 have hb1 : Below w.heap.size w W1 := by rw [hW1]; exact bal
 have hg1 : W1.heap[w.heap.size]? = some (.cells #[.slice o1 vs.length c1, .slice o2 cl.length c2] 25) := by rw [hW1]; exact alloc_new _ _
 have HC : Hid (∀ wz, Below W1.heap.size W1 wz → wz.cell? ⟨w.heap.size, 0, none⟩ = some (.slice o1 vs.length c1) ∧ wz.cell? ⟨w.heap.size, 1, none⟩ = some (.slice o2 cl.length c2)) := Hd (fun wz hz => ⟨by rw [hz.cell (p := ⟨w.heap.size, 0, none⟩) (lt_of_heap hg1), cell0 hg1 0]; rfl, by rw [hz.cell (p := ⟨w.heap.size, 1, none⟩) (lt_of_heap hg1), cell0 hg1 1]; rfl⟩)
 have HA := Hd h
 have HA2 := Hd h2
 have HB1 := Hd hb1
 have HW := Hd hW1
 have HV : Hid (compactB vs cl = (validX vs cl && !cl.any (nearX vs))) := Hd rfl
 have HXV : Hid (validX vs cl = true → validV vs = true) := Hd (fun h => (validX_parts h).1)
 have HVV := Hd (ctxValid_any vs cl _ _ W1 (h.dots hb1) (h2.dots hb1))
 clear h h2 hg1 hb1 hW1
 obtain ⟨r1, hr1⟩ : ∃ r, r = validX vs cl := ⟨_, rfl⟩
 rw [← hr1] at HVV HV HXV
 clear hr1
 obtain ⟨x0, x1⟩ := HC.out W1 brf
 go_enter Tryz.func34, Tryz.ntmps34
 go_wp2_with fail
 rw [← HW.out]
 go_wp2_with fail
 refine HVV.out.mono ?_
 rintro e w2 ⟨rfl, hb2⟩
 have HB2 := Hd (btr HB1.out hb2)
 obtain ⟨y0, y1⟩ := HC.out w2 hb2
 have HQ2 := Hd hb2
 clear x0 x1 hb2 HVV
 cases r1 with
 | false =>
  go_wp2_with fail
  go_ret
  exact ⟨by rw [HV.out]; rfl, HB2.out⟩
 | true =>
  have hvv := HXV.out rfl
  have HCF := Hd (containsFDotsQ_any (nearX vs) 62 w.heap.size (enters_of Tryz.func62 (by kernel_rfl) rfl) cl _ w2 (fun d W _ hb => ctxIsCompact1_any vs w.heap.size d o1 c1 W (HC.out W (btr HQ2.out hb)).1 (HA.out.dots (btr HB2.out hb)) hvv) (HA2.out.dots HB2.out))
  generalize cl.any (nearX vs) = r2 at *
  clear HXV hvv
  go_wp2_with fail
  refine HCF.out.mono ?_
  rintro e w3 ⟨rfl, hb3⟩
  have HB3 := Hd (btr HB2.out hb3)
  clear y0 y1 hb3 HCF
  go_wp2_with fail
  go_ret
  exact ⟨by rw [HV.out]; rfl, HB3.out⟩
end Go.Proofs.YtjoljfnlkddfbaaGreatDoor
namespace Go.Proofs.YtjoljfnlkddfbaaGreatDoor
open Go.RowKit Go.Maps

theorem ctxHas_any (vs cl : List DotD) (d : DotD) (v1 v2 : Value) (w : World) (h : Arr DotR 2 w v1 vs) (h2 : Arr DotR 2 w v2 cl) : Calls Tryz.prog 53 #[.agg #[v1, v2], dotV d] w fun e w' => e = .returned (.bool (hasX vs cl d)) ∧ Below w.heap.size w w' := by
 obtain ⟨o1, c1, rfl, -⟩ := id h
 obtain ⟨o2, c2, rfl, -⟩ := id h2
 obtain ⟨W0, hW0⟩ : ∃ W0, W0 = w.alloc (.cells #[.slice o1 vs.length c1, .slice o2 cl.length c2] 25) := ⟨_, rfl⟩
 have hb0 : Below w.heap.size w W0 := by rw [hW0]; exact bal
 have hg0 : W0.heap[w.heap.size]? = some (.cells #[.slice o1 vs.length c1, .slice o2 cl.length c2] 25) := by rw [hW0]; exact alloc_new _ _
 have hs0 : W0.heap.size = w.heap.size + 1 := by rw [hW0]; simp
 obtain ⟨W1, hW1⟩ : ∃ W1, W1 = W0.alloc (.cells #[.int .i64 d.rep, .int .i64 d.ctr] 39) := ⟨_, rfl⟩
 have hb01 : Below W0.heap.size W0 W1 := by rw [hW1]; exact bal
 have hb1 := btr hb0 hb01
 have hg1 : W1.heap[w.heap.size + 1]? = some (.cells #[.int .i64 d.rep, .int .i64 d.ctr] 39) := by rw [hW1, ← hs0]; exact alloc_new _ _
 have hg01 : W1.heap[w.heap.size]? = some (.cells #[.slice o1 vs.length c1, .slice o2 cl.length c2] 25) := by rw [hb01.block _ (lt_of_heap hg0)]; exact hg0
 have HC : Hid (∀ wz, Below W1.heap.size W1 wz → (wz.cell? ⟨w.heap.size, 0, none⟩ = some (.slice o1 vs.length c1) ∧ wz.cell? ⟨w.heap.size, 1, none⟩ = some (.slice o2 cl.length c2)) ∧ wz.cell? ⟨w.heap.size + 1, 0, none⟩ = some (.int .i64 d.rep) ∧ wz.cell? ⟨w.heap.size + 1, 1, none⟩ = some (.int .i64 d.ctr)) := Hd (fun wz hz => ⟨⟨by rw [hz.cell (p := ⟨w.heap.size, 0, none⟩) (lt_of_heap hg01), cell0 hg01 0]; rfl, by rw [hz.cell (p := ⟨w.heap.size, 1, none⟩) (lt_of_heap hg01), cell0 hg01 1]; rfl⟩, by rw [hz.cell (p := ⟨w.heap.size + 1, 0, none⟩) (lt_of_heap hg1), cell0 hg1 0]; rfl, by rw [hz.cell (p := ⟨w.heap.size + 1, 1, none⟩) (lt_of_heap hg1), cell0 hg1 1]; rfl⟩)
 have HA := Hd h
 have HA2 := Hd h2
 have HB1 := Hd hb1
 have HW : Hid (W1 = (w.alloc (.cells #[.slice o1 vs.length c1, .slice o2 cl.length c2] 25)).alloc (.cells #[.int .i64 d.rep, .int .i64 d.ctr] 39)) := Hd (by rw [hW1, hW0])
 have HV : Hid (hasX vs cl d = (hasV vs d || (validDotD d && decide (d ∈ cl)))) := Hd rfl
 have HVH := Hd (vecHas_any vs d _ W1 (h.dots hb1))
 unfold dotV at HVH ⊢
 clear h h2 hg0 hg1 hg01 hb0 hb01 hb1 hW0 hW1 hs0
 obtain ⟨r1, hr1⟩ : ∃ r, r = hasV vs d := ⟨_, rfl⟩
 rw [← hr1] at HVH HV
 clear hr1
 obtain ⟨⟨x0, x1⟩, x2, x3⟩ := HC.out W1 brf
 go_enter Tryz.func53, Tryz.ntmps53
 go_wp2_with fail
 rw [← HW.out]
 go_wp2_with fail
 refine HVH.out.mono ?_
 rintro e w2 ⟨rfl, hb2⟩
 have HB2 := Hd (btr HB1.out hb2)
 obtain ⟨⟨y0, y1⟩, y2, y3⟩ := HC.out w2 hb2
 have HQ2 := Hd hb2
 clear x0 x1 x2 x3 hb2 HVH
 cases r1 with
 | true =>
  go_wp2_with fail
  go_ret
  exact ⟨by rw [HV.out]; rfl, HB2.out⟩
 | false =>
  have HDV := Hd (dotValid_any d w2)
  unfold dotV at HDV
  obtain ⟨r2, hr2⟩ : ∃ r, r = validDotD d := ⟨_, rfl⟩
  rw [← hr2] at HDV HV
  clear hr2
  go_wp2_with fail
  refine HDV.out.mono ?_
  rintro e w3 ⟨rfl, hb3⟩
  have HB3 := Hd (btr HB2.out hb3)
  obtain ⟨⟨z0, z1⟩, z2, z3⟩ := HC.out w3 (btr HQ2.out hb3)
  clear y0 y1 y2 y3 hb3 HDV
  cases r2 with
  | false =>
   go_wp2_with fail
   go_ret
   exact ⟨by rw [HV.out]; rfl, HB3.out⟩
  | true =>
   have HDH := Hd (dotHas_any cl d _ w3 (HA2.out.dots HB3.out))
   unfold dotV at HDH
   generalize decide (d ∈ cl) = r3 at *
   go_wp2_with fail
   refine HDH.out.mono ?_
   rintro e w4 ⟨rfl, hb4⟩
   have HB4 := Hd (btr HB3.out hb4)
   clear z0 z1 z2 z3 hb4 HDH
   go_wp2_with fail
   go_ret
   exact ⟨by rw [HV.out]; rfl, HB4.out⟩
theorem ctxMissing1_any (vs cl : List DotD) (q : Nat) (d : DotD) (v1 v2 : Value) (w : World) (hq : w.cell? ⟨q, 0, none⟩ = some v1) (hq2 : w.cell? ⟨q, 1, none⟩ = some v2) (h : Arr DotR 2 w v1 vs) (h2 : Arr DotR 2 w v2 cl) : Calls Tryz.prog 69 #[dotV d, .pointer (some ⟨q, 0, none⟩)] w fun e w' => e = .returned (.bool (hasX vs cl d)) ∧ Below w.heap.size w w' := by
 obtain ⟨o1, c1, rfl, -⟩ := id h
 obtain ⟨o2, c2, rfl, -⟩ := id h2
 have hql : q < w.heap.size := by
  obtain ⟨b, off, e, hlt⟩ := addr_plain hq
  cases e
  exact hlt
 obtain ⟨W1, hW1⟩ : ∃ W1, W1 = w.alloc (.cells #[.int .i64 d.rep, .int .i64 d.ctr] 39) := ⟨_, rfl⟩
 have hb1 : Below w.heap.size w W1 := by rw [hW1]; exact bal
 have HH := Hd (ctxHas_any vs cl d _ _ W1 (h.dots hb1) (h2.dots hb1))
 have HB1 := Hd hb1
 have HW := Hd hW1
 have y0 : W1.cell? ⟨q, 0, none⟩ = some (.slice o1 vs.length c1) := by rw [hb1.cell (p := ⟨q, 0, none⟩) hql]; exact hq
 have y1 : W1.cell? ⟨q, 1, none⟩ = some (.slice o2 cl.length c2) := by rw [hb1.cell (p := ⟨q, 1, none⟩) hql]; exact hq2
 have hg1 : W1.heap[w.heap.size]? = some (.cells #[.int .i64 d.rep, .int .i64 d.ctr] 39) := by rw [hW1]; exact alloc_new _ _
 have x0 : W1.cell? ⟨w.heap.size, 0, none⟩ = some (.int .i64 d.rep) := cl0 hg1 0 rfl
 have x1 : W1.cell? ⟨w.heap.size, 1, none⟩ = some (.int .i64 d.ctr) := cl0 hg1 1 rfl
 unfold dotV at HH ⊢
 generalize hasX vs cl d = r at *
 clear h h2 hb1 hW1 hg1
 go_enter Tryz.func69, Tryz.ntmps69
 go_wp2_with fail
 rw [← HW.out]
 go_wp2_with fail
 refine HH.out.mono ?_
 rintro e w2 ⟨rfl, hb2⟩
 go_wp2_with fail
 go_ret
 exact ⟨rfl, btr HB1.out hb2⟩
def DelPostD (base : Nat) (l : List DotD) (p : DotD → Bool) (w : World) (e : Ending) (w' : World) : Prop := ∃ v', e = .returned v' ∧ EDot.Row base w' v' (l.filter (fun d => !p d)) ∧ Below base w w'
theorem take_set_snoc2 {α : Type} (d : List α) (m : Nat) (y : α) (hm : m < d.length) : (d.set m y).take (m + 1) = d.take m ++ [y] := by
 rw [List.take_succ_eq_append_getElem (by simpa using hm)]
 simp [List.take_set_of_le]
end Go.Proofs.YtjoljfnlkddfbaaGreatDoor
namespace Go.Proofs.YtjoljfnlkddfbaaGreatDoor
open Go.RowKit Go.Maps Go.Sort Go.Shelf

theorem delFDots_any (p : DotD → Bool) (f q : Nat) (eg : ∀ args w, (callFunc f args).run Tryz.prog w = .ok (.enter f args) w) (base : Nat) (ps : List DotD) (v : Value) (w : World)
  (hp : ∀ (x : DotD) W, Below base w W → Calls Tryz.prog f #[dotV x, .pointer (some ⟨q, 0, none⟩)] W fun e w' => e = .returned (.bool (p x)) ∧ Below W.heap.size W w')
  (hbase : base ≤ w.heap.size) (hI : ∀ d ∈ ps, DI d) (h : EDot.Row base w v ps) : Calls Tryz.prog 67 #[v, .func (.func f) #[] #[.pointer (some ⟨q, 0, none⟩)]] w (DelPostD base ps p w) := by
 have hn := h.le
 unfold maxLen at hn
 have HI := Hd (indexFDotsQ_any p f q eg ps v w (fun x W _ hW => hp x W (hW.mono hbase)) (Arr.of_dots h hI))
 have HP := Hd hp
 have HF := Hd h
 obtain ⟨av, cv, rfl⟩ := h.slice
 clear h hp
 go_enter Tryz.func67, Tryz.ntmps67
 go_wp2_with fail
 refine HI.out.mono ?_
 rintro e w1 ⟨i, rfl, hi, hb1⟩
 have HF1 := Hd (HF.out.below hb1)
 have HB1 : Hid (Below base w w1) := Hd (hb1.mono hbase)
 rcases hi with ⟨rfl, hany⟩ | ⟨k0, hk, rfl, hpk, htk⟩
 ·have HFL : Hid (ps = ps.filter (fun x => !p x)) := Hd (filter_all p _ hany).symm
  clear hany hb1 HI
  go_wp2_with fail
  go_ret
  exact ⟨_, rfl, by rw [← HFL.out]; exact HF1.out, HB1.out⟩
 ·obtain ⟨g, cap, hv, hin, hgb⟩ := HF1.out.some (by intro e; rw [e] at hk; simp at hk)
  cases hv
  have hgq1 : g < w1.heap.size := hin.gl
  have hcap : ps.length ≤ cv := by obtain ⟨_, _, _, h3, _⟩ := hin; exact h3
  have HIN := Hd hin
  have HT0 : Hid (ps.take k0 = (ps.take (k0 + 1)).filter (fun a => !p a)) := Hd (by
   rw [filter_take _ _ _ hk, if_neg (by simpa using hpk), List.append_nil]
   symm
   rw [List.filter_eq_self]
   intro a ha
   rw [List.any_eq_false] at htk
   have := htk a ha
   simpa using this)
  have t0 : ((k0 : Int) == -1) = false := by simp
  have t00 : (k0 : Int) ≠ -1 := by omega
  have hkw0 : IntKind.i64.wrap ((k0 : Int) + 1) = (k0 : Int) + 1 := by rw [IntKind.wrap_i64]; omega
  have hk00 : (k0 : Int) ≠ -1 := by omega
  clear hin hb1 hpk htk HI
  go_wp2_with fail
  go_loopw [5, 6] (fun a b wr => ∃ (m k : Nat) (d : List DotD), a = .int .i64 m ∧ b = .int .i64 k ∧ k ≤ ps.length ∧ m < k ∧ d.length = ps.length ∧ EDot.In wr g cv d ∧ d.take m = (ps.take k).filter (fun a => !p a) ∧ (∀ i, k ≤ i → d[i]? = ps[i]?) ∧ Below base w wr) (fun _ b _ => ps.length - (intOf b).toNat)
  case atStart => exact ⟨k0, k0 + 1, ps, rfl, by go_num, by omega, by omega, rfl, HIN.out, HT0.out, fun _ _ => rfl, HB1.out⟩
  case round =>
   obtain ⟨m, k, d, rfl, rfl, hkl, hmk, hdl, hdin, htk, hsame, hB⟩ := hrel
   have HTK := Hd htk
   have HSAME := Hd hsame
   have HB := Hd hB
   have HDIN := Hd hdin
   have hgr := hdin.gl
   clear htk hsame hB hdin
   by_cases hlt : k < ps.length
   ·have hkd : k < d.length := by omega
    have hmd : m < d.length := by omega
    have edk : d[k] = ps[k] := by
     have := HSAME.out k (Nat.le_refl _)
     rw [List.getElem?_eq_getElem hkd, List.getElem?_eq_getElem hlt] at this
     exact Option.some.inj this
    have c0 : wr.cell? ⟨g, k * 2, none⟩ = some (.int .i64 ps[k].rep) := by have := HDIN.out.cell k hkd 0 (by decide); rw [edk] at this; exact this
    have c1 : wr.cell? ⟨g, k * 2 + 1, none⟩ = some (.int .i64 ps[k].ctr) := by have := HDIN.out.cell k hkd 1 (by decide); rw [edk] at this; exact this
    have m0 : wr.cell? ⟨g, m * 2, none⟩ = some (.int .i64 d[m].rep) := HDIN.out.cell m hmd 0 (by decide)
    have m1 : wr.cell? ⟨g, m * 2 + 1, none⟩ = some (.int .i64 d[m].ctr) := HDIN.out.cell m hmd 1 (by decide)
    have g0 := HDIN.out.froz (m * 2)
    have g1 := HDIN.out.froz (m * 2 + 1)
    have hal : Below wr.heap.size wr (wr.alloc (.cells #[.int .i64 ps[k].rep, .int .i64 ps[k].ctr] 39)) := bal
    have hn2 : (wr.alloc (.cells #[.int .i64 ps[k].rep, .int .i64 ps[k].ctr] 39)).heap[wr.heap.size]? = some (.cells #[.int .i64 ps[k].rep, .int .i64 ps[k].ctr] 39) := alloc_new _ _
    have HPX := Hd (HP.out ps[k] (wr.alloc (.cells #[.int .i64 ps[k].rep, .int .i64 ps[k].ctr] 39)) (HB.out.trans (hal.mono (Nat.le_trans hbase HB.out.size))))
    unfold dotV at HPX
    have HAL := Hd hal
    have HN2 := Hd hn2
    have HFT := Hd (filter_take (fun a : DotD => !p a) ps k hlt)
    have HSET := Hd (fun (wz : World) (hz : Below wr.heap.size wr wz) => (HDIN.out.of_heap (hz.block g hgr)).set m hmd ps[k])
    have HST := Hd (take_set_snoc2 d m ps[k] hmd)
    have HS3 : Hid (∀ i, k + 1 ≤ i → (d.set m ps[k])[i]? = ps[i]?) := Hd (fun i hi => by rw [List.getElem?_set_ne (by omega)]; exact HSAME.out i (by omega))
    generalize ps[k] = y at *
    generalize d[m] = z at *
    have a0 : (0 : Int) ≤ k := by omega
    have a1 : (k : Int) < ps.length := by omega
    have b0 : (0 : Int) ≤ m := by omega
    have b1 : (m : Int) < ps.length := by omega
    have hkw := wr1 k (by omega)
    have hmw : IntKind.i64.wrap ((m : Int) + 1) = (m : Int) + 1 := by rw [IntKind.wrap_i64]; omega
    clear hal hn2 edk
    obtain ⟨r, hr⟩ : ∃ r, r = p y := ⟨_, rfl⟩
    rw [← hr] at HPX HFT
    clear hr
    cases r with
    | true =>
     have HC3 : Hid (d.take m = (ps.take (k + 1)).filter (fun a => !p a)) := Hd (by rw [HFT.out, HTK.out]; simp)
     go_wp2_with (go_at_fn f; refine HPX.out.mono ?_; rintro e w2 ⟨rfl, hb2⟩)
     have hb3 := btr HAL.out hb2
     have hbf := HB.out.trans (hb3.mono (Nat.le_trans hbase HB.out.size))
     have hin2 := HDIN.out.of_heap (hb3.block g hgr)
     go_roundw
     case rel => exact ⟨m, k + 1, d, rfl, by go_num, by omega, by omega, hdl, hin2, HC3.out, fun i hi => HSAME.out i (by omega), hbf⟩
     case measure => simp [intOf]; omega
    | false =>
     have HC3 : Hid ((d.set m y).take (m + 1) = (ps.take (k + 1)).filter (fun a => !p a)) := Hd (by rw [HST.out, HFT.out, HTK.out]; rfl)
     go_wp2_with (go_at_fn f; refine HPX.out.mono ?_; rintro e w2 ⟨rfl, hb2⟩; have hb3 := btr HAL.out hb2; have hx2 : w2.heap[wr.heap.size]? = some (.cells #[.int .i64 y.rep, .int .i64 y.ctr] 39) := (by rw [hb2.block _ (by simp)]; exact HN2.out); have p0 : w2.cell? ⟨wr.heap.size, 0, none⟩ = some (.int .i64 y.rep) := (cl0 hx2 0 rfl); have p1 : w2.cell? ⟨wr.heap.size, 1, none⟩ = some (.int .i64 y.ctr) := (cl0 hx2 1 rfl); have k0 : w2.cell? ⟨g, m * 2, none⟩ = some (.int .i64 z.rep) := (by rw [hb3.cell (p := ⟨_, _, _⟩) hgr]; exact m0); have k1 : w2.cell? ⟨g, m * 2 + 1, none⟩ = some (.int .i64 z.ctr) := (by rw [hb3.cell (p := ⟨_, _, _⟩) hgr]; exact m1); have l0 : w2.frozen? ⟨g, m * 2, none⟩ = false := (by rw [hb3.frozen (p := ⟨_, _, _⟩) hgr]; exact g0); have l1 : w2.frozen? ⟨g, m * 2 + 1, none⟩ = false := (by rw [hb3.frozen (p := ⟨_, _, _⟩) hgr]; exact g1))
     have hbf : Below base w ((w2.setCell ⟨g, m * 2, none⟩ (.int .i64 y.rep)).setCell ⟨g, m * 2 + 1, none⟩ (.int .i64 y.ctr)) := ((HB.out.trans (hb3.mono (Nat.le_trans hbase HB.out.size))).setCell hgb _).setCell hgb _
     have hin2 : EDot.In ((w2.setCell ⟨g, m * 2, none⟩ (.int .i64 y.rep)).setCell ⟨g, m * 2 + 1, none⟩ (.int .i64 y.ctr)) g cv (d.set m y) := HSET.out w2 hb3
     go_roundw
     case rel => exact ⟨m + 1, k + 1, d.set m y, by go_num, by go_num, by omega, by omega, by rw [List.length_set]; exact hdl, hin2, HC3.out, HS3.out, hbf⟩
     case measure => simp [intOf]; omega
   ·have hke : k = ps.length := by omega
    have HFT : Hid (d.take m = ps.filter (fun a => !p a)) := Hd (by have := HTK.out; rw [hke, List.take_length] at this; exact this)
    obtain ⟨w4, hclr, hin4, hbl4, hsz4, hot4⟩ := HDIN.out.clear (P := Tryz.prog) m ps.length (by omega) (by omega) hcap 22 (.agg #[.int .i64 0, .int .i64 0]) Tryz.underlying22 Tryz.zeroValue39 rfl (fun u hu => by change u ∈ [Value.int .i64 0, Value.int .i64 0] at hu; rw [List.mem_cons, List.mem_singleton] at hu; rcases hu with h | h <;> (rw [h]; rfl))
    have hclr2 : ∀ (ty : TypeId) (c : Nat), (Builtin.clear_ #[22] ty #[.slice (some ⟨g, m * 2, none⟩) (ps.length - m) c]).run Tryz.prog wr = .ok (.tuple #[]) w4 := hclr
    have HB4 := Hd (hbl4 base w hgb HB.out)
    have hlen : (d.take m).length = m := by rw [List.length_take]; omega
    have hfr : EDot.Row base w4 (.slice (some ⟨g, 0, none⟩) (d.take m).length cv) (d.take m) := hin4.own hgb
    rw [hlen] at hfr
    have HFR := Hd hfr
    have hcm : ¬ cv = m := by omega
    have b4 : (0 : Int) ≤ m := by omega
    have b5 : (m : Int) ≤ ps.length := by omega
    have b7 : (m : Int) ≤ cv := by omega
    clear hclr hin4 hbl4 hfr hlen hot4
    go_wp2_with fail
    go_ret
    exact ⟨_, rfl, by rw [← HFT.out]; exact HFR.out, HB4.out⟩
theorem rowD {base : Nat} {w : World} {v : Value} {l : List DotD} (h : w.ownsRow base 39 2 v l.length (flatD l)) : EDot.Row base w v l := h
theorem ctxMissing_any (vs cl l : List DotD) (v1 v2 u : Value) (w : World) (h : Arr DotR 2 w v1 vs) (h2 : Arr DotR 2 w v2 cl) (h3 : Arr DotR 2 w u l) (hl : l.length ≤ 1000000) : Calls Tryz.prog 36 #[.agg #[v1, v2], u] w fun e w' => ∃ v', e = .returned v' ∧ EDot.Row w.heap.size w' v' ((setD l).filter (fun d => !hasX vs cl d)) ∧ Below w.heap.size w w' := by
 obtain ⟨o1, c1, rfl, -⟩ := id h
 obtain ⟨o2, c2, rfl, -⟩ := id h2
 obtain ⟨W1, hW1⟩ : ∃ W1, W1 = w.alloc (.cells #[.slice o1 vs.length c1, .slice o2 cl.length c2] 25) := ⟨_, rfl⟩
 have hb1 : Below w.heap.size w W1 := by rw [hW1]; exact bal
 have hg1 : W1.heap[w.heap.size]? = some (.cells #[.slice o1 vs.length c1, .slice o2 cl.length c2] 25) := by rw [hW1]; exact alloc_new _ _
 have hgl := lt_of_heap hg1
 have HDI := Hd h3.dotsI
 have HSET := Hd (dotSet_any l u W1 (h3.dots hb1) hl)
 have HCL : Hid (∀ (d : DotD) W, Below W1.heap.size W1 W → Calls Tryz.prog 69 #[dotV d, .pointer (some ⟨w.heap.size, 0, none⟩)] W fun e w' => e = .returned (.bool (hasX vs cl d)) ∧ Below W.heap.size W w') := Hd (fun d W hW => ctxMissing1_any vs cl w.heap.size d _ _ W (by rw [hW.cell (p := ⟨w.heap.size, 0, none⟩) hgl, cell0 hg1 0]; rfl) (by rw [hW.cell (p := ⟨w.heap.size, 1, none⟩) hgl, cell0 hg1 1]; rfl) ((h.dots hb1).dots hW) ((h2.dots hb1).dots hW))
 have HB1 := Hd hb1
 have HW := Hd hW1
 clear h h2 h3 hb1 hW1 hg1 hgl
 go_enter Tryz.func36, Tryz.ntmps36
 go_wp2_with fail
 rw [← HW.out]
 go_wp2_with fail
 refine HSET.out.mono ?_
 rintro e w2 ⟨v2', rfl, hrow, hb2⟩
 have HB2 := Hd hb2
 have HDF := Hd (delFDots_any (hasX vs cl) 69 w.heap.size (enters_of Tryz.func69 (by kernel_rfl) rfl) W1.heap.size (setD l) v2' w2 (fun d W hW => HCL.out d W (hb2.trans hW)) hb2.size (fun d hd => HDI.out d ((setD_mem _ _).1 hd)) (rowD hrow))
 clear hrow hb2 HCL HSET
 go_wp2_with fail
 refine HDF.out.mono ?_
 rintro e w3 ⟨v3, rfl, hrow3, hb3⟩
 have HR3 := Hd (hrow3.mono HB1.out.size)
 have HB3 := Hd (HB1.out.trans ((HB2.out.trans hb3).mono HB1.out.size))
 clear hrow3 hb3 HDF
 go_wp2_with fail
 go_ret
 exact ⟨_, rfl, HR3.out, HB3.out⟩
end Go.Proofs.YtjoljfnlkddfbaaGreatDoor
