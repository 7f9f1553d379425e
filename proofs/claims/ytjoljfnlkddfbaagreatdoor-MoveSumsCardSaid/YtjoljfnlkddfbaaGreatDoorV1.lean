/- Vectors walked: Valid, Get, Has. -/
import Derived.Test.YtjoljfnlkddfbaaGreatDoorIt6
import Derived.Test.YtjoljfnlkddfbaaGreatDoorRaiseP
import Derived.Test.YtjoljfnlkddfbaaGreatDoorGrow
set_option linter.unusedSimpArgs false
set_option linter.unusedVariables false
set_option maxRecDepth 100000
set_option maxHeartbeats 4000000
namespace Go.Proofs.YtjoljfnlkddfbaaGreatDoor
open Go.RowKit Go.Maps

theorem vecInvalid_any (d : DotD) (w : World) : Calls Tryz.prog 158 #[dotV d] w fun e w' => e = .returned (.bool (!validDotD d)) ∧ Below w.heap.size w w' := by
 obtain ⟨W1, hW1⟩ : ∃ W1, W1 = w.alloc (.cells #[.int .i64 d.rep, .int .i64 d.ctr] 39) := ⟨_, rfl⟩
 have hb1 : Below w.heap.size w W1 := by rw [hW1]; exact bal
 have HD := Hd (dotValid_any d W1)
 have HW := Hd hW1
 unfold dotV at HD ⊢
 generalize validDotD d = r at *
 clear hW1
 go_enter Tryz.func158, Tryz.ntmps158
 go_wp2_with fail
 rw [← HW.out]
 refine HD.out.mono ?_
 rintro e w2 ⟨rfl, hb2⟩
 go_wp2_with fail
 go_ret
 exact ⟨rfl, btr hb1 hb2⟩

theorem indexFVec_any (p : DotD → Bool) (g : Nat) (eg : ∀ args w, (callFunc g args).run Tryz.prog w = .ok (.enter g args) w)
  (l : List DotD) (v : Value) (w : World) (hp : ∀ (d : DotD) W, d ∈ l → Below w.heap.size w W → Calls Tryz.prog g #[dotV d] W fun e w' => e = .returned (.bool (p d)) ∧ Below W.heap.size W w')
  (h : Arr DotR 2 w v l) : Calls Tryz.prog 104 #[v, .func (.func g) #[] #[]] w (IdxAt p l w) := by
 have hn := h.len
 obtain ⟨o, c, rfl, hel⟩ := h.dotAt
 have HEL := Hd hel
 have HP := Hd hp
 clear hel h hp
 go_enter Tryz.func104, Tryz.ntmps104
 go_wp2_with fail
 go_loopw [8] (fun i wr => ∃ k : Nat, k ≤ l.length ∧ i = .int .i64 k ∧ (l.take k).any p = false ∧ Below w.heap.size w wr) (fun i _ => l.length - (intOf i).toNat)
 case atStart => exact ⟨0, Nat.zero_le _, rfl, rfl, Below.refl _ _⟩
 case round =>
  obtain ⟨k, hk, rfl, hall, hB⟩ := hrel
  have HALL := Hd hall
  have HB := Hd hB
  clear hall hB
  by_cases hlt : k < l.length
  ·obtain ⟨b, off, rfl, hbl, e0, e1⟩ := HEL.out k hlt
   have c0 : wr.cell? ⟨b, off + k * 2, none⟩ = some (.int .i64 l[k].rep) := by rw [HB.out.cell (p := ⟨_, _, _⟩) hbl]; exact e0
   have c1 : wr.cell? ⟨b, off + k * 2 + 1, none⟩ = some (.int .i64 l[k].ctr) := by rw [HB.out.cell (p := ⟨_, _, _⟩) hbl]; exact e1
   have HS := Hd (any_take_snoc p l k hlt)
   have HIX : Hid (p l[k] = true → IdxIs p l (k : Int)) := Hd (fun h => Or.inr ⟨k, hlt, rfl, h, HALL.out⟩)
   have HPX := Hd (HP.out l[k] wr (List.getElem_mem hlt) HB.out)
   unfold dotV at HPX
   generalize l[k] = x at *
   have a0 : (0 : Int) ≤ k := by omega
   have a1 : (k : Int) < l.length := by omega
   have hkw := wr1 k (by omega)
   clear e0 e1
   obtain ⟨r, hr⟩ : ∃ r, r = p x := ⟨_, rfl⟩
   rw [← hr] at HPX HS HIX
   clear hr
   cases r with
   | true =>
    have HF := Hd (HIX.out rfl)
    go_wp2_with (go_at_fn g; refine HPX.out.mono ?_; rintro e w2 ⟨rfl, hb2⟩)
    go_ret
    exact ⟨k, rfl, HF.out, btr HB.out hb2⟩
   | false =>
    have HF : Hid ((l.take (k + 1)).any p = false) := Hd (by rw [HS.out, HALL.out]; rfl)
    go_wp2_with (go_at_fn g; refine HPX.out.mono ?_; rintro e w2 ⟨rfl, hb2⟩)
    have hbf := btr HB.out hb2
    go_roundw
    case rel => exact ⟨k + 1, by omega, by go_num, HF.out, hbf⟩
    case measure => simp [intOf]; omega
  ·have hke : k = l.length := by omega
   have HF : Hid (IdxIs p l (-1)) := Hd (Or.inl ⟨rfl, by have := HALL.out; rw [hke, List.take_length] at this; exact this⟩)
   clear HALL
   go_wp2_with fail
   go_ret
   exact ⟨-1, rfl, HF.out, HB.out⟩

theorem indexFVecQ_any (p : DotD → Bool) (g q0 : Nat) (eg : ∀ args w, (callFunc g args).run Tryz.prog w = .ok (.enter g args) w)
  (l : List DotD) (v : Value) (w : World) (hp : ∀ (d : DotD) W, d ∈ l → Below w.heap.size w W → Calls Tryz.prog g #[dotV d, .pointer (some ⟨q0, 0, none⟩)] W fun e w' => e = .returned (.bool (p d)) ∧ Below W.heap.size W w')
  (h : Arr DotR 2 w v l) : Calls Tryz.prog 104 #[v, .func (.func g) #[] #[.pointer (some ⟨q0, 0, none⟩)]] w (IdxAt p l w) := by
 have hn := h.len
 obtain ⟨o, c, rfl, hel⟩ := h.dotAt
 have HEL := Hd hel
 have HP := Hd hp
 clear hel h hp
 go_enter Tryz.func104, Tryz.ntmps104
 go_wp2_with fail
 go_loopw [8] (fun i wr => ∃ k : Nat, k ≤ l.length ∧ i = .int .i64 k ∧ (l.take k).any p = false ∧ Below w.heap.size w wr) (fun i _ => l.length - (intOf i).toNat)
 case atStart => exact ⟨0, Nat.zero_le _, rfl, rfl, Below.refl _ _⟩
 case round =>
  obtain ⟨k, hk, rfl, hall, hB⟩ := hrel
  have HALL := Hd hall
  have HB := Hd hB
  clear hall hB
  by_cases hlt : k < l.length
  ·obtain ⟨b, off, rfl, hbl, e0, e1⟩ := HEL.out k hlt
   have c0 : wr.cell? ⟨b, off + k * 2, none⟩ = some (.int .i64 l[k].rep) := by rw [HB.out.cell (p := ⟨_, _, _⟩) hbl]; exact e0
   have c1 : wr.cell? ⟨b, off + k * 2 + 1, none⟩ = some (.int .i64 l[k].ctr) := by rw [HB.out.cell (p := ⟨_, _, _⟩) hbl]; exact e1
   have HS := Hd (any_take_snoc p l k hlt)
   have HIX : Hid (p l[k] = true → IdxIs p l (k : Int)) := Hd (fun h => Or.inr ⟨k, hlt, rfl, h, HALL.out⟩)
   have HPX := Hd (HP.out l[k] wr (List.getElem_mem hlt) HB.out)
   unfold dotV at HPX
   generalize l[k] = x at *
   have a0 : (0 : Int) ≤ k := by omega
   have a1 : (k : Int) < l.length := by omega
   have hkw := wr1 k (by omega)
   clear e0 e1
   obtain ⟨r, hr⟩ : ∃ r, r = p x := ⟨_, rfl⟩
   rw [← hr] at HPX HS HIX
   clear hr
   cases r with
   | true =>
    have HF := Hd (HIX.out rfl)
    go_wp2_with (go_at_fn g; refine HPX.out.mono ?_; rintro e w2 ⟨rfl, hb2⟩)
    go_ret
    exact ⟨k, rfl, HF.out, btr HB.out hb2⟩
   | false =>
    have HF : Hid ((l.take (k + 1)).any p = false) := Hd (by rw [HS.out, HALL.out]; rfl)
    go_wp2_with (go_at_fn g; refine HPX.out.mono ?_; rintro e w2 ⟨rfl, hb2⟩)
    have hbf := btr HB.out hb2
    go_roundw
    case rel => exact ⟨k + 1, by omega, by go_num, HF.out, hbf⟩
    case measure => simp [intOf]; omega
  ·have hke : k = l.length := by omega
   have HF : Hid (IdxIs p l (-1)) := Hd (Or.inl ⟨rfl, by have := HALL.out; rw [hke, List.take_length] at this; exact this⟩)
   clear HALL
   go_wp2_with fail
   go_ret
   exact ⟨-1, rfl, HF.out, HB.out⟩

theorem containsFVec_any (p : DotD → Bool) (g : Nat) (eg : ∀ args w, (callFunc g args).run Tryz.prog w = .ok (.enter g args) w)
  (l : List DotD) (v : Value) (w : World) (hp : ∀ (d : DotD) W, d ∈ l → Below w.heap.size w W → Calls Tryz.prog g #[dotV d] W fun e w' => e = .returned (.bool (p d)) ∧ Below W.heap.size W w')
  (h : Arr DotR 2 w v l) : Calls Tryz.prog 157 #[v, .func (.func g) #[] #[]] w fun e w' => e = .returned (.bool (l.any p)) ∧ Below w.heap.size w w' := by
 have HI := Hd (indexFVec_any p g eg l v w hp h)
 clear h hp
 go_enter Tryz.func157, Tryz.ntmps157
 go_wp2_with fail
 refine HI.out.mono ?_
 rintro e w2 ⟨i, rfl, hix, hb2⟩
 rcases hix with ⟨rfl, hno⟩ | ⟨k, hk, rfl, hpk, -⟩
 ·have HF := Hd hno
  clear hno
  go_wp2_with fail
  go_ret
  exact ⟨by rw [HF.out]; rfl, hb2⟩
 ·have HF : Hid (l.any p = true) := Hd (List.any_eq_true.2 ⟨_, List.getElem_mem hk, hpk⟩)
  have t : decide ((0 : Int) ≤ (k : Int)) = true := decide_eq_true (by omega)
  clear hpk
  go_wp2_with fail
  go_ret
  exact ⟨by rw [HF.out]; rfl, hb2⟩

theorem vec_step {l : List DotD} {k : Nat} (h : k + 1 < l.length) : risR (l.take (k + 2)) = (risR (l.take (k + 1)) && decide (l[k].rep < l[k + 1].rep)) := by
 have key : ∀ (m : List DotD) (a x : DotD), risR (m ++ [a] ++ [x]) = (risR (m ++ [a]) && decide (a.rep < x.rep)) := by
  intro m
  induction m with
  | nil => intro a x; simp [risR]
  | cons y m ih =>
   intro a x
   cases m with
   | nil => simp [risR]
   | cons z m =>
    have := ih a x
    simp only [List.cons_append] at this ⊢
    unfold risR
    rw [this, Bool.and_assoc]
 rw [List.take_succ_eq_append_getElem h, List.take_succ_eq_append_getElem (by omega : k < l.length)]
 exact key _ _ _
theorem vec_bad {l : List DotD} {k : Nat} (h : k + 1 < l.length) (hn : ¬ l[k].rep < l[k + 1].rep) : risR l = false := by
 rcases hr : risR l with _ | _
 ·rfl
 ·have := risR_iff.1 hr
  unfold RR at this
  rw [List.pairwise_iff_getElem] at this
  exact absurd (this k (k + 1) (by omega) h (by omega)) hn
theorem vecValid_any (l : List DotD) (v : Value) (w : World) (h : Arr DotR 2 w v l) : Calls Tryz.prog 106 #[v] w fun e w' => e = .returned (.bool (validV l)) ∧ Below w.heap.size w w' := by
 have hn := h.len
 have HA := Hd h
 obtain ⟨o, c, rfl, hel⟩ := h.dotAt
 have HEL := Hd hel
 have HVV : Hid (validV l = (l.all validDotD && risR l)) := Hd rfl
 clear hel h
 go_enter Tryz.func106, Tryz.ntmps106
 go_wp2_with fail
 go_loopw [3] (fun i wr => ∃ k : Nat, (k < l.length ∨ (k = 0 ∧ l.length = 0)) ∧ i = .int .i64 ((k : Int) + 1) ∧ risR (l.take (k + 1)) = true ∧ Below w.heap.size w wr) (fun i _ => l.length - (intOf i).toNat)
 case atStart =>
  refine ⟨0, by omega, rfl, ?_, Below.refl _ _⟩
  cases l with
  | nil => rfl
  | cons a l => simp [risR]
 case round =>
  obtain ⟨k, hk, rfl, hris, hB⟩ := hrel
  have HR := Hd hris
  have HB := Hd hB
  clear hris hB
  have hkm : IntKind.i64.wrap ((k : Int) + 1 - 1) = (k : Int) := by rw [IntKind.wrap_i64]; omega
  have hk0 : IntKind.i64.wrap (k : Int) = (k : Int) := by rw [IntKind.wrap_i64]; omega
  by_cases hlt : k + 1 < l.length
  ·have hkw : IntKind.i64.wrap ((k : Int) + 1 + 1) = (k : Int) + 1 + 1 := by rw [IntKind.wrap_i64]; omega
   obtain ⟨b, off, rfl, hbl, e0, -⟩ := HEL.out k (by omega)
   obtain ⟨b', off', he, -, g0, -⟩ := HEL.out (k + 1) hlt
   cases he
   have HSTEP := Hd (vec_step hlt)
   have HBAD : Hid (¬ l[k].rep < l[k + 1].rep → validV l = false) := Hd (fun h => by rw [HVV.out, vec_bad hlt h, Bool.and_false])
   have HS : Hid (wr.drew.cell? ⟨b, off + k * 2, none⟩ = some (.int .i64 l[k].rep) ∧ wr.drew.cell? ⟨b, off + (k + 1) * 2, none⟩ = some (.int .i64 l[k + 1].rep)) := Hd (by
    have h5 := below_drew1 HB.out
    exact ⟨by rw [h5.cell (p := ⟨_, _, _⟩) hbl]; exact e0, by rw [h5.cell (p := ⟨_, _, _⟩) hbl]; exact g0⟩)
   obtain ⟨x, hx⟩ : ∃ x, x = l[k] := ⟨_, rfl⟩
   obtain ⟨y, hy⟩ : ∃ y, y = l[k + 1] := ⟨_, rfl⟩
   rw [← hx, ← hy] at HS HSTEP HBAD
   clear hx hy e0 g0
   obtain ⟨j, hj⟩ : ∃ j, j = k := ⟨_, rfl⟩
   have a0 : (0 : Int) ≤ k := by omega
   have a1 : (k : Int) < l.length := by omega
   have a2 : (k : Int) + 1 < l.length := by omega
   have a3 : (0 : Int) ≤ (k : Int) + 1 := by omega
   have a4 : ((k : Int) + 1).toNat = k + 1 := by omega
   by_cases hxy : x.rep < y.rep
   ·have HF : Hid (risR (l.take (k + 1 + 1)) = true) := Hd (by rw [HSTEP.out, HR.out, decide_eq_true hxy]; rfl)
    have t : decide (y.rep ≤ x.rep) = false := decide_eq_false (by omega)
    clear HSTEP HBAD hxy
    go_upto_region 4 with fail
    refine NQ.to ?_
    refine wp_region_held_drew (S := (fun wz => wz.cell? ⟨b, off + k * 2, none⟩ = some (.int .i64 x.rep) ∧ wz.cell? ⟨b, off + (k + 1) * 2, none⟩ = some (.int .i64 y.rep))) (by kernel_rfl) (HS.out) (fun hS => ?_)
    refine tkR (n := 12) [0, 1, 2, 3, 4, 5, 6, 7, 8, 9, 10, 11] rfl (by decide +kernel) hS ?_
    iterate 12 ((try simp only [Act.put, s1, s2, s3, s4, s5, s6]); refine ⟨_, ?_, rfl, Or.inl ⟨by kernel_rfl, fun w hSw => ok_of fun z hz => ?_⟩, ?_⟩; rotate_left; · (obtain ⟨f1, f2⟩ := hSw; go_simp; exact hz))
    refine RunOK.done ?_
    try simp only [Act.put, s1, s2, s3, s4, s5, s6]
    refine wpAnyH_done (by kernel_rfl) ?_ _
    try simp only [Act.put, s1, s2, s3, s4, s5, s6]
    simp only [NQ]
    have hbf := below_drew1 HB.out
    clear hS
    go_wp2_with fail

    exact ⟨⟨k + 1, by omega, by go_num, HF.out, hbf⟩, by simp [intOf]; omega⟩
   ·have HF := Hd (HBAD.out hxy)
    have t : decide (y.rep ≤ x.rep) = true := decide_eq_true (by omega)
    clear HSTEP HBAD hxy
    go_upto_region 4 with fail
    refine NQ.to ?_
    refine wp_region_held_drew (S := (fun wz => wz.cell? ⟨b, off + k * 2, none⟩ = some (.int .i64 x.rep) ∧ wz.cell? ⟨b, off + (k + 1) * 2, none⟩ = some (.int .i64 y.rep))) (by kernel_rfl) (HS.out) (fun hS => ?_)
    refine tkR (n := 12) [0, 1, 2, 3, 4, 5, 6, 7, 8, 9, 10, 11] rfl (by decide +kernel) hS ?_
    iterate 12 ((try simp only [Act.put, s1, s2, s3, s4, s5, s6]); refine ⟨_, ?_, rfl, Or.inl ⟨by kernel_rfl, fun w hSw => ok_of fun z hz => ?_⟩, ?_⟩; rotate_left; · (obtain ⟨f1, f2⟩ := hSw; go_simp; exact hz))
    refine RunOK.done ?_
    try simp only [Act.put, s1, s2, s3, s4, s5, s6]
    refine wpAnyH_done (by kernel_rfl) ?_ _
    try simp only [Act.put, s1, s2, s3, s4, s5, s6]
    simp only [NQ]
    have hbf := below_drew1 HB.out
    clear hS
    go_wp2_with fail
    go_ret
    exact ⟨by rw [HF.out]; rfl, hbf⟩
  ·have HRL : Hid (risR l = true) := Hd (by
    have := HR.out
    rw [List.take_of_length_le (by omega)] at this
    exact this)
   have HC := Hd (containsFVec_any (fun d => !validDotD d) 158 (enters_of Tryz.func158 (by kernel_rfl) rfl) l _ wr (fun d W _ _ => vecInvalid_any d W) (HA.out.dots HB.out))
   have HNA : Hid ((!l.any (fun d => !validDotD d)) = l.all validDotD) := Hd (by simp [List.any_eq_not_all_not])
   generalize l.any (fun d => !validDotD d) = r at *
   have a2 : decide ((k : Int) + 1 < l.length) = false := decide_eq_false (by omega)
   clear HR
   go_wp2_with fail
   refine HC.out.mono ?_
   rintro e w2 ⟨rfl, hb2⟩
   have hbf := btr HB.out hb2
   clear hb2
   go_wp2_with fail
   go_ret
   exact ⟨by rw [HVV.out, HRL.out, ← HNA.out, Bool.and_true]; rfl, hbf⟩
theorem vecGet1_any (r : Int) (q : Nat) (d : DotD) (w : World) (hq : w.cell? ⟨q, 0, none⟩ = some (.int .i64 r)) : Calls Tryz.prog 105 #[dotV d, .pointer (some ⟨q, 0, none⟩)] w fun e w' => e = .returned (.bool (decide (d.rep = r))) ∧ Below w.heap.size w w' := by
 have hql : q < w.heap.size := by
  obtain ⟨b, off, e, hlt⟩ := addr_plain hq
  cases e
  exact hlt
 unfold dotV
 go_enter Tryz.func105, Tryz.ntmps105
 go_wp2_with fail
 go_ret
 exact ⟨rfl, bal⟩
theorem getV_at : ∀ {l : List DotD} {r : Int} {k : Nat} (h : k < l.length), l[k].rep = r → (l.take k).any (fun d => decide (d.rep = r)) = false → getV l r = l[k].ctr
 | [], _, _, h, _, _ => absurd h (Nat.not_lt_zero _)
 | d :: l, r, 0, _, h1, _ => by
  show (if d.rep = r then d.ctr else _) = _
  have h1' : d.rep = r := h1
  rw [if_pos h1']; rfl
 | d :: l, r, k + 1, h, h1, h2 => by
  simp only [List.take_succ_cons, List.any_cons, Bool.or_eq_false_iff, decide_eq_false_iff_not] at h2
  show (if d.rep = r then d.ctr else getV l r) = _
  rw [if_neg h2.1]
  exact getV_at (by simpa using h) h1 h2.2
theorem vecGet_any (l : List DotD) (r : Int) (v : Value) (w : World) (h : Arr DotR 2 w v l) : Calls Tryz.prog 63 #[v, .int .i64 r] w fun e w' => e = .returned (.int .i64 (getV l r)) ∧ Below w.heap.size w w' := by
 have hn := h.len
 obtain ⟨W1, hW1⟩ : ∃ W1, W1 = w.alloc (.cells #[.int .i64 r] 3) := ⟨_, rfl⟩
 have hb1 : Below w.heap.size w W1 := by rw [hW1]; exact bal
 have hg1 : W1.heap[w.heap.size]? = some (.cells #[.int .i64 r] 3) := by rw [hW1]; exact alloc_new _ _
 have HI := Hd (indexFVecQ_any (fun d => decide (d.rep = r)) 105 w.heap.size (enters_of Tryz.func105 (by kernel_rfl) rfl) l v W1 (fun d W _ hb => vecGet1_any r w.heap.size d W (by rw [hb.cell (p := ⟨w.heap.size, 0, none⟩) (lt_of_heap hg1), cell0 hg1 0]; rfl)) (h.dots hb1))
 have HB1 := Hd hb1
 have HW := Hd hW1
 obtain ⟨o, c, rfl, hel⟩ := h.dotAt
 have HEL := Hd hel
 clear hel h hg1 hb1 hW1
 go_enter Tryz.func63, Tryz.ntmps63
 go_wp2_with fail
 rw [← HW.out]
 go_wp2_with fail
 refine HI.out.mono ?_
 rintro e w2 ⟨i, rfl, hix, hb2⟩
 have HB2 := Hd (btr HB1.out hb2)
 clear hb2
 rcases hix with ⟨rfl, hno⟩ | ⟨k, hk, rfl, hpk, htk⟩
 ·have HF : Hid (getV l r = 0) := Hd (getV_none (fun d hd => by simpa using List.any_eq_false.1 hno d hd))
  clear hno
  go_wp2_with fail
  go_ret
  exact ⟨by rw [HF.out]; rfl, HB2.out⟩
 ·have HF : Hid (getV l r = l[k].ctr) := Hd (getV_at hk (of_decide_eq_true hpk) htk)
  obtain ⟨b, off, rfl, hbl, -, e1⟩ := HEL.out k hk
  have c1 : w2.cell? ⟨b, off + k * 2 + 1, none⟩ = some (.int .i64 l[k].ctr) := by rw [HB2.out.cell (p := ⟨_, _, _⟩) hbl]; exact e1
  have a0 : (0 : Int) ≤ k := by omega
  have a1 : (k : Int) < l.length := by omega
  have t2 : decide ((k : Int) < 0) = false := decide_eq_false (by omega)
  clear e1 hpk htk
  go_wp2_with fail
  go_ret
  exact ⟨by rw [HF.out]; rfl, HB2.out⟩
theorem vecHas_any (l : List DotD) (d : DotD) (v : Value) (w : World) (h : Arr DotR 2 w v l) : Calls Tryz.prog 87 #[v, dotV d] w fun e w' => e = .returned (.bool (hasV l d)) ∧ Below w.heap.size w w' := by
 obtain ⟨W1, hW1⟩ : ∃ W1, W1 = w.alloc (.cells #[.int .i64 d.rep, .int .i64 d.ctr] 39) := ⟨_, rfl⟩
 have hb1 : Below w.heap.size w W1 := by rw [hW1]; exact bal
 have hg1 : W1.heap[w.heap.size]? = some (.cells #[.int .i64 d.rep, .int .i64 d.ctr] 39) := by rw [hW1]; exact alloc_new _ _
 have HC : Hid (∀ wz, Below W1.heap.size W1 wz → wz.cell? ⟨w.heap.size, 0, none⟩ = some (.int .i64 d.rep) ∧ wz.cell? ⟨w.heap.size, 1, none⟩ = some (.int .i64 d.ctr)) := Hd (fun wz hz => ⟨by rw [hz.cell (p := ⟨w.heap.size, 0, none⟩) (lt_of_heap hg1), cell0 hg1 0]; rfl, by rw [hz.cell (p := ⟨w.heap.size, 1, none⟩) (lt_of_heap hg1), cell0 hg1 1]; rfl⟩)
 have HDV := Hd ((dotValid_any d W1.drew).mono (R' := fun e w' => e = .returned (.bool (validDotD d)) ∧ Below W1.heap.size W1 w') (fun _ _ ⟨a1, a2⟩ => ⟨a1, bdr.trans a2⟩))
 have HG : Hid (∀ wz, Below W1.heap.size W1 wz → Calls Tryz.prog 63 #[v, .int .i64 d.rep] wz fun e w' => e = .returned (.int .i64 (getV l d.rep)) ∧ Below wz.heap.size wz w') := Hd (fun wz hz => vecGet_any l d.rep v wz (h.dots (btr hb1 hz)))
 have HV : Hid (hasV l d = (validDotD d && decide (d.ctr ≤ getV l d.rep))) := Hd rfl
 obtain ⟨o, c, rfl, -⟩ := id h
 have HB1 := Hd hb1
 have HW := Hd hW1
 unfold dotV at HDV ⊢
 clear h hg1 hb1 hW1
 obtain ⟨r, hr⟩ : ∃ r, r = validDotD d := ⟨_, rfl⟩
 rw [← hr] at HDV HV
 clear hr
 generalize getV l d.rep = gn at *
 go_enter Tryz.func87, Tryz.ntmps87
 cases r with
 | true =>
  go_upto_region 1 with fail
  rw [← HW.out]
  refine NQ.to ?_
  refine wp_region_held_drew (S := (fun wz => wz.cell? ⟨w.heap.size, 0, none⟩ = some (.int .i64 d.rep) ∧ wz.cell? ⟨w.heap.size, 1, none⟩ = some (.int .i64 d.ctr))) (by kernel_rfl) (HC.out _ bdr) (fun hS => ?_)
  refine tkR (n := 1) [0] rfl (by decide +kernel) hS ?_
  ((try simp only [Act.put, s1, s2, s3, s4, s5, s6]); refine ⟨_, ?_, rfl, Or.inl ⟨by kernel_rfl, fun w hSw => ok_of fun z hz => ?_⟩, ?_⟩; rotate_left; · (obtain ⟨f1, f2⟩ := hSw; go_simp; exact hz))
  refine RunOK.done ?_
  try simp only [Act.put, s1, s2, s3, s4, s5, s6]
  refine rd1 1 (by decide +kernel) rfl (fun K hK => ?_)
  go_simp
  go_at_call 52
  refine HDV.out.mono ?_
  rintro e w2 ⟨rfl, hb2⟩
  go_simp
  refine Shut.out hK _ _ (HC.out w2 hb2) (fun hS2 => ?_); clear hK K hS; have hS := hS2; clear hS2
  refine tkR (n := 6) [2, 3, 4, 5, 6, 7] rfl (by decide +kernel) hS ?_
  iterate 6 ((try simp only [Act.put, s1, s2, s3, s4, s5, s6]); refine ⟨_, ?_, rfl, Or.inl ⟨by kernel_rfl, fun w hSw => ok_of fun z hz => ?_⟩, ?_⟩; rotate_left; · (obtain ⟨f1, f2⟩ := hSw; go_simp; exact hz))
  refine RunOK.done ?_
  try simp only [Act.put, s1, s2, s3, s4, s5, s6]
  refine rd1 8 (by decide +kernel) rfl (fun K hK => ?_)
  go_simp
  go_at_call 63
  refine (HG.out w2 hb2).mono ?_
  rintro e w3 ⟨rfl, hb3⟩
  have hb23 := btr hb2 hb3
  go_simp
  refine Shut.out hK _ _ (HC.out w3 hb23) (fun hS2 => ?_); clear hK K hS; have hS := hS2; clear hS2
  refine tkR (n := 3) [9, 10, 11] rfl (by decide +kernel) hS ?_
  iterate 3 ((try simp only [Act.put, s1, s2, s3, s4, s5, s6]); refine ⟨_, ?_, rfl, Or.inl ⟨by kernel_rfl, fun w hSw => ok_of fun z hz => ?_⟩, ?_⟩; rotate_left; · (go_simp; exact hz))
  refine RunOK.done ?_
  try simp only [Act.put, s1, s2, s3, s4, s5, s6]
  refine wpAnyH_done (by kernel_rfl) ?_ _
  try simp only [Act.put, s1, s2, s3, s4, s5, s6]
  simp only [NQ]
  have hbf := btr HB1.out hb23
  go_wp2_with fail
  go_ret
  exact ⟨by rw [HV.out]; rfl, hbf⟩
 | false =>
  go_upto_region 1 with fail
  rw [← HW.out]
  refine NQ.to ?_
  refine wp_region_held_drew (S := (fun wz => wz.cell? ⟨w.heap.size, 0, none⟩ = some (.int .i64 d.rep) ∧ wz.cell? ⟨w.heap.size, 1, none⟩ = some (.int .i64 d.ctr))) (by kernel_rfl) (HC.out _ bdr) (fun hS => ?_)
  refine tkR (n := 1) [0] rfl (by decide +kernel) hS ?_
  ((try simp only [Act.put, s1, s2, s3, s4, s5, s6]); refine ⟨_, ?_, rfl, Or.inl ⟨by kernel_rfl, fun w hSw => ok_of fun z hz => ?_⟩, ?_⟩; rotate_left; · (obtain ⟨f1, f2⟩ := hSw; go_simp; exact hz))
  refine RunOK.done ?_
  try simp only [Act.put, s1, s2, s3, s4, s5, s6]
  refine rd1 1 (by decide +kernel) rfl (fun K hK => ?_)
  go_simp
  go_at_call 52
  refine HDV.out.mono ?_
  rintro e w2 ⟨rfl, hb2⟩
  go_simp
  refine Shut.out hK _ _ (HC.out w2 hb2) (fun hS2 => ?_); clear hK K hS; have hS := hS2; clear hS2
  refine tkR (n := 10) [2, 3, 4, 5, 6, 7, 8, 9, 10, 11] rfl (by decide +kernel) hS ?_
  ((try simp only [Act.put, s1, s2, s3, s4, s5, s6]); refine ⟨_, ?_, rfl, Or.inl ⟨by kernel_rfl, fun w hSw => ok_of fun z hz => ?_⟩, ?_⟩; rotate_left; · (go_simp; exact hz))
  iterate 7 ((try simp only [Act.put, s1, s2, s3, s4, s5, s6]); refine ⟨_, undef, rfl, Or.inr ⟨by kernel_rfl, rfl⟩, ?_⟩)
  iterate 2 ((try simp only [Act.put, s1, s2, s3, s4, s5, s6]); refine ⟨_, ?_, rfl, Or.inl ⟨by kernel_rfl, fun w hSw => ok_of fun z hz => ?_⟩, ?_⟩; rotate_left; · (go_simp; exact hz))
  refine RunOK.done ?_
  try simp only [Act.put, s1, s2, s3, s4, s5, s6]
  refine wpAnyH_done (by kernel_rfl) ?_ _
  try simp only [Act.put, s1, s2, s3, s4, s5, s6]
  simp only [NQ]
  have hbf := btr HB1.out hb2
  go_wp2_with fail
  go_ret
  exact ⟨by rw [HV.out]; rfl, hbf⟩
end Go.Proofs.YtjoljfnlkddfbaaGreatDoor

