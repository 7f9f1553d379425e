/- The reference's Raise and Merge walked. -/
import Derived.Test.YtfnfbcaoihhbpaaGreatDoorCanonP
import Derived.Test.YtfnfbcaoihhbpaaGreatDoorV1
import Derived.Test.YtfnfbcaoihhbpaaGreatDoorR9
set_option linter.unusedSimpArgs false
set_option linter.unusedVariables false
set_option maxRecDepth 100000
set_option maxHeartbeats 8000000
namespace Go.Proofs.YtfnfbcaoihhbpaaGreatDoor

/-! ### Compact -/
def stepX3 (s : List DotD × List DotD) (d : DotD) : List DotD × List DotD :=
 if hasV s.1 d then s else if d.ctr = getV s.1 d.rep + 1 then (raiseR s.1 d, s.2) else (s.1, s.2 ++ [d])
theorem stepX3_eq {s : List DotD × List DotD} {d : DotD} (hv : validV s.1 = true) (hd : validDotD d = true) : stepX3 s d = stepX s d := by
 unfold stepX3 stepX hasV
 rw [hd, Bool.true_and, raiseR_eq hv hd]
 by_cases h1 : d.ctr ≤ getV s.1 d.rep
 ·rw [if_pos (decide_eq_true h1), if_neg (by omega), if_neg (by omega)]
 ·rw [if_neg (by simpa using h1)]
  by_cases h2 : d.ctr = getV s.1 d.rep + 1
  ·rw [if_pos h2, if_neg (by omega), if_pos h2]
  ·rw [if_neg h2, if_pos (by omega)]
theorem stepX_valid {s : List DotD × List DotD} {d : DotD} (hv : validV s.1 = true) (hd : validDotD d = true) : validV (stepX s d).1 = true := by
 unfold stepX
 by_cases h1 : getV s.1 d.rep + 1 < d.ctr
 ·rw [if_pos h1]; exact hv
 ·rw [if_neg h1]
  by_cases h2 : d.ctr = getV s.1 d.rep + 1
  ·rw [if_pos h2]; exact validV_raise hv hd
  ·rw [if_neg h2]; exact hv
theorem foldX3 : ∀ (c : List DotD) (s : List DotD × List DotD), validV s.1 = true → c.all validDotD = true → c.foldl stepX3 s = c.foldl stepX s ∧ validV (c.foldl stepX s).1 = true
 | [], s, hv, _ => ⟨rfl, hv⟩
 | d :: c, s, hv, hc => by
  rw [List.all_cons, Bool.and_eq_true] at hc
  rw [List.foldl_cons, List.foldl_cons, stepX3_eq hv hc.1]
  exact foldX3 c _ (stepX_valid hv hc.1) hc.2
def nearR (v : List DotD) (d : DotD) : Bool := hasV v d || decide (d.ctr = getV v d.rep + 1)
theorem compactR_eq (v c : List DotD) : (!c.any (nearR v) && validX v c) = compactB v c := by
 unfold compactB
 by_cases h : validX v c = true
 ·rw [h, Bool.and_true, Bool.true_and]
  have hc := (validX_parts h).2.2
  congr 1
  rw [List.all_eq_true] at hc
  rw [Bool.eq_iff_iff, List.any_eq_true, List.any_eq_true]
  have key : ∀ d ∈ c, nearR v d = nearX v d := fun d hd => by
   unfold nearR nearX hasV
   rw [hc d hd, Bool.true_and, Bool.eq_iff_iff]
   simp only [Bool.or_eq_true, decide_eq_true_eq]
   omega
  constructor
  ·rintro ⟨d, hd, e⟩; exact ⟨d, hd, by rw [← key d hd]; exact e⟩
  ·rintro ⟨d, hd, e⟩; exact ⟨d, hd, by rw [key d hd]; exact e⟩
 ·rw [Bool.not_eq_true] at h
  rw [h, Bool.and_false, Bool.false_and]
/-! ### Minus and Both -/
/-! ### Fits -/
end Go.Proofs.YtfnfbcaoihhbpaaGreatDoor
namespace Go.Proofs.YtfnfbcaoihhbpaaGreatDoor
open Go.RowKit Go.Maps

theorem r2Get_any (l : List DotD) (r : Int) (v : Value) (w : World) (h : Arr DotR 2 w v l) : Calls Tryz.prog 147 #[v, .int .i64 r] w fun e w' => e = .returned (.int .i64 (getV l r)) ∧ Below w.heap.size w w' := by
 have hn := h.len
 obtain ⟨o, c, rfl, hel⟩ := h.dotAt
 have HEL := Hd hel
 clear hel h
 go_enter Tryz.func147, Tryz.ntmps147
 go_wp2_with fail
 go_loopw [5] (fun i wr => ∃ k : Nat, k ≤ l.length ∧ i = .int .i64 k ∧ (l.take k).any (fun d => decide (d.rep = r)) = false ∧ Below w.heap.size w wr) (fun i _ => l.length - (intOf i).toNat)
 case atStart => exact ⟨0, Nat.zero_le _, rfl, rfl, Below.refl _ _⟩
 case round =>
  obtain ⟨k, hk, rfl, hno, hB⟩ := hrel
  have HNO := Hd hno
  have HB := Hd hB
  clear hno hB
  by_cases hlt : k < l.length
  ·obtain ⟨b, off, rfl, hbl, e0, e1⟩ := HEL.out k hlt
   have c0 : wr.cell? ⟨b, off + k * 2, none⟩ = some (.int .i64 l[k].rep) := by rw [HB.out.cell (p := ⟨_, _, _⟩) hbl]; exact e0
   have c1 : wr.cell? ⟨b, off + k * 2 + 1, none⟩ = some (.int .i64 l[k].ctr) := by rw [HB.out.cell (p := ⟨_, _, _⟩) hbl]; exact e1
   have HG : Hid (l[k].rep = r → getV l r = l[k].ctr) := Hd (fun h => getV_at hlt h HNO.out)
   have HS := Hd (any_take_snoc (fun d : DotD => decide (d.rep = r)) l k hlt)
   generalize l[k] = x at *
   have a0 : (0 : Int) ≤ k := by omega
   have a1 : (k : Int) < l.length := by omega
   have hkw := wr1 k (by omega)
   clear e0 e1
   by_cases hx : x.rep = r
   ·have HF := Hd (HG.out hx)
    have t : (x.rep == r) = true := beq_iff_eq.2 hx
    clear HS HG HNO hx
    go_wp2_with fail
    go_ret
    exact ⟨by rw [HF.out]; rfl, HB.out⟩
   ·have t : (x.rep == r) = false := beq_eq_false_iff_ne.2 hx
    have HF : Hid ((l.take (k + 1)).any (fun d => decide (d.rep = r)) = false) := Hd (by rw [HS.out, HNO.out, decide_eq_false hx]; rfl)
    clear HS HG HNO hx
    go_wp2_with fail
    go_roundw
    case rel => exact ⟨k + 1, by omega, by go_num, HF.out, HB.out⟩
    case measure => simp [intOf]; omega
  ·have hke : k = l.length := by omega
   have HF : Hid (getV l r = 0) := Hd (getV_none (fun d hd => by
    have := HNO.out
    rw [hke, List.take_length] at this
    simpa using List.any_eq_false.1 this d hd))
   clear HNO
   go_wp2_with fail
   go_ret
   exact ⟨by rw [HF.out]; rfl, HB.out⟩
theorem r2Has_any (l : List DotD) (d : DotD) (v : Value) (w : World) (h : Arr DotR 2 w v l) : Calls Tryz.prog 100 #[v, dotV d] w fun e w' => e = .returned (.bool (hasV l d)) ∧ Below w.heap.size w w' := by
 obtain ⟨W1, hW1⟩ : ∃ W1, W1 = w.alloc (.cells #[.int .i64 d.rep, .int .i64 d.ctr] 30) := ⟨_, rfl⟩
 have hb1 : Below w.heap.size w W1 := by rw [hW1]; exact bal
 have hg1 : W1.heap[w.heap.size]? = some (.cells #[.int .i64 d.rep, .int .i64 d.ctr] 30) := by rw [hW1]; exact alloc_new _ _
 have HC : Hid (∀ wz, Below W1.heap.size W1 wz → wz.cell? ⟨w.heap.size, 0, none⟩ = some (.int .i64 d.rep) ∧ wz.cell? ⟨w.heap.size, 1, none⟩ = some (.int .i64 d.ctr)) := Hd (fun wz hz => ⟨by rw [hz.cell (p := ⟨w.heap.size, 0, none⟩) (lt_of_heap hg1), cell0 hg1 0]; rfl, by rw [hz.cell (p := ⟨w.heap.size, 1, none⟩) (lt_of_heap hg1), cell0 hg1 1]; rfl⟩)
 have HDV := Hd ((r1Valid_any d W1.drew).mono (R' := fun e w' => e = .returned (.bool (validDotD d)) ∧ Below W1.heap.size W1 w') (fun _ _ ⟨a1, a2⟩ => ⟨a1, bdr.trans a2⟩))
 have HG : Hid (∀ wz, Below W1.heap.size W1 wz → Calls Tryz.prog 147 #[v, .int .i64 d.rep] wz fun e w' => e = .returned (.int .i64 (getV l d.rep)) ∧ Below wz.heap.size wz w') := Hd (fun wz hz => r2Get_any l d.rep v wz (h.dots (btr hb1 hz)))
 have HV : Hid (hasV l d = (validDotD d && decide (d.ctr ≤ getV l d.rep))) := Hd rfl
 obtain ⟨o, c, rfl, -⟩ := id h
 have HB1 := Hd hb1
 have HW := Hd hW1
 unfold dotV at HDV ⊢
 clear h hg1 hb1 hW1
 obtain ⟨r, hr⟩ : ∃ r, r = validDotD d := ⟨_, rfl⟩
 rw [← hr] at HDV HV
 clear hr
 generalize getV l d.rep = gn at *
 go_enter Tryz.func100, Tryz.ntmps100
 cases r with
 | true =>
  go_upto_region 1 with fail
  rw [← HW.out]
  refine NQ.to ?_
  refine wp_region_held_drew (S := (fun wz => wz.cell? ⟨w.heap.size, 0, none⟩ = some (.int .i64 d.rep) ∧ wz.cell? ⟨w.heap.size, 1, none⟩ = some (.int .i64 d.ctr))) (by kernel_rfl) (HC.out _ bdr) (fun hS => ?_)
  refine tkR (n := 1) [0] rfl (by decide +kernel) hS ?_
  ((try simp only [Act.put, s1, s2, s3, s4, s5, s6]); refine ⟨_, ?_, rfl, Or.inl ⟨by kernel_rfl, fun w hSw => ok_of fun z hz => ?_⟩, ?_⟩; rotate_left; · (obtain ⟨f1, f2⟩ := hSw; go_simp; exact hz))
  refine RunOK.done ?_
  try simp only [Act.put, s1, s2, s3, s4, s5, s6]
  refine rd1 1 (by decide +kernel) rfl (fun K hK => ?_)
  go_simp
  go_at_call 53
  refine HDV.out.mono ?_
  rintro e w2 ⟨rfl, hb2⟩
  go_simp
  refine Shut.out hK _ _ (HC.out w2 hb2) (fun hS2 => ?_); clear hK K hS; have hS := hS2; clear hS2
  refine tkR (n := 6) [2, 3, 4, 5, 6, 7] rfl (by decide +kernel) hS ?_
  iterate 6 ((try simp only [Act.put, s1, s2, s3, s4, s5, s6]); refine ⟨_, ?_, rfl, Or.inl ⟨by kernel_rfl, fun w hSw => ok_of fun z hz => ?_⟩, ?_⟩; rotate_left; · (obtain ⟨f1, f2⟩ := hSw; go_simp; exact hz))
  refine RunOK.done ?_
  try simp only [Act.put, s1, s2, s3, s4, s5, s6]
  refine rd1 8 (by decide +kernel) rfl (fun K hK => ?_)
  go_simp
  go_at_call 147
  refine (HG.out w2 hb2).mono ?_
  rintro e w3 ⟨rfl, hb3⟩
  have hb23 := btr hb2 hb3
  go_simp
  refine Shut.out hK _ _ (HC.out w3 hb23) (fun hS2 => ?_); clear hK K hS; have hS := hS2; clear hS2
  refine tkR (n := 3) [9, 10, 11] rfl (by decide +kernel) hS ?_
  iterate 3 ((try simp only [Act.put, s1, s2, s3, s4, s5, s6]); refine ⟨_, ?_, rfl, Or.inl ⟨by kernel_rfl, fun w hSw => ok_of fun z hz => ?_⟩, ?_⟩; rotate_left; · (go_simp; exact hz))
  refine RunOK.done ?_
  try simp only [Act.put, s1, s2, s3, s4, s5, s6]
  refine wpAnyH_done (by kernel_rfl) ?_ _
  try simp only [Act.put, s1, s2, s3, s4, s5, s6]
  simp only [NQ]
  have hbf := btr HB1.out hb23
  go_wp2_with fail
  go_ret
  exact ⟨by rw [HV.out]; rfl, hbf⟩
 | false =>
  go_upto_region 1 with fail
  rw [← HW.out]
  refine NQ.to ?_
  refine wp_region_held_drew (S := (fun wz => wz.cell? ⟨w.heap.size, 0, none⟩ = some (.int .i64 d.rep) ∧ wz.cell? ⟨w.heap.size, 1, none⟩ = some (.int .i64 d.ctr))) (by kernel_rfl) (HC.out _ bdr) (fun hS => ?_)
  refine tkR (n := 1) [0] rfl (by decide +kernel) hS ?_
  ((try simp only [Act.put, s1, s2, s3, s4, s5, s6]); refine ⟨_, ?_, rfl, Or.inl ⟨by kernel_rfl, fun w hSw => ok_of fun z hz => ?_⟩, ?_⟩; rotate_left; · (obtain ⟨f1, f2⟩ := hSw; go_simp; exact hz))
  refine RunOK.done ?_
  try simp only [Act.put, s1, s2, s3, s4, s5, s6]
  refine rd1 1 (by decide +kernel) rfl (fun K hK => ?_)
  go_simp
  go_at_call 53
  refine HDV.out.mono ?_
  rintro e w2 ⟨rfl, hb2⟩
  go_simp
  refine Shut.out hK _ _ (HC.out w2 hb2) (fun hS2 => ?_); clear hK K hS; have hS := hS2; clear hS2
  refine tkR (n := 10) [2, 3, 4, 5, 6, 7, 8, 9, 10, 11] rfl (by decide +kernel) hS ?_
  ((try simp only [Act.put, s1, s2, s3, s4, s5, s6]); refine ⟨_, ?_, rfl, Or.inl ⟨by kernel_rfl, fun w hSw => ok_of fun z hz => ?_⟩, ?_⟩; rotate_left; · (go_simp; exact hz))
  iterate 7 ((try simp only [Act.put, s1, s2, s3, s4, s5, s6]); refine ⟨_, undef, rfl, Or.inr ⟨by kernel_rfl, rfl⟩, ?_⟩)
  iterate 2 ((try simp only [Act.put, s1, s2, s3, s4, s5, s6]); refine ⟨_, ?_, rfl, Or.inl ⟨by kernel_rfl, fun w hSw => ok_of fun z hz => ?_⟩, ?_⟩; rotate_left; · (go_simp; exact hz))
  refine RunOK.done ?_
  try simp only [Act.put, s1, s2, s3, s4, s5, s6]
  refine wpAnyH_done (by kernel_rfl) ?_ _
  try simp only [Act.put, s1, s2, s3, s4, s5, s6]
  simp only [NQ]
  have hbf := btr HB1.out hb2
  go_wp2_with fail
  go_ret
  exact ⟨by rw [HV.out]; rfl, hbf⟩
theorem r2Valid_any (l : List DotD) (v : Value) (w : World) (h : Arr DotR 2 w v l) : Calls Tryz.prog 203 #[v] w fun e w' => e = .returned (.bool (validV l)) ∧ Below w.heap.size w w' := by
 have hn := h.len
 obtain ⟨o, c, rfl, hel⟩ := h.dotAt
 have HEL := Hd hel
 have HVV : Hid (validV l = (l.all validDotD && risR l)) := Hd rfl
 clear hel h
 go_enter Tryz.func203, Tryz.ntmps203
 go_wp2_with fail
 go_loopw [3] (fun i wr => ∃ k : Nat, k ≤ l.length ∧ i = .int .i64 k ∧ (l.take k).all validDotD = true ∧ risR (l.take k) = true ∧ Below w.heap.size w wr) (fun i _ => l.length - (intOf i).toNat)
 case atStart => exact ⟨0, Nat.zero_le _, rfl, rfl, rfl, Below.refl _ _⟩
 case round =>
  obtain ⟨k, hk, rfl, hall, hris, hB⟩ := hrel
  have HALL := Hd hall
  have HR := Hd hris
  have HB := Hd hB
  clear hall hris hB
  by_cases hlt : k < l.length
  ·obtain ⟨b, off, rfl, hbl, e0, e1⟩ := HEL.out k hlt
   have HS := Hd (all_take_snoc validDotD l k hlt)
   have HBAD : Hid (validDotD l[k] = false → validV l = false) := Hd (fun h => by
    rw [HVV.out, List.all_eq_false.2 ⟨_, List.getElem_mem hlt, by simp [h]⟩, Bool.false_and])
   have hkw := wr1 k (by omega)
   have a0 : (0 : Int) ≤ k := by omega
   have a1 : (k : Int) < l.length := by omega
   rcases hrb : validDotD l[k] with _ | _
   ·have HF := Hd (HBAD.out hrb)
    have HDV := Hd ((r1Valid_any l[k] wr.drew).mono (R' := fun e w' => e = .returned (.bool (validDotD l[k])) ∧ Below wr.heap.size wr w') (fun _ _ ⟨a1, a2⟩ => ⟨a1, bdr.trans a2⟩))
    rw [hrb] at HDV
    have HC : Hid (∀ wz, Below wr.heap.size wr wz → wz.cell? ⟨b, off + k * 2, none⟩ = some (.int .i64 l[k].rep) ∧ wz.cell? ⟨b, off + k * 2 + 1, none⟩ = some (.int .i64 l[k].ctr)) := Hd (fun wz hz => by
     have hz2 := btr HB.out hz
     exact ⟨by rw [hz2.cell (p := ⟨_, _, _⟩) hbl]; exact e0, by rw [hz2.cell (p := ⟨_, _, _⟩) hbl]; exact e1⟩)
    unfold dotV at HDV
    clear HS HBAD hrb
    generalize l[k] = x at *
    clear e0 e1
    go_upto_region 4 with fail
    refine NQ.to ?_
    refine wp_region_held_drew (S := (fun wz => wz.cell? ⟨b, off + k * 2, none⟩ = some (.int .i64 x.rep) ∧ wz.cell? ⟨b, off + k * 2 + 1, none⟩ = some (.int .i64 x.ctr))) (by kernel_rfl) (HC.out _ bdr) (fun hS => ?_)
    refine tkR (n := 4) [0, 1, 2, 3] rfl (by decide +kernel) hS ?_
    iterate 4 ((try simp only [Act.put, s1, s2, s3, s4, s5, s6]); refine ⟨_, ?_, rfl, Or.inl ⟨by kernel_rfl, fun w hSw => ok_of fun z hz => ?_⟩, ?_⟩; rotate_left; · (obtain ⟨f1, f2⟩ := hSw; go_simp; exact hz))
    refine RunOK.done ?_
    try simp only [Act.put, s1, s2, s3, s4, s5, s6]
    refine rd1 4 (by decide +kernel) rfl (fun K hK => ?_)
    go_simp
    go_at_call 53
    refine HDV.out.mono ?_
    rintro e w2 ⟨rfl, hb2⟩
    go_simp
    refine Shut.out hK _ _ (HC.out w2 hb2) (fun hS2 => ?_); clear hK K hS; have hS := hS2; clear hS2
    refine tkR (n := 19) [5, 6, 7, 8, 9, 10, 11, 12, 13, 14, 15, 16, 17, 18, 19, 20, 21, 22, 23] rfl (by decide +kernel) hS ?_
    iterate 2 ((try simp only [Act.put, s1, s2, s3, s4, s5, s6]); refine ⟨_, ?_, rfl, Or.inl ⟨by kernel_rfl, fun w hSw => ok_of fun z hz => ?_⟩, ?_⟩; rotate_left; · (go_simp; exact hz))
    iterate 16 ((try simp only [Act.put, s1, s2, s3, s4, s5, s6]); refine ⟨_, undef, rfl, Or.inr ⟨by kernel_rfl, rfl⟩, ?_⟩)
    ((try simp only [Act.put, s1, s2, s3, s4, s5, s6]); refine ⟨_, ?_, rfl, Or.inl ⟨by kernel_rfl, fun w hSw => ok_of fun z hz => ?_⟩, ?_⟩; rotate_left; · (go_simp; exact hz))
    refine RunOK.done ?_
    try simp only [Act.put, s1, s2, s3, s4, s5, s6]
    refine wpAnyH_done (by kernel_rfl) ?_ _
    try simp only [Act.put, s1, s2, s3, s4, s5, s6]
    simp only [NQ]
    have hbf := btr HB.out hb2
    clear hS
    go_wp2_with fail
    go_ret
    exact ⟨by rw [HF.out]; rfl, hbf⟩
   ·have HA1 : Hid ((l.take (k + 1)).all validDotD = true) := Hd (by rw [HS.out, HALL.out, hrb]; rfl)
    clear HS HBAD HALL
    rcases k with _ | j
    ·have HR1 : Hid (risR (l.take (0 + 1)) = true) := Hd (by
      cases l with
      | nil => rfl
      | cons a l => simp [risR])
     have HDV := Hd ((r1Valid_any l[0] wr.drew).mono (R' := fun e w' => e = .returned (.bool (validDotD l[0])) ∧ Below wr.heap.size wr w') (fun _ _ ⟨a1, a2⟩ => ⟨a1, bdr.trans a2⟩))
     rw [hrb] at HDV
     have HC : Hid (∀ wz, Below wr.heap.size wr wz → wz.cell? ⟨b, off, none⟩ = some (.int .i64 l[0].rep) ∧ wz.cell? ⟨b, off + 1, none⟩ = some (.int .i64 l[0].ctr)) := Hd (fun wz hz => by
      have hz2 := btr HB.out hz
      rw [Nat.zero_mul, Nat.add_zero] at e0 e1
      exact ⟨by rw [hz2.cell (p := ⟨_, _, _⟩) hbl]; exact e0, by rw [hz2.cell (p := ⟨_, _, _⟩) hbl]; exact e1⟩)
     unfold dotV at HDV
     clear hrb
     generalize l[0] = x at *
     clear e0 e1 HR
     go_upto_region 4 with fail
     refine NQ.to ?_
     refine wp_region_held_drew (S := (fun wz => wz.cell? ⟨b, off, none⟩ = some (.int .i64 x.rep) ∧ wz.cell? ⟨b, off + 1, none⟩ = some (.int .i64 x.ctr))) (by kernel_rfl) (HC.out _ bdr) (fun hS => ?_)
     refine tkR (n := 4) [0, 1, 2, 3] rfl (by decide +kernel) hS ?_
     iterate 4 ((try simp only [Act.put, s1, s2, s3, s4, s5, s6]); refine ⟨_, ?_, rfl, Or.inl ⟨by kernel_rfl, fun w hSw => ok_of fun z hz => ?_⟩, ?_⟩; rotate_left; · (obtain ⟨f1, f2⟩ := hSw; go_simp; exact hz))
     refine RunOK.done ?_
     try simp only [Act.put, s1, s2, s3, s4, s5, s6]
     refine rd1 4 (by decide +kernel) rfl (fun K hK => ?_)
     go_simp
     go_at_call 53
     refine HDV.out.mono ?_
     rintro e w2 ⟨rfl, hb2⟩
     go_simp
     refine Shut.out hK _ _ (HC.out w2 hb2) (fun hS2 => ?_); clear hK K hS; have hS := hS2; clear hS2
     refine tkR (n := 19) [5, 6, 7, 8, 9, 10, 11, 12, 13, 14, 15, 16, 17, 18, 19, 20, 21, 22, 23] rfl (by decide +kernel) hS ?_
     iterate 5 ((try simp only [Act.put, s1, s2, s3, s4, s5, s6]); refine ⟨_, ?_, rfl, Or.inl ⟨by kernel_rfl, fun w hSw => ok_of fun z hz => ?_⟩, ?_⟩; rotate_left; · (go_simp; exact hz))
     iterate 12 ((try simp only [Act.put, s1, s2, s3, s4, s5, s6]); refine ⟨_, undef, rfl, Or.inr ⟨by kernel_rfl, rfl⟩, ?_⟩)
     iterate 2 ((try simp only [Act.put, s1, s2, s3, s4, s5, s6]); refine ⟨_, ?_, rfl, Or.inl ⟨by kernel_rfl, fun w hSw => ok_of fun z hz => ?_⟩, ?_⟩; rotate_left; · (go_simp; exact hz))
     refine RunOK.done ?_
     try simp only [Act.put, s1, s2, s3, s4, s5, s6]
     refine wpAnyH_done (by kernel_rfl) ?_ _
     try simp only [Act.put, s1, s2, s3, s4, s5, s6]
     simp only [NQ]
     have hbf := btr HB.out hb2
     clear hS
     go_wp2_with fail
     exact ⟨⟨0 + 1, by omega, by go_num, HA1.out, HR1.out, hbf⟩, by simp [intOf]; omega⟩
    ·have HSTEP := Hd (vec_step (k := j) hlt)
     have HBAD : Hid (¬ l[j].rep < l[j + 1].rep → validV l = false) := Hd (fun h => by rw [HVV.out, vec_bad hlt h, Bool.and_false])
     obtain ⟨b', off', he, -, g0, -⟩ := HEL.out j (by omega)
     cases he
     have HDV := Hd ((r1Valid_any l[j + 1] wr.drew).mono (R' := fun e w' => e = .returned (.bool (validDotD l[j + 1])) ∧ Below wr.heap.size wr w') (fun _ _ ⟨a1, a2⟩ => ⟨a1, bdr.trans a2⟩))
     rw [hrb] at HDV
     have HC : Hid (∀ wz, Below wr.heap.size wr wz → (wz.cell? ⟨b, off + (j + 1) * 2, none⟩ = some (.int .i64 l[j + 1].rep) ∧ wz.cell? ⟨b, off + (j + 1) * 2 + 1, none⟩ = some (.int .i64 l[j + 1].ctr)) ∧ wz.cell? ⟨b, off + j * 2, none⟩ = some (.int .i64 l[j].rep)) := Hd (fun wz hz => by
      have hz2 := btr HB.out hz
      exact ⟨⟨by rw [hz2.cell (p := ⟨_, _, _⟩) hbl]; exact e0, by rw [hz2.cell (p := ⟨_, _, _⟩) hbl]; exact e1⟩, by rw [hz2.cell (p := ⟨_, _, _⟩) hbl]; exact g0⟩)
     unfold dotV at HDV
     clear hrb
     generalize l[j + 1] = x at *
     generalize l[j] = y at *
     clear e0 e1 g0
     have a3 : (0 : Int) < (j : Int) + 1 := by omega
     have a4 : (j : Int) < l.length := by omega
     have a5 : ((j : Int) + 1).toNat = j + 1 := by omega
     have x1 : IntKind.i64.wrap ((j : Int) + 1 - 1) = (j : Int) := by rw [IntKind.wrap_i64]; omega
     have x4 : IntKind.i64.wrap (j : Int) = (j : Int) := by rw [IntKind.wrap_i64]; omega
     have a6 : (0 : Int) ≤ j := by omega
     have hcast : ((j + 1 : Nat) : Int) = (j : Int) + 1 := by omega
     rw [hcast] at a0 a1 hkw ⊢
     have t0 : decide ((0 : Int) < (j : Int) + 1) = true := decide_eq_true a3
     by_cases hxy : y.rep < x.rep
     ·have t : decide (x.rep ≤ y.rep) = false := decide_eq_false (by omega)
      have HF : Hid (risR (l.take (j + 1 + 1)) = true) := Hd (by rw [HSTEP.out, HR.out, decide_eq_true hxy]; rfl)
      clear HSTEP HBAD HR hxy
      go_upto_region 4 with fail
      refine NQ.to ?_
      refine wp_region_held_drew (S := (fun wz => (wz.cell? ⟨b, off + (j + 1) * 2, none⟩ = some (.int .i64 x.rep) ∧ wz.cell? ⟨b, off + (j + 1) * 2 + 1, none⟩ = some (.int .i64 x.ctr)) ∧ wz.cell? ⟨b, off + j * 2, none⟩ = some (.int .i64 y.rep))) (by kernel_rfl) (HC.out _ bdr) (fun hS => ?_)
      refine tkR (n := 4) [0, 1, 2, 3] rfl (by decide +kernel) hS ?_
      iterate 4 ((try simp only [Act.put, s1, s2, s3, s4, s5, s6]); refine ⟨_, ?_, rfl, Or.inl ⟨by kernel_rfl, fun w hSw => ok_of fun z hz => ?_⟩, ?_⟩; rotate_left; · (obtain ⟨⟨f1, f2⟩, f3⟩ := hSw; go_simp; exact hz))
      refine RunOK.done ?_
      try simp only [Act.put, s1, s2, s3, s4, s5, s6]
      refine rd1 4 (by decide +kernel) rfl (fun K hK => ?_)
      go_simp
      go_at_call 53
      refine HDV.out.mono ?_
      rintro e w2 ⟨rfl, hb2⟩
      go_simp
      refine Shut.out hK _ _ (HC.out w2 hb2) (fun hS2 => ?_); clear hK K hS; have hS := hS2; clear hS2
      refine tkR (n := 19) [5, 6, 7, 8, 9, 10, 11, 12, 13, 14, 15, 16, 17, 18, 19, 20, 21, 22, 23] rfl (by decide +kernel) hS ?_
      iterate 19 ((try simp only [Act.put, s1, s2, s3, s4, s5, s6]); refine ⟨_, ?_, rfl, Or.inl ⟨by kernel_rfl, fun w hSw => ok_of fun z hz => ?_⟩, ?_⟩; rotate_left; · (obtain ⟨⟨f1, f2⟩, f3⟩ := hSw; go_simp; exact hz))
      refine RunOK.done ?_
      try simp only [Act.put, s1, s2, s3, s4, s5, s6]
      refine wpAnyH_done (by kernel_rfl) ?_ _
      try simp only [Act.put, s1, s2, s3, s4, s5, s6]
      simp only [NQ]
      have hbf := btr HB.out hb2
      clear hS
      go_wp2_with fail
      exact ⟨⟨j + 1 + 1, by omega, by go_num, HA1.out, HF.out, hbf⟩, by simp [intOf]; omega⟩
     ·have t : decide (x.rep ≤ y.rep) = true := decide_eq_true (by omega)
      have HF := Hd (HBAD.out hxy)
      clear HSTEP HBAD HR hxy
      go_upto_region 4 with fail
      refine NQ.to ?_
      refine wp_region_held_drew (S := (fun wz => (wz.cell? ⟨b, off + (j + 1) * 2, none⟩ = some (.int .i64 x.rep) ∧ wz.cell? ⟨b, off + (j + 1) * 2 + 1, none⟩ = some (.int .i64 x.ctr)) ∧ wz.cell? ⟨b, off + j * 2, none⟩ = some (.int .i64 y.rep))) (by kernel_rfl) (HC.out _ bdr) (fun hS => ?_)
      refine tkR (n := 4) [0, 1, 2, 3] rfl (by decide +kernel) hS ?_
      iterate 4 ((try simp only [Act.put, s1, s2, s3, s4, s5, s6]); refine ⟨_, ?_, rfl, Or.inl ⟨by kernel_rfl, fun w hSw => ok_of fun z hz => ?_⟩, ?_⟩; rotate_left; · (obtain ⟨⟨f1, f2⟩, f3⟩ := hSw; go_simp; exact hz))
      refine RunOK.done ?_
      try simp only [Act.put, s1, s2, s3, s4, s5, s6]
      refine rd1 4 (by decide +kernel) rfl (fun K hK => ?_)
      go_simp
      go_at_call 53
      refine HDV.out.mono ?_
      rintro e w2 ⟨rfl, hb2⟩
      go_simp
      refine Shut.out hK _ _ (HC.out w2 hb2) (fun hS2 => ?_); clear hK K hS; have hS := hS2; clear hS2
      refine tkR (n := 19) [5, 6, 7, 8, 9, 10, 11, 12, 13, 14, 15, 16, 17, 18, 19, 20, 21, 22, 23] rfl (by decide +kernel) hS ?_
      iterate 19 ((try simp only [Act.put, s1, s2, s3, s4, s5, s6]); refine ⟨_, ?_, rfl, Or.inl ⟨by kernel_rfl, fun w hSw => ok_of fun z hz => ?_⟩, ?_⟩; rotate_left; · (obtain ⟨⟨f1, f2⟩, f3⟩ := hSw; go_simp; exact hz))
      refine RunOK.done ?_
      try simp only [Act.put, s1, s2, s3, s4, s5, s6]
      refine wpAnyH_done (by kernel_rfl) ?_ _
      try simp only [Act.put, s1, s2, s3, s4, s5, s6]
      simp only [NQ]
      have hbf := btr HB.out hb2
      clear hS
      go_wp2_with fail
      go_ret
      exact ⟨by rw [HF.out]; rfl, hbf⟩
  ·have hke : k = l.length := by omega
   have HF : Hid (validV l = true) := Hd (by
    have h1 := HALL.out
    have h2 := HR.out
    rw [hke, List.take_length] at h1 h2
    rw [HVV.out, h1, h2]; rfl)
   clear HALL HR
   go_wp2_with fail
   go_ret
   exact ⟨by rw [HF.out]; rfl, HB.out⟩
end Go.Proofs.YtfnfbcaoihhbpaaGreatDoor
namespace Go.Proofs.YtfnfbcaoihhbpaaGreatDoor
open Go.RowKit Go.Maps

theorem raiseR_valid {v : List DotD} {d : DotD} (hv : validV v = true) (hd : validDotD d = true) : validV (raiseR v d) = true := by
 rw [raiseR_eq hv hd]
 exact validV_raise hv hd
theorem r2RaiseO_any (l : List DotD) (d : DotD) (v : Value) (w : World) (h : Arr DotR 2 w v l) (hv : validV l = true) (hd : validDotD d = true) (hl : l.length ≤ 1000000) :
  Calls Tryz.prog 202 #[v, dotV d] w fun e w' => ∃ v', e = .returned v' ∧ Arr DotR 2 w' v' (raiseR l d) ∧ (v' = v ∨ EDot.Row w.heap.size w' v' (raiseR l d)) ∧ Below w.heap.size w w' := by
 have hn := h.len
 have HA := Hd h
 obtain ⟨W1, hW1⟩ : ∃ W1, W1 = w.alloc (.cells #[.int .i64 d.rep, .int .i64 d.ctr] 30) := ⟨_, rfl⟩
 have hb1 : Below w.heap.size w W1 := by rw [hW1]; exact bal
 have hg1 : W1.heap[w.heap.size]? = some (.cells #[.int .i64 d.rep, .int .i64 d.ctr] 30) := by rw [hW1]; exact alloc_new _ _
 have HD : Hid (∀ wz, Below W1.heap.size W1 wz → wz.cell? ⟨w.heap.size, 0, none⟩ = some (.int .i64 d.rep) ∧ wz.cell? ⟨w.heap.size, 1, none⟩ = some (.int .i64 d.ctr)) := Hd (fun wz hz => ⟨by rw [hz.cell (p := ⟨w.heap.size, 0, none⟩) (lt_of_heap hg1), cell0 hg1 0]; rfl, by rw [hz.cell (p := ⟨w.heap.size, 1, none⟩) (lt_of_heap hg1), cell0 hg1 1]; rfl⟩)
 have HH := Hd (r2Has_any l d v W1 (h.dots hb1))
 have HRAI : Hid (raiseR l d = if hasV l d then l else raise1 l d) := Hd rfl
 have HEND : Hid (hasV l d = false → endZ d (l.foldl (stepZ d) ([], false)) = raiseR l d) := Hd (fun h => endZ_raise (validV_parts hv).2 hd h)
 have HDI : Hid (∀ y ∈ raiseR l d, DI y) := Hd (fun y hy => DI_valid (List.all_eq_true.1 (validV_parts (raiseR_valid hv hd)).1 y hy))
 have HB1 := Hd hb1
 have HW := Hd hW1
 obtain ⟨o, c, rfl, hel⟩ := h.dotAt
 have HEL := Hd hel
 have HSZ : Hid (W1.heap.size = w.heap.size + 1) := Hd (by rw [hW1, alloc_size])
 unfold dotV at HH ⊢
 clear hel h hg1 hb1 hW1 hv hd
 obtain ⟨r, hr⟩ : ∃ r, r = hasV l d := ⟨_, rfl⟩
 rw [← hr] at HH HRAI HEND
 clear hr
 obtain ⟨g1, g2⟩ := HD.out W1 brf
 go_enter Tryz.func202, Tryz.ntmps202
 go_wp2_with fail
 rw [← HW.out]
 refine HH.out.mono ?_
 rintro e wb ⟨rfl, hbb⟩
 have HBB := Hd hbb
 clear hbb g1 g2 HH
 cases r with
 | true =>
  have HF := Hd (HA.out.dots (HB1.out.trans (HBB.out.mono HB1.out.size)))
  go_wp2_with fail
  go_ret
  exact ⟨_, rfl, by rw [HRAI.out]; exact HF.out, Or.inl rfl, HB1.out.trans (HBB.out.mono HB1.out.size)⟩
 | false =>
  go_wp2_with fail
  go_loopw [5, 6, 7] (fun ov bv i wr => ∃ k : Nat, k ≤ l.length ∧ i = .int .i64 k ∧ bv = .bool ((l.take k).foldl (stepZ d) ([], false)).2 ∧ EDot.Row W1.heap.size wr ov ((l.take k).foldl (stepZ d) ([], false)).1 ∧ ((l.take k).foldl (stepZ d) ([], false)).1.length ≤ 2 * k ∧ Below W1.heap.size W1 wr) (fun _ _ i _ => l.length - (intOf i).toNat)
  case atStart => exact ⟨0, Nat.zero_le _, rfl, rfl, Enc.Row.nil _ _, Nat.le_refl _, HBB.out⟩
  case round =>
   obtain ⟨k, hk, rfl, rfl, hrow, hle, hB⟩ := hrel
   have HROW := Hd hrow
   have HB := Hd hB
   clear hrow hB
   by_cases hlt : k < l.length
   ·obtain ⟨b, off, rfl, hbl, e0, e1⟩ := HEL.out k hlt
    have HST0 : Hid ((l.take (k + 1)).foldl (stepZ d) ([], false) = stepZ d ((l.take k).foldl (stepZ d) ([], false)) l[k]) := Hd (by rw [List.take_succ_eq_append_getElem hlt, List.foldl_append]; rfl)
    have HCX : Hid (∀ wz, Below W1.heap.size W1 wz → wz.cell? ⟨b, off + k * 2, none⟩ = some (.int .i64 l[k].rep) ∧ wz.cell? ⟨b, off + k * 2 + 1, none⟩ = some (.int .i64 l[k].ctr) ∧ wz.cell? ⟨w.heap.size, 0, none⟩ = some (.int .i64 d.rep) ∧ wz.cell? ⟨w.heap.size, 1, none⟩ = some (.int .i64 d.ctr)) := Hd (fun wz hz => by
     have h2 := btr HB1.out hz
     exact ⟨by rw [h2.cell (p := ⟨_, _, _⟩) hbl]; exact e0, by rw [h2.cell (p := ⟨_, _, _⟩) hbl]; exact e1, (HD.out wz hz).1, (HD.out wz hz).2⟩)
    obtain ⟨s, hs⟩ : ∃ s, s = (l.take k).foldl (stepZ d) ([], false) := ⟨_, rfl⟩
    rw [← hs] at HST0 HROW hle ⊢
    obtain ⟨e1s, e2s⟩ := s
    simp only at HROW hle ⊢
    obtain ⟨oo, oc, rfl⟩ := HROW.out.slice
    clear hs e0 e1
    generalize l[k] = x at *
    have a0 : (0 : Int) ≤ k := by omega
    have a1 : (k : Int) < l.length := by omega
    have hkw := wr1 k (by omega)
    have hszw := HSZ.out
    cases e2s with
    | true =>
     by_cases q2 : x.rep = d.rep
     ·have t2 : (x.rep == d.rep) = true := beq_iff_eq.2 q2
      have t3 : (x.rep != d.rep) = false := by rw [bne, t2]; rfl
      have HST : Hid ((l.take (k + 1)).foldl (stepZ d) ([], false) = (e1s, true)) := Hd (by
       rw [HST0.out]; unfold stepZ
       rw [if_neg (by simp), if_pos q2]; simp)
      clear HST0 q2
      go_upto_region 8 with fail
      refine NQ.to ?_
      refine wp_region_held_drew (S := (fun wz => wz.cell? ⟨b, off + k * 2, none⟩ = some (.int .i64 x.rep) ∧ wz.cell? ⟨b, off + k * 2 + 1, none⟩ = some (.int .i64 x.ctr) ∧ wz.cell? ⟨w.heap.size, 0, none⟩ = some (.int .i64 d.rep) ∧ wz.cell? ⟨w.heap.size, 1, none⟩ = some (.int .i64 d.ctr))) (by kernel_rfl) (HCX.out _ (below_drew1 HB.out)) (fun hS => ?_)
      refine tkR (n := 12) [0, 1, 2, 3, 4, 5, 6, 7, 8, 9, 10, 11] rfl (by decide +kernel) hS ?_
      iterate 3 ((try simp only [Act.put, s1, s2, s3, s4, s5, s6]); refine ⟨_, ?_, rfl, Or.inl ⟨by kernel_rfl, fun w hSw => ok_of fun z hz => ?_⟩, ?_⟩; rotate_left; · (go_simp; exact hz))
      iterate 8 ((try simp only [Act.put, s1, s2, s3, s4, s5, s6]); refine ⟨_, undef, rfl, Or.inr ⟨by kernel_rfl, rfl⟩, ?_⟩)
      ((try simp only [Act.put, s1, s2, s3, s4, s5, s6]); refine ⟨_, ?_, rfl, Or.inl ⟨by kernel_rfl, fun w hSw => ok_of fun z hz => ?_⟩, ?_⟩; rotate_left; · (go_simp; exact hz))
      refine RunOK.done ?_
      try simp only [Act.put, s1, s2, s3, s4, s5, s6]
      refine wpAnyH_done (by kernel_rfl) ?_ _
      try simp only [Act.put, s1, s2, s3, s4, s5, s6]
      simp only [NQ]
      clear hS
      have HB1 := Hd (below_drew1 HB.out)
      have HR1 := Hd (HROW.out.below bdr)
      generalize wr.drew = wq at *
      obtain ⟨z1, z2, z3, z4⟩ := HCX.out _ HB1.out
      go_upto_region 11 with fail
      refine NQ.to ?_
      refine wp_region_held_drew (S := (fun wz => wz.cell? ⟨b, off + k * 2, none⟩ = some (.int .i64 x.rep) ∧ wz.cell? ⟨b, off + k * 2 + 1, none⟩ = some (.int .i64 x.ctr) ∧ wz.cell? ⟨w.heap.size, 0, none⟩ = some (.int .i64 d.rep) ∧ wz.cell? ⟨w.heap.size, 1, none⟩ = some (.int .i64 d.ctr))) (by kernel_rfl) (HCX.out _ (below_drew1 HB1.out)) (fun hS => ?_)
      refine tkR (n := 8) [0, 1, 2, 3, 4, 5, 6, 7] rfl (by decide +kernel) hS ?_
      iterate 8 ((try simp only [Act.put, s1, s2, s3, s4, s5, s6]); refine ⟨_, ?_, rfl, Or.inl ⟨by kernel_rfl, fun w hSw => ok_of fun z hz => ?_⟩, ?_⟩; rotate_left; · (obtain ⟨f1, f2, f3, f4⟩ := hSw; go_simp; exact hz))
      refine RunOK.done ?_
      try simp only [Act.put, s1, s2, s3, s4, s5, s6]
      refine wpAnyH_done (by kernel_rfl) ?_ _
      try simp only [Act.put, s1, s2, s3, s4, s5, s6]
      simp only [NQ]
      clear hS
      have HB3 := Hd (below_drew1 HB1.out)
      have HR3 := Hd (HR1.out.below bdr)
      generalize wq.drew = wp at *
      clear z1 z2 z3 z4
      obtain ⟨z1, z2, z3, z4⟩ := HCX.out _ HB3.out
      clear z1 z2 z3 z4
      go_wp2_with fail
      exact ⟨⟨k + 1, by omega, by go_num, by rw [HST.out], by rw [HST.out]; exact HR3.out, by rw [HST.out]; simp; omega, HB3.out⟩, by simp [intOf]; omega⟩
     ·have t2 : (x.rep == d.rep) = false := beq_eq_false_iff_ne.2 q2
      have t3 : (x.rep != d.rep) = true := by rw [bne, t2]; rfl
      have HST : Hid ((l.take (k + 1)).foldl (stepZ d) ([], false) = (e1s ++ [x], true)) := Hd (by
       rw [HST0.out]; unfold stepZ
       rw [if_neg (by simp), if_neg q2]; simp)
      clear HST0 q2
      go_upto_region 8 with fail
      refine NQ.to ?_
      refine wp_region_held_drew (S := (fun wz => wz.cell? ⟨b, off + k * 2, none⟩ = some (.int .i64 x.rep) ∧ wz.cell? ⟨b, off + k * 2 + 1, none⟩ = some (.int .i64 x.ctr) ∧ wz.cell? ⟨w.heap.size, 0, none⟩ = some (.int .i64 d.rep) ∧ wz.cell? ⟨w.heap.size, 1, none⟩ = some (.int .i64 d.ctr))) (by kernel_rfl) (HCX.out _ (below_drew1 HB.out)) (fun hS => ?_)
      refine tkR (n := 12) [0, 1, 2, 3, 4, 5, 6, 7, 8, 9, 10, 11] rfl (by decide +kernel) hS ?_
      iterate 3 ((try simp only [Act.put, s1, s2, s3, s4, s5, s6]); refine ⟨_, ?_, rfl, Or.inl ⟨by kernel_rfl, fun w hSw => ok_of fun z hz => ?_⟩, ?_⟩; rotate_left; · (go_simp; exact hz))
      iterate 8 ((try simp only [Act.put, s1, s2, s3, s4, s5, s6]); refine ⟨_, undef, rfl, Or.inr ⟨by kernel_rfl, rfl⟩, ?_⟩)
      ((try simp only [Act.put, s1, s2, s3, s4, s5, s6]); refine ⟨_, ?_, rfl, Or.inl ⟨by kernel_rfl, fun w hSw => ok_of fun z hz => ?_⟩, ?_⟩; rotate_left; · (go_simp; exact hz))
      refine RunOK.done ?_
      try simp only [Act.put, s1, s2, s3, s4, s5, s6]
      refine wpAnyH_done (by kernel_rfl) ?_ _
      try simp only [Act.put, s1, s2, s3, s4, s5, s6]
      simp only [NQ]
      clear hS
      have HB1 := Hd (below_drew1 HB.out)
      have HR1 := Hd (HROW.out.below bdr)
      generalize wr.drew = wq at *
      obtain ⟨z1, z2, z3, z4⟩ := HCX.out _ HB1.out
      go_upto_region 11 with fail
      refine NQ.to ?_
      refine wp_region_held_drew (S := (fun wz => wz.cell? ⟨b, off + k * 2, none⟩ = some (.int .i64 x.rep) ∧ wz.cell? ⟨b, off + k * 2 + 1, none⟩ = some (.int .i64 x.ctr) ∧ wz.cell? ⟨w.heap.size, 0, none⟩ = some (.int .i64 d.rep) ∧ wz.cell? ⟨w.heap.size, 1, none⟩ = some (.int .i64 d.ctr))) (by kernel_rfl) (HCX.out _ (below_drew1 HB1.out)) (fun hS => ?_)
      refine tkR (n := 8) [0, 1, 2, 3, 4, 5, 6, 7] rfl (by decide +kernel) hS ?_
      iterate 8 ((try simp only [Act.put, s1, s2, s3, s4, s5, s6]); refine ⟨_, ?_, rfl, Or.inl ⟨by kernel_rfl, fun w hSw => ok_of fun z hz => ?_⟩, ?_⟩; rotate_left; · (obtain ⟨f1, f2, f3, f4⟩ := hSw; go_simp; exact hz))
      refine RunOK.done ?_
      try simp only [Act.put, s1, s2, s3, s4, s5, s6]
      refine wpAnyH_done (by kernel_rfl) ?_ _
      try simp only [Act.put, s1, s2, s3, s4, s5, s6]
      simp only [NQ]
      clear hS
      have HB3 := Hd (below_drew1 HB1.out)
      have HR3 := Hd (HR1.out.below bdr)
      generalize wq.drew = wp at *
      clear z1 z2 z3 z4
      obtain ⟨z1, z2, z3, z4⟩ := HCX.out _ HB3.out
      obtain ⟨Wz, hWz⟩ : ∃ Wz, Wz = wp.alloc (.cells #[.int .i64 x.rep, .int .i64 x.ctr] 30) := ⟨_, rfl⟩
      have hbz : Below wp.heap.size wp Wz := by rw [hWz]; exact bal
      have HRz := Hd (HR3.out.below hbz)
      have HSz : Hid (Enc.Src EDot Wz (.slice (some ⟨wp.heap.size, 0, none⟩) 1 1) [x]) := Hd (by rw [hWz]; exact Enc.Src.one_lit wp 30 x)
      have HBz := Hd (btr HB3.out hbz)
      have hszz : W1.heap.size ≤ Wz.heap.size := HBz.out.size
      have HWz := Hd hWz
      clear hbz hWz
      go_wp2_with (at_builtin; go_loud (rw [← HWz.out]); go_loud (refine wpList_append_row rfl _ _ 23 rfl EDot W1.heap.size (.agg #[.int .i64 0, .int .i64 0]) 16 Tryz.underlying23 infoDot (by decide) (by decide) _ _ rfl HRz.out _ _ rfl HSz.out (by first | omega | (simp; omega)) hszz ?_); intro v9 w9 hown hgr)
      have HR4 : Hid (EDot.Row W1.heap.size w9 v9 (e1s ++ [x])) := Hd hown
      have HB4 := Hd (HBz.out.grown hgr hszz (fun j hj => (HRz.out.lt _ hj).1))
      clear hown hgr HRz HSz HWz HBz
      clear z1 z2 z3 z4
      go_roundw
      case rel => exact ⟨k + 1, by omega, by go_num, by rw [HST.out], by rw [HST.out]; exact HR4.out, by rw [HST.out]; simp; omega, HB4.out⟩
      case measure => simp [intOf]; omega
    | false =>
     by_cases q1 : d.rep ≤ x.rep
     ·have t1 : decide (d.rep ≤ x.rep) = true := decide_eq_true q1
      by_cases q2 : x.rep = d.rep
      ·have t2 : (x.rep == d.rep) = true := beq_iff_eq.2 q2
       have t3 : (x.rep != d.rep) = false := by rw [bne, t2]; rfl
       have HST : Hid ((l.take (k + 1)).foldl (stepZ d) ([], false) = (e1s ++ [d], true)) := Hd (by
        rw [HST0.out]; unfold stepZ
        rw [if_pos ⟨rfl, q1⟩, if_pos q2, decide_eq_true q1]; simp)
       clear HST0 q1 q2
       go_upto_region 8 with fail
       refine NQ.to ?_
       refine wp_region_held_drew (S := (fun wz => wz.cell? ⟨b, off + k * 2, none⟩ = some (.int .i64 x.rep) ∧ wz.cell? ⟨b, off + k * 2 + 1, none⟩ = some (.int .i64 x.ctr) ∧ wz.cell? ⟨w.heap.size, 0, none⟩ = some (.int .i64 d.rep) ∧ wz.cell? ⟨w.heap.size, 1, none⟩ = some (.int .i64 d.ctr))) (by kernel_rfl) (HCX.out _ (below_drew1 HB.out)) (fun hS => ?_)
       refine tkR (n := 12) [0, 1, 2, 3, 4, 5, 6, 7, 8, 9, 10, 11] rfl (by decide +kernel) hS ?_
       iterate 12 ((try simp only [Act.put, s1, s2, s3, s4, s5, s6]); refine ⟨_, ?_, rfl, Or.inl ⟨by kernel_rfl, fun w hSw => ok_of fun z hz => ?_⟩, ?_⟩; rotate_left; · (obtain ⟨f1, f2, f3, f4⟩ := hSw; go_simp; exact hz))
       refine RunOK.done ?_
       try simp only [Act.put, s1, s2, s3, s4, s5, s6]
       refine wpAnyH_done (by kernel_rfl) ?_ _
       try simp only [Act.put, s1, s2, s3, s4, s5, s6]
       simp only [NQ]
       clear hS
       have HB1 := Hd (below_drew1 HB.out)
       have HR1 := Hd (HROW.out.below bdr)
       generalize wr.drew = wq at *
       obtain ⟨z1, z2, z3, z4⟩ := HCX.out _ HB1.out
       obtain ⟨Wz, hWz⟩ : ∃ Wz, Wz = wq.alloc (.cells #[.int .i64 d.rep, .int .i64 d.ctr] 30) := ⟨_, rfl⟩
       have hbz : Below wq.heap.size wq Wz := by rw [hWz]; exact bal
       have HRz := Hd (HR1.out.below hbz)
       have HSz : Hid (Enc.Src EDot Wz (.slice (some ⟨wq.heap.size, 0, none⟩) 1 1) [d]) := Hd (by rw [hWz]; exact Enc.Src.one_lit wq 30 d)
       have HBz := Hd (btr HB1.out hbz)
       have hszz : W1.heap.size ≤ Wz.heap.size := HBz.out.size
       have HWz := Hd hWz
       clear hbz hWz
       go_upto_region 11 with (at_builtin; go_loud (rw [← HWz.out]); go_loud (refine wpList_append_row rfl _ _ 23 rfl EDot W1.heap.size (.agg #[.int .i64 0, .int .i64 0]) 16 Tryz.underlying23 infoDot (by decide) (by decide) _ _ rfl HRz.out _ _ rfl HSz.out (by first | omega | (simp; omega)) hszz ?_); intro v8 w8 hown hgr)
       have HR2 : Hid (EDot.Row W1.heap.size w8 v8 (e1s ++ [d])) := Hd hown
       have HB2 := Hd (HBz.out.grown hgr hszz (fun j hj => (HRz.out.lt _ hj).1))
       clear hown hgr HRz HSz HWz HBz
       obtain ⟨oo2, oc2, rfl⟩ := HR2.out.slice
       refine NQ.to ?_
       refine wp_region_held_drew (S := (fun wz => wz.cell? ⟨b, off + k * 2, none⟩ = some (.int .i64 x.rep) ∧ wz.cell? ⟨b, off + k * 2 + 1, none⟩ = some (.int .i64 x.ctr) ∧ wz.cell? ⟨w.heap.size, 0, none⟩ = some (.int .i64 d.rep) ∧ wz.cell? ⟨w.heap.size, 1, none⟩ = some (.int .i64 d.ctr))) (by kernel_rfl) (HCX.out _ (below_drew1 HB2.out)) (fun hS => ?_)
       refine tkR (n := 8) [0, 1, 2, 3, 4, 5, 6, 7] rfl (by decide +kernel) hS ?_
       iterate 8 ((try simp only [Act.put, s1, s2, s3, s4, s5, s6]); refine ⟨_, ?_, rfl, Or.inl ⟨by kernel_rfl, fun w hSw => ok_of fun z hz => ?_⟩, ?_⟩; rotate_left; · (obtain ⟨f1, f2, f3, f4⟩ := hSw; go_simp; exact hz))
       refine RunOK.done ?_
       try simp only [Act.put, s1, s2, s3, s4, s5, s6]
       refine wpAnyH_done (by kernel_rfl) ?_ _
       try simp only [Act.put, s1, s2, s3, s4, s5, s6]
       simp only [NQ]
       clear hS
       have HB3 := Hd (below_drew1 HB2.out)
       have HR3 := Hd (HR2.out.below bdr)
       generalize w8.drew = wp at *
       clear z1 z2 z3 z4
       obtain ⟨z1, z2, z3, z4⟩ := HCX.out _ HB3.out
       clear z1 z2 z3 z4
       go_wp2_with fail
       exact ⟨⟨k + 1, by omega, by go_num, by rw [HST.out], by rw [HST.out]; exact HR3.out, by rw [HST.out]; simp; omega, HB3.out⟩, by simp [intOf]; omega⟩
      ·have t2 : (x.rep == d.rep) = false := beq_eq_false_iff_ne.2 q2
       have t3 : (x.rep != d.rep) = true := by rw [bne, t2]; rfl
       have HST : Hid ((l.take (k + 1)).foldl (stepZ d) ([], false) = (e1s ++ [d] ++ [x], true)) := Hd (by
        rw [HST0.out]; unfold stepZ
        rw [if_pos ⟨rfl, q1⟩, if_neg q2, decide_eq_true q1]; simp)
       clear HST0 q1 q2
       go_upto_region 8 with fail
       refine NQ.to ?_
       refine wp_region_held_drew (S := (fun wz => wz.cell? ⟨b, off + k * 2, none⟩ = some (.int .i64 x.rep) ∧ wz.cell? ⟨b, off + k * 2 + 1, none⟩ = some (.int .i64 x.ctr) ∧ wz.cell? ⟨w.heap.size, 0, none⟩ = some (.int .i64 d.rep) ∧ wz.cell? ⟨w.heap.size, 1, none⟩ = some (.int .i64 d.ctr))) (by kernel_rfl) (HCX.out _ (below_drew1 HB.out)) (fun hS => ?_)
       refine tkR (n := 12) [0, 1, 2, 3, 4, 5, 6, 7, 8, 9, 10, 11] rfl (by decide +kernel) hS ?_
       iterate 12 ((try simp only [Act.put, s1, s2, s3, s4, s5, s6]); refine ⟨_, ?_, rfl, Or.inl ⟨by kernel_rfl, fun w hSw => ok_of fun z hz => ?_⟩, ?_⟩; rotate_left; · (obtain ⟨f1, f2, f3, f4⟩ := hSw; go_simp; exact hz))
       refine RunOK.done ?_
       try simp only [Act.put, s1, s2, s3, s4, s5, s6]
       refine wpAnyH_done (by kernel_rfl) ?_ _
       try simp only [Act.put, s1, s2, s3, s4, s5, s6]
       simp only [NQ]
       clear hS
       have HB1 := Hd (below_drew1 HB.out)
       have HR1 := Hd (HROW.out.below bdr)
       generalize wr.drew = wq at *
       obtain ⟨z1, z2, z3, z4⟩ := HCX.out _ HB1.out
       obtain ⟨Wz, hWz⟩ : ∃ Wz, Wz = wq.alloc (.cells #[.int .i64 d.rep, .int .i64 d.ctr] 30) := ⟨_, rfl⟩
       have hbz : Below wq.heap.size wq Wz := by rw [hWz]; exact bal
       have HRz := Hd (HR1.out.below hbz)
       have HSz : Hid (Enc.Src EDot Wz (.slice (some ⟨wq.heap.size, 0, none⟩) 1 1) [d]) := Hd (by rw [hWz]; exact Enc.Src.one_lit wq 30 d)
       have HBz := Hd (btr HB1.out hbz)
       have hszz : W1.heap.size ≤ Wz.heap.size := HBz.out.size
       have HWz := Hd hWz
       clear hbz hWz
       go_upto_region 11 with (at_builtin; go_loud (rw [← HWz.out]); go_loud (refine wpList_append_row rfl _ _ 23 rfl EDot W1.heap.size (.agg #[.int .i64 0, .int .i64 0]) 16 Tryz.underlying23 infoDot (by decide) (by decide) _ _ rfl HRz.out _ _ rfl HSz.out (by first | omega | (simp; omega)) hszz ?_); intro v8 w8 hown hgr)
       have HR2 : Hid (EDot.Row W1.heap.size w8 v8 (e1s ++ [d])) := Hd hown
       have HB2 := Hd (HBz.out.grown hgr hszz (fun j hj => (HRz.out.lt _ hj).1))
       clear hown hgr HRz HSz HWz HBz
       obtain ⟨oo2, oc2, rfl⟩ := HR2.out.slice
       refine NQ.to ?_
       refine wp_region_held_drew (S := (fun wz => wz.cell? ⟨b, off + k * 2, none⟩ = some (.int .i64 x.rep) ∧ wz.cell? ⟨b, off + k * 2 + 1, none⟩ = some (.int .i64 x.ctr) ∧ wz.cell? ⟨w.heap.size, 0, none⟩ = some (.int .i64 d.rep) ∧ wz.cell? ⟨w.heap.size, 1, none⟩ = some (.int .i64 d.ctr))) (by kernel_rfl) (HCX.out _ (below_drew1 HB2.out)) (fun hS => ?_)
       refine tkR (n := 8) [0, 1, 2, 3, 4, 5, 6, 7] rfl (by decide +kernel) hS ?_
       iterate 8 ((try simp only [Act.put, s1, s2, s3, s4, s5, s6]); refine ⟨_, ?_, rfl, Or.inl ⟨by kernel_rfl, fun w hSw => ok_of fun z hz => ?_⟩, ?_⟩; rotate_left; · (obtain ⟨f1, f2, f3, f4⟩ := hSw; go_simp; exact hz))
       refine RunOK.done ?_
       try simp only [Act.put, s1, s2, s3, s4, s5, s6]
       refine wpAnyH_done (by kernel_rfl) ?_ _
       try simp only [Act.put, s1, s2, s3, s4, s5, s6]
       simp only [NQ]
       clear hS
       have HB3 := Hd (below_drew1 HB2.out)
       have HR3 := Hd (HR2.out.below bdr)
       generalize w8.drew = wp at *
       clear z1 z2 z3 z4
       obtain ⟨z1, z2, z3, z4⟩ := HCX.out _ HB3.out
       obtain ⟨Wz, hWz⟩ : ∃ Wz, Wz = wp.alloc (.cells #[.int .i64 x.rep, .int .i64 x.ctr] 30) := ⟨_, rfl⟩
       have hbz : Below wp.heap.size wp Wz := by rw [hWz]; exact bal
       have HRz := Hd (HR3.out.below hbz)
       have HSz : Hid (Enc.Src EDot Wz (.slice (some ⟨wp.heap.size, 0, none⟩) 1 1) [x]) := Hd (by rw [hWz]; exact Enc.Src.one_lit wp 30 x)
       have HBz := Hd (btr HB3.out hbz)
       have hszz : W1.heap.size ≤ Wz.heap.size := HBz.out.size
       have HWz := Hd hWz
       clear hbz hWz
       go_wp2_with (at_builtin; go_loud (rw [← HWz.out]); go_loud (refine wpList_append_row rfl _ _ 23 rfl EDot W1.heap.size (.agg #[.int .i64 0, .int .i64 0]) 16 Tryz.underlying23 infoDot (by decide) (by decide) _ _ rfl HRz.out _ _ rfl HSz.out (by first | omega | (simp; omega)) hszz ?_); intro v9 w9 hown hgr)
       have HR4 : Hid (EDot.Row W1.heap.size w9 v9 ((e1s ++ [d]) ++ [x])) := Hd hown
       have HB4 := Hd (HBz.out.grown hgr hszz (fun j hj => (HRz.out.lt _ hj).1))
       clear hown hgr HRz HSz HWz HBz
       clear z1 z2 z3 z4
       go_roundw
       case rel => exact ⟨k + 1, by omega, by go_num, by rw [HST.out], by rw [HST.out]; exact HR4.out, by rw [HST.out]; simp; omega, HB4.out⟩
       case measure => simp [intOf]; omega
     ·have t1 : decide (d.rep ≤ x.rep) = false := decide_eq_false q1
      have q2 : ¬ x.rep = d.rep := by omega
      have t2 : (x.rep == d.rep) = false := beq_eq_false_iff_ne.2 q2
      have t3 : (x.rep != d.rep) = true := by rw [bne, t2]; rfl
      have HST : Hid ((l.take (k + 1)).foldl (stepZ d) ([], false) = (e1s ++ [x], false)) := Hd (by
       rw [HST0.out]; unfold stepZ
       rw [if_neg (by simp; omega), if_neg q2, decide_eq_false q1]; simp)
      clear HST0 q1 q2
      go_upto_region 8 with fail
      refine NQ.to ?_
      refine wp_region_held_drew (S := (fun wz => wz.cell? ⟨b, off + k * 2, none⟩ = some (.int .i64 x.rep) ∧ wz.cell? ⟨b, off + k * 2 + 1, none⟩ = some (.int .i64 x.ctr) ∧ wz.cell? ⟨w.heap.size, 0, none⟩ = some (.int .i64 d.rep) ∧ wz.cell? ⟨w.heap.size, 1, none⟩ = some (.int .i64 d.ctr))) (by kernel_rfl) (HCX.out _ (below_drew1 HB.out)) (fun hS => ?_)
      refine tkR (n := 12) [0, 1, 2, 3, 4, 5, 6, 7, 8, 9, 10, 11] rfl (by decide +kernel) hS ?_
      iterate 12 ((try simp only [Act.put, s1, s2, s3, s4, s5, s6]); refine ⟨_, ?_, rfl, Or.inl ⟨by kernel_rfl, fun w hSw => ok_of fun z hz => ?_⟩, ?_⟩; rotate_left; · (obtain ⟨f1, f2, f3, f4⟩ := hSw; go_simp; exact hz))
      refine RunOK.done ?_
      try simp only [Act.put, s1, s2, s3, s4, s5, s6]
      refine wpAnyH_done (by kernel_rfl) ?_ _
      try simp only [Act.put, s1, s2, s3, s4, s5, s6]
      simp only [NQ]
      clear hS
      have HB1 := Hd (below_drew1 HB.out)
      have HR1 := Hd (HROW.out.below bdr)
      generalize wr.drew = wq at *
      obtain ⟨z1, z2, z3, z4⟩ := HCX.out _ HB1.out
      go_upto_region 11 with fail
      refine NQ.to ?_
      refine wp_region_held_drew (S := (fun wz => wz.cell? ⟨b, off + k * 2, none⟩ = some (.int .i64 x.rep) ∧ wz.cell? ⟨b, off + k * 2 + 1, none⟩ = some (.int .i64 x.ctr) ∧ wz.cell? ⟨w.heap.size, 0, none⟩ = some (.int .i64 d.rep) ∧ wz.cell? ⟨w.heap.size, 1, none⟩ = some (.int .i64 d.ctr))) (by kernel_rfl) (HCX.out _ (below_drew1 HB1.out)) (fun hS => ?_)
      refine tkR (n := 8) [0, 1, 2, 3, 4, 5, 6, 7] rfl (by decide +kernel) hS ?_
      iterate 8 ((try simp only [Act.put, s1, s2, s3, s4, s5, s6]); refine ⟨_, ?_, rfl, Or.inl ⟨by kernel_rfl, fun w hSw => ok_of fun z hz => ?_⟩, ?_⟩; rotate_left; · (obtain ⟨f1, f2, f3, f4⟩ := hSw; go_simp; exact hz))
      refine RunOK.done ?_
      try simp only [Act.put, s1, s2, s3, s4, s5, s6]
      refine wpAnyH_done (by kernel_rfl) ?_ _
      try simp only [Act.put, s1, s2, s3, s4, s5, s6]
      simp only [NQ]
      clear hS
      have HB3 := Hd (below_drew1 HB1.out)
      have HR3 := Hd (HR1.out.below bdr)
      generalize wq.drew = wp at *
      clear z1 z2 z3 z4
      obtain ⟨z1, z2, z3, z4⟩ := HCX.out _ HB3.out
      obtain ⟨Wz, hWz⟩ : ∃ Wz, Wz = wp.alloc (.cells #[.int .i64 x.rep, .int .i64 x.ctr] 30) := ⟨_, rfl⟩
      have hbz : Below wp.heap.size wp Wz := by rw [hWz]; exact bal
      have HRz := Hd (HR3.out.below hbz)
      have HSz : Hid (Enc.Src EDot Wz (.slice (some ⟨wp.heap.size, 0, none⟩) 1 1) [x]) := Hd (by rw [hWz]; exact Enc.Src.one_lit wp 30 x)
      have HBz := Hd (btr HB3.out hbz)
      have hszz : W1.heap.size ≤ Wz.heap.size := HBz.out.size
      have HWz := Hd hWz
      clear hbz hWz
      go_wp2_with (at_builtin; go_loud (rw [← HWz.out]); go_loud (refine wpList_append_row rfl _ _ 23 rfl EDot W1.heap.size (.agg #[.int .i64 0, .int .i64 0]) 16 Tryz.underlying23 infoDot (by decide) (by decide) _ _ rfl HRz.out _ _ rfl HSz.out (by first | omega | (simp; omega)) hszz ?_); intro v9 w9 hown hgr)
      have HR4 : Hid (EDot.Row W1.heap.size w9 v9 (e1s ++ [x])) := Hd hown
      have HB4 := Hd (HBz.out.grown hgr hszz (fun j hj => (HRz.out.lt _ hj).1))
      clear hown hgr HRz HSz HWz HBz
      clear z1 z2 z3 z4
      go_roundw
      case rel => exact ⟨k + 1, by omega, by go_num, by rw [HST.out], by rw [HST.out]; exact HR4.out, by rw [HST.out]; simp; omega, HB4.out⟩
      case measure => simp [intOf]; omega
   ·have hke : k = l.length := by omega
    have HTK : Hid (l.take k = l) := Hd (by rw [hke, List.take_length])
    rw [HTK.out] at HROW hle ⊢
    have HE := Hd (by first | exact HEND.out rfl | exact HEND.out trivial)
    clear HTK HEND
    obtain ⟨s, hs⟩ : ∃ s, s = l.foldl (stepZ d) ([], false) := ⟨_, rfl⟩
    rw [← hs] at HROW hle HE ⊢
    obtain ⟨e1s, e2s⟩ := s
    simp only at HROW hle ⊢
    obtain ⟨oo, oc, rfl⟩ := HROW.out.slice
    clear hs
    have a1 : ¬ ((k : Int) < l.length) := by omega
    cases e2s with
    | true =>
     have e2 : raiseR l d = e1s := HE.out.symm
     have HE2 := Hd e2
     clear e2
     go_wp2_with fail
     go_ret
     exact ⟨_, rfl, by have := HDI.out; rw [HE2.out] at this ⊢; exact HROW.out.dots this, Or.inr (by rw [HE2.out]; exact HROW.out.mono (by have := HSZ.out; omega)), HB1.out.trans (HB.out.mono HB1.out.size)⟩
    | false =>
     have e2 : raiseR l d = e1s ++ [d] := HE.out.symm
     have HE2 := Hd e2
     clear e2
     obtain ⟨z3, z4⟩ := HD.out _ HB.out
     obtain ⟨Wz, hWz⟩ : ∃ Wz, Wz = wr.alloc (.cells #[.int .i64 d.rep, .int .i64 d.ctr] 30) := ⟨_, rfl⟩
     have hbz : Below wr.heap.size wr Wz := by rw [hWz]; exact bal
     have HRz := Hd (HROW.out.below hbz)
     have HSz : Hid (Enc.Src EDot Wz (.slice (some ⟨wr.heap.size, 0, none⟩) 1 1) [d]) := Hd (by rw [hWz]; exact Enc.Src.one_lit wr 30 d)
     have HBz := Hd (btr HB.out hbz)
     have hszz : W1.heap.size ≤ Wz.heap.size := HBz.out.size
     have HWz := Hd hWz
     clear hbz hWz
     go_wp2_with (at_builtin; go_loud (rw [← HWz.out]); go_loud (refine wpList_append_row rfl _ _ 23 rfl EDot W1.heap.size (.agg #[.int .i64 0, .int .i64 0]) 16 Tryz.underlying23 infoDot (by decide) (by decide) _ _ rfl HRz.out _ _ rfl HSz.out (by first | omega | (simp; omega)) hszz ?_); intro v9 w9 hown hgr)
     have HR4 : Hid (EDot.Row W1.heap.size w9 v9 (e1s ++ [d])) := Hd hown
     have HB4 := Hd (HBz.out.grown hgr hszz (fun j hj => (HRz.out.lt _ hj).1))
     clear hown hgr HRz HSz HWz HBz
     obtain ⟨o9, c9, rfl⟩ := HR4.out.slice
     go_ret
     exact ⟨_, rfl, by have := HDI.out; rw [HE2.out] at this ⊢; exact HR4.out.dots this, Or.inr (by rw [HE2.out]; exact HR4.out.mono (by have := HSZ.out; omega)), HB1.out.trans (HB4.out.mono HB1.out.size)⟩
end Go.Proofs.YtfnfbcaoihhbpaaGreatDoor

