/- The reference's items: Equal, Find, has, Owner. -/
import Derived.Test.YtfnfbcaoihhbpaaGreatDoorDot2
import Derived.Test.YtfnfbcaoihhbpaaGreatDoorR1b
import Derived.Test.YtfnfbcaoihhbpaaGreatDoorIt6
import Derived.Test.YtfnfbcaoihhbpaaGreatDoorIt10
set_option linter.unusedSimpArgs false
set_option linter.unusedVariables false
set_option maxRecDepth 100000
set_option maxHeartbeats 4000000
namespace Go.Proofs.YtfnfbcaoihhbpaaGreatDoor
open Go.RowKit Go.Maps

theorem r8Valid_any (q : Int) (w : World) : Calls Tryz.prog 43 #[.int .i64 q] w fun e w' => e = .returned (.bool (validQ q)) ∧ w' = w := by
 go_enter Tryz.func43, Tryz.ntmps43
 by_cases h1 : 1 ≤ q
 ·have h1d : decide (1 ≤ q) = true := decide_eq_true h1
  have h1e : decide (0 < q) = true := decide_eq_true (by omega)
  by_cases h2 : q ≤ 2147483647
  ·have h2d : decide (q ≤ 2147483647) = true := decide_eq_true h2
   have HF : Hid (validQ q = true) := Hd (by unfold validQ; simp only [h1d, h2d, Bool.true_and, Bool.and_true, Bool.false_and]; try rfl)
   go_wp2_with fail
   go_ret
   exact ⟨by rw [HF.out]; rfl, rfl⟩
  ·have h2d : decide (q ≤ 2147483647) = false := decide_eq_false h2
   have HF : Hid (validQ q = false) := Hd (by unfold validQ; simp only [h1d, h2d, Bool.true_and, Bool.and_true, Bool.false_and]; try rfl)
   go_wp2_with fail
   go_ret
   exact ⟨by rw [HF.out]; rfl, rfl⟩
 ·have h1d : decide (1 ≤ q) = false := decide_eq_false h1
  have h1e : decide (0 < q) = false := decide_eq_false (by omega)
  have HF : Hid (validQ q = false) := Hd (by unfold validQ; simp only [h1d, Bool.true_and, Bool.and_true, Bool.false_and]; try rfl)
  go_wp2_with fail
  go_ret
  exact ⟨by rw [HF.out]; rfl, rfl⟩
theorem r8ValidMark_any (m : MarkD) (hm0 : 0 ≤ m.time) (w : World) : Calls Tryz.prog 238 #[markV m] w fun e w' => e = .returned (.bool (validMarkD m)) ∧ Below w.heap.size w w' := by
 have HV := Hd (fun wz => r1Valid_any m.dot wz)
 have HQ := Hd (fun wz => r8Valid_any m.qty wz)
 have HM : Hid (validMarkD m = (validDotD m.dot && validQ m.qty && decide (0 < m.time))) := Hd rfl
 unfold dotV at HV
 obtain ⟨rd, hrd⟩ : ∃ rd, rd = validDotD m.dot := ⟨_, rfl⟩
 obtain ⟨rq, hrq⟩ : ∃ rq, rq = validQ m.qty := ⟨_, rfl⟩
 rw [← hrd] at HV HM
 rw [← hrq] at HQ HM
 clear hrd hrq
 unfold markV
 have hb1 : Below w.heap.size w (w.alloc (.cells #[.int .i64 m.dot.rep, .int .i64 m.dot.ctr, .int .i64 m.qty, .int .u64 m.time] 55)) := bal
 have HB1 := Hd hb1
 obtain ⟨W1, hW1⟩ : ∃ W1, W1 = w.alloc (.cells #[.int .i64 m.dot.rep, .int .i64 m.dot.ctr, .int .i64 m.qty, .int .u64 m.time] 55) := ⟨_, rfl⟩
 have hg1 : W1.heap[w.heap.size]? = some (.cells #[.int .i64 m.dot.rep, .int .i64 m.dot.ctr, .int .i64 m.qty, .int .u64 m.time] 55) := by rw [hW1]; exact alloc_new _ _
 rw [← hW1] at HB1
 have HW := Hd hW1
 have hgl := lt_of_heap hg1
 have HF : Hid (∀ wz, Below W1.heap.size W1 wz → wz.cell? ⟨w.heap.size, 2, none⟩ = some (.int .i64 m.qty) ∧ wz.cell? ⟨w.heap.size, 3, none⟩ = some (.int .u64 m.time)) := Hd (fun wz hz => by
  constructor
  ·rw [hz.cell (p := ⟨w.heap.size, 2, none⟩) hgl, cell0 hg1 2]; rfl
  ·rw [hz.cell (p := ⟨w.heap.size, 3, none⟩) hgl, cell0 hg1 3]; rfl)
 clear hW1 hb1 hg1 hgl
 cases rd with
 | false =>
  go_enter Tryz.func238, Tryz.ntmps238
  go_wp2_with fail
  rw [← HW.out]
  refine (HV.out _).mono ?_
  rintro e w2 ⟨rfl, hb2⟩
  go_wp2_with fail
  go_ret
  exact ⟨by rw [HM.out]; rfl, btr HB1.out hb2⟩
 | true =>
  go_enter Tryz.func238, Tryz.ntmps238
  go_wp2_with fail
  rw [← HW.out]
  refine (HV.out _).mono ?_
  rintro e w2 ⟨rfl, hb2⟩
  obtain ⟨f2, f3⟩ := HF.out w2 hb2
  have HB2 := Hd (btr HB1.out hb2)
  clear hb2 HW HF
  go_wp2_with fail
  refine (HQ.out _).mono ?_
  rintro e w3 ⟨rfl, rfl⟩
  cases rq with
  | false =>
   go_wp2_with fail
   go_ret
   exact ⟨by rw [HM.out]; rfl, HB2.out⟩
  | true =>
   by_cases ht : 0 < m.time
   ·have t1 : decide (0 < m.time) = true := decide_eq_true ht
    have t2 : (m.time != 0) = true := by simp; omega
    have t3 : (m.time == 0) = false := by simp; omega
    go_wp2_with fail
    go_ret
    exact ⟨by rw [HM.out, t1]; rfl, HB2.out⟩
   ·have t1 : decide (0 < m.time) = false := decide_eq_false ht
    have t2 : (m.time != 0) = false := by simp; omega
    have t3 : (m.time == 0) = true := by simp; omega
    go_wp2_with fail
    go_ret
    exact ⟨by rw [HM.out, t1]; rfl, HB2.out⟩


theorem all_take_snoc {α : Type} (p : α → Bool) (l : List α) (k : Nat) (h : k < l.length) : (l.take (k + 1)).all p = ((l.take k).all p && p l[k]) := by
 rw [List.take_succ_eq_append_getElem h, List.all_append]; simp
theorem r8Marks_any (l : List MarkD) (v : Value) (w : World) (h : Arr MarkR 4 w v l) : Calls Tryz.prog 206 #[v] w fun e w' => e = .returned (.bool (l.all validMarkD)) ∧ Below w.heap.size w w' := by
 have hn := h.len
 have HMI := Hd h.marksMI
 obtain ⟨o, c, rfl, hel⟩ := h.markAt
 have HEL := Hd hel
 clear hel h
 go_enter Tryz.func206, Tryz.ntmps206
 go_wp2_with fail
 go_loopw [3] (fun i wr => ∃ k : Nat, k ≤ l.length ∧ i = .int .i64 k ∧ (l.take k).all validMarkD = true ∧ Below w.heap.size w wr) (fun i _ => l.length - (intOf i).toNat)
 case atStart => exact ⟨0, Nat.zero_le _, rfl, rfl, Below.refl _ _⟩
 case round =>
  obtain ⟨k, hk, rfl, hall, hB⟩ := hrel
  have HALL := Hd hall
  have HB := Hd hB
  clear hall hB
  by_cases hlt : k < l.length
  ·obtain ⟨b, off, rfl, hbl, e0, e1, e2, e3, -⟩ := HEL.out k hlt
   have c0 : wr.cell? ⟨b, off + k * 4, none⟩ = some (.int .i64 l[k].dot.rep) := by rw [HB.out.cell (p := ⟨_, _, _⟩) hbl]; exact e0
   have c1 : wr.cell? ⟨b, off + k * 4 + 1, none⟩ = some (.int .i64 l[k].dot.ctr) := by rw [HB.out.cell (p := ⟨_, _, _⟩) hbl]; exact e1
   have c2 : wr.cell? ⟨b, off + k * 4 + 2, none⟩ = some (.int .i64 l[k].qty) := by rw [HB.out.cell (p := ⟨_, _, _⟩) hbl]; exact e2
   have c3 : wr.cell? ⟨b, off + k * 4 + 3, none⟩ = some (.int .u64 l[k].time) := by rw [HB.out.cell (p := ⟨_, _, _⟩) hbl]; exact e3
   have HS := Hd (all_take_snoc validMarkD l k hlt)
   have HBAD : Hid (validMarkD l[k] = false → l.all validMarkD = false) := Hd (fun h => List.all_eq_false.2 ⟨_, List.getElem_mem hlt, by simp [h]⟩)
   have HV := Hd (r8ValidMark_any l[k] (HMI.out _ (List.getElem_mem hlt)).2.2.2.1 wr)
   generalize l[k] = m at *
   unfold markV at HV
   have a0 : (0 : Int) ≤ k := by omega
   have a1 : (k : Int) < l.length := by omega
   have hkw := wr1 k (by omega)
   clear e0 e1 e2 e3
   obtain ⟨r, hr⟩ : ∃ r, r = validMarkD m := ⟨_, rfl⟩
   rw [← hr] at HV HS HBAD
   clear hr
   cases r with
   | true =>
    have HF : Hid ((l.take (k + 1)).all validMarkD = true) := Hd (by rw [HS.out, HALL.out]; rfl)
    go_wp2_with (go_at_call 238; refine HV.out.mono ?_; rintro e w2 ⟨rfl, hb2⟩)
    have hbf := btr HB.out hb2
    go_roundw
    case rel => exact ⟨k + 1, by omega, by go_num, HF.out, hbf⟩
    case measure => simp [intOf]; omega
   | false =>
    have HF := Hd (HBAD.out rfl)
    go_wp2_with (go_at_call 238; refine HV.out.mono ?_; rintro e w2 ⟨rfl, hb2⟩)
    go_ret
    exact ⟨by rw [HF.out]; rfl, btr HB.out hb2⟩
  ·have hke : k = l.length := by omega
   have HF : Hid (l.all validMarkD = true) := Hd (by have := HALL.out; rw [hke, List.take_length] at this; exact this)
   clear HALL
   go_wp2_with fail
   go_ret
   exact ⟨by rw [HF.out]; rfl, HB.out⟩
theorem r8Dots_any (l : List MarkD) (v : Value) (w : World) (h : Arr MarkR 4 w v l) (hl : l.length ≤ 100000) : Calls Tryz.prog 92 #[v] w fun e w' => ∃ v', e = .returned v' ∧ w'.ownsRow w.heap.size 30 2 v' l.length (flatD (dotsM l)) ∧ Below w.heap.size w w' := by
 obtain ⟨i0, hi0, hz0, hz1, hz2⟩ := info_parts infoDot
 have HI := Hd (And.intro hi0 (And.intro hz0 (And.intro hz1 hz2)))
 obtain ⟨o, c, rfl, hel⟩ := h.markAt
 have HEL := Hd hel
 clear hi0 hz0 hz1 hz2 hel h
 go_enter Tryz.func92, Tryz.ntmps92
 go_wp2_with fail
 go_loopw [3, 4] (fun v i wr => ∃ k : Nat, k ≤ l.length ∧ i = .int .i64 k ∧ wr.ownsRow w.heap.size 30 2 v k (flatD (dotsM (l.take k))) ∧ Below w.heap.size w wr) (fun _ i _ => l.length - (intOf i).toNat)
 case atStart => exact ⟨0, Nat.zero_le _, rfl, by rw [List.take_zero]; exact World.ownsRow_nil _ _ _ _, Below.refl _ _⟩
 case round =>
  obtain ⟨k, hk, rfl, hrow, hB⟩ := hrel
  obtain ⟨av, cv, rfl⟩ := owns_slice hrow
  by_cases hlt : k < l.length
  ·obtain ⟨b, off, rfl, hbl, e0, e1, e2, e3, -⟩ := HEL.out k hlt
   have HTK : Hid (flatD (dotsM (l.take (k + 1))) = flatD (dotsM (l.take k)) ++ encD l[k].dot) := Hd (by
    rw [List.take_succ_eq_append_getElem hlt]; unfold dotsM; rw [List.map_append]; exact flatD_snoc _ _)
   have hbr : b < wr.heap.size := Nat.lt_of_lt_of_le hbl hB.size
   have c0 : wr.cell? ⟨b, off + k * 4, none⟩ = some (.int .i64 l[k].dot.rep) := by rw [hB.cell (p := ⟨_, _, _⟩) hbl]; exact e0
   have c1 : wr.cell? ⟨b, off + k * 4 + 1, none⟩ = some (.int .i64 l[k].dot.ctr) := by rw [hB.cell (p := ⟨_, _, _⟩) hbl]; exact e1
   have c2 : wr.cell? ⟨b, off + k * 4 + 2, none⟩ = some (.int .i64 l[k].qty) := by rw [hB.cell (p := ⟨_, _, _⟩) hbl]; exact e2
   have c3 : wr.cell? ⟨b, off + k * 4 + 3, none⟩ = some (.int .u64 l[k].time) := by rw [hB.cell (p := ⟨_, _, _⟩) hbl]; exact e3
   generalize l[k] = m at *
   have a1 : (k : Int) < l.length := by omega
   have a0 : (0 : Int) ≤ k := by omega
   have hal : Below wr.heap.size wr (wr.alloc (.cells #[.int .i64 m.dot.rep, .int .i64 m.dot.ctr] 30)) := bal
   have HROW2 := Hd (row_below hrow hal)
   have HB2 := Hd (btr hB hal)
   have HSRC : Hid (SrcIs (wr.alloc (.cells #[.int .i64 m.dot.rep, .int .i64 m.dot.ctr] 30)) (.slice (some ⟨wr.heap.size, 0, none⟩) 1 1) 1 (encD m.dot)) := Hd (by
    have := src_lit wr 30 (encD m.dot)
    exact this)
   have hbw2 : w.heap.size ≤ (wr.alloc (.cells #[.int .i64 m.dot.rep, .int .i64 m.dot.ctr] 30)).heap.size := HB2.out.size
   clear hal hrow hB e0 e1 e2 e3
   go_wp2_with (at_builtin; refine wpList_append_src rfl _ _ 22 rfl w.heap.size 30 i0 (.agg #[.int .i64 0, .int .i64 0]) 2 16 Tryz.underlying22 HI.out.1 HI.out.2.1 HI.out.2.2.1 HI.out.2.2.2 rfl (by decide) (.slice av k cv) k _ rfl HROW2.out _ _ _ rfl HSRC.out rfl (encD_one m.dot) (by unfold maxLen; omega) (by omega) hbw2 ?_; intro v8 w8 hown8 hgr8 _)
   have hbf := HB2.out.grown hgr8 hbw2 (fun j hj => (HROW2.out.lt _ hj).1)
   go_roundw
   case rel => exact ⟨k + 1, by omega, by go_num, by rw [HTK.out]; exact hown8, hbf⟩
   case measure => simp [intOf]; omega
  ·have hke : k = l.length := by omega
   rw [hke, List.take_length] at hrow
   subst hke
   go_wp2_with fail
   go_ret
   exact ⟨_, rfl, hrow, hB⟩
theorem r8IsList_any (l : List MarkD) (v : Value) (w : World) (h : Arr MarkR 4 w v l) (hl : l.length ≤ 100000) : Calls Tryz.prog 207 #[v] w fun e w' => e = .returned (.bool (isSetB (dotsM l))) ∧ Below w.heap.size w w' := by
 have HD := Hd (r8Dots_any l v w h hl)
 have HI : Hid (∀ d ∈ dotsM l, DI d) := Hd (fun d hd => by
  obtain ⟨m, hm, rfl⟩ := List.mem_map.1 hd
  exact (h.marksI m hm).1)
 clear h
 go_enter Tryz.func207, Tryz.ntmps207
 go_wp2_with fail
 refine HD.out.mono ?_
 rintro e w1 ⟨v1, rfl, hrow, hb1⟩
 rw [← dotsM_len l] at hrow
 have HS := Hd (r1IsSet_any (dotsM l) v1 w1 (Arr.of_dots hrow HI.out))
 have HB1 := Hd hb1
 clear hrow hb1
 go_wp2_with fail
 refine HS.out.mono ?_
 rintro e w2 ⟨rfl, hb2⟩
 go_wp2_with fail
 go_ret
 exact ⟨rfl, btr HB1.out hb2⟩

theorem r8Same_any (l m : List MarkD) (v u : Value) (w : World) (h : Arr MarkR 4 w v l) (h2 : Arr MarkR 4 w u m) : Calls Tryz.prog 93 #[v, u] w fun e w' => e = .returned (.bool (decide (l = m))) ∧ Below w.heap.size w w' := by
 have hn := h.len
 have hn2 := h2.len
 obtain ⟨o, c, rfl, hel⟩ := h.markAt
 obtain ⟨o2, c2, rfl, hel2⟩ := h2.markAt
 have HEL := Hd hel
 have HEL2 := Hd hel2
 have HNQ := Hd (fun x y wz => neqMark x y wz)
 clear hel hel2 h h2
 by_cases hll : l.length = m.length
 ·have tl : ((l.length : Int) != m.length) = false := by simp [hll]
  have tl2 : ((l.length : Int) == m.length) = true := by simp [hll]
  go_enter Tryz.func93, Tryz.ntmps93
  go_wp2_with fail
  go_loopw [5] (fun i wr => ∃ k : Nat, k ≤ l.length ∧ i = .int .i64 k ∧ l.take k = m.take k ∧ Below w.heap.size w wr) (fun i _ => l.length - (intOf i).toNat)
  case atStart => exact ⟨0, Nat.zero_le _, rfl, by simp, Below.refl _ _⟩
  case round =>
   obtain ⟨k, hk, rfl, htk, hB⟩ := hrel
   have HTK := Hd htk
   have HB := Hd hB
   clear htk hB
   by_cases hlt : k < l.length
   ·have hlt2 : k < m.length := by omega
    obtain ⟨b, off, rfl, hbl, e0, e1, e2, e3, -⟩ := HEL.out k hlt
    obtain ⟨b2, off2, rfl, hbl2, f0, f1, f2, f3, -⟩ := HEL2.out k hlt2
    have c0 : wr.cell? ⟨b, off + k * 4, none⟩ = some (.int .i64 l[k].dot.rep) := by rw [HB.out.cell (p := ⟨_, _, _⟩) hbl]; exact e0
    have c1 : wr.cell? ⟨b, off + k * 4 + 1, none⟩ = some (.int .i64 l[k].dot.ctr) := by rw [HB.out.cell (p := ⟨_, _, _⟩) hbl]; exact e1
    have c2 : wr.cell? ⟨b, off + k * 4 + 2, none⟩ = some (.int .i64 l[k].qty) := by rw [HB.out.cell (p := ⟨_, _, _⟩) hbl]; exact e2
    have c3 : wr.cell? ⟨b, off + k * 4 + 3, none⟩ = some (.int .u64 l[k].time) := by rw [HB.out.cell (p := ⟨_, _, _⟩) hbl]; exact e3
    have d0 : wr.cell? ⟨b2, off2 + k * 4, none⟩ = some (.int .i64 m[k].dot.rep) := by rw [HB.out.cell (p := ⟨_, _, _⟩) hbl2]; exact f0
    have d1 : wr.cell? ⟨b2, off2 + k * 4 + 1, none⟩ = some (.int .i64 m[k].dot.ctr) := by rw [HB.out.cell (p := ⟨_, _, _⟩) hbl2]; exact f1
    have d2 : wr.cell? ⟨b2, off2 + k * 4 + 2, none⟩ = some (.int .i64 m[k].qty) := by rw [HB.out.cell (p := ⟨_, _, _⟩) hbl2]; exact f2
    have d3 : wr.cell? ⟨b2, off2 + k * 4 + 3, none⟩ = some (.int .u64 m[k].time) := by rw [HB.out.cell (p := ⟨_, _, _⟩) hbl2]; exact f3
    have HSN : Hid (l[k] = m[k] → l.take (k + 1) = m.take (k + 1)) := Hd (fun he => take_snoc_eq hlt hlt2 HTK.out he)
    have HNE : Hid (l = m → l[k] = m[k]) := Hd (fun e => by subst e; rfl)
    generalize l[k] = x at *
    generalize m[k] = y at *
    have hnq : ∀ wz : World, Sem.run Tryz.prog (binOp .neq 55 (.agg #[.int .i64 x.dot.rep, .int .i64 x.dot.ctr, .int .i64 x.qty, .int .u64 x.time]) (.agg #[.int .i64 y.dot.rep, .int .i64 y.dot.ctr, .int .i64 y.qty, .int .u64 y.time])) wz = .ok (.bool (!decide (x = y))) wz := fun wz => HNQ.out x y wz
    have hgd : ∀ (op : BinOp) (a b : Operand) (wz : World), Sem.run Tryz.prog (eqGuard op 55 a b (.agg #[.int .i64 x.dot.rep, .int .i64 x.dot.ctr, .int .i64 x.qty, .int .u64 x.time]) (.agg #[.int .i64 y.dot.rep, .int .i64 y.dot.ctr, .int .i64 y.qty, .int .u64 y.time])) wz = .ok () wz := fun op a b wz => guardMark op a b x y wz
    have a0 : (0 : Int) ≤ k := by omega
    have a1 : (k : Int) < l.length := by omega
    have hkw := wr1 k (by omega)
    have a2 : (k : Int) < m.length := by omega
    clear e0 e1 e2 e3 f0 f1 f2 f3 HNQ HTK
    by_cases hxy : x = y
    ·have hd : decide (x = y) = true := decide_eq_true hxy
     rw [hd] at hnq
     have HF := Hd (HSN.out hxy)
     clear HSN HNE hxy hd
     go_upto_region 6 with fail
     go_quiet (fail)
     go_wp2_with fail
     go_roundw
     case rel => exact ⟨k + 1, by omega, by go_num, HF.out, below_drewN _ HB.out⟩
     case measure => simp [intOf]; omega
    ·have hd : decide (x = y) = false := decide_eq_false hxy
     rw [hd] at hnq
     have HF : Hid (decide (l = m) = false) := Hd (decide_eq_false (fun e => hxy (HNE.out e)))
     clear HSN HNE hxy hd
     go_upto_region 6 with fail
     go_quiet (fail)
     go_wp2_with fail
     go_ret
     exact ⟨by rw [HF.out]; rfl, below_drewN _ HB.out⟩
   ·have hke : k = l.length := by omega
    have HF : Hid (decide (l = m) = true) := Hd (decide_eq_true (take_eq_of hll hke HTK.out))
    clear HTK
    go_wp2_with fail
    go_ret
    exact ⟨by rw [HF.out]; rfl, HB.out⟩
 ·have tl : ((l.length : Int) != m.length) = true := by simp; omega
  have tl2 : ((l.length : Int) == m.length) = false := by simp; omega
  have HF : Hid (decide (l = m) = false) := Hd (decide_eq_false (fun e => hll (by rw [e])))
  go_enter Tryz.func93, Tryz.ntmps93
  go_wp2_with fail
  go_ret
  exact ⟨by rw [HF.out]; rfl, Below.refl _ _⟩

theorem r8Newer_any (a b : MarkD) (w : World) : Calls Tryz.prog 201 #[markV a, markV b] w fun e w' => e = .returned (.bool (newerM a b)) ∧ Below w.heap.size w w' := by
 unfold markV
 by_cases h1 : a.time = b.time
 ·by_cases h2 : a.dot.rep = b.dot.rep
  ·by_cases h3 : a.dot.ctr = b.dot.ctr
   ·have HF : Hid (newerM a b = decide (b.qty < a.qty)) := Hd (by unfold newerM; rw [if_neg (fun h => h h1), if_neg (fun h => h h2), if_neg (fun h => h h3)])
    have t1 : (a.time != b.time) = false := by simpa using h1
    have s1 : (a.time == b.time) = true := by simpa using h1
    have t2 : (a.dot.rep != b.dot.rep) = false := by simpa using h2
    have s2 : (a.dot.rep == b.dot.rep) = true := by simpa using h2
    have t3 : (a.dot.ctr != b.dot.ctr) = false := by simpa using h3
    have s3 : (a.dot.ctr == b.dot.ctr) = true := by simpa using h3

    go_enter Tryz.func201, Tryz.ntmps201
    go_wp2_with fail
    go_ret
    exact ⟨by rw [HF.out]; rfl, (bal).alloc (by simp) _⟩
   ·have HF : Hid (newerM a b = decide (b.dot.ctr < a.dot.ctr)) := Hd (by unfold newerM; rw [if_neg (fun h => h h1), if_neg (fun h => h h2), if_pos h3])
    have t1 : (a.time != b.time) = false := by simpa using h1
    have s1 : (a.time == b.time) = true := by simpa using h1
    have t2 : (a.dot.rep != b.dot.rep) = false := by simpa using h2
    have s2 : (a.dot.rep == b.dot.rep) = true := by simpa using h2
    have t3 : (a.dot.ctr != b.dot.ctr) = true := by simpa using h3
    have s3 : (a.dot.ctr == b.dot.ctr) = false := by simpa using h3

    go_enter Tryz.func201, Tryz.ntmps201
    go_wp2_with fail
    go_ret
    exact ⟨by rw [HF.out]; rfl, (bal).alloc (by simp) _⟩
  ·have HF : Hid (newerM a b = decide (b.dot.rep < a.dot.rep)) := Hd (by unfold newerM; rw [if_neg (fun h => h h1), if_pos h2])
   have t1 : (a.time != b.time) = false := by simpa using h1
   have s1 : (a.time == b.time) = true := by simpa using h1
   have t2 : (a.dot.rep != b.dot.rep) = true := by simpa using h2
   have s2 : (a.dot.rep == b.dot.rep) = false := by simpa using h2

   go_enter Tryz.func201, Tryz.ntmps201
   go_wp2_with fail
   go_ret
   exact ⟨by rw [HF.out]; rfl, (bal).alloc (by simp) _⟩
 ·have HF : Hid (newerM a b = decide (b.time < a.time)) := Hd (by unfold newerM; rw [if_pos h1])
  have t1 : (a.time != b.time) = true := by simpa using h1
  have s1 : (a.time == b.time) = false := by simpa using h1

  go_enter Tryz.func201, Tryz.ntmps201
  go_wp2_with fail
  go_ret
  exact ⟨by rw [HF.out]; rfl, (bal).alloc (by simp) _⟩
end Go.Proofs.YtfnfbcaoihhbpaaGreatDoor
namespace Go.Proofs.YtfnfbcaoihhbpaaGreatDoor
open Go.RowKit Go.Maps

theorem r9Equal_any (l m : List ItemD) (v u : Value) (w : World) (h : Arr ItemR 2 w v l) (h2 : Arr ItemR 2 w u m) : Calls Tryz.prog 48 #[v, u] w fun e w' => e = .returned (.bool (decide (l = m))) ∧ Below w.heap.size w w' := by
 have hn := h.len
 have hn2 := h2.len
 obtain ⟨o, c, rfl, hel⟩ := h.itemAt
 obtain ⟨o2, c2, rfl, hel2⟩ := h2.itemAt
 have HEL := Hd hel
 have HEL2 := Hd hel2
 clear hel hel2 h h2
 by_cases hll : l.length = m.length
 ·have tl : ((l.length : Int) != m.length) = false := by simp [hll]
  have tl2 : ((l.length : Int) == m.length) = true := by simp [hll]
  have HLL := Hd hll
  clear hll
  go_enter Tryz.func48, Tryz.ntmps48
  go_wp2_with fail
  go_loopw [5] (fun i wr => ∃ k : Nat, k ≤ l.length ∧ i = .int .i64 k ∧ l.take k = m.take k ∧ Below w.heap.size w wr) (fun i _ => l.length - (intOf i).toNat)
  case atStart => exact ⟨0, Nat.zero_le _, rfl, by simp, Below.refl _ _⟩
  case round =>
   obtain ⟨k, hk, rfl, htk, hB⟩ := hrel
   have HTK := Hd htk
   have HB := Hd hB
   clear htk hB
   by_cases hlt : k < l.length
   ·have hlt2 : k < m.length := by have := HLL.out; omega
    obtain ⟨b, off, mv, rfl, hbl, e0, e1, -, hm1⟩ := HEL.out k hlt
    obtain ⟨b2, off2, nv, rfl, hbl2, f0, f1, -, hm2⟩ := HEL2.out k hlt2
    obtain ⟨o3, k3, rfl, -⟩ := id hm1
    obtain ⟨o4, k4, rfl, -⟩ := id hm2
    have c0 : wr.cell? ⟨b, off + k * 2, none⟩ = some (.string l[k].name) := by rw [HB.out.cell (p := ⟨_, _, _⟩) hbl]; exact e0
    have c1 : wr.cell? ⟨b, off + k * 2 + 1, none⟩ = some (.slice o3 l[k].marks.length k3) := by rw [HB.out.cell (p := ⟨_, _, _⟩) hbl]; exact e1
    have d0 : wr.cell? ⟨b2, off2 + k * 2, none⟩ = some (.string m[k].name) := by rw [HB.out.cell (p := ⟨_, _, _⟩) hbl2]; exact f0
    have d1 : wr.cell? ⟨b2, off2 + k * 2 + 1, none⟩ = some (.slice o4 m[k].marks.length k4) := by rw [HB.out.cell (p := ⟨_, _, _⟩) hbl2]; exact f1
    have hbr : b < wr.heap.size := Nat.lt_of_lt_of_le hbl HB.out.size
    have hbr2 : b2 < wr.heap.size := Nat.lt_of_lt_of_le hbl2 HB.out.size
    have HS : Hid (∀ w2, Below wr.heap.size wr w2 → w2.cell? ⟨b, off + k * 2, none⟩ = some (.string l[k].name) ∧ w2.cell? ⟨b, off + k * 2 + 1, none⟩ = some (.slice o3 l[k].marks.length k3) ∧ w2.cell? ⟨b2, off2 + k * 2, none⟩ = some (.string m[k].name) ∧ w2.cell? ⟨b2, off2 + k * 2 + 1, none⟩ = some (.slice o4 m[k].marks.length k4)) := Hd (fun w2 h2 => ⟨by rw [h2.cell (p := ⟨_, _, _⟩) hbr]; exact c0, by rw [h2.cell (p := ⟨_, _, _⟩) hbr]; exact c1, by rw [h2.cell (p := ⟨_, _, _⟩) hbr2]; exact d0, by rw [h2.cell (p := ⟨_, _, _⟩) hbr2]; exact d1⟩)
    have HSA : Hid (Calls Tryz.prog 93 #[.slice o3 l[k].marks.length k3, .slice o4 m[k].marks.length k4] wr.drew fun e w' => e = .returned (.bool (decide (l[k].marks = m[k].marks))) ∧ Below wr.heap.size wr w') := Hd ((r8Same_any l[k].marks m[k].marks _ _ wr.drew ((hm1.marks HB.out).marks bdr) ((hm2.marks HB.out).marks bdr)).mono (fun _ _ ⟨a1, a2⟩ => ⟨a1, bdr.trans a2⟩))
    have HSN : Hid (l[k] = m[k] → l.take (k + 1) = m.take (k + 1)) := Hd (fun he => take_snoc_eq hlt hlt2 HTK.out he)
    have HNE : Hid (l = m → l[k] = m[k]) := Hd (fun e => by subst e; rfl)
    have hse := strDec l[k].name m[k].name
    generalize l[k] = x at *
    generalize m[k] = y at *
    have a0 : (0 : Int) ≤ k := by omega
    have a1 : (k : Int) < l.length := by omega
    have hkw := wr1 k (by omega)
    have a2 : (k : Int) < m.length := by have := HLL.out; omega
    clear e0 e1 f0 f1 HTK hm1 hm2 c0 c1 d0 d1
    by_cases hnm : x.name = y.name
    ·rw [decide_eq_true hnm] at hse
     obtain ⟨r, hr⟩ : ∃ r, r = decide (x.marks = y.marks) := ⟨_, rfl⟩
     rw [← hr] at HSA
     have HR := Hd hr
     have HNM := Hd hnm
     clear hr hnm
     cases r with
     | true =>
      have HF := Hd (HSN.out (item_eq.2 ⟨HNM.out, of_decide_eq_true HR.out.symm⟩))
      clear HSN HNE HR HNM
      go_upto_region 6 with fail
      refine NQ.to ?_
      refine wp_region_held_drew (S := (fun w' => w'.cell? ⟨b, off + k * 2, none⟩ = some (.string x.name) ∧ w'.cell? ⟨b, off + k * 2 + 1, none⟩ = some (.slice o3 x.marks.length k3) ∧ w'.cell? ⟨b2, off2 + k * 2, none⟩ = some (.string y.name) ∧ w'.cell? ⟨b2, off2 + k * 2 + 1, none⟩ = some (.slice o4 y.marks.length k4))) (by kernel_rfl) (HS.out _ bdr) (fun hS => ?_)
      refine tkR (n := 22) [0, 1, 2, 3, 4, 5, 6, 7, 8, 9, 10, 11, 12, 13, 14, 15, 16, 17, 18, 19, 20, 21] rfl (by decide +kernel) hS ?_
      iterate 22 ((try simp only [Act.put, s1, s2, s3, s4, s5, s6]); refine ⟨_, ?_, rfl, Or.inl ⟨by kernel_rfl, fun w hSw => ok_of fun z hz => ?_⟩, ?_⟩; rotate_left; · (obtain ⟨f1, f2, f3, f4⟩ := hSw; go_simp; exact hz))
      refine RunOK.done ?_
      try simp only [Act.put, s1, s2, s3, s4, s5, s6]
      refine rd1 22 (by decide +kernel) rfl (fun K hK => ?_)
      go_simp
      go_at_call 93
      refine HSA.out.mono ?_
      rintro e w2 ⟨rfl, hb2⟩
      go_simp
      refine Shut.out hK _ _ (HS.out w2 hb2) (fun hS2 => ?_); clear hK K hS; have hS := hS2; clear hS2
      refine tkR (n := 2) [23, 24] rfl (by decide +kernel) hS ?_
      iterate 2 ((try simp only [Act.put, s1, s2, s3, s4, s5, s6]); refine ⟨_, ?_, rfl, Or.inl ⟨by kernel_rfl, fun w hSw => ok_of fun z hz => ?_⟩, ?_⟩; rotate_left; · (go_simp; exact hz))
      refine RunOK.done ?_
      try simp only [Act.put, s1, s2, s3, s4, s5, s6]
      refine wpAnyH_done (by kernel_rfl) ?_ _
      try simp only [Act.put, s1, s2, s3, s4, s5, s6]
      simp only [NQ]
      have hbf := btr HB.out hb2
      go_wp2_with fail
      go_roundw
      case rel => exact ⟨k + 1, by omega, by go_num, HF.out, hbf⟩
      case measure => simp [intOf]; omega
     | false =>
      have HF : Hid (decide (l = m) = false) := Hd (decide_eq_false (fun e => of_decide_eq_false HR.out.symm (item_eq.1 (HNE.out e)).2))
      clear HSN HNE HR HNM
      go_upto_region 6 with fail
      refine NQ.to ?_
      refine wp_region_held_drew (S := (fun w' => w'.cell? ⟨b, off + k * 2, none⟩ = some (.string x.name) ∧ w'.cell? ⟨b, off + k * 2 + 1, none⟩ = some (.slice o3 x.marks.length k3) ∧ w'.cell? ⟨b2, off2 + k * 2, none⟩ = some (.string y.name) ∧ w'.cell? ⟨b2, off2 + k * 2 + 1, none⟩ = some (.slice o4 y.marks.length k4))) (by kernel_rfl) (HS.out _ bdr) (fun hS => ?_)
      refine tkR (n := 22) [0, 1, 2, 3, 4, 5, 6, 7, 8, 9, 10, 11, 12, 13, 14, 15, 16, 17, 18, 19, 20, 21] rfl (by decide +kernel) hS ?_
      iterate 22 ((try simp only [Act.put, s1, s2, s3, s4, s5, s6]); refine ⟨_, ?_, rfl, Or.inl ⟨by kernel_rfl, fun w hSw => ok_of fun z hz => ?_⟩, ?_⟩; rotate_left; · (obtain ⟨f1, f2, f3, f4⟩ := hSw; go_simp; exact hz))
      refine RunOK.done ?_
      try simp only [Act.put, s1, s2, s3, s4, s5, s6]
      refine rd1 22 (by decide +kernel) rfl (fun K hK => ?_)
      go_simp
      go_at_call 93
      refine HSA.out.mono ?_
      rintro e w2 ⟨rfl, hb2⟩
      go_simp
      refine Shut.out hK _ _ (HS.out w2 hb2) (fun hS2 => ?_); clear hK K hS; have hS := hS2; clear hS2
      refine tkR (n := 2) [23, 24] rfl (by decide +kernel) hS ?_
      iterate 2 ((try simp only [Act.put, s1, s2, s3, s4, s5, s6]); refine ⟨_, ?_, rfl, Or.inl ⟨by kernel_rfl, fun w hSw => ok_of fun z hz => ?_⟩, ?_⟩; rotate_left; · (go_simp; exact hz))
      refine RunOK.done ?_
      try simp only [Act.put, s1, s2, s3, s4, s5, s6]
      refine wpAnyH_done (by kernel_rfl) ?_ _
      try simp only [Act.put, s1, s2, s3, s4, s5, s6]
      simp only [NQ]
      go_wp2_with fail
      go_ret
      exact ⟨by rw [HF.out]; rfl, btr HB.out hb2⟩
    ·rw [decide_eq_false hnm] at hse
     have HF : Hid (decide (l = m) = false) := Hd (decide_eq_false (fun e => hnm (item_eq.1 (HNE.out e)).1))
     clear HSN HNE hnm HSA
     go_upto_region 6 with fail
     refine NQ.to ?_
     refine wp_region_held_drew (S := (fun w' => w'.cell? ⟨b, off + k * 2, none⟩ = some (.string x.name) ∧ w'.cell? ⟨b, off + k * 2 + 1, none⟩ = some (.slice o3 x.marks.length k3) ∧ w'.cell? ⟨b2, off2 + k * 2, none⟩ = some (.string y.name) ∧ w'.cell? ⟨b2, off2 + k * 2 + 1, none⟩ = some (.slice o4 y.marks.length k4))) (by kernel_rfl) (HS.out _ bdr) (fun hS => ?_)
     refine tkR (n := 25) [0, 1, 2, 3, 4, 5, 6, 7, 8, 9, 10, 11, 12, 13, 14, 15, 16, 17, 18, 19, 20, 21, 22, 23, 24] rfl (by decide +kernel) hS ?_
     iterate 12 ((try simp only [Act.put, s1, s2, s3, s4, s5, s6]); refine ⟨_, ?_, rfl, Or.inl ⟨by kernel_rfl, fun w hSw => ok_of fun z hz => ?_⟩, ?_⟩; rotate_left; · (obtain ⟨f1, f2, f3, f4⟩ := hSw; go_simp; exact hz))
     iterate 12 ((try simp only [Act.put, s1, s2, s3, s4, s5, s6]); refine ⟨_, undef, rfl, Or.inr ⟨by kernel_rfl, rfl⟩, ?_⟩)
     ((try simp only [Act.put, s1, s2, s3, s4, s5, s6]); refine ⟨_, ?_, rfl, Or.inl ⟨by kernel_rfl, fun w hSw => ok_of fun z hz => ?_⟩, ?_⟩; rotate_left; · (go_simp; exact hz))
     refine RunOK.done ?_
     try simp only [Act.put, s1, s2, s3, s4, s5, s6]
     refine wpAnyH_done (by kernel_rfl) ?_ _
     try simp only [Act.put, s1, s2, s3, s4, s5, s6]
     simp only [NQ]
     go_wp2_with fail
     go_ret
     exact ⟨by rw [HF.out]; rfl, below_drew1 HB.out⟩
   ·have hke : k = l.length := by omega
    have HF : Hid (decide (l = m) = true) := Hd (decide_eq_true (take_eq_of HLL.out hke HTK.out))
    clear HTK
    go_wp2_with fail
    go_ret
    exact ⟨by rw [HF.out]; rfl, HB.out⟩
 ·have tl : ((l.length : Int) != m.length) = true := by simp; omega
  have tl2 : ((l.length : Int) == m.length) = false := by simp; omega
  have HF : Hid (decide (l = m) = false) := Hd (decide_eq_false (fun e => hll (by rw [e])))
  go_enter Tryz.func48, Tryz.ntmps48
  go_wp2_with fail
  go_ret
  exact ⟨by rw [HF.out]; rfl, Below.refl _ _⟩

theorem r9Find_any (nm : ByteArray) (l : List ItemD) (v : Value) (w : World) (h : Arr ItemR 2 w v l) : Calls Tryz.prog 44 #[v, .string nm] w (IdxAt (fun x => decide (x.name = nm)) l w) := by
 have hn := h.len
 obtain ⟨o, c, rfl, hel⟩ := h.itemAt
 have HEL := Hd hel
 clear hel h
 go_enter Tryz.func44, Tryz.ntmps44
 go_wp2_with fail
 go_loopw [5] (fun i wr => ∃ k : Nat, k ≤ l.length ∧ i = .int .i64 k ∧ (l.take k).any (fun x => decide (x.name = nm)) = false ∧ Below w.heap.size w wr) (fun i _ => l.length - (intOf i).toNat)
 case atStart => exact ⟨0, Nat.zero_le _, rfl, rfl, Below.refl _ _⟩
 case round =>
  obtain ⟨k, hk, rfl, hall, hB⟩ := hrel
  have HALL := Hd hall
  have HB := Hd hB
  clear hall hB
  by_cases hlt : k < l.length
  ·obtain ⟨b, off, mv, rfl, hbl, e0, e1, -, hm⟩ := HEL.out k hlt
   have c0 : wr.cell? ⟨b, off + k * 2, none⟩ = some (.string l[k].name) := by rw [HB.out.cell (p := ⟨_, _, _⟩) hbl]; exact e0
   have HS := Hd (any_take_snoc (fun x : ItemD => decide (x.name = nm)) l k hlt)
   have HIX : Hid (decide (l[k].name = nm) = true → IdxIs (fun x => decide (x.name = nm)) l (k : Int)) := Hd (fun h => Or.inr ⟨k, hlt, rfl, h, HALL.out⟩)
   have hse := strDec l[k].name nm
   generalize l[k] = x at *
   have a0 : (0 : Int) ≤ k := by omega
   have a1 : (k : Int) < l.length := by omega
   have hkw := wr1 k (by omega)
   clear e0 e1 hm
   by_cases hnm : x.name = nm
   ·have HF := Hd (HIX.out (decide_eq_true hnm))
    rw [decide_eq_true hnm] at hse
    clear hnm HIX
    go_wp2_with fail
    go_ret
    exact ⟨k, rfl, HF.out, HB.out⟩
   ·have HF : Hid ((l.take (k + 1)).any (fun x => decide (x.name = nm)) = false) := Hd (by rw [HS.out, HALL.out, decide_eq_false hnm]; rfl)
    rw [decide_eq_false hnm] at hse
    clear hnm HIX
    go_wp2_with fail
    go_roundw
    case rel => exact ⟨k + 1, by omega, by go_num, HF.out, HB.out⟩
    case measure => simp [intOf]; omega
  ·have hke : k = l.length := by omega
   have HF : Hid (IdxIs (fun x => decide (x.name = nm)) l (-1)) := Hd (Or.inl ⟨rfl, by have := HALL.out; rw [hke, List.take_length] at this; exact this⟩)
   clear HALL
   go_wp2_with fail
   go_ret
   exact ⟨-1, rfl, HF.out, HB.out⟩
end Go.Proofs.YtfnfbcaoihhbpaaGreatDoor

