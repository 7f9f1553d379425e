/- The reference's dots: IsSet, Same, With, Union. -/
import Derived.Test.YtfnfbcaoihhbpaaGreatDoorRow
set_option linter.unusedSimpArgs false
set_option linter.unusedVariables false
set_option maxRecDepth 100000
set_option maxHeartbeats 2000000
namespace Go.Proofs.YtfnfbcaoihhbpaaGreatDoor
open Go.RowKit Go.Maps

theorem r1Less_any (a b : DotD) (w : World) : Calls Tryz.prog 209 #[dotV a, dotV b] w fun e w' => e = .returned (.bool (dlt a b)) ∧ Below w.heap.size w w' := by
 unfold dotV
 by_cases h1 : a.ctr = b.ctr
 ·have HF : Hid (dlt a b = decide (a.rep < b.rep)) := Hd (by rw [show dlt a b = (decide (a.ctr < b.ctr) || (decide (a.ctr = b.ctr) && decide (a.rep < b.rep))) from rfl, decide_eq_true h1, decide_eq_false (by omega : ¬ a.ctr < b.ctr)]; simp)
  have t1 : (a.ctr != b.ctr) = false := by simpa using h1
  have t2 : (a.ctr == b.ctr) = true := by simpa using h1
  go_enter Tryz.func209, Tryz.ntmps209
  go_wp2_with fail
  go_ret
  exact ⟨by rw [HF.out]; rfl, (bal).alloc (by simp) _⟩
 ·have HF : Hid (dlt a b = decide (a.ctr < b.ctr)) := Hd (by rw [show dlt a b = (decide (a.ctr < b.ctr) || (decide (a.ctr = b.ctr) && decide (a.rep < b.rep))) from rfl, decide_eq_false h1]; simp)
  have t1 : (a.ctr != b.ctr) = true := by simpa using h1
  have t2 : (a.ctr == b.ctr) = false := by simpa using h1
  go_enter Tryz.func209, Tryz.ntmps209
  go_wp2_with fail
  go_ret
  exact ⟨by rw [HF.out]; rfl, (bal).alloc (by simp) _⟩
theorem r1Valid_any (d : DotD) (w : World) : Calls Tryz.prog 53 #[dotV d] w fun e w' => e = .returned (.bool (validDotD d)) ∧ Below w.heap.size w w' := by
 unfold dotV
 by_cases h1 : 0 < d.rep
 ·by_cases h2 : d.rep ≤ 65535
  ·by_cases h3 : 0 < d.ctr
   ·have t1 : decide (0 < d.rep) = true := decide_eq_true (by omega)
    have t2 : decide (d.rep ≤ 65535) = true := decide_eq_true (by omega)
    have t3 : decide (0 < d.ctr) = true := decide_eq_true (by omega)
    have HF : Hid (validDotD d = decide (d.ctr ≤ 4294967295)) := Hd (by unfold validDotD; rw [decide_eq_true (by omega : 1 ≤ d.rep), decide_eq_true h2, decide_eq_true (by omega : 1 ≤ d.ctr)]; rfl)
    go_enter Tryz.func53, Tryz.ntmps53
    go_wp2_with fail
    go_ret
    exact ⟨by rw [HF.out]; rfl, bal⟩
   ·have t1 : decide (0 < d.rep) = true := decide_eq_true (by omega)
    have t2 : decide (d.rep ≤ 65535) = true := decide_eq_true (by omega)
    have t3 : decide (0 < d.ctr) = false := decide_eq_false (by omega)
    have HF : Hid (validDotD d = false) := Hd (by unfold validDotD; simp; omega)
    go_enter Tryz.func53, Tryz.ntmps53
    go_wp2_with fail
    go_ret
    exact ⟨by rw [HF.out]; rfl, bal⟩
  ·have t1 : decide (0 < d.rep) = true := decide_eq_true (by omega)
   have t2 : decide (d.rep ≤ 65535) = false := decide_eq_false (by omega)
   have HF : Hid (validDotD d = false) := Hd (by unfold validDotD; simp; omega)
   go_enter Tryz.func53, Tryz.ntmps53
   go_wp2_with fail
   go_ret
   exact ⟨by rw [HF.out]; rfl, bal⟩
 ·have t1 : decide (0 < d.rep) = false := decide_eq_false (by omega)
  have HF : Hid (validDotD d = false) := Hd (by unfold validDotD; simp; omega)
  go_enter Tryz.func53, Tryz.ntmps53
  go_wp2_with fail
  go_ret
  exact ⟨by rw [HF.out]; rfl, bal⟩
theorem r1Has_any (l : List DotD) (d : DotD) (v : Value) (w : World) (h : Arr DotR 2 w v l) : Calls Tryz.prog 101 #[v, dotV d] w fun e w' => e = .returned (.bool (decide (d ∈ l))) ∧ Below w.heap.size w w' := by
 have hn := h.len
 obtain ⟨o, c, rfl, hel⟩ := h.dotAt
 have HEL := Hd hel
 have HEQ := Hd (fun x y wz => eqDot x y wz)
 obtain ⟨W1, hW1⟩ : ∃ W1, W1 = w.alloc (.cells #[.int .i64 d.rep, .int .i64 d.ctr] 30) := ⟨_, rfl⟩
 have hb1 : Below w.heap.size w W1 := by rw [hW1]; exact bal
 have hg1 : W1.heap[w.heap.size]? = some (.cells #[.int .i64 d.rep, .int .i64 d.ctr] 30) := by rw [hW1]; exact alloc_new _ _
 have hgl1 := lt_of_heap hg1
 have HD0 : Hid (W1.cell? ⟨w.heap.size, 0, none⟩ = some (.int .i64 d.rep) ∧ W1.cell? ⟨w.heap.size, 1, none⟩ = some (.int .i64 d.ctr)) := Hd ⟨cl0 hg1 0 rfl, cl0 hg1 1 rfl⟩
 have HB1 := Hd hb1
 have HW := Hd hW1
 clear hel h hg1 hb1 hW1
 unfold dotV
 go_enter Tryz.func101, Tryz.ntmps101
 go_wp2_with fail
 rw [← HW.out]
 go_loopw [5] (fun i wr => ∃ k : Nat, k ≤ l.length ∧ i = .int .i64 k ∧ d ∉ l.take k ∧ Below W1.heap.size W1 wr) (fun i _ => l.length - (intOf i).toNat)
 case atStart => exact ⟨0, Nat.zero_le _, rfl, by simp, Below.refl _ _⟩
 case round =>
  obtain ⟨k, hk, rfl, hnot, hB⟩ := hrel
  have HNOT := Hd hnot
  have HB := Hd hB
  clear hnot hB
  by_cases hlt : k < l.length
  ·obtain ⟨b, off, rfl, hbl, e0, e1⟩ := HEL.out k hlt
   have hbl1 : b < W1.heap.size := Nat.lt_of_lt_of_le hbl HB1.out.size
   have d0 : wr.cell? ⟨w.heap.size, 0, none⟩ = some (.int .i64 d.rep) := by rw [HB.out.cell (p := ⟨w.heap.size, 0, none⟩) hgl1]; exact HD0.out.1
   have d1 : wr.cell? ⟨w.heap.size, 1, none⟩ = some (.int .i64 d.ctr) := by rw [HB.out.cell (p := ⟨w.heap.size, 1, none⟩) hgl1]; exact HD0.out.2
   have HTK : Hid (l.take (k + 1) = l.take k ++ [l[k]]) := Hd (List.take_succ_eq_append_getElem hlt)
   have HMEM : Hid (l[k] ∈ l) := Hd (List.getElem_mem hlt)
   have c0 : wr.cell? ⟨b, off + k * 2, none⟩ = some (.int .i64 l[k].rep) := by rw [HB.out.cell (p := ⟨_, _, _⟩) hbl1, HB1.out.cell (p := ⟨_, _, _⟩) hbl]; exact e0
   have c1 : wr.cell? ⟨b, off + k * 2 + 1, none⟩ = some (.int .i64 l[k].ctr) := by rw [HB.out.cell (p := ⟨_, _, _⟩) hbl1, HB1.out.cell (p := ⟨_, _, _⟩) hbl]; exact e1
   generalize l[k] = x at *
   have heq : ∀ wz : World, Sem.run Tryz.prog (binOp .eql 30 (.agg #[.int .i64 x.rep, .int .i64 x.ctr]) (.agg #[.int .i64 d.rep, .int .i64 d.ctr])) wz = .ok (.bool (decide (x = d))) wz := fun wz => HEQ.out x d wz
   have hgd : ∀ (op : BinOp) (a b : Operand) (wz : World), Sem.run Tryz.prog (eqGuard op 30 a b (.agg #[.int .i64 x.rep, .int .i64 x.ctr]) (.agg #[.int .i64 d.rep, .int .i64 d.ctr])) wz = .ok () wz := fun op a b wz => guardDot op a b x d wz
   have a0 : (0 : Int) ≤ k := by omega
   have a1 : (k : Int) < l.length := by omega
   have hkw := wr1 k (by omega)
   clear e0 e1 HEQ HW
   by_cases hxy : x = d
   ·have hd : decide (x = d) = true := decide_eq_true hxy
    rw [hd] at heq
    have HF : Hid (decide (d ∈ l) = true) := Hd (decide_eq_true (hxy ▸ HMEM.out))
    clear HMEM HTK HNOT hxy hd
    go_upto_region 4 with fail
    go_quiet (fail)
    go_wp2_with fail
    go_ret
    exact ⟨by rw [HF.out]; rfl, below_drewN _ (HB1.out.trans (HB.out.mono HB1.out.size))⟩
   ·have hd : decide (x = d) = false := decide_eq_false hxy
    rw [hd] at heq
    have HF : Hid (d ∉ l.take (k + 1)) := Hd (by rw [HTK.out, List.mem_append, List.mem_singleton]; exact fun h => h.elim HNOT.out (fun e => hxy e.symm))
    clear HMEM HTK HNOT hxy hd
    go_upto_region 4 with fail
    go_quiet (fail)
    go_wp2_with fail
    go_roundw
    case rel => exact ⟨k + 1, by omega, by go_num, HF.out, below_drewN _ HB.out⟩
    case measure => simp [intOf]; omega
  ·have hke : k = l.length := by omega
   have HF : Hid (decide (d ∈ l) = false) := Hd (decide_eq_false (by have := HNOT.out; rw [hke, List.take_length] at this; exact this))
   clear HNOT
   go_wp2_with fail
   go_ret
   exact ⟨by rw [HF.out]; rfl, HB1.out.trans (HB.out.mono HB1.out.size)⟩
end Go.Proofs.YtfnfbcaoihhbpaaGreatDoor
namespace Go.Proofs.YtfnfbcaoihhbpaaGreatDoor
open Go.RowKit Go.Maps

theorem r1IsSet_any (l : List DotD) (v : Value) (w : World) (h : Arr DotR 2 w v l) : Calls Tryz.prog 204 #[v] w fun e w' => e = .returned (.bool (isSetB l)) ∧ Below w.heap.size w w' := by
 have hn := h.len
 obtain ⟨o, c, rfl, hel⟩ := h.dotAt
 have HEL := Hd hel
 have HC := Hd (fun a b wz => r1Less_any a b wz)
 unfold dotV at HC
 clear hel h
 go_enter Tryz.func204, Tryz.ntmps204
 go_wp2_with fail
 go_loopw [3] (fun i wr => ∃ k : Nat, k + 1 ≤ max 1 l.length ∧ i = .int .i64 ((k : Int) + 1) ∧ Below w.heap.size w wr ∧ isSetB l = isSetB (l.drop k)) (fun i _ => l.length - (intOf i).toNat)
 case atStart => exact ⟨0, by omega, rfl, Below.refl _ _, by rw [List.drop_zero]⟩
 case round =>
  obtain ⟨k, hk, rfl, hB, heq⟩ := hrel
  have HEQ := Hd heq
  have HB := Hd hB
  clear heq hB
  by_cases hlt : k + 1 < l.length
  ·obtain ⟨b, off, rfl, hbl, e0, e1⟩ := HEL.out k (by omega)
   obtain ⟨b2, off2, he, _, e2, e3⟩ := HEL.out (k + 1) hlt
   cases he
   have HD : Hid (isSetB (l.drop k) = (dlt l[k] l[k + 1] && isSetB (l.drop (k + 1)))) := Hd (by
    rw [List.drop_eq_getElem_cons (show k < l.length by omega), List.drop_eq_getElem_cons hlt]; rfl)
   generalize l[k] = x at *
   generalize l[k + 1] = y at *
   have c0 : wr.cell? ⟨b, off + k * 2, none⟩ = some (.int .i64 x.rep) := by rw [HB.out.cell (p := ⟨_, _, _⟩) hbl]; exact e0
   have c1 : wr.cell? ⟨b, off + k * 2 + 1, none⟩ = some (.int .i64 x.ctr) := by rw [HB.out.cell (p := ⟨_, _, _⟩) hbl]; exact e1
   have c2 : wr.cell? ⟨b, off + (k + 1) * 2, none⟩ = some (.int .i64 y.rep) := by rw [HB.out.cell (p := ⟨_, _, _⟩) hbl]; exact e2
   have c3 : wr.cell? ⟨b, off + (k + 1) * 2 + 1, none⟩ = some (.int .i64 y.ctr) := by rw [HB.out.cell (p := ⟨_, _, _⟩) hbl]; exact e3
   have hbr : b < wr.heap.size := Nat.lt_of_lt_of_le hbl HB.out.size
   have a1 : (k : Int) + 1 < l.length := by omega
   have a0 : (0 : Int) ≤ (k : Int) + 1 := by omega
   have a2 : (0 : Int) ≤ k := by omega
   have a3 : (k : Int) < l.length := by omega
   have x1 : IntKind.i64.wrap ((k : Int) + 1 - 1) = (k : Int) := by rw [IntKind.wrap_i64]; omega
   have x2 : IntKind.i64.wrap ((k : Int) + 1 + 1) = (k : Int) + 1 + 1 := by rw [IntKind.wrap_i64]; omega
   have x3 : ((k : Int) + 1).toNat = k + 1 := by omega
   have x4 : IntKind.i64.wrap (k : Int) = (k : Int) := by rw [IntKind.wrap_i64]; omega
   have HCX := Hd (HC.out x y)
   obtain ⟨r, hr⟩ : ∃ r, r = dlt x y := ⟨_, rfl⟩
   rw [← hr] at HD HCX
   clear e0 e1 e2 e3 hr HC
   cases r with
   | true =>
    have HF : Hid (isSetB l = isSetB (l.drop (k + 1))) := Hd (by rw [HEQ.out, HD.out]; rfl)
    clear HD HEQ
    go_upto_region 4 with fail
    go_region_held3 (fun w' => w'.cell? ⟨b, off + k * 2, none⟩ = some (.int .i64 x.rep) ∧ w'.cell? ⟨b, off + k * 2 + 1, none⟩ = some (.int .i64 x.ctr) ∧ w'.cell? ⟨b, off + (k + 1) * 2, none⟩ = some (.int .i64 y.rep) ∧ w'.cell? ⟨b, off + (k + 1) * 2 + 1, none⟩ = some (.int .i64 y.ctr)) (first | go_keep | go_simp) (first | (go_at_call 209; refine (HCX.out _).mono ?_; rintro e w2 ⟨rfl, hg2⟩; have hb2 : Below wr.heap.size wr w2 := brf.drew.trans hg2; have c0 : w2.cell? ⟨b, off + k * 2, none⟩ = some (.int .i64 x.rep) := (by rw [hb2.cell (p := ⟨b, off + k * 2, none⟩) hbr]; exact c0); have c1 : w2.cell? ⟨b, off + k * 2 + 1, none⟩ = some (.int .i64 x.ctr) := (by rw [hb2.cell (p := ⟨b, off + k * 2 + 1, none⟩) hbr]; exact c1); have c2 : w2.cell? ⟨b, off + (k + 1) * 2, none⟩ = some (.int .i64 y.rep) := (by rw [hb2.cell (p := ⟨b, off + (k + 1) * 2, none⟩) hbr]; exact c2); have c3 : w2.cell? ⟨b, off + (k + 1) * 2 + 1, none⟩ = some (.int .i64 y.ctr) := (by rw [hb2.cell (p := ⟨b, off + (k + 1) * 2 + 1, none⟩) hbr]; exact c3)))
    have hbf : Below w.heap.size w w2 := btr HB.out hb2
    go_wp2_with fail
    go_roundw
    case rel => exact ⟨k + 1, by omega, by go_num, hbf, HF.out⟩
    case measure => simp [intOf]; omega
   | false =>
    have HF : Hid (isSetB l = false) := Hd (by rw [HEQ.out, HD.out]; rfl)
    clear HD HEQ
    go_upto_region 4 with fail
    go_region_held3 (fun w' => w'.cell? ⟨b, off + k * 2, none⟩ = some (.int .i64 x.rep) ∧ w'.cell? ⟨b, off + k * 2 + 1, none⟩ = some (.int .i64 x.ctr) ∧ w'.cell? ⟨b, off + (k + 1) * 2, none⟩ = some (.int .i64 y.rep) ∧ w'.cell? ⟨b, off + (k + 1) * 2 + 1, none⟩ = some (.int .i64 y.ctr)) (first | go_keep | go_simp) (first | (go_at_call 209; refine (HCX.out _).mono ?_; rintro e w2 ⟨rfl, hg2⟩; have hb2 : Below wr.heap.size wr w2 := brf.drew.trans hg2; have c0 : w2.cell? ⟨b, off + k * 2, none⟩ = some (.int .i64 x.rep) := (by rw [hb2.cell (p := ⟨b, off + k * 2, none⟩) hbr]; exact c0); have c1 : w2.cell? ⟨b, off + k * 2 + 1, none⟩ = some (.int .i64 x.ctr) := (by rw [hb2.cell (p := ⟨b, off + k * 2 + 1, none⟩) hbr]; exact c1); have c2 : w2.cell? ⟨b, off + (k + 1) * 2, none⟩ = some (.int .i64 y.rep) := (by rw [hb2.cell (p := ⟨b, off + (k + 1) * 2, none⟩) hbr]; exact c2); have c3 : w2.cell? ⟨b, off + (k + 1) * 2 + 1, none⟩ = some (.int .i64 y.ctr) := (by rw [hb2.cell (p := ⟨b, off + (k + 1) * 2 + 1, none⟩) hbr]; exact c3)))
    have hbf : Below w.heap.size w w2 := btr HB.out hb2
    go_wp2_with fail
    go_ret
    exact ⟨by rw [HF.out]; rfl, hbf⟩
  ·have HF : Hid (isSetB l = true) := Hd (by
    rw [HEQ.out]
    have : (l.drop k).length ≤ 1 := by rw [List.length_drop]; omega
    match e : l.drop k, this with
    | [], _ => rfl
    | [a], _ => rfl)
   have t1 : decide ((k : Int) + 1 < l.length) = false := decide_eq_false (by omega)
   go_wp2_with fail
   go_ret
   exact ⟨by rw [HF.out]; rfl, HB.out⟩

theorem take_eq_of {α : Type} {a b : List α} (h : a.length = b.length) {k : Nat} (hk : k = a.length) (ht : a.take k = b.take k) : a = b := by
 subst hk
 rwa [List.take_length, h, List.take_length] at ht
theorem take_snoc_eq {α : Type} {a b : List α} {k : Nat} (h1 : k < a.length) (h2 : k < b.length) (h : a.take k = b.take k) (he : a[k] = b[k]) : a.take (k + 1) = b.take (k + 1) := by
 rw [List.take_succ_eq_append_getElem h1, List.take_succ_eq_append_getElem h2, h, he]

theorem r1Same_any (l m : List DotD) (v u : Value) (w : World) (h : Arr DotR 2 w v l) (h2 : Arr DotR 2 w u m) : Calls Tryz.prog 87 #[v, u] w fun e w' => e = .returned (.bool (decide (l = m))) ∧ Below w.heap.size w w' := by
 have hn := h.len
 have hn2 := h2.len
 obtain ⟨o, c, rfl, hel⟩ := h.dotAt
 obtain ⟨o2, c2, rfl, hel2⟩ := h2.dotAt
 have HEL := Hd hel
 have HEL2 := Hd hel2
 have HNQ := Hd (fun x y wz => neqDot x y wz)
 clear hel hel2 h h2
 by_cases hll : l.length = m.length
 ·have tl : ((l.length : Int) != m.length) = false := by simp [hll]
  have tl2 : ((l.length : Int) == m.length) = true := by simp [hll]
  go_enter Tryz.func87, Tryz.ntmps87
  go_wp2_with fail
  go_loopw [5] (fun i wr => ∃ k : Nat, k ≤ l.length ∧ i = .int .i64 k ∧ l.take k = m.take k ∧ Below w.heap.size w wr) (fun i _ => l.length - (intOf i).toNat)
  case atStart => exact ⟨0, Nat.zero_le _, rfl, by simp, Below.refl _ _⟩
  case round =>
   obtain ⟨k, hk, rfl, htk, hB⟩ := hrel
   have HTK := Hd htk
   have HB := Hd hB
   clear htk hB
   by_cases hlt : k < l.length
   ·have hlt2 : k < m.length := by omega
    obtain ⟨b, off, rfl, hbl, e0, e1⟩ := HEL.out k hlt
    obtain ⟨b2, off2, rfl, hbl2, f0, f1⟩ := HEL2.out k hlt2
    have c0 : wr.cell? ⟨b, off + k * 2, none⟩ = some (.int .i64 l[k].rep) := by rw [HB.out.cell (p := ⟨_, _, _⟩) hbl]; exact e0
    have c1 : wr.cell? ⟨b, off + k * 2 + 1, none⟩ = some (.int .i64 l[k].ctr) := by rw [HB.out.cell (p := ⟨_, _, _⟩) hbl]; exact e1
    have d0 : wr.cell? ⟨b2, off2 + k * 2, none⟩ = some (.int .i64 m[k].rep) := by rw [HB.out.cell (p := ⟨_, _, _⟩) hbl2]; exact f0
    have d1 : wr.cell? ⟨b2, off2 + k * 2 + 1, none⟩ = some (.int .i64 m[k].ctr) := by rw [HB.out.cell (p := ⟨_, _, _⟩) hbl2]; exact f1
    have HSN : Hid (l[k] = m[k] → l.take (k + 1) = m.take (k + 1)) := Hd (fun he => take_snoc_eq hlt hlt2 HTK.out he)
    have HNE : Hid (l = m → l[k] = m[k]) := Hd (fun e => by subst e; rfl)
    generalize l[k] = x at *
    generalize m[k] = y at *
    have hnq : ∀ wz : World, Sem.run Tryz.prog (binOp .neq 30 (.agg #[.int .i64 x.rep, .int .i64 x.ctr]) (.agg #[.int .i64 y.rep, .int .i64 y.ctr])) wz = .ok (.bool (!decide (x = y))) wz := fun wz => HNQ.out x y wz
    have hgd : ∀ (op : BinOp) (a b : Operand) (wz : World), Sem.run Tryz.prog (eqGuard op 30 a b (.agg #[.int .i64 x.rep, .int .i64 x.ctr]) (.agg #[.int .i64 y.rep, .int .i64 y.ctr])) wz = .ok () wz := fun op a b wz => guardDot op a b x y wz
    have a0 : (0 : Int) ≤ k := by omega
    have a1 : (k : Int) < l.length := by omega
    have hkw := wr1 k (by omega)
    have a2 : (k : Int) < m.length := by omega
    clear e0 e1 f0 f1 HNQ HTK
    by_cases hxy : x = y
    ·have hd : decide (x = y) = true := decide_eq_true hxy
     rw [hd] at hnq
     have HF := Hd (HSN.out hxy)
     clear HSN HNE hxy hd
     go_upto_region 6 with fail
     go_quiet (fail)
     go_wp2_with fail
     go_roundw
     case rel => exact ⟨k + 1, by omega, by go_num, HF.out, below_drewN _ HB.out⟩
     case measure => simp [intOf]; omega
    ·have hd : decide (x = y) = false := decide_eq_false hxy
     rw [hd] at hnq
     have HF : Hid (decide (l = m) = false) := Hd (decide_eq_false (fun e => hxy (HNE.out e)))
     clear HSN HNE hxy hd
     go_upto_region 6 with fail
     go_quiet (fail)
     go_wp2_with fail
     go_ret
     exact ⟨by rw [HF.out]; rfl, below_drewN _ HB.out⟩
   ·have hke : k = l.length := by omega
    have HF : Hid (decide (l = m) = true) := Hd (decide_eq_true (take_eq_of hll hke HTK.out))
    clear HTK
    go_wp2_with fail
    go_ret
    exact ⟨by rw [HF.out]; rfl, HB.out⟩
 ·have tl : ((l.length : Int) != m.length) = true := by simp; omega
  have tl2 : ((l.length : Int) == m.length) = false := by simp; omega
  have HF : Hid (decide (l = m) = false) := Hd (decide_eq_false (fun e => hll (by rw [e])))
  go_enter Tryz.func87, Tryz.ntmps87
  go_wp2_with fail
  go_ret
  exact ⟨by rw [HF.out]; rfl, Below.refl _ _⟩
end Go.Proofs.YtfnfbcaoihhbpaaGreatDoor

