/- The reference's dots: IsSet, Same, With, Union. -/
import Derived.Test.YtjlhdgmcaiiagaaGreatDoorR1
import Derived.Test.YtjlhdgmcaiiagaaGreatDoorRow
namespace Go.Proofs.YtjlhdgmcaiiagaaGreatDoor
open Go.RowKit Go.Maps

set_option maxRecDepth 100000 in
set_option maxHeartbeats 2000000 in
theorem r1IsSet_any (l : List DotD) (v : Value) (w : World) (h : Arr DotR 2 w v l) : Calls Tryz.prog 72 #[v] w fun e w' => e = .returned (.bool (isSetB l)) ∧ Below w.heap.size w w' := by
  have hn := h.len
  obtain ⟨o, c, rfl, hel⟩ := h.dotAt
  have HEL := Lib.hid hel
  have HC := Lib.hid (fun a b wz => r1Less_any a b wz)
  unfold dotV at HC
  clear hel h
  go_enter Tryz.func72, Tryz.ntmps72
  go_wp2_with fail
  go_loopw [3] (fun i wr => ∃ k : Nat, k + 1 ≤ max 1 l.length ∧ i = .int .i64 ((k : Int) + 1) ∧ Below w.heap.size w wr ∧ isSetB l = isSetB (l.drop k)) (fun i _ => l.length - (intOf i).toNat)
  case atStart => exact ⟨0, by omega, rfl, Below.refl _ _, by rw [List.drop_zero]⟩
  case round =>
    obtain ⟨k, hk, rfl, hB, heq⟩ := hrel
    have HEQ := Lib.hid heq
    have HB := Lib.hid hB
    clear heq hB
    by_cases hlt : k + 1 < l.length
    · obtain ⟨b, off, rfl, hbl, e0, e1⟩ := HEL.out k (by omega)
      obtain ⟨b2, off2, he, _, e2, e3⟩ := HEL.out (k + 1) hlt
      cases he
      have HD : Hid (isSetB (l.drop k) = (dlt l[k] l[k + 1] && isSetB (l.drop (k + 1)))) := Lib.hid (by
        rw [List.drop_eq_getElem_cons (show k < l.length by omega), List.drop_eq_getElem_cons hlt]; rfl)
      generalize l[k] = x at *
      generalize l[k + 1] = y at *
      have c0 : wr.cell? ⟨b, off + k * 2, none⟩ = some (.int .i64 x.rep) := by rw [HB.out.cell (p := ⟨_, _, _⟩) hbl]; exact e0
      have c1 : wr.cell? ⟨b, off + k * 2 + 1, none⟩ = some (.int .i64 x.ctr) := by rw [HB.out.cell (p := ⟨_, _, _⟩) hbl]; exact e1
      have c2 : wr.cell? ⟨b, off + (k + 1) * 2, none⟩ = some (.int .i64 y.rep) := by rw [HB.out.cell (p := ⟨_, _, _⟩) hbl]; exact e2
      have c3 : wr.cell? ⟨b, off + (k + 1) * 2 + 1, none⟩ = some (.int .i64 y.ctr) := by rw [HB.out.cell (p := ⟨_, _, _⟩) hbl]; exact e3
      have hbr : b < wr.heap.size := Nat.lt_of_lt_of_le hbl HB.out.size
      have a1 : (k : Int) + 1 < l.length := by omega
      have a0 : (0 : Int) ≤ (k : Int) + 1 := by omega
      have a2 : (0 : Int) ≤ k := by omega
      have a3 : (k : Int) < l.length := by omega
      have x1 : IntKind.i64.wrap ((k : Int) + 1 - 1) = (k : Int) := by rw [IntKind.wrap_i64]; omega
      have x2 : IntKind.i64.wrap ((k : Int) + 1 + 1) = (k : Int) + 1 + 1 := by rw [IntKind.wrap_i64]; omega
      have x3 : ((k : Int) + 1).toNat = k + 1 := by omega
      have x4 : IntKind.i64.wrap (k : Int) = (k : Int) := by rw [IntKind.wrap_i64]; omega
      have HCX := Lib.hid (HC.out x y)
      obtain ⟨r, hr⟩ : ∃ r, r = dlt x y := ⟨_, rfl⟩
      rw [← hr] at HD HCX
      clear e0 e1 e2 e3 hr HC
      cases r with
      | true =>
        have HF : Hid (isSetB l = isSetB (l.drop (k + 1))) := Lib.hid (by rw [HEQ.out, HD.out]; rfl)
        clear HD HEQ
        go_upto_region 4 with fail
        go_region_held3 (fun w' => w'.cell? ⟨b, off + k * 2, none⟩ = some (.int .i64 x.rep) ∧ w'.cell? ⟨b, off + k * 2 + 1, none⟩ = some (.int .i64 x.ctr) ∧ w'.cell? ⟨b, off + (k + 1) * 2, none⟩ = some (.int .i64 y.rep) ∧ w'.cell? ⟨b, off + (k + 1) * 2 + 1, none⟩ = some (.int .i64 y.ctr)) (first | go_keep | go_simp) (first | (go_at_call 91; refine (HCX.out _).mono ?_; rintro e w2 ⟨rfl, hg2⟩; have hb2 : Below wr.heap.size wr w2 := (Below.refl _ _).drew.trans hg2; have c0 : w2.cell? ⟨b, off + k * 2, none⟩ = some (.int .i64 x.rep) := (by rw [hb2.cell (p := ⟨b, off + k * 2, none⟩) hbr]; exact c0); have c1 : w2.cell? ⟨b, off + k * 2 + 1, none⟩ = some (.int .i64 x.ctr) := (by rw [hb2.cell (p := ⟨b, off + k * 2 + 1, none⟩) hbr]; exact c1); have c2 : w2.cell? ⟨b, off + (k + 1) * 2, none⟩ = some (.int .i64 y.rep) := (by rw [hb2.cell (p := ⟨b, off + (k + 1) * 2, none⟩) hbr]; exact c2); have c3 : w2.cell? ⟨b, off + (k + 1) * 2 + 1, none⟩ = some (.int .i64 y.ctr) := (by rw [hb2.cell (p := ⟨b, off + (k + 1) * 2 + 1, none⟩) hbr]; exact c3)))
        have hbf : Below w.heap.size w w2 := HB.out.trans (hb2.mono HB.out.size)
        go_wp2_with fail
        go_roundw
        case rel => exact ⟨k + 1, by omega, by go_num, hbf, HF.out⟩
        case measure => simp [intOf]; omega
      | false =>
        have HF : Hid (isSetB l = false) := Lib.hid (by rw [HEQ.out, HD.out]; rfl)
        clear HD HEQ
        go_upto_region 4 with fail
        go_region_held3 (fun w' => w'.cell? ⟨b, off + k * 2, none⟩ = some (.int .i64 x.rep) ∧ w'.cell? ⟨b, off + k * 2 + 1, none⟩ = some (.int .i64 x.ctr) ∧ w'.cell? ⟨b, off + (k + 1) * 2, none⟩ = some (.int .i64 y.rep) ∧ w'.cell? ⟨b, off + (k + 1) * 2 + 1, none⟩ = some (.int .i64 y.ctr)) (first | go_keep | go_simp) (first | (go_at_call 91; refine (HCX.out _).mono ?_; rintro e w2 ⟨rfl, hg2⟩; have hb2 : Below wr.heap.size wr w2 := (Below.refl _ _).drew.trans hg2; have c0 : w2.cell? ⟨b, off + k * 2, none⟩ = some (.int .i64 x.rep) := (by rw [hb2.cell (p := ⟨b, off + k * 2, none⟩) hbr]; exact c0); have c1 : w2.cell? ⟨b, off + k * 2 + 1, none⟩ = some (.int .i64 x.ctr) := (by rw [hb2.cell (p := ⟨b, off + k * 2 + 1, none⟩) hbr]; exact c1); have c2 : w2.cell? ⟨b, off + (k + 1) * 2, none⟩ = some (.int .i64 y.rep) := (by rw [hb2.cell (p := ⟨b, off + (k + 1) * 2, none⟩) hbr]; exact c2); have c3 : w2.cell? ⟨b, off + (k + 1) * 2 + 1, none⟩ = some (.int .i64 y.ctr) := (by rw [hb2.cell (p := ⟨b, off + (k + 1) * 2 + 1, none⟩) hbr]; exact c3)))
        have hbf : Below w.heap.size w w2 := HB.out.trans (hb2.mono HB.out.size)
        go_wp2_with fail
        go_ret
        exact ⟨by rw [HF.out]; rfl, hbf⟩
    · have HF : Hid (isSetB l = true) := Lib.hid (by
        rw [HEQ.out]
        have : (l.drop k).length ≤ 1 := by rw [List.length_drop]; omega
        match e : l.drop k, this with
        | [], _ => rfl
        | [a], _ => rfl)
      have t1 : decide ((k : Int) + 1 < l.length) = false := decide_eq_false (by omega)
      go_wp2_with fail
      go_ret
      exact ⟨by rw [HF.out]; rfl, HB.out⟩

theorem take_eq_of {α : Type} {a b : List α} (h : a.length = b.length) {k : Nat} (hk : k = a.length) (ht : a.take k = b.take k) : a = b := by
  subst hk
  rwa [List.take_length, h, List.take_length] at ht
theorem take_snoc_eq {α : Type} {a b : List α} {k : Nat} (h1 : k < a.length) (h2 : k < b.length) (h : a.take k = b.take k) (he : a[k] = b[k]) : a.take (k + 1) = b.take (k + 1) := by
  rw [List.take_succ_eq_append_getElem h1, List.take_succ_eq_append_getElem h2, h, he]

set_option maxRecDepth 100000 in
set_option maxHeartbeats 2000000 in
theorem r1Same_any (l m : List DotD) (v u : Value) (w : World) (h : Arr DotR 2 w v l) (h2 : Arr DotR 2 w u m) : Calls Tryz.prog 15 #[v, u] w fun e w' => e = .returned (.bool (decide (l = m))) ∧ Below w.heap.size w w' := by
  have hn := h.len
  have hn2 := h2.len
  obtain ⟨o, c, rfl, hel⟩ := h.dotAt
  obtain ⟨o2, c2, rfl, hel2⟩ := h2.dotAt
  have HEL := Lib.hid hel
  have HEL2 := Lib.hid hel2
  have HNQ := Lib.hid (fun x y wz => neqDot x y wz)
  clear hel hel2 h h2
  by_cases hll : l.length = m.length
  · have tl : ((l.length : Int) != m.length) = false := by simp [hll]
    have tl2 : ((l.length : Int) == m.length) = true := by simp [hll]
    go_enter Tryz.func15, Tryz.ntmps15
    go_wp2_with fail
    go_loopw [5] (fun i wr => ∃ k : Nat, k ≤ l.length ∧ i = .int .i64 k ∧ l.take k = m.take k ∧ Below w.heap.size w wr) (fun i _ => l.length - (intOf i).toNat)
    case atStart => exact ⟨0, Nat.zero_le _, rfl, by simp, Below.refl _ _⟩
    case round =>
      obtain ⟨k, hk, rfl, htk, hB⟩ := hrel
      have HTK := Lib.hid htk
      have HB := Lib.hid hB
      clear htk hB
      by_cases hlt : k < l.length
      · have hlt2 : k < m.length := by omega
        obtain ⟨b, off, rfl, hbl, e0, e1⟩ := HEL.out k hlt
        obtain ⟨b2, off2, rfl, hbl2, f0, f1⟩ := HEL2.out k hlt2
        have c0 : wr.cell? ⟨b, off + k * 2, none⟩ = some (.int .i64 l[k].rep) := by rw [HB.out.cell (p := ⟨_, _, _⟩) hbl]; exact e0
        have c1 : wr.cell? ⟨b, off + k * 2 + 1, none⟩ = some (.int .i64 l[k].ctr) := by rw [HB.out.cell (p := ⟨_, _, _⟩) hbl]; exact e1
        have d0 : wr.cell? ⟨b2, off2 + k * 2, none⟩ = some (.int .i64 m[k].rep) := by rw [HB.out.cell (p := ⟨_, _, _⟩) hbl2]; exact f0
        have d1 : wr.cell? ⟨b2, off2 + k * 2 + 1, none⟩ = some (.int .i64 m[k].ctr) := by rw [HB.out.cell (p := ⟨_, _, _⟩) hbl2]; exact f1
        have HSN : Hid (l[k] = m[k] → l.take (k + 1) = m.take (k + 1)) := Lib.hid (fun he => take_snoc_eq hlt hlt2 HTK.out he)
        have HNE : Hid (l = m → l[k] = m[k]) := Lib.hid (fun e => by subst e; rfl)
        generalize l[k] = x at *
        generalize m[k] = y at *
        have hnq : ∀ wz : World, Sem.run Tryz.prog (binOp .neq 24 (.agg #[.int .i64 x.rep, .int .i64 x.ctr]) (.agg #[.int .i64 y.rep, .int .i64 y.ctr])) wz = .ok (.bool (!decide (x = y))) wz := fun wz => HNQ.out x y wz
        have hgd : ∀ (op : BinOp) (a b : Operand) (wz : World), Sem.run Tryz.prog (eqGuard op 24 a b (.agg #[.int .i64 x.rep, .int .i64 x.ctr]) (.agg #[.int .i64 y.rep, .int .i64 y.ctr])) wz = .ok () wz := fun op a b wz => guardDot op a b x y wz
        have a0 : (0 : Int) ≤ k := by omega
        have a1 : (k : Int) < l.length := by omega
        have hkw : IntKind.i64.wrap ((k : Int) + 1) = (k : Int) + 1 := by rw [IntKind.wrap_i64]; omega
        have a2 : (k : Int) < m.length := by omega
        clear e0 e1 f0 f1 HNQ HTK
        by_cases hxy : x = y
        · have hd : decide (x = y) = true := decide_eq_true hxy
          rw [hd] at hnq
          have HF := Lib.hid (HSN.out hxy)
          clear HSN HNE hxy hd
          go_upto_region 6 with fail
          go_quiet (fail)
          go_wp2_with fail
          go_roundw
          case rel => exact ⟨k + 1, by omega, by go_num, HF.out, below_drewN _ HB.out⟩
          case measure => simp [intOf]; omega
        · have hd : decide (x = y) = false := decide_eq_false hxy
          rw [hd] at hnq
          have HF : Hid (decide (l = m) = false) := Lib.hid (decide_eq_false (fun e => hxy (HNE.out e)))
          clear HSN HNE hxy hd
          go_upto_region 6 with fail
          go_quiet (fail)
          go_wp2_with fail
          go_ret
          exact ⟨by rw [HF.out]; rfl, below_drewN _ HB.out⟩
      · have hke : k = l.length := by omega
        have HF : Hid (decide (l = m) = true) := Lib.hid (decide_eq_true (take_eq_of hll hke HTK.out))
        clear HTK
        go_wp2_with fail
        go_ret
        exact ⟨by rw [HF.out]; rfl, HB.out⟩
  · have tl : ((l.length : Int) != m.length) = true := by simp; omega
    have tl2 : ((l.length : Int) == m.length) = false := by simp; omega
    have HF : Hid (decide (l = m) = false) := Lib.hid (decide_eq_false (fun e => hll (by rw [e])))
    go_enter Tryz.func15, Tryz.ntmps15
    go_wp2_with fail
    go_ret
    exact ⟨by rw [HF.out]; rfl, Below.refl _ _⟩
end Go.Proofs.YtjlhdgmcaiiagaaGreatDoor

