/- The reference's dots: Less, Has, Valid, IsSet, Same. -/
import Derived.Test.YtjlhdgmcaiiagaaGreatDoorSet3
namespace Go.Proofs.YtjlhdgmcaiiagaaGreatDoor
open Go.RowKit Go.Maps

set_option maxRecDepth 100000 in
set_option maxHeartbeats 1000000 in
theorem r1Less_any (a b : DotD) (w : World) : Calls Tryz.prog 91 #[dotV a, dotV b] w fun e w' => e = .returned (.bool (dlt a b)) ∧ Below w.heap.size w w' := by
  unfold dotV
  by_cases h1 : a.ctr = b.ctr
  · have HF : Hid (dlt a b = decide (a.rep < b.rep)) := Lib.hid (by rw [show dlt a b = (decide (a.ctr < b.ctr) || (decide (a.ctr = b.ctr) && decide (a.rep < b.rep))) from rfl, decide_eq_true h1, decide_eq_false (by omega : ¬ a.ctr < b.ctr)]; simp)
    have t1 : (a.ctr != b.ctr) = false := by simpa using h1
    have t2 : (a.ctr == b.ctr) = true := by simpa using h1
    go_enter Tryz.func91, Tryz.ntmps91
    go_wp2_with fail
    go_ret
    exact ⟨by rw [HF.out]; rfl, ((Below.refl _ _).alloc (Nat.le_refl _) _).alloc (by simp) _⟩
  · have HF : Hid (dlt a b = decide (a.ctr < b.ctr)) := Lib.hid (by rw [show dlt a b = (decide (a.ctr < b.ctr) || (decide (a.ctr = b.ctr) && decide (a.rep < b.rep))) from rfl, decide_eq_false h1]; simp)
    have t1 : (a.ctr != b.ctr) = true := by simpa using h1
    have t2 : (a.ctr == b.ctr) = false := by simpa using h1
    go_enter Tryz.func91, Tryz.ntmps91
    go_wp2_with fail
    go_ret
    exact ⟨by rw [HF.out]; rfl, ((Below.refl _ _).alloc (Nat.le_refl _) _).alloc (by simp) _⟩
set_option maxRecDepth 100000 in
set_option maxHeartbeats 1000000 in
theorem r1Valid_any (d : DotD) (w : World) : Calls Tryz.prog 92 #[dotV d] w fun e w' => e = .returned (.bool (validDotD d)) ∧ Below w.heap.size w w' := by
  unfold dotV
  by_cases h1 : 0 < d.rep
  · by_cases h2 : d.rep ≤ 65535
    · by_cases h3 : 0 < d.ctr
      · have t1 : decide (0 < d.rep) = true := decide_eq_true (by omega)
        have t2 : decide (d.rep ≤ 65535) = true := decide_eq_true (by omega)
        have t3 : decide (0 < d.ctr) = true := decide_eq_true (by omega)
        have HF : Hid (validDotD d = decide (d.ctr ≤ 4294967295)) := Lib.hid (by unfold validDotD; rw [decide_eq_true (by omega : 1 ≤ d.rep), decide_eq_true h2, decide_eq_true (by omega : 1 ≤ d.ctr)]; rfl)
        go_enter Tryz.func92, Tryz.ntmps92
        go_wp2_with fail
        go_ret
        exact ⟨by rw [HF.out]; rfl, (Below.refl _ _).alloc (Nat.le_refl _) _⟩
      · have t1 : decide (0 < d.rep) = true := decide_eq_true (by omega)
        have t2 : decide (d.rep ≤ 65535) = true := decide_eq_true (by omega)
        have t3 : decide (0 < d.ctr) = false := decide_eq_false (by omega)
        have HF : Hid (validDotD d = false) := Lib.hid (by unfold validDotD; simp; omega)
        go_enter Tryz.func92, Tryz.ntmps92
        go_wp2_with fail
        go_ret
        exact ⟨by rw [HF.out]; rfl, (Below.refl _ _).alloc (Nat.le_refl _) _⟩
    · have t1 : decide (0 < d.rep) = true := decide_eq_true (by omega)
      have t2 : decide (d.rep ≤ 65535) = false := decide_eq_false (by omega)
      have HF : Hid (validDotD d = false) := Lib.hid (by unfold validDotD; simp; omega)
      go_enter Tryz.func92, Tryz.ntmps92
      go_wp2_with fail
      go_ret
      exact ⟨by rw [HF.out]; rfl, (Below.refl _ _).alloc (Nat.le_refl _) _⟩
  · have t1 : decide (0 < d.rep) = false := decide_eq_false (by omega)
    have HF : Hid (validDotD d = false) := Lib.hid (by unfold validDotD; simp; omega)
    go_enter Tryz.func92, Tryz.ntmps92
    go_wp2_with fail
    go_ret
    exact ⟨by rw [HF.out]; rfl, (Below.refl _ _).alloc (Nat.le_refl _) _⟩
set_option maxRecDepth 100000 in
set_option maxHeartbeats 2000000 in
theorem r1Has_any (l : List DotD) (d : DotD) (v : Value) (w : World) (h : Arr DotR 2 w v l) : Calls Tryz.prog 90 #[v, dotV d] w fun e w' => e = .returned (.bool (decide (d ∈ l))) ∧ Below w.heap.size w w' := by
  have hn := h.len
  obtain ⟨o, c, rfl, hel⟩ := h.dotAt
  have HEL := Lib.hid hel
  have HEQ := Lib.hid (fun x y wz => eqDot x y wz)
  obtain ⟨W1, hW1⟩ : ∃ W1, W1 = w.alloc (.cells #[.int .i64 d.rep, .int .i64 d.ctr] 24) := ⟨_, rfl⟩
  have hb1 : Below w.heap.size w W1 := by rw [hW1]; exact (Below.refl _ _).alloc (Nat.le_refl _) _
  have hg1 : W1.heap[w.heap.size]? = some (.cells #[.int .i64 d.rep, .int .i64 d.ctr] 24) := by rw [hW1]; exact alloc_new _ _
  have hgl1 := lt_of_heap hg1
  have HD0 : Hid (W1.cell? ⟨w.heap.size, 0, none⟩ = some (.int .i64 d.rep) ∧ W1.cell? ⟨w.heap.size, 1, none⟩ = some (.int .i64 d.ctr)) := Lib.hid ⟨by rw [cell0 hg1 0]; rfl, by rw [cell0 hg1 1]; rfl⟩
  have HB1 := Lib.hid hb1
  have HW := Lib.hid hW1
  clear hel h hg1 hb1 hW1
  unfold dotV
  go_enter Tryz.func90, Tryz.ntmps90
  go_wp2_with fail
  rw [← HW.out]
  go_loopw [5] (fun i wr => ∃ k : Nat, k ≤ l.length ∧ i = .int .i64 k ∧ d ∉ l.take k ∧ Below W1.heap.size W1 wr) (fun i _ => l.length - (intOf i).toNat)
  case atStart => exact ⟨0, Nat.zero_le _, rfl, by simp, Below.refl _ _⟩
  case round =>
    obtain ⟨k, hk, rfl, hnot, hB⟩ := hrel
    have HNOT := Lib.hid hnot
    have HB := Lib.hid hB
    clear hnot hB
    by_cases hlt : k < l.length
    · obtain ⟨b, off, rfl, hbl, e0, e1⟩ := HEL.out k hlt
      have hbl1 : b < W1.heap.size := Nat.lt_of_lt_of_le hbl HB1.out.size
      have d0 : wr.cell? ⟨w.heap.size, 0, none⟩ = some (.int .i64 d.rep) := by rw [HB.out.cell (p := ⟨w.heap.size, 0, none⟩) hgl1]; exact HD0.out.1
      have d1 : wr.cell? ⟨w.heap.size, 1, none⟩ = some (.int .i64 d.ctr) := by rw [HB.out.cell (p := ⟨w.heap.size, 1, none⟩) hgl1]; exact HD0.out.2
      have HTK : Hid (l.take (k + 1) = l.take k ++ [l[k]]) := Lib.hid (List.take_succ_eq_append_getElem hlt)
      have HMEM : Hid (l[k] ∈ l) := Lib.hid (List.getElem_mem hlt)
      have c0 : wr.cell? ⟨b, off + k * 2, none⟩ = some (.int .i64 l[k].rep) := by rw [HB.out.cell (p := ⟨_, _, _⟩) hbl1, HB1.out.cell (p := ⟨_, _, _⟩) hbl]; exact e0
      have c1 : wr.cell? ⟨b, off + k * 2 + 1, none⟩ = some (.int .i64 l[k].ctr) := by rw [HB.out.cell (p := ⟨_, _, _⟩) hbl1, HB1.out.cell (p := ⟨_, _, _⟩) hbl]; exact e1
      generalize l[k] = x at *
      have heq : ∀ wz : World, Sem.run Tryz.prog (binOp .eql 24 (.agg #[.int .i64 x.rep, .int .i64 x.ctr]) (.agg #[.int .i64 d.rep, .int .i64 d.ctr])) wz = .ok (.bool (decide (x = d))) wz := fun wz => HEQ.out x d wz
      have hgd : ∀ (op : BinOp) (a b : Operand) (wz : World), Sem.run Tryz.prog (eqGuard op 24 a b (.agg #[.int .i64 x.rep, .int .i64 x.ctr]) (.agg #[.int .i64 d.rep, .int .i64 d.ctr])) wz = .ok () wz := fun op a b wz => guardDot op a b x d wz
      have a0 : (0 : Int) ≤ k := by omega
      have a1 : (k : Int) < l.length := by omega
      have hkw : IntKind.i64.wrap ((k : Int) + 1) = (k : Int) + 1 := by rw [IntKind.wrap_i64]; omega
      clear e0 e1 HEQ HW
      by_cases hxy : x = d
      · have hd : decide (x = d) = true := decide_eq_true hxy
        rw [hd] at heq
        have HF : Hid (decide (d ∈ l) = true) := Lib.hid (decide_eq_true (hxy ▸ HMEM.out))
        clear HMEM HTK HNOT hxy hd
        go_upto_region 4 with fail
        go_quiet (fail)
        go_wp2_with fail
        go_ret
        exact ⟨by rw [HF.out]; rfl, below_drewN _ (HB1.out.trans (HB.out.mono HB1.out.size))⟩
      · have hd : decide (x = d) = false := decide_eq_false hxy
        rw [hd] at heq
        have HF : Hid (d ∉ l.take (k + 1)) := Lib.hid (by rw [HTK.out, List.mem_append, List.mem_singleton]; exact fun h => h.elim HNOT.out (fun e => hxy e.symm))
        clear HMEM HTK HNOT hxy hd
        go_upto_region 4 with fail
        go_quiet (fail)
        go_wp2_with fail
        go_roundw
        case rel => exact ⟨k + 1, by omega, by go_num, HF.out, below_drewN _ HB.out⟩
        case measure => simp [intOf]; omega
    · have hke : k = l.length := by omega
      have HF : Hid (decide (d ∈ l) = false) := Lib.hid (decide_eq_false (by have := HNOT.out; rw [hke, List.take_length] at this; exact this))
      clear HNOT
      go_wp2_with fail
      go_ret
      exact ⟨by rw [HF.out]; rfl, HB1.out.trans (HB.out.mono HB1.out.size)⟩
end Go.Proofs.YtjlhdgmcaiiagaaGreatDoor

