/- qty.Compare, greatest, Newest; items.Qty. -/
import Derived.Test.YtjlhdgmcaiiagaaGreatDoorIt5
namespace Go.Proofs.YtjlhdgmcaiiagaaGreatDoor
open Go.RowKit Go.Maps

set_option maxRecDepth 100000 in
theorem isNaNU64_any (x : Int) (w : World) : Calls Tryz.prog 140 #[.int .u64 x] w fun e w' => e = .returned (.bool false) ∧ w' = w := by
  go_enter Tryz.func140, Tryz.ntmps140
  go_wp2
  go_ret
  exact ⟨rfl, rfl⟩
set_option maxRecDepth 100000 in
set_option maxHeartbeats 1000000 in
theorem cmpU64_any (x y : Int) (w : World) : Calls Tryz.prog 123 #[.int .u64 x, .int .u64 y] w fun e w' => e = .returned (.int .i64 (cmpI x y)) ∧ w' = w := by
  have HN := Lib.hid (fun z wz => isNaNU64_any z wz)
  by_cases h1 : x < y
  · have hc : Hid (cmpI x y = -1) := Lib.hid (by unfold cmpI; rw [if_pos h1])
    have t1 : decide (x < y) = true := decide_eq_true h1
    go_enter Tryz.func123, Tryz.ntmps123
    go_wp2_with fail
    refine (HN.out _ _).mono ?_
    rintro e w1 ⟨rfl, rfl⟩
    go_wp2_with fail
    refine (HN.out _ _).mono ?_
    rintro e w2 ⟨rfl, rfl⟩
    go_wp2_with fail
    go_ret
    exact ⟨by rw [hc.out]; rfl, rfl⟩
  · have t1 : decide (x < y) = false := decide_eq_false h1
    by_cases h2 : y < x
    · have hc : Hid (cmpI x y = 1) := Lib.hid (by unfold cmpI; rw [if_neg h1, if_pos h2])
      have t2 : decide (y < x) = true := decide_eq_true h2
      go_enter Tryz.func123, Tryz.ntmps123
      go_wp2_with fail
      refine (HN.out _ _).mono ?_
      rintro e w1 ⟨rfl, rfl⟩
      go_wp2_with fail
      refine (HN.out _ _).mono ?_
      rintro e w2 ⟨rfl, rfl⟩
      go_wp2_with fail
      go_ret
      exact ⟨by rw [hc.out]; rfl, rfl⟩
    · have hc : Hid (cmpI x y = 0) := Lib.hid (by unfold cmpI; rw [if_neg h1, if_neg h2])
      have t2 : decide (y < x) = false := decide_eq_false h2
      go_enter Tryz.func123, Tryz.ntmps123
      go_wp2_with fail
      refine (HN.out _ _).mono ?_
      rintro e w1 ⟨rfl, rfl⟩
      go_wp2_with fail
      refine (HN.out _ _).mono ?_
      rintro e w2 ⟨rfl, rfl⟩
      go_wp2_with fail
      go_ret
      exact ⟨by rw [hc.out]; rfl, rfl⟩


/-- The order of marks. -/
def mcmp (a b : MarkD) : Int := if a = b then 0 else orI [cmpI a.time b.time, cmpI a.dot.rep b.dot.rep, cmpI a.dot.ctr b.dot.ctr, cmpI a.qty b.qty]
set_option maxRecDepth 100000 in
set_option maxHeartbeats 8000000 in
theorem qtyCompare_any (a b : MarkD) (w : World) : Calls Tryz.prog 96 #[markV a, markV b] w fun e w' => e = .returned (.int .i64 (mcmp a b)) ∧ Below w.heap.size w w' := by
  have HEQ := Lib.hid (fun wz => eqMark a b wz)
  have HGD := Lib.hid (fun op x y wz => guardMark op x y a b wz)
  obtain ⟨W1, hW1⟩ : ∃ W1, W1 = ((w.alloc (.cells #[.int .i64 a.dot.rep, .int .i64 a.dot.ctr, .int .i64 a.qty, .int .u64 a.time] 62)).alloc (.cells #[.int .i64 b.dot.rep, .int .i64 b.dot.ctr, .int .i64 b.qty, .int .u64 b.time] 62)) := ⟨_, rfl⟩
  have hb1 : Below w.heap.size w W1 := by rw [hW1]; exact ((Below.refl _ _).alloc (Nat.le_refl _) _).alloc (by simp) _
  have hg0 : W1.heap[w.heap.size]? = some (.cells #[.int .i64 a.dot.rep, .int .i64 a.dot.ctr, .int .i64 a.qty, .int .u64 a.time] 62) := by rw [hW1, alloc_old _ _ (by simp)]; exact alloc_new _ _
  have hg1 : W1.heap[w.heap.size + 1]? = some (.cells #[.int .i64 b.dot.rep, .int .i64 b.dot.ctr, .int .i64 b.qty, .int .u64 b.time] 62) := by
    rw [hW1]
    have := alloc_new (w.alloc (.cells #[.int .i64 a.dot.rep, .int .i64 a.dot.ctr, .int .i64 a.qty, .int .u64 a.time] 62)) (.cells #[.int .i64 b.dot.rep, .int .i64 b.dot.ctr, .int .i64 b.qty, .int .u64 b.time] 62)
    simpa only [alloc_size] using this
  have c0 : W1.cell? ⟨w.heap.size, 0, none⟩ = some (.int .i64 a.dot.rep) := by rw [cell0 hg0 0]; rfl
  have c1 : W1.cell? ⟨w.heap.size, 1, none⟩ = some (.int .i64 a.dot.ctr) := by rw [cell0 hg0 1]; rfl
  have c2 : W1.cell? ⟨w.heap.size, 2, none⟩ = some (.int .i64 a.qty) := by rw [cell0 hg0 2]; rfl
  have c3 : W1.cell? ⟨w.heap.size, 3, none⟩ = some (.int .u64 a.time) := by rw [cell0 hg0 3]; rfl
  have d0 : W1.cell? ⟨w.heap.size + 1, 0, none⟩ = some (.int .i64 b.dot.rep) := by rw [cell0 hg1 0]; rfl
  have d1 : W1.cell? ⟨w.heap.size + 1, 1, none⟩ = some (.int .i64 b.dot.ctr) := by rw [cell0 hg1 1]; rfl
  have d2 : W1.cell? ⟨w.heap.size + 1, 2, none⟩ = some (.int .i64 b.qty) := by rw [cell0 hg1 2]; rfl
  have d3 : W1.cell? ⟨w.heap.size + 1, 3, none⟩ = some (.int .u64 b.time) := by rw [cell0 hg1 3]; rfl
  have HW := Lib.hid hW1
  have HB1 := Lib.hid hb1
  clear hW1 hb1 hg0 hg1
  unfold markV at *
  have heq : ∀ wz : World, Sem.run Tryz.prog (binOp .eql 62 (.agg #[.int .i64 a.dot.rep, .int .i64 a.dot.ctr, .int .i64 a.qty, .int .u64 a.time]) (.agg #[.int .i64 b.dot.rep, .int .i64 b.dot.ctr, .int .i64 b.qty, .int .u64 b.time])) wz = .ok (.bool (decide (a = b))) wz := fun wz => HEQ.out wz
  have hgd : ∀ (op : BinOp) (x y : Operand) (wz : World), Sem.run Tryz.prog (eqGuard op 62 x y (.agg #[.int .i64 a.dot.rep, .int .i64 a.dot.ctr, .int .i64 a.qty, .int .u64 a.time]) (.agg #[.int .i64 b.dot.rep, .int .i64 b.dot.ctr, .int .i64 b.qty, .int .u64 b.time])) wz = .ok () wz := fun op x y wz => HGD.out op x y wz
  by_cases hab : a = b
  · have HF : Hid (mcmp a b = 0) := Lib.hid (by unfold mcmp; rw [if_pos hab])
    have hd : decide (a = b) = true := decide_eq_true hab
    rw [hd] at heq
    clear hab hd
    go_enter Tryz.func96, Tryz.ntmps96
    clear c0 c1 c2 c3 d0 d1 d2 d3
    go_wp2_with fail
    go_ret
    exact ⟨by rw [HF.out]; rfl, ((Below.refl _ _).alloc (Nat.le_refl _) _).alloc (by simp) _⟩
  · have hd : decide (a = b) = false := decide_eq_false hab
    rw [hd] at heq
    have HF : Hid (mcmp a b = orI [cmpI a.time b.time, cmpI a.dot.rep b.dot.rep, cmpI a.dot.ctr b.dot.ctr, cmpI a.qty b.qty]) := Lib.hid (by unfold mcmp; rw [if_neg hab])
    clear hab hd
    go_enter Tryz.func96, Tryz.ntmps96
    go_upto_region 3 with fail
    rw [← HW.out]
    clear HW heq hgd HEQ HGD
    obtain ⟨x1, hx1⟩ : ∃ x, x = cmpI a.time b.time := ⟨_, rfl⟩
    obtain ⟨x2, hx2⟩ : ∃ x, x = cmpI a.dot.rep b.dot.rep := ⟨_, rfl⟩
    obtain ⟨x3, hx3⟩ : ∃ x, x = cmpI a.dot.ctr b.dot.ctr := ⟨_, rfl⟩
    obtain ⟨x4, hx4⟩ : ∃ x, x = cmpI a.qty b.qty := ⟨_, rfl⟩
    rw [← hx1, ← hx2, ← hx3, ← hx4] at HF
    have HC1 : Hid (∀ wz, Calls Tryz.prog 123 #[.int .u64 a.time, .int .u64 b.time] wz fun e w' => e = .returned (.int .i64 x1) ∧ w' = wz) := Lib.hid (fun wz => by rw [hx1]; exact cmpU64_any _ _ wz)
    have HC2 : Hid (∀ wz, Calls Tryz.prog 89 #[.int .i64 a.dot.rep, .int .i64 b.dot.rep] wz fun e w' => e = .returned (.int .i64 x2) ∧ w' = wz) := Lib.hid (fun wz => by rw [hx2]; exact cmpInt_any _ _ wz)
    have HC3 : Hid (∀ wz, Calls Tryz.prog 89 #[.int .i64 a.dot.ctr, .int .i64 b.dot.ctr] wz fun e w' => e = .returned (.int .i64 x3) ∧ w' = wz) := Lib.hid (fun wz => by rw [hx3]; exact cmpInt_any _ _ wz)
    have HC4 : Hid (∀ wz, Calls Tryz.prog 89 #[.int .i64 a.qty, .int .i64 b.qty] wz fun e w' => e = .returned (.int .i64 x4) ∧ w' = wz) := Lib.hid (fun wz => by rw [hx4]; exact cmpInt_any _ _ wz)
    clear hx1 hx2 hx3 hx4
    have HO2 : Hid (Calls Tryz.prog 88 #[.slice (some ⟨W1.heap.size, 0, none⟩) 4 4] (W1.drew.alloc (.cells #[.int .i64 x1, .int .i64 x2, .int .i64 x3, .int .i64 x4] 3)) fun e w' => e = .returned (.int .i64 (orI [x1, x2, x3, x4])) ∧ w' = W1.drew.alloc (.cells #[.int .i64 x1, .int .i64 x2, .int .i64 x3, .int .i64 x4] 3)) := Lib.hid (by
      have h0 : (W1.drew.alloc (.cells #[.int .i64 x1, .int .i64 x2, .int .i64 x3, .int .i64 x4] 3)).heap[W1.heap.size]? = some (.cells #[.int .i64 x1, .int .i64 x2, .int .i64 x3, .int .i64 x4] 3) := alloc_new W1.drew _
      exact cmpOr_any [x1, x2, x3, x4] W1.heap.size 4 _ (by simp) (fun i hi => by
        match i, hi with
        | 0, _ => rw [cell0 h0 0]; rfl
        | 1, _ => rw [cell0 h0 1]; rfl
        | 2, _ => rw [cell0 h0 2]; rfl
        | 3, _ => rw [cell0 h0 3]; rfl))
    refine NQ.to ?_
    go_region_held3 (fun w' => w'.cell? ⟨w.heap.size, 0, none⟩ = some (.int .i64 a.dot.rep) ∧ w'.cell? ⟨w.heap.size, 1, none⟩ = some (.int .i64 a.dot.ctr) ∧ w'.cell? ⟨w.heap.size, 2, none⟩ = some (.int .i64 a.qty) ∧ w'.cell? ⟨w.heap.size, 3, none⟩ = some (.int .u64 a.time) ∧ w'.cell? ⟨w.heap.size + 1, 0, none⟩ = some (.int .i64 b.dot.rep) ∧ w'.cell? ⟨w.heap.size + 1, 1, none⟩ = some (.int .i64 b.dot.ctr) ∧ w'.cell? ⟨w.heap.size + 1, 2, none⟩ = some (.int .i64 b.qty) ∧ w'.cell? ⟨w.heap.size + 1, 3, none⟩ = some (.int .u64 b.time)) (first | go_keep | go_simp) (first | (go_at_call 123; refine (HC1.out _).mono ?_; rintro e w1 ⟨rfl, rfl⟩) | (go_at_call 89; first | (with_reducible show Calls _ _ #[.int .i64 a.dot.rep, _] _ _; refine (HC2.out _).mono ?_; rintro e w1 ⟨rfl, rfl⟩) | (with_reducible show Calls _ _ #[.int .i64 a.dot.ctr, _] _ _; refine (HC3.out _).mono ?_; rintro e w1 ⟨rfl, rfl⟩) | (refine (HC4.out _).mono ?_; rintro e w1 ⟨rfl, rfl⟩)) | (go_at_call 88; refine HO2.out.mono ?_; rintro e w1 ⟨rfl, rfl⟩))
    all_goals
      simp only [NQ]
      go_wp2
      go_ret
      exact ⟨by rw [HF.out]; rfl, below_drew1 (HB1.out.alloc (by have := HB1.out.size; omega) _)⟩
end Go.Proofs.YtjlhdgmcaiiagaaGreatDoor

