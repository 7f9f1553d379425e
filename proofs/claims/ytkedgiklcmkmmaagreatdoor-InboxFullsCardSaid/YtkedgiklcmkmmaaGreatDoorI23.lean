/- InboxFulls answers true inside its range. -/
import Derived.Test.YtkedgiklcmkmmaaGreatDoorI14
import Derived.Test.YtkedgiklcmkmmaaGreatDoorI19
import Derived.Test.YtkedgiklcmkmmaaGreatDoorI18
namespace Go.Proofs.YtkedgiklcmkmmaaGreatDoor
open Go.RowKit Go.Maps

theorem rd_cells {w : World} {g n m : Nat} {C : Array Value} (hg : w.heap[g]? = some (.cells C 41)) (hm : m ≤ n) (hn : n ≤ 10000) (hC : ∀ i, i < n → ∀ j, j < 4 → C[i * 4 + j]? = (zE (kE i))[j]?) : Rd w (.slice (some ⟨g, 0, none⟩) m n) 4 (qE 0 m).length (flatE (qE 0 m)) := by
  have hl : (qE 0 m).length = m := by rw [qE_len]; omega
  refine ⟨_, n, by rw [hl], flatE_len _, by unfold maxLen; omega, fun _ => ⟨g, rfl, lt_of_heap hg, fun j u hj => ?_⟩⟩
  rw [cell0 hg]
  have hjl : j < m * 4 := by
    rcases Nat.lt_or_ge j (m * 4) with h | h
    · exact h
    · rw [List.getElem?_eq_none (by rw [flatE_len, hl]; exact h)] at hj; cases hj
  have h4 : j / 4 < m := by omega
  have hjj : j = j / 4 * 4 + j % 4 := by omega
  rw [hjj, flatE_get _ (j / 4) (by omega) (j % 4) (by omega)] at hj
  rw [hjj, hC (j / 4) (by omega) (j % 4) (by omega), ← hj]
  congr 2
  simp [qE]
theorem new4096 (w : World) : Calls Tryz.prog 9 #[.int .i64 4096] w fun e w' => e = .returned (.tuple #[.pointer (some ⟨w.heap.size, 0, none⟩), .int .i64 0]) ∧ w' = w.alloc (.cells #[.int .i64 4096, .slice none 0 0, .int .i64 0, .int .i64 0] 65) := new_ok 4096 (by decide) (by decide) w

set_option maxRecDepth 100000 in
set_option maxHeartbeats 4000000 in
theorem fulls_main (n m : Nat) (hn1 : 4090 ≤ n) (hn2 : n ≤ 4098) (hm : m ≤ 8) (w : World) : Calls Tryz.prog 5 #[.int .i64 n, .int .u8 m] w fun e w' => e = .returned (.bool true) ∧ Below w.heap.size w w' := by
  have a1 : decide ((n : Int) < 4090) = false := decide_eq_false (by omega)
  have a2 : decide (4098 < (n : Int)) = false := decide_eq_false (by omega)
  have a3 : decide (8 < (m : Int)) = false := decide_eq_false (by omega)
  have hwm : IntKind.i64.wrap (m : Int) = (m : Int) := by rw [IntKind.wrap_i64]; omega
  have hwnm : IntKind.i64.wrap ((n : Int) + m) = (n : Int) + m := by rw [IntKind.wrap_i64]; omega
  obtain ⟨i0, hi0, hz0, hz1, hz2⟩ := info_parts Tryz_info41
  obtain ⟨CM, hCM⟩ : ∃ CM, CM = madeCells (Value.agg #[.string ⟨#[]⟩, .slice none 0 0, .slice none 0 0, .slice none 0 0]).cells (n * 4) := ⟨_, rfl⟩
  have hCs : CM.size = n * 4 := by rw [hCM]; exact size_madeCells _ _
  have hms : ∀ W : World, (Instr.makeSlice 29 (.int .i64 (n : Int)) (.int .i64 (n : Int))).run Tryz.prog W = .ok (.slice (some ⟨W.heap.size, 0, none⟩) n n) (W.alloc (.cells CM 41)) := fun W => by
    have := run_makeSlice (P := Tryz.prog) W 29 41 i0 _ Tryz.underlying29 hi0 hz0 .i64 .i64 n n (by omega) (by omega) (by rw [hz1]; omega) (by rw [hz2]; omega) (by omega)
    rw [this, hCM, hz1]
    rfl
  clear hCM hi0 hz0 hz1 hz2 i0
  have HB0 := Lib.hid (Box.new w 4096 (by decide) (by decide))
  have HK := Lib.hid (fun wx => known_any wx)
  go_enter Tryz.func5, Tryz.ntmps5
  go_wp2_with fail
  refine (new4096 _).mono ?_
  rintro e w1 ⟨rfl, rfl⟩
  go_wp2_with fail
  clear hms a1 a2 a3
  go_loopw [8] (fun i wr => ∃ (k : Nat) (C : Array Value), k ≤ n ∧ i = .int .i64 k ∧ wr.heap[w.heap.size + 1]? = some (.cells C 41) ∧ C.size = n * 4 ∧ (∀ i, i < k → ∀ j, j < 4 → C[i * 4 + j]? = (zE (kE i))[j]?) ∧ Box (fun k => k = w.heap.size) wr w.heap.size 4096 [] ∧ Below w.heap.size w wr) (fun i _ => n - (intOf i).toNat)
  case atStart =>
    refine ⟨0, CM, Nat.zero_le _, rfl, ?_, hCs, fun i hi => absurd hi (Nat.not_lt_zero _), HB0.out.below ((Below.refl _ _).alloc (Nat.le_refl _) _), ((Below.refl _ _).alloc (Nat.le_refl _) _).alloc (by simp) _⟩
    have := alloc_new (w.alloc (.cells #[.int .i64 4096, .slice none 0 0, .int .i64 0, .int .i64 0] 65)) (.cells CM 41)
    simpa only [alloc_size] using this
  case round =>
    obtain ⟨k, C, hk, rfl, hgC, hsC, hCk, hbox, hB⟩ := hrel
    by_cases hlt : k < n
    · have a4 : (k : Int) < n := by omega
      have a5 : (0 : Int) ≤ k := by omega
      have hgl := lt_of_heap hgC
      have HE := Lib.hid (entry_any k (by omega) wr)
      have HBX := Lib.hid hbox
      have HB := Lib.hid hB
      have HCK := Lib.hid hCk
      have HGC := Lib.hid hgC
      clear hbox hB hCk hgC
      go_wp2_with fail
      refine HE.out.mono ?_
      rintro e w2 ⟨rfl, hb2⟩
      have hg2 : w2.heap[w.heap.size + 1]? = some (.cells C 41) := by rw [hb2.block _ hgl]; exact HGC.out
      have gz : ∀ j, j < 4 → ∃ u, w2.cell? ⟨w.heap.size + 1, k * 4 + j, none⟩ = some u := fun j hj => by
        rw [cell0 hg2]
        exact ⟨C[k * 4 + j]'(by omega), by rw [Array.getElem?_eq_getElem]⟩
      obtain ⟨y0, g0⟩ := gz 0 (by omega)
      replace g0 : w2.cell? ⟨w.heap.size + 1, k * 4, none⟩ = some y0 := g0
      obtain ⟨y1, g1⟩ := gz 1 (by omega)
      obtain ⟨y2, g2⟩ := gz 2 (by omega)
      obtain ⟨y3, g3⟩ := gz 3 (by omega)
      have z0 : w2.frozen? ⟨w.heap.size + 1, k * 4, none⟩ = false := froz0 hg2 _
      have z1 : w2.frozen? ⟨w.heap.size + 1, k * 4 + 1, none⟩ = false := froz0 hg2 _
      have z2 : w2.frozen? ⟨w.heap.size + 1, k * 4 + 2, none⟩ = false := froz0 hg2 _
      have z3 : w2.frozen? ⟨w.heap.size + 1, k * 4 + 3, none⟩ = false := froz0 hg2 _
      have HG2 := Lib.hid hg2
      have HB2 := Lib.hid hb2
      have HX : Hid (∃ x, x = kE k) := Lib.hid ⟨_, rfl⟩
      obtain ⟨x, hx⟩ := HX.out
      rw [← hx]
      have HXE := Lib.hid hx
      clear gz hg2 hb2 hx HX
      go_wp2_with fail
      have hne : ∀ (W : World) a v, (World.setCell W ⟨w.heap.size + 1, a, none⟩ v).heap[w.heap.size]? = W.heap[w.heap.size]? := fun W a v => Below.heap_setCell _ _ _ _ (by simp)
      go_roundw
      case rel =>
        refine ⟨k + 1, (((C.setIfInBounds (k * 4) (.string x)).setIfInBounds (k * 4 + 1) (.slice none 0 0)).setIfInBounds (k * 4 + 2) (.slice none 0 0)).setIfInBounds (k * 4 + 3) (.slice none 0 0), by omega, by go_num, ?_, by simp [hsC], ?_, ?_, ?_⟩
        · exact setCell_same (setCell_same (setCell_same (setCell_same HG2.out _ _) _ _) _ _) _ _
        · intro i hi j hj
          by_cases hik : i = k
          · subst hik
            rw [← HXE.out]
            exact put4_get C i x n hsC (by omega) j hj
          · rw [Array.getElem?_setIfInBounds_ne (by omega), Array.getElem?_setIfInBounds_ne (by omega), Array.getElem?_setIfInBounds_ne (by omega), Array.getElem?_setIfInBounds_ne (by omega)]
            exact HCK.out i (by omega) j hj
        · refine (HBX.out.below HB2.out).of (fun _ h => h) (fun k hk _ => ?_)
          rw [hk, hne, hne, hne, hne]
        · exact ((((HB.out.trans (HB2.out.mono (by omega))).setCell (by simp) _).setCell (by simp) _).setCell (by simp) _).setCell (by simp) _
      case measure => simp [intOf]; omega
    · have hke : k = n := by omega
      subst hke
      have HB := Lib.hid hB
      have hrd := rd_cells hgC (Nat.le_refl k) (by omega) hCk
      have HPC := Lib.hid (put_any hbox (qE 0 k) _ hrd (qE_keys _ _) (by rw [qE_len]; omega))
      have hgl := lt_of_heap hgC
      have HRM : Hid (∀ W : World, W.heap[w.heap.size + 1]? = wr.heap[w.heap.size + 1]? → Rd W (.slice (some ⟨w.heap.size + 1, 0, none⟩) m k) 4 (qE 0 m).length (flatE (qE 0 m))) := Lib.hid (fun W hW => rd_cells (C := C) (by rw [hW]; exact hgC) (by omega) (by omega) hCk)
      have hBs := hB.size
      clear hB hrd hbox hCk hgC
      by_cases hbig : 4096 < k
      · have t1 : decide (4096 < (k : Int)) = true := decide_eq_true (by omega)
        have HP : Hid (Calls Tryz.prog 13 #[.pointer (some ⟨w.heap.size, 0, none⟩), .slice (some ⟨w.heap.size + 1, 0, none⟩) k k] wr fun e w' => e = .returned (.int .i64 11) ∧ Box (fun k => k = w.heap.size ∨ wr.heap.size ≤ k) w' w.heap.size 4096 [] ∧ Below w.heap.size wr w') := Lib.hid (HPC.out.mono (fun e w' ⟨h1, h2, h3⟩ => ⟨by rw [h1, if_neg (by rw [qE_len]; simp; omega)], by rwa [if_neg (by rw [qE_len]; simp; omega)] at h2, h3.toBelow (fun k hk => by omega) hBs⟩))
        clear HPC hbig
        go_wp2_with fail
        refine HP.out.mono ?_
        rintro e w2 ⟨rfl, hbx2, hb2⟩
        have HBX2 := Lib.hid hbx2
        have HB2 := Lib.hid hb2
        clear hbx2 hb2
        go_wp2_with fail
        refine (len_any HBX2.out).mono ?_
        rintro e w3 ⟨rfl, rfl⟩
        go_wp2_with fail
        refine (HK.out _).mono ?_
        rintro e w4 ⟨rfl, hb4⟩
        have HB4 := Lib.hid hb4
        clear hb4
        go_wp2_with fail
        go_ret
        exact ⟨rfl, (HB.out.trans HB2.out).trans (HB4.out.mono (Nat.le_trans hBs HB2.out.size))⟩
      · have t1 : decide (4096 < (k : Int)) = false := decide_eq_false (by omega)
        have HP : Hid (Calls Tryz.prog 13 #[.pointer (some ⟨w.heap.size, 0, none⟩), .slice (some ⟨w.heap.size + 1, 0, none⟩) k k] wr fun e w' => e = .returned (.int .i64 0) ∧ Box (fun k => k = w.heap.size ∨ wr.heap.size ≤ k) w' w.heap.size 4096 (qE 0 k) ∧ Below w.heap.size wr w' ∧ w'.heap[w.heap.size + 1]? = wr.heap[w.heap.size + 1]? ∧ wr.heap.size ≤ w'.heap.size) := Lib.hid (HPC.out.mono (fun e w' ⟨h1, h2, h3⟩ => ⟨by rw [h1, if_pos (by rw [qE_len]; simp; omega)], by rwa [if_pos (by rw [qE_len]; simp; omega), List.nil_append] at h2, h3.toBelow (fun k hk => by omega) hBs, h3.1 _ hgl (by omega), h3.2.1⟩))
        have a6 : (m : Int) ≤ k := by omega
        have a7 : (0 : Int) ≤ m := by omega
        have HHD : Hid (∀ l : List ByteArray, headK (qE 0 k ++ l) = (kE 0, 0)) := Lib.hid (fun l => by rw [qE_cons (by omega)]; rfl)
        have hhd0 : headK (qE 0 k) = (kE 0, 0) := qE_head (by omega)
        clear HPC
        go_wp2_with fail
        refine HP.out.mono ?_
        rintro e w2 ⟨rfl, hbx2, hb2, hg2, hs2⟩
        have HBX2 := Lib.hid hbx2
        have HB2 := Lib.hid hb2
        have HRD2 := Lib.hid (HRM.out _ hg2)
        have HS2 := Lib.hid hs2
        have HL : Hid (Calls Tryz.prog 16 #[.pointer (some ⟨w.heap.size, 0, none⟩)] w2 fun e w' => e = .returned (.int .i64 (k : Int)) ∧ w' = w2) := Lib.hid ((len_any HBX2.out).mono (fun e w' ⟨h1, h2⟩ => ⟨by rw [h1, qE_len]; rfl, h2⟩))
        clear hbx2 hb2 hg2 HP HRM hs2
        go_wp2_with fail
        refine HL.out.mono ?_
        rintro e w3 ⟨rfl, rfl⟩
        clear HL
        by_cases hfit : k + m ≤ 4096
        · have t1 : decide (4096 < (k : Int) + m) = false := decide_eq_false (by omega)
          have HP2 : Hid (∀ w0 (h : Box (fun k => k = w.heap.size ∨ wr.heap.size ≤ k) w0 w.heap.size 4096 (qE 0 k)) (hr : Rd w0 (.slice (some ⟨w.heap.size + 1, 0, none⟩) m k) 4 (qE 0 m).length (flatE (qE 0 m))) (hs : w.heap.size ≤ w0.heap.size), Calls Tryz.prog 13 #[.pointer (some ⟨w.heap.size, 0, none⟩), .slice (some ⟨w.heap.size + 1, 0, none⟩) m k] w0 fun e w' => e = .returned (.int .i64 0) ∧ Box (fun k => (k = w.heap.size ∨ wr.heap.size ≤ k) ∨ w0.heap.size ≤ k) w' w.heap.size 4096 (qE 0 k ++ qE 0 m) ∧ Below w.heap.size w0 w') := Lib.hid (fun w0 h hr hs => (put_any h (qE 0 m) _ hr (qE_keys _ _) (by rw [qE_len]; omega)).mono (fun e w' ⟨h1, h2, h3⟩ => ⟨by rw [h1, if_pos (by rw [qE_len, qE_len]; omega)], by rwa [if_pos (by rw [qE_len, qE_len]; omega)] at h2, h3.toBelow (fun k hk => by rcases hk with h | h <;> omega) hs⟩))
          clear hfit
          go_wp2_with fail
          refine (HP2.out _ HBX2.out HRD2.out (Nat.le_trans HB.out.size HS2.out)).mono ?_
          rintro e w4 ⟨rfl, hbx4, hb4⟩
          have HBX4 := Lib.hid hbx4
          have HB4 := Lib.hid hb4
          clear hbx4 hb4 HP2
          go_wp2_with fail
          refine (entry_any 0 (by decide) _).mono ?_
          rintro e w5 ⟨rfl, hb5⟩
          have HBX5 := Lib.hid (HBX4.out.below hb5)
          have HB5 := Lib.hid (HB4.out.trans (hb5.mono (Nat.le_trans (Nat.le_trans HB.out.size HS2.out) HB4.out.size)))
          clear hb5
          have HT : Hid (Calls Tryz.prog 15 #[.pointer (some ⟨w.heap.size, 0, none⟩), .agg #[.string (kE 0), .slice none 0 0, .slice none 0 0, .slice none 0 0], .int .i64 0] w5 fun e w' => e = .returned (.bool true) ∧ Below w.heap.size w5 w') := Lib.hid ((takes_any HBX5.out (kE 0) 0).mono (fun e w' ⟨h1, _, h3⟩ => ⟨by rw [h1, HHD.out _]; simp, h3.toBelow (fun k hk => by have := HB.out.size; have := HS2.out; have := HB4.out.size; rcases hk with (h | h) | h <;> omega) (Nat.le_trans (Nat.le_trans HB.out.size HS2.out) HB5.out.size)⟩))
          go_wp2_with fail
          refine HT.out.mono ?_
          rintro e w6 ⟨rfl, hb6⟩
          have HB6 := Lib.hid (HB5.out.trans hb6)
          clear hb6
          go_wp2_with fail
          refine (HK.out _).mono ?_
          rintro e w7 ⟨rfl, hb7⟩
          have HB7 := Lib.hid (HB6.out.trans (hb7.mono (Nat.le_trans (Nat.le_trans HB.out.size HS2.out) HB6.out.size)))
          clear hb7
          go_wp2_with fail
          go_ret
          exact ⟨rfl, (HB.out.trans HB2.out).trans HB7.out⟩
        · have t1 : decide (4096 < (k : Int) + m) = true := decide_eq_true (by omega)
          have HP2 : Hid (∀ w0 (h : Box (fun k => k = w.heap.size ∨ wr.heap.size ≤ k) w0 w.heap.size 4096 (qE 0 k)) (hr : Rd w0 (.slice (some ⟨w.heap.size + 1, 0, none⟩) m k) 4 (qE 0 m).length (flatE (qE 0 m))) (hs : w.heap.size ≤ w0.heap.size), Calls Tryz.prog 13 #[.pointer (some ⟨w.heap.size, 0, none⟩), .slice (some ⟨w.heap.size + 1, 0, none⟩) m k] w0 fun e w' => e = .returned (.int .i64 11) ∧ Box (fun k => (k = w.heap.size ∨ wr.heap.size ≤ k) ∨ w0.heap.size ≤ k) w' w.heap.size 4096 (qE 0 k) ∧ Below w.heap.size w0 w') := Lib.hid (fun w0 h hr hs => (put_any h (qE 0 m) _ hr (qE_keys _ _) (by rw [qE_len]; omega)).mono (fun e w' ⟨h1, h2, h3⟩ => ⟨by rw [h1, if_neg (by rw [qE_len, qE_len]; omega)], by rwa [if_neg (by rw [qE_len, qE_len]; omega)] at h2, h3.toBelow (fun k hk => by rcases hk with h | h <;> omega) hs⟩))
          clear hfit
          go_wp2_with fail
          refine (HP2.out _ HBX2.out HRD2.out (Nat.le_trans HB.out.size HS2.out)).mono ?_
          rintro e w4 ⟨rfl, hbx4, hb4⟩
          have HBX4 := Lib.hid hbx4
          have HB4 := Lib.hid hb4
          clear hbx4 hb4 HP2
          go_wp2_with fail
          refine (entry_any 0 (by decide) _).mono ?_
          rintro e w5 ⟨rfl, hb5⟩
          have HBX5 := Lib.hid (HBX4.out.below hb5)
          have HB5 := Lib.hid (HB4.out.trans (hb5.mono (Nat.le_trans (Nat.le_trans HB.out.size HS2.out) HB4.out.size)))
          clear hb5
          have HT : Hid (Calls Tryz.prog 15 #[.pointer (some ⟨w.heap.size, 0, none⟩), .agg #[.string (kE 0), .slice none 0 0, .slice none 0 0, .slice none 0 0], .int .i64 0] w5 fun e w' => e = .returned (.bool true) ∧ Below w.heap.size w5 w') := Lib.hid ((takes_any HBX5.out (kE 0) 0).mono (fun e w' ⟨h1, _, h3⟩ => ⟨by rw [h1, hhd0]; simp, h3.toBelow (fun k hk => by have := HB.out.size; have := HS2.out; have := HB4.out.size; rcases hk with (h | h) | h <;> omega) (Nat.le_trans (Nat.le_trans HB.out.size HS2.out) HB5.out.size)⟩))
          go_wp2_with fail
          refine HT.out.mono ?_
          rintro e w6 ⟨rfl, hb6⟩
          have HB6 := Lib.hid (HB5.out.trans hb6)
          clear hb6
          go_wp2_with fail
          refine (HK.out _).mono ?_
          rintro e w7 ⟨rfl, hb7⟩
          have HB7 := Lib.hid (HB6.out.trans (hb7.mono (Nat.le_trans (Nat.le_trans HB.out.size HS2.out) HB6.out.size)))
          clear hb7
          go_wp2_with fail
          go_ret
          exact ⟨rfl, (HB.out.trans HB2.out).trans HB7.out⟩
set_option maxRecDepth 100000 in
set_option maxHeartbeats 2000000 in
theorem fulls_in (many more : Int) (hm0 : 0 ≤ more) (w : World) : Calls Tryz.prog 5 #[.int .i64 many, .int .u8 more] w fun e w' => e = .returned (.bool true) ∧ Below w.heap.size w w' := by
  have HK := Lib.hid (fun wx => known_any wx)
  by_cases h1 : many < 4090
  · have a1 : decide (many < 4090) = true := decide_eq_true h1
    clear h1
    go_enter Tryz.func5, Tryz.ntmps5
    go_wp2_with fail
    refine (HK.out _).mono ?_
    rintro e w1 ⟨rfl, hb1⟩
    go_wp2_with fail
    go_ret
    exact ⟨rfl, hb1⟩
  · by_cases h2 : 4098 < many
    · have a1 : decide (many < 4090) = false := decide_eq_false h1
      have a2 : decide (4098 < many) = true := decide_eq_true h2
      clear h1 h2
      go_enter Tryz.func5, Tryz.ntmps5
      go_wp2_with fail
      refine (HK.out _).mono ?_
      rintro e w1 ⟨rfl, hb1⟩
      go_wp2_with fail
      go_ret
      exact ⟨rfl, hb1⟩
    · by_cases h3 : 8 < more
      · have a1 : decide (many < 4090) = false := decide_eq_false h1
        have a2 : decide (4098 < many) = false := decide_eq_false h2
        have a3 : decide (8 < more) = true := decide_eq_true h3
        clear h1 h2 h3
        go_enter Tryz.func5, Tryz.ntmps5
        go_wp2_with fail
        refine (HK.out _).mono ?_
        rintro e w1 ⟨rfl, hb1⟩
        go_wp2_with fail
        go_ret
        exact ⟨rfl, hb1⟩
      · obtain ⟨n, rfl⟩ : ∃ n : Nat, many = n := ⟨many.toNat, by omega⟩
        obtain ⟨m, rfl⟩ : ∃ m : Nat, more = m := ⟨more.toNat, by omega⟩
        exact fulls_main n m (by omega) (by omega) (by omega) w
end Go.Proofs.YtkedgiklcmkmmaaGreatDoor
