/- Inbox.Head. -/
import Derived.Test.YtkedgiklcmkmmaaGreatDoorI4
namespace Go.Proofs.YtkedgiklcmkmmaaGreatDoor
open Go.RowKit Go.Maps

theorem Box.front {G : Nat → Prop} {w : World} {b size : Nat} {k : ByteArray} {q : List ByteArray} (h : Box G w b size (k :: q)) :
    ∃ (g n first : Nat), w.heap[b]? = some (.cells #[.int .i64 size, .slice (some ⟨g, 0, none⟩) n n, .int .i64 first, .int .i64 (q.length + 1 : Nat)] 65) ∧ first < n ∧ n ≤ size ∧ g < w.heap.size ∧ w.cell? ⟨g, first * 4, none⟩ = some (.string k) ∧ w.cell? ⟨g, first * 4 + 1, none⟩ = some (.slice none 0 0) ∧ w.cell? ⟨g, first * 4 + 2, none⟩ = some (.slice none 0 0) ∧ w.cell? ⟨g, first * 4 + 3, none⟩ = some (.slice none 0 0) ∧ keyB k = true := by
  obtain ⟨h1, h2, h3, h4, rv, n, first, h5, h6, h7, h8, h9⟩ := h
  have hn : n ≠ 0 := by simp at h6; omega
  obtain ⟨a1, g, C, rfl, a3, a4, a5, a6, a7⟩ := h9 hn
  have hc : ∀ j, j < 4 → C[first * 4 + j]? = (zE k)[j]? := fun j hj => by
    have := a7 0 (by simp) j hj
    rw [Nat.add_zero, Nat.mod_eq_of_lt a1] at this
    exact this
  refine ⟨g, n, first, h5, a1, h7, lt_of_heap a5, ?_, ?_, ?_, ?_, h4 k (.head _)⟩
  · rw [cell0 a5]; exact hc 0 (by omega)
  · rw [cell0 a5]; exact hc 1 (by omega)
  · rw [cell0 a5]; exact hc 2 (by omega)
  · rw [cell0 a5]; exact hc 3 (by omega)

set_option maxRecDepth 100000 in
set_option maxHeartbeats 2000000 in
theorem head_none {G : Nat → Prop} {w : World} {b size : Nat} (h : Box G w b size []) : Calls Tryz.prog 21 #[.pointer (some ⟨b, 0, none⟩)] w fun e w' => e = .returned (.tuple #[.agg #[.string ⟨#[]⟩, .slice none 0 0, .slice none 0 0, .slice none 0 0], .int .i64 9]) ∧ Below w.heap.size w w' := by
  have hb1 : Below w.heap.size w (w.alloc (.cells #[.string ⟨#[]⟩, .slice none 0 0, .slice none 0 0, .slice none 0 0] 41)) := (Below.refl _ _).alloc (Nat.le_refl _) _
  have HN := Lib.hid (none_any (h.below hb1))
  obtain ⟨_, h2, _, _, rv, n, first, h5, _, _, _⟩ := h
  have hbl := lt_of_heap h5
  have c3 : w.cell? ⟨b, 3, none⟩ = some (.int .i64 0) := by rw [cell0 h5 3]; rfl
  clear h5 hb1
  go_enter Tryz.func21, Tryz.ntmps21
  go_wp2_with (go_at_call 31; refine HN.out.mono ?_; rintro e w1 ⟨rfl, rfl⟩)
  (try simp only [Exit.inBlock, Exit.then])
  refine bodyPost_ret (v := .tuple #[.agg #[.string ⟨#[]⟩, .slice none 0 0, .slice none 0 0, .slice none 0 0], .int .i64 9]) ?_ rfl ⟨rfl, (Below.refl _ _).alloc (Nat.le_refl _) _⟩
  rw [results_cell_tmp rfl]
  go_simp

set_option maxRecDepth 100000 in
set_option maxHeartbeats 4000000 in
theorem head_some {G : Nat → Prop} {w : World} {b size : Nat} {k : ByteArray} {q : List ByteArray} (h : Box G w b size (k :: q)) : Calls Tryz.prog 21 #[.pointer (some ⟨b, 0, none⟩)] w fun e w' => e = .returned (.tuple #[.agg #[.string k, .slice none 0 0, .slice none 0 0, .slice none 0 0], .int .i64 0]) ∧ Below w.heap.size w w' := by
  obtain ⟨W1, hW1⟩ : ∃ W1, W1 = w.alloc (.cells #[.string ⟨#[]⟩, .slice none 0 0, .slice none 0 0, .slice none 0 0] 41) := ⟨_, rfl⟩
  have hb1 : Below w.heap.size w W1 := by rw [hW1]; exact (Below.refl _ _).alloc (Nat.le_refl _) _
  have hz1 : w.heap.size < W1.heap.size := by rw [hW1]; simp
  have hc1 : W1.heap[w.heap.size]? = some (.cells #[.string ⟨#[]⟩, .slice none 0 0, .slice none 0 0, .slice none 0 0] 41) := by rw [hW1]; exact alloc_new _ _
  have HN := Lib.hid (none_any (h.below hb1))
  obtain ⟨g, n, first, h5, hf, hns, hg, e0, e1, e2, e3, hk⟩ := (h.below hb1).front
  have hks : k.size ≤ maxLen := by
    unfold keyB at hk; simp at hk; unfold maxLen; omega
  have HOWN := Lib.hid (fun w0 => own_any k w0 hk hks)
  have hbl := lt_of_heap h5
  have s1 : W1.cell? ⟨b, 1, none⟩ = some (.slice (some ⟨g, 0, none⟩) n n) := by rw [cell0 h5 1]; rfl
  have s2 : W1.cell? ⟨b, 2, none⟩ = some (.int .i64 first) := by rw [cell0 h5 2]; rfl
  have s3 : W1.cell? ⟨b, 3, none⟩ = some (.int .i64 (q.length + 1 : Nat)) := by rw [cell0 h5 3]; rfl
  have a1 : (((q.length + 1 : Nat) : Int) == 0) = false := by simp; omega
  have a2 : (0 : Int) ≤ first := by omega
  have a3 : (first : Int) < n := by omega
  have HB1 := Lib.hid hb1
  have HC1 := Lib.hid hc1
  clear h5 hb1 h hc1
  go_enter Tryz.func21, Tryz.ntmps21
  go_wp2_with fail
  rw [← hW1]
  refine HN.out.mono ?_
  rintro e w1 ⟨rfl, rfl⟩
  clear hW1
  go_upto_region 5 with fail
  have FINA : Hid (∀ w5, Below w1.drew.heap.size w1.drew w5 → ∃ z, Value.pointer (some ⟨w5.heap.size, 0, none⟩) = .pointer (some ⟨z, 0, none⟩) ∧ w1.heap.size ≤ z ∧ (w5.alloc (.cells #[.string k, .slice none 0 0, .slice none 0 0, .slice none 0 0] 41)).heap[z]? = some (.cells #[.string k, .slice none 0 0, .slice none 0 0, .slice none 0 0] 41) ∧ Below w1.heap.size w1 (w5.alloc (.cells #[.string k, .slice none 0 0, .slice none 0 0, .slice none 0 0] 41))) := Lib.hid (fun w5 h5 =>
    ⟨w5.heap.size, rfl, h5.size, alloc_new _ _, (((Below.refl _ _).drew).trans h5).alloc h5.size _⟩)
  have FINB : Hid (∀ w5, w5.heap[w1.heap.size]? = some (.cells #[.string ⟨#[]⟩, .slice none 0 0, .slice none 0 0, .slice none 0 0] 41) → Below (w1.alloc (.cells #[.string ⟨#[]⟩, .slice none 0 0, .slice none 0 0, .slice none 0 0] 41)).drew.heap.size (w1.alloc (.cells #[.string ⟨#[]⟩, .slice none 0 0, .slice none 0 0, .slice none 0 0] 41)).drew w5 → ∃ z, Value.pointer (some ⟨w1.heap.size, 0, none⟩) = .pointer (some ⟨z, 0, none⟩) ∧ w1.heap.size ≤ z ∧ ((((w5.setCell ⟨w1.heap.size, 0, none⟩ (.string k)).setCell ⟨w1.heap.size, 1, none⟩ (.slice none 0 0)).setCell ⟨w1.heap.size, 2, none⟩ (.slice none 0 0)).setCell ⟨w1.heap.size, 3, none⟩ (.slice none 0 0)).heap[z]? = some (.cells #[.string k, .slice none 0 0, .slice none 0 0, .slice none 0 0] 41) ∧ Below w1.heap.size w1 ((((w5.setCell ⟨w1.heap.size, 0, none⟩ (.string k)).setCell ⟨w1.heap.size, 1, none⟩ (.slice none 0 0)).setCell ⟨w1.heap.size, 2, none⟩ (.slice none 0 0)).setCell ⟨w1.heap.size, 3, none⟩ (.slice none 0 0))) := Lib.hid (fun w5 hal h5 => by
    refine ⟨w1.heap.size, rfl, Nat.le_refl _, ?_, ?_⟩
    · have h1 := setCell_same hal 0 (.string k)
      have h2 := setCell_same h1 1 (.slice none 0 0)
      have h3 := setCell_same h2 2 (.slice none 0 0)
      have h4 := setCell_same h3 3 (.slice none 0 0)
      exact h4
    · have hs : w1.heap.size ≤ (w1.alloc (.cells #[.string ⟨#[]⟩, .slice none 0 0, .slice none 0 0, .slice none 0 0] 41)).drew.heap.size := by show _ ≤ (w1.alloc _).heap.size; simp
      exact ((((((Below.refl _ _).alloc (Nat.le_refl _) _).drew.trans (h5.mono hs)).setCell (Nat.le_refl _) _).setCell (Nat.le_refl _) _).setCell (Nat.le_refl _) _).setCell (Nat.le_refl _) _)
  go_cut [4, 5] from 15 to 28 (fun p bb wx => ∃ z, p = .pointer (some ⟨z, 0, none⟩) ∧ bb = .bool true ∧ w1.heap.size ≤ z ∧ wx.heap[z]? = some (.cells #[.string k, .slice none 0 0, .slice none 0 0, .slice none 0 0] 41) ∧ Below w1.heap.size w1 wx)
  case first =>
    refine NQ.to ?_
    go_region_law (go_simp; go_at_call 33; refine (HOWN.out _).mono ?_; rintro e w5 ⟨rfl, hb5⟩; (first | (have hal : w5.heap[w1.heap.size]? = some (.cells #[.string ⟨#[]⟩, .slice none 0 0, .slice none 0 0, .slice none 0 0] 41) := (by rw [hb5.block _ (by simp)]; exact alloc_new _ _); have k0 : w5.cell? ⟨w1.heap.size, 0, none⟩ = some (.string ⟨#[]⟩) := (by rw [cell0 hal 0]; rfl); have k1 : w5.cell? ⟨w1.heap.size, 1, none⟩ = some (.slice none 0 0) := (by rw [cell0 hal 1]; rfl); have k2 : w5.cell? ⟨w1.heap.size, 2, none⟩ = some (.slice none 0 0) := (by rw [cell0 hal 2]; rfl); have k3 : w5.cell? ⟨w1.heap.size, 3, none⟩ = some (.slice none 0 0) := (by rw [cell0 hal 3]; rfl); have l0 : w5.frozen? ⟨w1.heap.size, 0, none⟩ = false := froz0 hal 0; have l1 : w5.frozen? ⟨w1.heap.size, 1, none⟩ = false := froz0 hal 1; have l2 : w5.frozen? ⟨w1.heap.size, 2, none⟩ = false := froz0 hal 2; have l3 : w5.frozen? ⟨w1.heap.size, 3, none⟩ = false := froz0 hal 3) | skip))
    all_goals
      simp only [NQ]
      go_wp2
      go_meet
      case rel => first | (have hal2 := hal; obtain ⟨z, a1, a2, a3, a4⟩ := FINB.out _ hal2 hb5; exact ⟨z, a1, rfl, a2, a3, a4⟩) | (obtain ⟨z, a1, a2, a3, a4⟩ := FINA.out _ hb5; exact ⟨z, a1, rfl, a2, a3, a4⟩)
  case rest =>
    obtain ⟨z, rfl, rfl, hz, hcz, hbx⟩ := hcut
    have hzl := lt_of_heap hcz
    have hcr : wc.heap[w.heap.size]? = some (.cells #[.string ⟨#[]⟩, .slice none 0 0, .slice none 0 0, .slice none 0 0] 41) := by rw [hbx.block _ hz1]; exact HC1.out
    have f0 : wc.cell? ⟨w.heap.size, 0, none⟩ = some (.string ⟨#[]⟩) := by rw [cell0 hcr 0]; rfl
    have f1 : wc.cell? ⟨w.heap.size, 1, none⟩ = some (.slice none 0 0) := by rw [cell0 hcr 1]; rfl
    have f2 : wc.cell? ⟨w.heap.size, 2, none⟩ = some (.slice none 0 0) := by rw [cell0 hcr 2]; rfl
    have f3 : wc.cell? ⟨w.heap.size, 3, none⟩ = some (.slice none 0 0) := by rw [cell0 hcr 3]; rfl
    have q0 : wc.frozen? ⟨w.heap.size, 0, none⟩ = false := froz0 hcr 0
    have q1 : wc.frozen? ⟨w.heap.size, 1, none⟩ = false := froz0 hcr 1
    have q2 : wc.frozen? ⟨w.heap.size, 2, none⟩ = false := froz0 hcr 2
    have q3 : wc.frozen? ⟨w.heap.size, 3, none⟩ = false := froz0 hcr 3
    have g0 : wc.cell? ⟨z, 0, none⟩ = some (.string k) := by rw [cell0 hcz 0]; rfl
    have g1 : wc.cell? ⟨z, 1, none⟩ = some (.slice none 0 0) := by rw [cell0 hcz 1]; rfl
    have g2 : wc.cell? ⟨z, 2, none⟩ = some (.slice none 0 0) := by rw [cell0 hcz 2]; rfl
    have g3 : wc.cell? ⟨z, 3, none⟩ = some (.slice none 0 0) := by rw [cell0 hcz 3]; rfl
    have HBX := Lib.hid (HB1.out.trans (hbx.mono (Nat.le_of_lt hz1)))
    clear hcr hcz hbx s1 s2 s3 e0 e1 e2 e3 HN
    go_wp2_with fail
    (try simp only [Exit.inBlock, Exit.then])
    refine bodyPost_ret (v := .tuple #[.agg #[.string k, .slice none 0 0, .slice none 0 0, .slice none 0 0], .int .i64 0]) ?_ rfl ⟨rfl, (((HBX.out.setCell (Nat.le_refl _) _).setCell (Nat.le_refl _) _).setCell (Nat.le_refl _) _).setCell (Nat.le_refl _) _⟩
    rw [results_cell_tmp rfl]
    go_simp
end Go.Proofs.YtkedgiklcmkmmaaGreatDoor
