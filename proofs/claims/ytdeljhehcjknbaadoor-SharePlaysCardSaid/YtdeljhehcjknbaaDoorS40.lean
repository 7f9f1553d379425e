/- Model.do walked for Allows: for every model of the shape of S27 where the table of rows lies. -/
import Derived.Test.YtdeljhehcjknbaaDoorS35
namespace Go.Proofs.YtdeljhehcjknbaaDoor
open Go.RowKit Go.Maps Go.Sort Go.Lib

set_option maxRecDepth 100000 in
set_option maxHeartbeats 4000000 in
theorem do_allows {G : Nat → Prop} {w : World} {b : Nat} {A : List APg} (by_ crt who : ByteArray) (right op : Int) (key other item : ByteArray) (qty : Int) (da : Option Addr) (dl dc : Nat) (hM : ModelIs G w b A) (hR : RowsLie w) (hc : CallR.fits ⟨op, key, other, item, qty, da, dl, dc⟩) (h1 : by_.size ≤ maxLen) :
    Calls Tryd.prog 11 #[.pointer (some ⟨b, 0, none⟩), (ActR.val ⟨4, by_, crt, who, right, ⟨op, key, other, item, qty, da, dl, dc⟩⟩)] w (DoPost G w b A (allowsE A by_ ⟨op, key, other, item, qty, da, dl, dc⟩)) := by
  have HAL := Lib.hid (fun wx (h : Below w.heap.size w wx) => allows_m by_ ⟨op, key, other, item, qty, da, dl, dc⟩ (hM.below h) (by
    obtain ⟨C, tt, fz, h1, h2⟩ := hR
    exact ⟨C, tt, fz, by rw [h.block 0 (lt_of_heap h1), h1], h2⟩) hc h1)
  unfold CallR.val at HAL
  simp only at HAL
  clear hR hc
  have HM := Lib.hid hM
  obtain ⟨W1, hW1⟩ : ∃ W1, W1 = w.alloc (.cells #[.int .i64 4, .string by_, .string crt, .string who, .int .i64 right, .int .i64 op, .string key, .string other, .string item, .int .i64 qty, .slice da dl dc] 29) := ⟨_, rfl⟩
  have HCELL : Hid (∀ wx, Below W1.heap.size W1 wx → (wx.cell? ⟨w.heap.size, 0, none⟩ = some (.int .i64 4) ∧ wx.cell? ⟨w.heap.size, 1, none⟩ = some (.string by_) ∧ wx.cell? ⟨w.heap.size, 2, none⟩ = some (.string crt) ∧ wx.cell? ⟨w.heap.size, 3, none⟩ = some (.string who) ∧ wx.cell? ⟨w.heap.size, 4, none⟩ = some (.int .i64 right) ∧ wx.cell? ⟨w.heap.size, 5, none⟩ = some (.int .i64 op) ∧ wx.cell? ⟨w.heap.size, 6, none⟩ = some (.string key) ∧ wx.cell? ⟨w.heap.size, 7, none⟩ = some (.string other) ∧ wx.cell? ⟨w.heap.size, 8, none⟩ = some (.string item) ∧ wx.cell? ⟨w.heap.size, 9, none⟩ = some (.int .i64 qty) ∧ wx.cell? ⟨w.heap.size, 10, none⟩ = some (.slice da dl dc))) := Lib.hid (by
    intro wx h
    rw [hW1] at h
    exact ⟨by rw [h.cell (p := ⟨w.heap.size, 0, none⟩) (by simp)]; go_simp, by rw [h.cell (p := ⟨w.heap.size, 1, none⟩) (by simp)]; go_simp, by rw [h.cell (p := ⟨w.heap.size, 2, none⟩) (by simp)]; go_simp, by rw [h.cell (p := ⟨w.heap.size, 3, none⟩) (by simp)]; go_simp, by rw [h.cell (p := ⟨w.heap.size, 4, none⟩) (by simp)]; go_simp, by rw [h.cell (p := ⟨w.heap.size, 5, none⟩) (by simp)]; go_simp, by rw [h.cell (p := ⟨w.heap.size, 6, none⟩) (by simp)]; go_simp, by rw [h.cell (p := ⟨w.heap.size, 7, none⟩) (by simp)]; go_simp, by rw [h.cell (p := ⟨w.heap.size, 8, none⟩) (by simp)]; go_simp, by rw [h.cell (p := ⟨w.heap.size, 9, none⟩) (by simp)]; go_simp, by rw [h.cell (p := ⟨w.heap.size, 10, none⟩) (by simp)]; go_simp⟩)
  have HB0 : Hid (∀ wx, Below W1.heap.size W1 wx → Below w.heap.size w wx) := Lib.hid (by
    intro wx h
    rw [hW1] at h
    exact ((Below.refl _ _).alloc (Nat.le_refl _) _).trans (h.mono (by simp)))
  have HT := Lib.hid (fun (w1 w2 : World) (h : Below W1.heap.size W1 w1) (h2 : Below w1.heap.size w1 w2) => h.trans (h2.mono h.size))
  have hz1 : w.heap.size < W1.heap.size := by rw [hW1]; simp
  obtain ⟨f0, f1, f2, f3, f4, f5, f6, f7, f8, f9, f10⟩ := HCELL.out _ (Below.refl _ _)
  have hb := Below.refl W1.heap.size W1
  clear hM
  unfold ActR.val
  simp only
  go_enter Tryd.func11, Tryd.ntmps11
  go_upto_region 1 with fail
  rw [← hW1]
  clear hW1
  have HB1 := Lib.hid (HB0.out _ hb)
  go_wp2_with (go_at_call 13; refine (HAL.out _ HB1.out).mono ?_; rintro e w1 ⟨rfl, hb1⟩)
  go_ret
  exact DoPost.same HM.out (HB0.out _ (HT.out _ _ hb hb1))
end Go.Proofs.YtdeljhehcjknbaaDoor
