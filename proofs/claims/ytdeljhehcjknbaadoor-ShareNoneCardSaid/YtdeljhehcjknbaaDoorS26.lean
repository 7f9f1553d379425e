/- ShareNone walked: true for every call, wherever the table of rows lies. -/
import Derived.Test.YtdeljhehcjknbaaDoorS16
import Derived.Test.YtdeljhehcjknbaaDoorS21
import Derived.Test.YtdeljhehcjknbaaDoorS25
import Derived.Deep.Cut
namespace Go.Proofs.YtdeljhehcjknbaaDoor
open Go.RowKit Go.Maps Go.Sort

set_option maxRecDepth 100000 in
set_option maxHeartbeats 4000000 in
theorem none_any (a : ActR) (w : World) (hR : RowsLie w) (hf : a.fits) :
    Calls Tryd.prog 7 #[a.val] w fun e w' => e = .returned (.bool true) ∧ Below w.heap.size w w' := by
  have HR := Lib.hid hR
  have h0 : 0 < w.heap.size := by obtain ⟨C, tt, fz, h1, _⟩ := hR; exact lt_of_heap h1
  clear hR
  obtain ⟨what, by_, crt, who, right, op, key, other, item, qty, da, dl, dc⟩ := a
  have HS := Lib.hid (fun w0 => short_any ⟨what, by_, crt, who, right, op, key, other, item, qty, da, dl, dc⟩ w0 hf)
  have HC := Lib.hid (fun w0 x => calls_nil ⟨x, by_, crt, who, right, op, key, other, item, qty, da, dl, dc⟩ w0)
  have HKN := Lib.hid (fun w1 hB => known_any w1 (rowsLie_base HR.out hB h0))
  have HRI := Lib.hid (fun a b w0 => rights_nil a b w0)
  have HOW := Lib.hid (fun a w0 => owner_nil a w0)
  have HME := Lib.hid (fun a w0 => members_nil a w0)
  have HCA := Lib.hid (fun a w0 => carts_nil a w0)
  have HCO := Lib.hid (fun w0 => copy_nil w0)
  clear hf
  unfold ActR.val at *
  simp only at *
  go_enter Tryd.func7, Tryd.ntmps7
  go_wp2_with fail
  refine (HS.out _).mono ?_
  rintro e w1 ⟨rfl, hb1⟩
  have hz1 : w.heap.size < w1.heap.size := by have := hb1.size; simp at this; omega
  have hB1 : Below w.heap.size w w1 := ((Below.refl _ _).alloc (Nat.le_refl _) _).trans (hb1.mono (by simp))
  have d0 : w1.cell? ⟨w.heap.size, 0, none⟩ = some (.int .i64 what) := by rw [hb1.cell (p := ⟨_, _, _⟩) (by simp)]; go_simp
  have d1 : w1.cell? ⟨w.heap.size, 1, none⟩ = some (.string by_) := by rw [hb1.cell (p := ⟨_, _, _⟩) (by simp)]; go_simp
  have d2 : w1.cell? ⟨w.heap.size, 2, none⟩ = some (.string crt) := by rw [hb1.cell (p := ⟨_, _, _⟩) (by simp)]; go_simp
  have d3 : w1.cell? ⟨w.heap.size, 3, none⟩ = some (.string who) := by rw [hb1.cell (p := ⟨_, _, _⟩) (by simp)]; go_simp
  have d4 : w1.cell? ⟨w.heap.size, 4, none⟩ = some (.int .i64 right) := by rw [hb1.cell (p := ⟨_, _, _⟩) (by simp)]; go_simp
  have d5 : w1.cell? ⟨w.heap.size, 5, none⟩ = some (.int .i64 op) := by rw [hb1.cell (p := ⟨_, _, _⟩) (by simp)]; go_simp
  have d6 : w1.cell? ⟨w.heap.size, 6, none⟩ = some (.string key) := by rw [hb1.cell (p := ⟨_, _, _⟩) (by simp)]; go_simp
  have d7 : w1.cell? ⟨w.heap.size, 7, none⟩ = some (.string other) := by rw [hb1.cell (p := ⟨_, _, _⟩) (by simp)]; go_simp
  have d8 : w1.cell? ⟨w.heap.size, 8, none⟩ = some (.string item) := by rw [hb1.cell (p := ⟨_, _, _⟩) (by simp)]; go_simp
  have d9 : w1.cell? ⟨w.heap.size, 9, none⟩ = some (.int .i64 qty) := by rw [hb1.cell (p := ⟨_, _, _⟩) (by simp)]; go_simp
  have d10 : w1.cell? ⟨w.heap.size, 10, none⟩ = some (.slice da dl dc) := by rw [hb1.cell (p := ⟨_, _, _⟩) (by simp)]; go_simp
  have hfr := (bcell hb1).2
  generalize decide (ActR.short _) = sh
  cases sh
  · go_wp2_with (go_at_call 9; refine (HKN.out _ hB1).mono ?_; rintro e w6 ⟨rfl, hb6⟩)
    go_ret
    exact ⟨rfl, hB1.trans (hb6.mono hB1.size)⟩
  · go_upto_region 5 with fail
    obtain ⟨W2, hW2⟩ : ∃ W2, W2 = w1.setCell ⟨w.heap.size, 0, none⟩ (.int .i64 (max 0 (min 4 what))) := ⟨_, rfl⟩
    have hB2 : Below w.heap.size w W2 := by rw [hW2]; exact hB1.setCell (Nat.le_refl _) _
    have hzz : w.heap.size < W2.heap.size := by rw [hW2]; simpa using hz1
    have f0 : W2.cell? ⟨w.heap.size, 0, none⟩ = some (.int .i64 (max 0 (min 4 what))) := by rw [hW2]; go_simp
    have f1 : W2.cell? ⟨w.heap.size, 1, none⟩ = some (.string by_) := by rw [hW2]; go_simp
    have f2 : W2.cell? ⟨w.heap.size, 2, none⟩ = some (.string crt) := by rw [hW2]; go_simp
    have f3 : W2.cell? ⟨w.heap.size, 3, none⟩ = some (.string who) := by rw [hW2]; go_simp
    have f4 : W2.cell? ⟨w.heap.size, 4, none⟩ = some (.int .i64 right) := by rw [hW2]; go_simp
    have f5 : W2.cell? ⟨w.heap.size, 5, none⟩ = some (.int .i64 op) := by rw [hW2]; go_simp
    have f6 : W2.cell? ⟨w.heap.size, 6, none⟩ = some (.string key) := by rw [hW2]; go_simp
    have f7 : W2.cell? ⟨w.heap.size, 7, none⟩ = some (.string other) := by rw [hW2]; go_simp
    have f8 : W2.cell? ⟨w.heap.size, 8, none⟩ = some (.string item) := by rw [hW2]; go_simp
    have f9 : W2.cell? ⟨w.heap.size, 9, none⟩ = some (.int .i64 qty) := by rw [hW2]; go_simp
    have f10 : W2.cell? ⟨w.heap.size, 10, none⟩ = some (.slice da dl dc) := by rw [hW2]; go_simp
    rw [← hW2]
    clear hW2 d0 d1 d2 d3 d4 d5 d6 d7 d8 d9 d10 hfr hB1 hb1 hz1
    go_wp2_with fail
    refine (HC.out _ _).mono ?_
    rintro e w3 ⟨rfl, hb3⟩
    have g1 : w3.cell? ⟨w.heap.size, 1, none⟩ = some (.string by_) := by rw [hb3.cell (p := ⟨w.heap.size, 1, none⟩) hzz]; exact f1
    have g2 : w3.cell? ⟨w.heap.size, 2, none⟩ = some (.string crt) := by rw [hb3.cell (p := ⟨w.heap.size, 2, none⟩) hzz]; exact f2
    have hB3 : Below w.heap.size w w3 := hB2.trans (hb3.mono hB2.size)
    clear f0 f1 f2 f3 f4 f5 f6 f7 f8 f9 f10 hb3
    go_wp2_with (first | (go_at_call 20; refine (HRI.out _ _ _).mono ?_; rintro e w6 ⟨rfl, rfl⟩) | (go_at_call 19; refine (HOW.out _ _).mono ?_; rintro e w6 ⟨rfl, rfl⟩) | (go_at_call 18; refine (HME.out _ _).mono ?_; rintro e w6 ⟨rfl, rfl⟩) | (go_at_call 15; refine (HCA.out _ _).mono ?_; rintro e w6 ⟨rfl, rfl⟩) | (go_at_call 22; refine (HCO.out _).mono ?_; rintro e w6 ⟨rfl, rfl⟩) | (go_at_call 9; refine (HKN.out _ hB3).mono ?_; rintro e w7 ⟨rfl, hb7⟩))
    go_ret
    exact ⟨rfl, hB3.trans (hb7.mono hB3.size)⟩
end Go.Proofs.YtdeljhehcjknbaaDoor
