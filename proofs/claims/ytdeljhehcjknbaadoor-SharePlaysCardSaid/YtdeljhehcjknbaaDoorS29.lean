/- Model.allows walked: for every model of the shape of S27 where the table of rows lies. -/
import Derived.Test.YtdeljhehcjknbaaDoorS28
import Derived.Test.YtdeljhehcjknbaaDoorS22
namespace Go.Proofs.YtdeljhehcjknbaaDoor
open Go.RowKit Go.Maps Go.Sort Go.Lib

/-- What is left behind the switch: who has the first right on the key, and the second on the other. -/
def alL (A : List APg) (who : ByteArray) (c : CallR) (first second : Int) : Int :=
  if decide (findI A c.key < 0) || (decide (0 < second) && decide (findI A c.other < 0)) then 9
  else if (bits .and .i64 (rightsA A who c.key) first != first) || (decide (0 < second) && (bits .and .i64 (rightsA A who c.other) second != second)) then 18 else 0
def alR (A : List APg) (who : ByteArray) (c : CallR) (first second : Int) : Int := if keyB who && c.ok then alL A who c first second else 2

set_option maxRecDepth 100000 in
set_option maxHeartbeats 4000000 in
theorem allowsRest {G : Nat → Prop} (A : List APg) (b B : Nat) (who : ByteArray) (c : CallR) (first second : Int) (w : World) (hM : ModelIs G w b A) (hR : ∀ wx, Below w.heap.size w wx → RowsLie wx) (hc : c.fits) (hw : who.size ≤ maxLen)
    (hcell : ∀ wx, Below w.heap.size w wx → (wx.cell? ⟨B, 0, none⟩ = some (.int .i64 c.op) ∧ wx.cell? ⟨B, 1, none⟩ = some (.string c.key) ∧ wx.cell? ⟨B, 2, none⟩ = some (.string c.other) ∧ wx.cell? ⟨B, 3, none⟩ = some (.string c.item) ∧ wx.cell? ⟨B, 4, none⟩ = some (.int .i64 c.qty) ∧ wx.cell? ⟨B, 5, none⟩ = some (.slice c.da c.dl c.dc)))
    (u2 u3 u4 u6 u9 u10 u11 u12 u13 u14 u15 u16 u17 u18 u19 u20 u21 u22 u23 u24 u25 u26 u27 u28 u29 u30 u31 u32 u33 u34 u35 u36 u37 u38 u39 u40 u41 u42 u43 u44 u45 u46 u47 u48 u49 u50 u51 u52 u53 u54 u55 u56 u57 u58 u59 u60 u61 u62 u63 u64 u65 u66 u67 u68 u69 u70 u71 : Value)
    (Q : Exit → Act → World → Prop) (hQ : ∀ (u24x u25x u26x u27x u28x u29x u30x u31x u32x u33x u34x u35x u36x u37x u38x u39x u40x u41x u42x u43x u44x u45x u46x u47x u48x u49x u50x u51x u52x u53x u54x u55x u56x u57x u58x u59x u60x u61x u62x u63x u64x u65x u66x u67x u68x u69x u70x u71x : Value) (wx : World), Below w.heap.size w wx → Q .ret { tmps := #[.pointer (some ⟨b, 0, none⟩), .string who, u2, u3, u4, .pointer (some ⟨B, 0, none⟩), .int .i64 (alR A who c first second), .int .i64 first, .int .i64 second, u9, u10, u11, u12, u13, u14, u15, u16, u17, u18, u19, u20, u21, u22, u23, u24x, u25x, u26x, u27x, u28x, u29x, u30x, u31x, u32x, u33x, u34x, u35x, u36x, u37x, u38x, u39x, u40x, u41x, u42x, u43x, u44x, u45x, u46x, u47x, u48x, u49x, u50x, u51x, u52x, u53x, u54x, u55x, u56x, u57x, u58x, u59x, u60x, u61x, u62x, u63x, u64x, u65x, u66x, u67x, u68x, u69x, u70x, u71x], defers := [] } wx) :
    (codeAt [1, 1, 1] (Tryd.f13.body.getD .skip)).wp Tryd.prog Q { tmps := #[.pointer (some ⟨b, 0, none⟩), .string who, u2, u3, u4, .pointer (some ⟨B, 0, none⟩), u6, .int .i64 first, .int .i64 second, u9, u10, u11, u12, u13, u14, u15, u16, u17, u18, u19, u20, u21, u22, u23, u24, u25, u26, u27, u28, u29, u30, u31, u32, u33, u34, u35, u36, u37, u38, u39, u40, u41, u42, u43, u44, u45, u46, u47, u48, u49, u50, u51, u52, u53, u54, u55, u56, u57, u58, u59, u60, u61, u62, u63, u64, u65, u66, u67, u68, u69, u70, u71], defers := [] } w := by
  have HKEY := Lib.hid (fun w0 => key_any who w0 hw)
  have HVAL := Lib.hid (fun w0 h => valid_any c w0 hc (hR w0 h))
  have HFK := Lib.hid (fun wx (h : Below w.heap.size w wx) s => find_m s (hM.below h))
  have HRK := Lib.hid (fun wx (h : Below w.heap.size w wx) s => rights_m who s (hM.below h))
  have HCELL := Lib.hid hcell
  have HQ := Lib.hid hQ
  have HAR : Hid (alR A who c first second = if keyB who && c.ok then alL A who c first second else 2) := Lib.hid rfl
  have HAL : Hid (alL A who c first second = if decide (findI A c.key < 0) || (decide (0 < second) && decide (findI A c.other < 0)) then 9 else if (bits .and .i64 (rightsA A who c.key) first != first) || (decide (0 < second) && (bits .and .i64 (rightsA A who c.other) second != second)) then 18 else 0) := Lib.hid rfl
  have HT := Lib.hid (fun (w1 w2 : World) (h : Below w.heap.size w w1) (h2 : Below w1.heap.size w1 w2) => h.trans (h2.mono h.size))
  obtain ⟨f0, f1, f2, f3, f4, f5⟩ := hcell w (Below.refl _ _)
  clear hM hR hc hcell hQ
  generalize alR A who c first second = R at *
  generalize alL A who c first second = RL at *
  obtain ⟨op, key, other, item, qty, da, dl, dc⟩ := c
  unfold CallR.val at *
  simp only at *
  generalize CallR.ok _ = ok at *
  simp only [codeAt, codeR, Tryd.f13, Option.getD_some]
  cases hk : keyB who
  · rw [hk] at HKEY HAR
    obtain rfl : R = 2 := HAR.out
    go_wp2_with (go_at_call 26; refine (HKEY.out _).mono ?_; rintro e w1 ⟨rfl, hb1⟩)
    exact HQ.out _ _ _ _ _ _ _ _ _ _ _ _ _ _ _ _ _ _ _ _ _ _ _ _ _ _ _ _ _ _ _ _ _ _ _ _ _ _ _ _ _ _ _ _ _ _ _ _ w1 hb1
  rw [hk] at HKEY HAR
  clear hk
  cases ok
  · obtain rfl : R = 2 := HAR.out
    go_wp2_with (first | (go_at_call 26; refine (HKEY.out _).mono ?_; rintro e w1 ⟨rfl, hb1⟩; obtain ⟨g0, g1, g2, g3, g4, g5⟩ := HCELL.out _ hb1) | (go_at_call 32; refine (HVAL.out _ hb1).mono ?_; rintro e w2 ⟨rfl, hb2⟩))
    exact HQ.out _ _ _ _ _ _ _ _ _ _ _ _ _ _ _ _ _ _ _ _ _ _ _ _ _ _ _ _ _ _ _ _ _ _ _ _ _ _ _ _ _ _ _ _ _ _ _ _ w2 (HT.out _ _ hb1 hb2)
  obtain rfl : R = RL := HAR.out
  go_upto_region 19 with (first | (go_at_call 26; refine (HKEY.out _).mono ?_; rintro e w1 ⟨rfl, hb1⟩; obtain ⟨g0, g1, g2, g3, g4, g5⟩ := HCELL.out _ hb1) | (go_at_call 32; refine (HVAL.out _ hb1).mono ?_; rintro e w2 ⟨rfl, hb2⟩))
  have hb3 := HT.out _ _ hb1 hb2
  obtain ⟨d0, d1, d2, d3, d4, d5⟩ := HCELL.out _ hb3
  have HB3 := Lib.hid hb3
  clear hb1 hb2 hb3 f0 f1 f2 f3 f4 f5 g0 g1 g2 g3 g4 g5 HKEY HVAL HAR
  cases hn : decide (findI A key < 0)
  · rw [hn, Bool.false_or] at HAL
    cases hs : decide (0 < second)
    · rw [hs, Bool.false_and, Bool.false_and, Bool.or_false] at HAL
      cases hbit : (bits .and .i64 (rightsA A who key) first != first)
      · rw [hbit] at HAL
        obtain rfl : R = 0 := HAL.out
        go_wp2_with (first | (go_at_call 27; refine (HFK.out _ HB3.out _).mono ?_; rintro e w4 ⟨rfl, rfl⟩) | (go_at_call 28; refine (HRK.out _ HB3.out _).mono ?_; rintro e w4 ⟨rfl, hb4⟩))
        exact HQ.out _ _ _ _ _ _ _ _ _ _ _ _ _ _ _ _ _ _ _ _ _ _ _ _ _ _ _ _ _ _ _ _ _ _ _ _ _ _ _ _ _ _ _ _ _ _ _ _ w4 (HT.out _ _ HB3.out hb4)
      · rw [hbit] at HAL
        obtain rfl : R = 18 := HAL.out
        go_wp2_with (first | (go_at_call 27; refine (HFK.out _ HB3.out _).mono ?_; rintro e w4 ⟨rfl, rfl⟩) | (go_at_call 28; refine (HRK.out _ HB3.out _).mono ?_; rintro e w4 ⟨rfl, hb4⟩))
        exact HQ.out _ _ _ _ _ _ _ _ _ _ _ _ _ _ _ _ _ _ _ _ _ _ _ _ _ _ _ _ _ _ _ _ _ _ _ _ _ _ _ _ _ _ _ _ _ _ _ _ w4 (HT.out _ _ HB3.out hb4)
    · rw [hs, Bool.true_and, Bool.true_and] at HAL
      cases hn2 : decide (findI A other < 0)
      · rw [hn2] at HAL
        cases hbit : (bits .and .i64 (rightsA A who key) first != first)
        · rw [hbit, Bool.false_or] at HAL
          cases hbit2 : (bits .and .i64 (rightsA A who other) second != second)
          · rw [hbit2] at HAL
            obtain rfl : R = 0 := HAL.out
            go_wp2_with (first | (go_at_call 27; refine (HFK.out _ HB3.out _).mono ?_; rintro e w4 ⟨rfl, rfl⟩) | (go_at_call 28; first | (refine (HRK.out _ HB4.out _).mono ?_; rintro e w5 ⟨rfl, hb5⟩) | (refine (HRK.out _ HB3.out _).mono ?_; rintro e w4 ⟨rfl, hb4⟩; have HB4 := Lib.hid (HT.out _ _ HB3.out hb4); obtain ⟨g0, g1, g2, g3, g4, g5⟩ := HCELL.out _ HB4.out)))
            exact HQ.out _ _ _ _ _ _ _ _ _ _ _ _ _ _ _ _ _ _ _ _ _ _ _ _ _ _ _ _ _ _ _ _ _ _ _ _ _ _ _ _ _ _ _ _ _ _ _ _ w5 (HT.out _ _ HB4.out hb5)
          · rw [hbit2] at HAL
            obtain rfl : R = 18 := HAL.out
            go_wp2_with (first | (go_at_call 27; refine (HFK.out _ HB3.out _).mono ?_; rintro e w4 ⟨rfl, rfl⟩) | (go_at_call 28; first | (refine (HRK.out _ HB4.out _).mono ?_; rintro e w5 ⟨rfl, hb5⟩) | (refine (HRK.out _ HB3.out _).mono ?_; rintro e w4 ⟨rfl, hb4⟩; have HB4 := Lib.hid (HT.out _ _ HB3.out hb4); obtain ⟨g0, g1, g2, g3, g4, g5⟩ := HCELL.out _ HB4.out)))
            exact HQ.out _ _ _ _ _ _ _ _ _ _ _ _ _ _ _ _ _ _ _ _ _ _ _ _ _ _ _ _ _ _ _ _ _ _ _ _ _ _ _ _ _ _ _ _ _ _ _ _ w5 (HT.out _ _ HB4.out hb5)
        · rw [hbit] at HAL
          obtain rfl : R = 18 := HAL.out
          go_wp2_with (first | (go_at_call 27; refine (HFK.out _ HB3.out _).mono ?_; rintro e w4 ⟨rfl, rfl⟩) | (go_at_call 28; refine (HRK.out _ HB3.out _).mono ?_; rintro e w4 ⟨rfl, hb4⟩))
          exact HQ.out _ _ _ _ _ _ _ _ _ _ _ _ _ _ _ _ _ _ _ _ _ _ _ _ _ _ _ _ _ _ _ _ _ _ _ _ _ _ _ _ _ _ _ _ _ _ _ _ w4 (HT.out _ _ HB3.out hb4)
      · rw [hn2] at HAL
        obtain rfl : R = 9 := HAL.out
        go_wp2_with (go_at_call 27; refine (HFK.out _ HB3.out _).mono ?_; rintro e w4 ⟨rfl, rfl⟩)
        exact HQ.out _ _ _ _ _ _ _ _ _ _ _ _ _ _ _ _ _ _ _ _ _ _ _ _ _ _ _ _ _ _ _ _ _ _ _ _ _ _ _ _ _ _ _ _ _ _ _ _ _ HB3.out
  · rw [hn, Bool.true_or] at HAL
    obtain rfl : R = 9 := HAL.out
    go_wp2_with (go_at_call 27; refine (HFK.out _ HB3.out _).mono ?_; rintro e w4 ⟨rfl, rfl⟩)
    exact HQ.out _ _ _ _ _ _ _ _ _ _ _ _ _ _ _ _ _ _ _ _ _ _ _ _ _ _ _ _ _ _ _ _ _ _ _ _ _ _ _ _ _ _ _ _ _ _ _ _ _ HB3.out
end Go.Proofs.YtdeljhehcjknbaaDoor
