/- ShareNeeds walked: true for every call, all rights, wherever the table of rows lies. -/
import Derived.Test.YtdeljhehcjknbaaDoorS38
import Derived.Test.YtdeljhehcjknbaaDoorS16
import Derived.Test.YtdeljhehcjknbaaDoorS21
import Derived.Deep.RegionLaw
namespace Go.Proofs.YtdeljhehcjknbaaDoor
open Go.RowKit Go.Maps Go.Sort Go.Lib

def emp : ByteArray := ⟨#[]⟩
def boss : ByteArray := ⟨#[98, 111, 115, 115]⟩
def actsN (c : CallR) (other : ByteArray) (f s : Int) : List ActR :=
  [⟨0, boss, c.key, ⟨#[]⟩, 0, ⟨0, ⟨#[]⟩, ⟨#[]⟩, ⟨#[]⟩, 0, none, 0, 0⟩⟩, ⟨0, boss, other, ⟨#[]⟩, 0, ⟨0, ⟨#[]⟩, ⟨#[]⟩, ⟨#[]⟩, 0, none, 0, 0⟩⟩,
   ⟨2, boss, c.key, ann, f, ⟨0, ⟨#[]⟩, ⟨#[]⟩, ⟨#[]⟩, 0, none, 0, 0⟩⟩, ⟨2, boss, other, ann, s, ⟨0, ⟨#[]⟩, ⟨#[]⟩, ⟨#[]⟩, 0, none, 0, 0⟩⟩]

set_option maxRecDepth 100000 in
set_option maxHeartbeats 8000000 in
theorem needs_in (c : CallR) (first second : Int) (same : Bool) (w : World) (hR : RowsLie w) (hc : c.fits) (hf : 0 ≤ first ∧ first ≤ 255) (hs : 0 ≤ second ∧ second ≤ 255) :
    Calls Tryd.prog 3 #[c.val, .int .u8 first, .int .u8 second, .bool same] w fun e w' => e = .returned (.bool true) ∧ Below w.heap.size w w' := by
  have HR := Lib.hid hR
  have h0 : 0 < w.heap.size := by obtain ⟨C, tt, fz, h1, _⟩ := hR; exact lt_of_heap h1
  have HC := Lib.hid hc
  clear hR
  obtain ⟨op, key, other, item, qty, da, dl, dc⟩ := c
  have HFIT : Hid (ActR.fits ⟨0, ⟨#[]⟩, ⟨#[]⟩, ⟨#[]⟩, 0, ⟨op, key, other, item, qty, da, dl, dc⟩⟩) := Lib.hid ⟨Nat.zero_le _, Nat.zero_le _, Nat.zero_le _, HC.out⟩
  have HS := Lib.hid (fun w0 => short_any ⟨0, ⟨#[]⟩, ⟨#[]⟩, ⟨#[]⟩, 0, ⟨op, key, other, item, qty, da, dl, dc⟩⟩ w0 HFIT.out)
  unfold ActR.val at HS
  unfold CallR.val
  simp only at HS ⊢
  clear hc
  go_enter Tryd.func3, Tryd.ntmps3
  go_wp2_with fail
  refine (HS.out _).mono ?_
  rintro e w1 ⟨rfl, hb1⟩
  generalize decide (ActR.short _) = sh
  have HB1 := Lib.hid (((Below.refl w.heap.size w).alloc (Nat.le_refl _) (.cells #[.int .i64 op, .string key, .string other, .string item, .int .i64 qty, .slice da dl dc] 25)).trans (hb1.mono (by simp)))
  have hz1 : w.heap.size < w1.heap.size := by have := hb1.size; simp at this; omega
  have hB0 : w1.heap[w.heap.size]? = some (.cells #[.int .i64 op, .string key, .string other, .string item, .int .i64 qty, .slice da dl dc] 25) := by
    rw [hb1.block _ (by simp), alloc_new]
  cases sh
  · have HKN := Lib.hid (known_any w1 (rowsLie_base HR.out HB1.out h0))
    go_wp2_with (go_at_call 9; refine HKN.out.mono ?_; rintro e w6 ⟨rfl, hb6⟩)
    go_ret
    exact ⟨rfl, HB1.out.trans (hb6.mono HB1.out.size)⟩
  have d1 : w1.cell? ⟨w.heap.size, 1, none⟩ = some (.string key) := by rw [cell0 hB0 1]; rfl
  have d2 : w1.cell? ⟨w.heap.size, 2, none⟩ = some (.string other) := by rw [cell0 hB0 2]; rfl
  have HB0 := Lib.hid hB0
  clear hb1 hB0 HS
  have hne0 : ¬ w.heap.size = w1.heap.size := by omega
  have hne1 : ¬ w.heap.size = w1.heap.size + 1 := by omega
  go_upto_region 4 with fail
  obtain ⟨W2, hW2⟩ : ∃ W2, W2 = (w1.alloc (.cells #[.map none] 34)).alloc (.cells #[.slice none 0 0] 38) := ⟨_, rfl⟩
  have HMN := Lib.hid (Mid.new (w := w1) (S := fun k => k = w.heap.size) (base := w.heap.size) (fun k hk => by omega) (Nat.le_of_lt hz1))
  rw [← hW2] at HMN
  have hb2 : Below w1.heap.size w1 W2 := by rw [hW2]; exact ((Below.refl _ _).alloc (Nat.le_refl _) _).alloc (by simp) _
  have hz2 : W2.heap.size = w1.heap.size + 2 := by rw [hW2]; simp
  rw [← hW2]
  clear hW2 hne0 hne1 d1 d2
  have hB2 : W2.heap[w.heap.size]? = some (.cells #[.int .i64 op, .string key, .string other, .string item, .int .i64 qty, .slice da dl dc] 25) := by
    rw [hb2.block _ hz1]; exact HB0.out
  have d1 : W2.cell? ⟨w.heap.size, 1, none⟩ = some (.string key) := by rw [cell0 hB2 1]; rfl
  have d2 : W2.cell? ⟨w.heap.size, 2, none⟩ = some (.string other) := by rw [cell0 hB2 2]; rfl
  have HB2 := Lib.hid hB2
  have HBW2 := Lib.hid (HB1.out.trans (hb2.mono (Nat.le_of_lt hz1)))
  clear hb2 hB2 HB0
  obtain ⟨oth, hoth⟩ : ∃ oth : ByteArray, oth = if same then key else other := ⟨_, rfl⟩
  have hos : oth.size ≤ maxLen := by
    rw [hoth]
    have h1 := HC.out.key
    have h2 := HC.out.other
    simp only at h1 h2
    split <;> assumption
  have HOS := Lib.hid hos
  clear hos
  go_upto_if 27 with fail
  go_cut [11] from 25 to 29 (fun o wx => o = .string oth ∧ wx = W2)
  case first =>
    cases same
    · go_wp2_with fail
      go_meet
      case rel => exact ⟨by rw [hoth]; rfl, rfl⟩
    · go_wp2_with fail
      go_meet
      case rel => exact ⟨by rw [hoth]; rfl, rfl⟩
  case rest =>
    obtain ⟨rfl, rfl⟩ := hcut
    clear hoth
    have hf16 : 0 ≤ first % 16 ∧ first % 16 ≤ 15 := by omega
    have hs16 : 0 ≤ second % 16 ∧ second % 16 ≤ 15 := by omega
    go_wp2_with fail
    obtain ⟨W3, hW3⟩ : ∃ W3, W3 = wc.alloc (.cells #[.int .i64 0, .string ⟨#[98, 111, 115, 115]⟩, .string key, .string ⟨#[]⟩, .int .i64 0, .int .i64 0, .string ⟨#[]⟩, .string ⟨#[]⟩, .string ⟨#[]⟩, .int .i64 0, .slice none 0 0, .int .i64 0, .string ⟨#[98, 111, 115, 115]⟩, .string oth, .string ⟨#[]⟩, .int .i64 0, .int .i64 0, .string ⟨#[]⟩, .string ⟨#[]⟩, .string ⟨#[]⟩, .int .i64 0, .slice none 0 0, .int .i64 2, .string ⟨#[98, 111, 115, 115]⟩, .string key, .string ⟨#[97, 110, 110]⟩, .int .i64 (first % 16), .int .i64 0, .string ⟨#[]⟩, .string ⟨#[]⟩, .string ⟨#[]⟩, .int .i64 0, .slice none 0 0, .int .i64 2, .string ⟨#[98, 111, 115, 115]⟩, .string oth, .string ⟨#[97, 110, 110]⟩, .int .i64 (second % 16), .int .i64 0, .string ⟨#[]⟩, .string ⟨#[]⟩, .string ⟨#[]⟩, .int .i64 0, .slice none 0 0] 29) := ⟨_, rfl⟩
    have hb3 : Below wc.heap.size wc W3 := by rw [hW3]; exact (Below.refl _ _).alloc (Nat.le_refl _) _
    have hz3 : W3.heap.size = wc.heap.size + 1 := by rw [hW3]; simp
    have hR3 : W3.heap[w1.heap.size + 2]? = some (.cells #[.int .i64 0, .string ⟨#[98, 111, 115, 115]⟩, .string key, .string ⟨#[]⟩, .int .i64 0, .int .i64 0, .string ⟨#[]⟩, .string ⟨#[]⟩, .string ⟨#[]⟩, .int .i64 0, .slice none 0 0, .int .i64 0, .string ⟨#[98, 111, 115, 115]⟩, .string oth, .string ⟨#[]⟩, .int .i64 0, .int .i64 0, .string ⟨#[]⟩, .string ⟨#[]⟩, .string ⟨#[]⟩, .int .i64 0, .slice none 0 0, .int .i64 2, .string ⟨#[98, 111, 115, 115]⟩, .string key, .string ⟨#[97, 110, 110]⟩, .int .i64 (first % 16), .int .i64 0, .string ⟨#[]⟩, .string ⟨#[]⟩, .string ⟨#[]⟩, .int .i64 0, .slice none 0 0, .int .i64 2, .string ⟨#[98, 111, 115, 115]⟩, .string oth, .string ⟨#[97, 110, 110]⟩, .int .i64 (second % 16), .int .i64 0, .string ⟨#[]⟩, .string ⟨#[]⟩, .string ⟨#[]⟩, .int .i64 0, .slice none 0 0] 29) := by rw [← hz2, hW3, alloc_new]
    rw [← hW3]
    clear hW3 d1 d2
    have HROW : Hid (∀ k (hk : k < 4) j, j < 11 → W3.cell? ⟨w1.heap.size + 2, k * 11 + j, none⟩ = ((actsN ⟨op, key, other, item, qty, da, dl, dc⟩ oth (first % 16) (second % 16))[k]'hk).cells[j]?) := Lib.hid (by
      intro k hk j hj
      rw [cell0 hR3]
      have hk4 : k = 0 ∨ k = 1 ∨ k = 2 ∨ k = 3 := by omega
      have hj11 : j = 0 ∨ j = 1 ∨ j = 2 ∨ j = 3 ∨ j = 4 ∨ j = 5 ∨ j = 6 ∨ j = 7 ∨ j = 8 ∨ j = 9 ∨ j = 10 := by omega
      rcases hk4 with rfl | rfl | rfl | rfl <;> (rcases hj11 with rfl | rfl | rfl | rfl | rfl | rfl | rfl | rfl | rfl | rfl | rfl <;> rfl))
    have HACT : Hid (∀ k (hk : k < 4), ((actsN ⟨op, key, other, item, qty, da, dl, dc⟩ oth (first % 16) (second % 16))[k]'hk).fits ∧ (((actsN ⟨op, key, other, item, qty, da, dl, dc⟩ oth (first % 16) (second % 16))[k]'hk).what = 0 ∨ ((actsN ⟨op, key, other, item, qty, da, dl, dc⟩ oth (first % 16) (second % 16))[k]'hk).what = 2)) := Lib.hid (by
      have z : ∀ s : ByteArray, s.size ≤ 100 → s.size ≤ maxLen := fun s h => by unfold maxLen; omega
      have hkey := HC.out.key
      simp only at hkey
      have hce : CallR.fits ⟨0, ⟨#[]⟩, ⟨#[]⟩, ⟨#[]⟩, 0, none, 0, 0⟩ := ⟨by decide, by decide, Nat.zero_le _, Nat.zero_le _, Nat.zero_le _, Nat.zero_le _⟩
      intro k hk
      have hk4 : k = 0 ∨ k = 1 ∨ k = 2 ∨ k = 3 := by omega
      rcases hk4 with rfl | rfl | rfl | rfl
      · exact ⟨⟨z boss (by decide), hkey, Nat.zero_le _, hce⟩, Or.inl rfl⟩
      · exact ⟨⟨z boss (by decide), HOS.out, Nat.zero_le _, hce⟩, Or.inl rfl⟩
      · exact ⟨⟨z boss (by decide), hkey, z ann (by decide), hce⟩, Or.inr rfl⟩
      · exact ⟨⟨z boss (by decide), HOS.out, z ann (by decide), hce⟩, Or.inr rfl⟩)
    have HM3 := Lib.hid (HMN.out.below (S' := fun k => k = w.heap.size ∨ k = w1.heap.size + 2) hb3 (fun k h => by rcases h with h | h; exact Or.inl h; exact Or.inr (by omega)) (fun k h => by omega))
    have HBW3 := Lib.hid (HBW2.out.trans (hb3.mono (by omega)))
    have HB3 := Lib.hid (show W3.heap[w.heap.size]? = some (.cells #[.int .i64 op, .string key, .string other, .string item, .int .i64 qty, .slice da dl dc] 25) by rw [hb3.block _ (by omega)]; exact HB2.out)
    clear hb3 hR3 HB2 HBW2 HMN
    go_loopw [48] (fun i wr => ∃ (k : Nat) (A : List APg), k ≤ 4 ∧ i = .int .i64 k ∧ Mid w.heap.size (fun k => k = w.heap.size ∨ k = w1.heap.size + 2) wr w1.heap.size (w1.heap.size + 1) A A ∧ Stay w.heap.size (fun k => k = w.heap.size ∨ k = w1.heap.size + 2) W3 wr) (fun i _ => 4 - (intOf i).toNat)
    case atStart => exact ⟨0, [], Nat.zero_le _, rfl, HM3.out, Below.refl _ _, fun _ _ => rfl⟩
    case round =>
      obtain ⟨k, A, hk, rfl, hM, hSt⟩ := hrel
      have HM := Lib.hid hM
      have HST := Lib.hid hSt
      have HBW := Lib.hid (HBW3.out.trans hSt.1)
      have hrw : w1.heap.size + 2 < wr.heap.size := hM.choose_spec.choose_spec.2.2.2.2.1 _ (Or.inr rfl)
      have hkr := hSt.2 _ (Or.inr rfl)
      clear hM hSt
      by_cases hlt : k < 4
      · obtain ⟨ha1, ha2⟩ := HACT.out k hlt
        have hcw : ∀ j, j < 11 → wr.cell? ⟨w1.heap.size + 2, k * 11 + j, none⟩ = ((actsN ⟨op, key, other, item, qty, da, dl, dc⟩ oth (first % 16) (second % 16))[k]'hlt).cells[j]? := fun j hj => by
          rw [← HROW.out k hlt j hj]; exact World.cell?_of_block hkr
        have hk0 : (0 : Int) ≤ k := by omega
        have hk1 : (k : Int) < 4 := by omega
        generalize (actsN ⟨op, key, other, item, qty, da, dl, dc⟩ oth (first % 16) (second % 16))[k] = a at *
        have HA := Lib.hid ha1
        have HA2 := Lib.hid ha2
        clear ha1 ha2 hkr
        obtain ⟨what, by_, crt, who, right, op2, key2, other2, item2, qty2, da2, dl2, dc2⟩ := a
        have c0 := hcw 0 (by omega)
        have c1 := hcw 1 (by omega)
        have c2 := hcw 2 (by omega)
        have c3 := hcw 3 (by omega)
        have c4 := hcw 4 (by omega)
        have c5 := hcw 5 (by omega)
        have c6 := hcw 6 (by omega)
        have c7 := hcw 7 (by omega)
        have c8 := hcw 8 (by omega)
        have c9 := hcw 9 (by omega)
        have c10 := hcw 10 (by omega)
        simp only [ActR.cells, CallR.cells, List.cons_append, List.nil_append, List.getElem?_cons_zero, List.getElem?_cons_succ, Nat.add_zero] at c0 c1 c2 c3 c4 c5 c6 c7 c8 c9 c10
        clear hcw
        go_upto_region 10 with fail
        obtain ⟨W4, hW4⟩ : ∃ W4, W4 = wr.alloc (.cells #[.int .i64 what, .string by_, .string crt, .string who, .int .i64 right, .int .i64 op2, .string key2, .string other2, .string item2, .int .i64 qty2, .slice da2 dl2 dc2] 29) := ⟨_, rfl⟩
        have hb4 : Below wr.heap.size wr W4 := by rw [hW4]; exact (Below.refl _ _).alloc (Nat.le_refl _) _
        have hz4 : W4.heap.size = wr.heap.size + 1 := by rw [hW4]; simp
        have hR4 : W4.heap[wr.heap.size]? = some (.cells #[.int .i64 what, .string by_, .string crt, .string who, .int .i64 right, .int .i64 op2, .string key2, .string other2, .string item2, .int .i64 qty2, .slice da2 dl2 dc2] 29) := by rw [hW4, alloc_new]
        rw [← hW4]
        clear hW4 c0 c1 c2 c3 c4 c5 c6 c7 c8 c9 c10
        have HK5 : Hid (∀ wx : World, wx.heap[wr.heap.size]? = W4.heap[wr.heap.size]? → (wx.cell? ⟨wr.heap.size, 0, none⟩ = some (.int .i64 what) ∧ wx.cell? ⟨wr.heap.size, 1, none⟩ = some (.string by_) ∧ wx.cell? ⟨wr.heap.size, 2, none⟩ = some (.string crt) ∧ wx.cell? ⟨wr.heap.size, 3, none⟩ = some (.string who) ∧ wx.cell? ⟨wr.heap.size, 4, none⟩ = some (.int .i64 right) ∧ wx.cell? ⟨wr.heap.size, 5, none⟩ = some (.int .i64 op2) ∧ wx.cell? ⟨wr.heap.size, 6, none⟩ = some (.string key2) ∧ wx.cell? ⟨wr.heap.size, 7, none⟩ = some (.string other2) ∧ wx.cell? ⟨wr.heap.size, 8, none⟩ = some (.string item2) ∧ wx.cell? ⟨wr.heap.size, 9, none⟩ = some (.int .i64 qty2) ∧ wx.cell? ⟨wr.heap.size, 10, none⟩ = some (.slice da2 dl2 dc2))) := Lib.hid (fun wx h => by
          rw [hR4] at h
          exact ⟨by rw [cell0 h 0]; rfl, by rw [cell0 h 1]; rfl, by rw [cell0 h 2]; rfl, by rw [cell0 h 3]; rfl, by rw [cell0 h 4]; rfl, by rw [cell0 h 5]; rfl, by rw [cell0 h 6]; rfl, by rw [cell0 h 7]; rfl, by rw [cell0 h 8]; rfl, by rw [cell0 h 9]; rfl, by rw [cell0 h 10]; rfl⟩)
        have HM4 := Lib.hid (HM.out.below (S' := (fun k => k = w.heap.size ∨ k = w1.heap.size + 2 ∨ k = wr.heap.size)) hb4.drew (fun k h => by rcases h with h | h | h; exact Or.inl (Or.inl h); exact Or.inl (Or.inr h); exact Or.inr (by omega)) (fun k h => by show k < W4.heap.size; omega))
        have HBW4 := Lib.hid (HBW.out.trans (hb4.drew.mono (HBW.out.size)))
        have HC10 := Lib.hid (calls_mid HM4.out HA.out (rowsLie_base HR.out HBW4.out h0))
        have HD := Lib.hid (fun w5 (h : Mid w.heap.size (fun k => k = w.heap.size ∨ k = w1.heap.size + 2 ∨ k = wr.heap.size) w5 w1.heap.size (w1.heap.size + 1) (callA A ⟨what, by_, crt, who, right, op2, key2, other2, item2, qty2, da2, dl2, dc2⟩) A) => do_mid h (fun G hM hO => do_02 HA.out HA2.out hM hO))
        unfold ActR.val at HC10 HD
        simp only at HC10 HD
        have HB4 := Lib.hid hb4
        clear hR4 hb4
        obtain ⟨c0, c1, c2, c3, c4, c5, c6, c7, c8, c9, c10⟩ := HK5.out _ rfl
        go_region_law (first | (go_simp; go_at_call 10; refine HC10.out.mono ?_; rintro e w5 ⟨rfl, hm5, hs5⟩; obtain ⟨m0, m1, m2, m3, m4, m5, m6, m7, m8, m9, m10⟩ := HK5.out _ (hs5.2 _ (Or.inr (Or.inr rfl)))) | (go_simp; go_at_call 11; refine (HD.out _ hm5).mono ?_; rintro e w6 ⟨rfl, hm6, hs6⟩))
        all_goals
          go_wp2
          go_roundw
          case rel =>
            refine ⟨k + 1, callA A ⟨what, by_, crt, who, right, op2, key2, other2, item2, qty2, da2, dl2, dc2⟩, by omega, by go_num, hm6.below (Below.refl _ _) (fun k h => by rcases h with h | h; exact Or.inl (Or.inl h); exact Or.inl (Or.inr (Or.inl h))) (fun k h => by have := hm6.choose_spec.choose_spec.2.2.2.2.1 k (by rcases h with h | h; exact Or.inl h; exact Or.inr (Or.inl h)); exact this), ?_⟩
            refine ⟨HST.out.1.trans ((HB4.out.drew.mono HBW.out.size).trans (hs5.1.trans hs6.1)), fun k h => ?_⟩
            have hkS : k = w.heap.size ∨ k = w1.heap.size + 2 ∨ k = wr.heap.size := by rcases h with h | h; exact Or.inl h; exact Or.inr (Or.inl h)
            rw [hs6.2 k hkS, hs5.2 k hkS]
            refine Eq.trans ?_ (HST.out.2 k h)
            exact HB4.out.drew.block k (by rcases h with h | h <;> omega)
          case measure => simp [intOf]; omega
      · have hke : k = 4 := by omega
        subst hke
        obtain ⟨wo, rfl⟩ : ∃ wo : World, wo = wr := ⟨_, rfl⟩
        go_wp2_with fail
        obtain ⟨W5, hW5⟩ : ∃ W5, W5 = wo.alloc (.cells #[.string ⟨#[97, 110, 110]⟩, .string ⟨#[98, 111, 115, 115]⟩, .string ⟨#[99, 121]⟩, .string ⟨#[]⟩] 9) := ⟨_, rfl⟩
        have hb5 : Below wo.heap.size wo W5 := by rw [hW5]; exact (Below.refl _ _).alloc (Nat.le_refl _) _
        have hz5 : W5.heap.size = wo.heap.size + 1 := by rw [hW5]; simp
        have hR5 : W5.heap[wo.heap.size]? = some (.cells #[.string ⟨#[97, 110, 110]⟩, .string ⟨#[98, 111, 115, 115]⟩, .string ⟨#[99, 121]⟩, .string ⟨#[]⟩] 9) := by rw [hW5, alloc_new]
        rw [← hW5]
        clear hW5
        have HWS : Hid (∀ k (hk : k < 4), ∃ s : ByteArray, W5.cell? ⟨wo.heap.size, k, none⟩ = some (.string s) ∧ s.size ≤ maxLen) := Lib.hid (by
          have z : ∀ s : ByteArray, s.size ≤ 100 → s.size ≤ maxLen := fun s h => by unfold maxLen; omega
          intro k hk
          rw [cell0 hR5]
          have hk4 : k = 0 ∨ k = 1 ∨ k = 2 ∨ k = 3 := by omega
          rcases hk4 with rfl | rfl | rfl | rfl
          · exact ⟨_, rfl, z _ (by decide)⟩
          · exact ⟨_, rfl, z _ (by decide)⟩
          · exact ⟨_, rfl, z _ (by decide)⟩
          · exact ⟨_, rfl, z _ (by decide)⟩)
        have HB05 := Lib.hid (show W5.heap[w.heap.size]? = some (.cells #[.int .i64 op, .string key, .string other, .string item, .int .i64 qty, .slice da dl dc] 25) by rw [hb5.block _ (by omega), HST.out.2 _ (Or.inl rfl)]; exact HB3.out)
        have HM5 := Lib.hid (HM.out.below (S' := (fun k => k = w.heap.size ∨ k = wo.heap.size)) hb5 (fun k h => by rcases h with h | h; exact Or.inl (Or.inl h); exact Or.inr (by omega)) (fun k h => by omega))
        have HBW5 := Lib.hid (HBW.out.trans (hb5.mono HBW.out.size))
        clear hb5 hR5 hkr
        go_loopw [62] (fun i wr => ∃ (k : Nat), k ≤ 4 ∧ i = .int .i64 k ∧ Mid w.heap.size (fun k => k = w.heap.size ∨ k = wo.heap.size) wr w1.heap.size (w1.heap.size + 1) A A ∧ Stay w.heap.size (fun k => k = w.heap.size ∨ k = wo.heap.size) W5 wr) (fun i _ => 4 - (intOf i).toNat)
        case atStart => exact ⟨0, Nat.zero_le _, rfl, HM5.out, Below.refl _ _, fun _ _ => rfl⟩
        case round =>
          obtain ⟨k, hk, rfl, hM6, hSt6⟩ := hrel
          have HM6 := Lib.hid hM6
          have HST6 := Lib.hid hSt6
          have HBW6 := Lib.hid (HBW5.out.trans hSt6.1)
          have hkr2 := hSt6.2 _ (Or.inr rfl)
          have hkr0 := hSt6.2 _ (Or.inl rfl)
          have hrw6 : wo.heap.size < wr.heap.size := hM6.choose_spec.choose_spec.2.2.2.2.1 _ (Or.inr rfl)
          clear hM6 hSt6
          by_cases hlt : k < 4
          · obtain ⟨s, hs1, hs2⟩ := HWS.out k hlt
            have e0 : wr.cell? ⟨wo.heap.size, k, none⟩ = some (.string s) := by rw [World.cell?_of_block (w := W5) hkr2]; exact hs1
            have hk0 : (0 : Int) ≤ k := by omega
            have hk1 : (k : Int) < 4 := by omega
            have HC0 : Hid (∀ wx : World, wx.heap[w.heap.size]? = W5.heap[w.heap.size]? → (wx.cell? ⟨w.heap.size, 0, none⟩ = some (.int .i64 op) ∧ wx.cell? ⟨w.heap.size, 1, none⟩ = some (.string key) ∧ wx.cell? ⟨w.heap.size, 2, none⟩ = some (.string other) ∧ wx.cell? ⟨w.heap.size, 3, none⟩ = some (.string item) ∧ wx.cell? ⟨w.heap.size, 4, none⟩ = some (.int .i64 qty) ∧ wx.cell? ⟨w.heap.size, 5, none⟩ = some (.slice da dl dc))) := Lib.hid (fun wx h => by
              rw [HB05.out] at h
              exact ⟨by rw [cell0 h 0]; rfl, by rw [cell0 h 1]; rfl, by rw [cell0 h 2]; rfl, by rw [cell0 h 3]; rfl, by rw [cell0 h 4]; rfl, by rw [cell0 h 5]; rfl⟩)
            obtain ⟨f0, f1, f2, f3, f4, f5⟩ := HC0.out _ hkr0
            have hMd : Mid w.heap.size (fun k => k = w.heap.size ∨ k = wo.heap.size) wr.drew w1.heap.size (w1.heap.size + 1) A A := HM6.out.below (Below.refl _ _).drew (fun k h => Or.inl h) (fun k h => by rcases h with h | h; (show k < wr.heap.size; omega); (show k < wr.heap.size; omega))
            have hwb : w.heap.size < wr.heap.size := by omega
            have HAB : Hid (Calls Tryd.prog 12 #[.pointer (some ⟨w1.heap.size, 0, none⟩), .string s, CallR.val ⟨op, key, other, item, qty, da, dl, dc⟩] wr.drew fun e w' => e = .returned (.int .i64 (allowsE A s ⟨op, key, other, item, qty, da, dl, dc⟩)) ∧ Below wr.heap.size wr w') := Lib.hid (by
              obtain ⟨GB, GM, ⟨F, hKb, -⟩, -⟩ := hMd
              exact (allows_any _ A F s _ wr.drew hKb hs2 HC.out (rowsLie_base HR.out (HBW6.out.drew) h0)).mono fun e w' ⟨h, h2⟩ => ⟨h, (Below.refl _ _).drew.trans h2⟩)
            have HAM : Hid (∀ wx, Below wr.heap.size wr wx → Calls Tryd.prog 13 #[.pointer (some ⟨w1.heap.size + 1, 0, none⟩), .string s, CallR.val ⟨op, key, other, item, qty, da, dl, dc⟩] wx fun e w' => e = .returned (.int .i64 (allowsE A s ⟨op, key, other, item, qty, da, dl, dc⟩)) ∧ Below wx.heap.size wx w') := Lib.hid (fun wx h => by
              obtain ⟨GB, GM, -, hMm, -⟩ := HM6.out
              exact allows_m s _ (hMm.below h) (rowsLie_base HR.out (HBW6.out.trans (h.mono HBW6.out.size)) h0) HC.out hs2)
            unfold CallR.val at HAB HAM
            simp only at HAB HAM
            clear hs1 hMd
            go_upto_region 16 with fail
            go_region_law (first | (go_simp; go_at_call 12; refine HAB.out.mono ?_; rintro e w7 ⟨rfl, hb7⟩; obtain ⟨g0, g1, g2, g3, g4, g5⟩ := HC0.out w7 (by rw [hb7.block _ hwb]; exact hkr0)) | (go_simp; go_at_call 13; refine (HAM.out _ hb7).mono ?_; rintro e w8 ⟨rfl, hb8⟩))
            all_goals
              go_wp2
              go_roundw
              case rel =>
                have hb9 : Below wr.heap.size wr w8 := hb7.trans (hb8.mono hb7.size)
                refine ⟨_, _, _, _, _, _, _, _, _, _, _, _, _, _, _, _, ?_, rfl⟩
                refine ⟨k + 1, by omega, by go_num, HM6.out.below hb9 (fun k h => Or.inl h) (fun k h => by have := hb9.size; rcases h with h | h <;> omega), HST6.out.1.trans (hb9.mono HBW6.out.size), fun k h => ?_⟩
                rw [hb9.block k (by rcases h with h | h <;> omega)]
                exact HST6.out.2 k h
              case measure => simp [intOf]; omega
          · have hke : k = 4 := by omega
            subst hke
            have HKN := Lib.hid (known_any wr (rowsLie_base HR.out HBW6.out h0))
            go_wp2_with (go_at_call 9; refine HKN.out.mono ?_; rintro e w9 ⟨rfl, hb9⟩)
            go_ret
            exact ⟨rfl, HBW6.out.trans (hb9.mono HBW6.out.size)⟩
end Go.Proofs.YtdeljhehcjknbaaDoor
