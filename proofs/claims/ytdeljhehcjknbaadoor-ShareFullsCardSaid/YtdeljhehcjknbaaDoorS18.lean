/- ShareFulls walked inside its range: true for 498..502 carts and 48..52 members. -/
import Derived.Test.YtdeljhehcjknbaaDoorS16
import Derived.Test.YtdeljhehcjknbaaDoorS17
import Derived.Laws.BytesArg
namespace Go.Proofs.YtdeljhehcjknbaaDoor
open Go.RowKit Go.Maps Go.Sort

/-- Behind bob's call: the first cart is ann's still; there was room where there are fewer than 500. -/
def BobPost (base k : Nat) (w : World) (e : Ending) (w' : World) : Prop :=
  ∃ A0 e2, e = .returned (.int .i64 e2) ∧ Own (fun k => base ≤ k) w' base A0 ∧ Pg0 A0 (Mn 0) ∧ (k < 500 → e2 = 0) ∧ Below base w w' ∧ base ≤ w'.heap.size
theorem bob_call {base k : Nat} {w : World} (O : Own (fun k => base ≤ k) w base (Pn (min k 500))) (hk : 0 < k) (hb : base ≤ w.heap.size) :
    Calls Tryd.prog 14 #[.pointer (some ⟨base, 0, none⟩), .string bob, .string zz] w (BobPost base k w) := by
  refine (open_o O (fun j h => Nat.le_trans hb h) (who := bob) (cart := zz) (maxLen_small (by decide)) (maxLen_small (by decide))).mono ?_
  rintro e w' ⟨rfl, h1, h2⟩
  have hbob := open_bob (n := min k 500) (by omega)
  exact ⟨_, _, rfl, h1, hbob.1, fun h => hbob.2 (by omega), base_keep h2 hb, Nat.le_trans hb h2.size⟩

theorem nm_conv (w : World) (k : Nat) (hk : k < 502) :
    (convert 23 9 (.slice (some ⟨w.heap.size, 0, none⟩) 3 3)).run Tryd.prog (w.alloc (.cells #[.int .u8 (97 + (k : Int) / 100), .int .u8 (48 + (k : Int) / 10 % 10), .int .u8 (48 + (k : Int) % 10)] 5)) = .ok (.string (nm k)) (w.alloc (.cells #[.int .u8 (97 + (k : Int) / 100), .int .u8 (48 + (k : Int) / 10 % 10), .int .u8 (48 + (k : Int) % 10)] 5)) := by
  rw [run_convert_bytes_arg _ 23 5 Tryd.underlying23 Tryd.underlying5 w.heap.size 0 3 3 [97 + (k : Int) / 100, 48 + (k : Int) / 10 % 10, 48 + (k : Int) % 10] rfl (fun i hi => by
    rw [cell0 (alloc_new w _)]
    match i, hi with
    | 0, _ => rfl
    | 1, _ => rfl
    | 2, _ => rfl) 9 Tryd.underlying9]
  have e : strOfNums [97 + (k : Int) / 100, 48 + (k : Int) / 10 % 10, 48 + (k : Int) % 10] = nm k := by
    unfold strOfNums nm
    simp only [List.map_cons, List.map_nil]
    rw [show (97 + (k : Int) / 100).toNat = 97 + k / 100 by omega, show (48 + (k : Int) / 10 % 10).toNat = 48 + k / 10 % 10 by omega, show (48 + (k : Int) % 10).toNat = 48 + k % 10 by omega]
  rw [e]
theorem wm_conv (w : World) (k : Nat) (hk : k < 52) :
    (convert 23 9 (.slice (some ⟨w.heap.size, 0, none⟩) 3 3)).run Tryd.prog (w.alloc (.cells #[.int .u8 109, .int .u8 (48 + (k : Int) / 10), .int .u8 (48 + (k : Int) % 10)] 5)) = .ok (.string (wm k)) (w.alloc (.cells #[.int .u8 109, .int .u8 (48 + (k : Int) / 10), .int .u8 (48 + (k : Int) % 10)] 5)) := by
  rw [run_convert_bytes_arg _ 23 5 Tryd.underlying23 Tryd.underlying5 w.heap.size 0 3 3 [109, 48 + (k : Int) / 10, 48 + (k : Int) % 10] rfl (fun i hi => by
    rw [cell0 (alloc_new w _)]
    match i, hi with
    | 0, _ => rfl
    | 1, _ => rfl
    | 2, _ => rfl) 9 Tryd.underlying9]
  have e : strOfNums [109, 48 + (k : Int) / 10, 48 + (k : Int) % 10] = wm k := by
    unfold strOfNums wm
    simp only [List.map_cons, List.map_nil]
    rw [show (48 + (k : Int) / 10).toNat = 48 + k / 10 by omega, show (48 + (k : Int) % 10).toNat = 48 + k % 10 by omega]
    rfl
  rw [e]

set_option maxRecDepth 100000 in
set_option maxHeartbeats 4000000 in
theorem fulls_in (carts many : Int) (pass : Bool) (w : World) (hR : RowsLie w) (h1 : 498 ≤ carts) (h2 : carts ≤ 502) (h3 : 48 ≤ many) (h4 : many ≤ 52) :
    Calls Tryd.prog 4 #[.int .i64 carts, .int .i64 many, .bool pass] w fun e w' => e = .returned (.bool true) ∧ Below w.heap.size w w' := by
  have HR := Lib.hid hR
  have h0 : 0 < w.heap.size := by obtain ⟨C, tt, fz, h1, _⟩ := hR; exact lt_of_heap h1
  clear hR
  obtain ⟨N, rfl⟩ := Int.eq_ofNat_of_zero_le (show 0 ≤ carts by omega)
  obtain ⟨M, rfl⟩ := Int.eq_ofNat_of_zero_le (show 0 ≤ many by omega)
  go_enter Tryd.func4, Tryd.ntmps4
  go_wp2_with fail
  go_loopw [8] (fun i wr => ∃ k : Nat, k ≤ N ∧ i = .int .i64 k ∧ Own (fun k => w.heap.size ≤ k) wr w.heap.size (Pn (min k 500)) ∧ Below w.heap.size w wr) (fun i _ => N - (intOf i).toNat)
  case atStart => exact ⟨0, Nat.zero_le _, rfl, Own.new w _ (fun k h => h), (Below.refl _ _).alloc (Nat.le_refl _) _⟩
  case round =>
    obtain ⟨k, hk, rfl, hO, hB⟩ := hrel
    have hsz := hB.size
    have HO := Lib.hid hO
    have HB := Lib.hid hB
    clear hO hB
    by_cases hlt : k < N
    · have hkk : (k : Int) < 502 := by omega
      have hconv := nm_conv wr k (by omega)
      have HOP := Lib.hid (fun W (O : Own (fun k => w.heap.size ≤ k) W w.heap.size (Pn (min k 500))) (hs : w.heap.size ≤ W.heap.size) => open_o O (fun j h => Nat.le_trans hs h) (who := ann) (cart := nm k) (maxLen_small (by decide)) (maxLen_small (by show 3 ≤ 100; decide)))
      by_cases h5 : k < 500
      · have HE := Lib.hid (open_Pn h5)
        have hmin : min k 500 = k := by omega
        have HM : Hid (min (k + 1) 500 = k + 1) := Lib.hid (by omega)
        have h5b : decide ((k : Int) < 500) = true := by simp; omega
        have h5c : (true != decide ((k : Int) < 500)) = false := by rw [h5b]; rfl
        rw [hmin] at HO HOP
        clear hmin
        go_wp2_with (go_at_call 14; refine (HOP.out _ (HO.out.below ((Below.refl _ _).alloc (Nat.le_refl _) _)) (by simp; omega)).mono ?_; rw [HE.out.1, HE.out.2]; rintro e w1 ⟨rfl, hO1, hK1⟩)
        go_roundw
        case rel =>
          have hs1 := hK1.size
          refine ⟨k + 1, by omega, by go_num, by rw [HM.out]; exact hO1, ?_⟩
          exact (HB.out.alloc hsz _).trans (base_keep hK1 (by simp; omega))
        case measure => simp [intOf]; omega
      · have HE := Lib.hid (open_full (show 500 ≤ k by omega) (by omega))
        have hmin : min k 500 = 500 := by omega
        have HM : Hid (min (k + 1) 500 = 500) := Lib.hid (by omega)
        have h5b : decide ((k : Int) < 500) = false := by simp; omega
        have h5c : (false != decide ((k : Int) < 500)) = false := by rw [h5b]; rfl
        rw [hmin] at HO HOP
        clear hmin
        go_wp2_with (go_at_call 14; refine (HOP.out _ (HO.out.below ((Below.refl _ _).alloc (Nat.le_refl _) _)) (by simp; omega)).mono ?_; rw [HE.out.1, HE.out.2]; rintro e w1 ⟨rfl, hO1, hK1⟩)
        go_roundw
        case rel =>
          have hs1 := hK1.size
          refine ⟨k + 1, by omega, by go_num, by rw [HM.out]; exact hO1, ?_⟩
          exact (HB.out.alloc hsz _).trans (base_keep hK1 (by simp; omega))
        case measure => simp [intOf]; omega
    · have hke : k = N := by omega
      subst hke
      have HCA := Lib.hid (carts_o HO.out ann)
      go_wp2_with (go_at_call 15; refine HCA.out.mono ?_; rintro e w1 ⟨v, rfl, hrow, hb1⟩; obtain ⟨a, cap, rfl, hcells⟩ := rowForm hrow; clear hrow hcells; rw [carts_Pn])
      refine (bob_call (HO.out.below hb1) (by omega) (Nat.le_trans hsz hb1.size)).mono ?_
      rintro e w2 ⟨A0, e2, rfl, hO2, hP2, hE2, hb2, hs2⟩
      have HP := Lib.hid hP2
      have HB2 := Lib.hid ((HB.out.trans (hb1.mono hsz)).trans hb2)
      have HO2 := Lib.hid hO2
      clear hP2 hb1 hb2 hO2 HCA HO HB
      obtain ⟨wo, rfl⟩ : ∃ wo : World, wo = wr := ⟨_, rfl⟩
      cases pass
      · have hthree : (e2 != 0) = false ∨ ((e2 != 0) = true ∧ ¬ ((k : Int) < 500)) := by
          by_cases h5 : k < 500
          · rw [hE2 h5]; exact Or.inl rfl
          · cases h : (e2 != 0)
            · exact Or.inl rfl
            · exact Or.inr ⟨rfl, by omega⟩
        clear hE2
        rcases hthree with hz | ⟨hz, h5⟩
        all_goals
          go_wp2_with fail
          go_loopw [10] (fun i wr => ∃ j : Nat, j ≤ M ∧ i = .int .i64 j ∧ (∃ A, Own (fun k => w.heap.size ≤ k) wr w.heap.size A ∧ Pg0 A (Mn (min j 50))) ∧ Below w.heap.size w wr) (fun i _ => M - (intOf i).toNat)
          case atStart => exact ⟨0, Nat.zero_le _, rfl, ⟨A0, HO2.out, HP.out⟩, HB2.out⟩
          case round =>
            obtain ⟨j, hj, rfl, ⟨A, hO, hP⟩, hB⟩ := hrel
            have hsz := hB.size
            have HO := Lib.hid hO
            have HB := Lib.hid hB
            have HPP := Lib.hid hP
            clear hO hB hP
            by_cases hlt : j < M
            · have hkk : (j : Int) < 52 := by omega
              have hconv := wm_conv wr j (by omega)
              have HOP := Lib.hid (fun W (O : Own (fun k => w.heap.size ≤ k) W w.heap.size A) (hs : w.heap.size ≤ W.heap.size) => grant_o O (fun j h => Nat.le_trans hs h) (who := ann) (cart := nm 0) (who2 := wm j) 1 (maxLen_small (by decide)) (maxLen_small (by decide)) (maxLen_small (by show 3 ≤ 100; decide)))
              by_cases h50 : j < 50
              · have hmin : min j 50 = j := by omega
                have HM : Hid (min (j + 1) 50 = j + 1) := Lib.hid (by omega)
                rw [hmin] at HPP
                have HE := Lib.hid (grant_Mn HPP.out h50)
                clear hmin
                go_wp2_with (go_at_call 17; refine (HOP.out _ (HO.out.below ((Below.refl _ _).alloc (Nat.le_refl _) _)) (by simp; omega)).mono ?_; rw [HE.out.1]; rintro e w3 ⟨rfl, hO1, hK1⟩)
                go_roundw
                case rel =>
                  have hs1 := hK1.size
                  refine ⟨j + 1, by omega, by go_num, ⟨_, hO1, by rw [HM.out]; exact HE.out.2⟩, ?_⟩
                  exact (HB.out.alloc hsz _).trans (base_keep hK1 (by simp; omega))
                case measure => simp [intOf]; omega
              · have hmin : min j 50 = 50 := by omega
                have HM : Hid (min (j + 1) 50 = 50) := Lib.hid (by omega)
                rw [hmin] at HPP
                have HE := Lib.hid (grant_full HPP.out (by omega : 50 ≤ j) (by omega))
                clear hmin
                go_wp2_with (go_at_call 17; refine (HOP.out _ (HO.out.below ((Below.refl _ _).alloc (Nat.le_refl _) _)) (by simp; omega)).mono ?_; rw [HE.out.1]; rintro e w3 ⟨rfl, hO1, hK1⟩)
                go_roundw
                case rel =>
                  have hs1 := hK1.size
                  refine ⟨j + 1, by omega, by go_num, ⟨_, hO1, by rw [HM.out]; exact HE.out.2⟩, ?_⟩
                  exact (HB.out.alloc hsz _).trans (base_keep hK1 (by simp; omega))
                case measure => simp [intOf]; omega
            · have hje : j = M := by omega
              subst hje
              have H2 := Lib.hid (last_two HPP.out (by omega) (by omega))
              go_wp2_with fail
              refine (grant_o HO.out (fun j h => Nat.le_trans hsz h) (who := ann) (cart := nm 0) (who2 := wm 0) 7 (maxLen_small (by decide)) (maxLen_small (by decide)) (maxLen_small (by decide))).mono ?_
              rw [H2.out.1]
              rintro e w3 ⟨rfl, hO3, hK3⟩
              have hs3 := Nat.le_trans hsz hK3.size
              have HB3 := Lib.hid (HB.out.trans (base_keep hK3 hsz))
              have HO3 := Lib.hid hO3
              clear hO3 hK3
              go_wp2_with fail
              refine (pass_o HO3.out (fun j h => Nat.le_trans hs3 h) (who := ann) (cart := nm 0) (who2 := wm 1) (maxLen_small (by decide)) (maxLen_small (by decide)) (maxLen_small (by decide))).mono ?_
              rw [H2.out.2.1]
              rintro e w4 ⟨rfl, hO4, hK4⟩
              have hs4 := Nat.le_trans hs3 hK4.size
              have HB4 := Lib.hid (HB3.out.trans (base_keep hK4 hs3))
              have HO4 := Lib.hid hO4
              clear hO4 hK4
              go_wp2_with fail
              refine (members_o HO4.out (nm 0)).mono ?_
              rintro e w5 ⟨v, rfl, hrow, hb5⟩
              obtain ⟨a5, cap5, rfl, _, _, _⟩ := Rd.of_own hrow (by have := membersA_len HO4.out (nm 0); unfold maxLen; omega)
              rw [H2.out.2.2]
              have HB5 := Lib.hid (HB4.out.trans (hb5.mono hs4))
              clear hrow hb5
              have HKN := Lib.hid (known_any w5 (rowsLie_base HR.out HB5.out h0))
              go_wp2_with (go_at_call 9; refine HKN.out.mono ?_; rintro e w6 ⟨rfl, hb6⟩)
              go_ret
              exact ⟨rfl, HB5.out.trans (hb6.mono HB5.out.size)⟩
      · have hthree : (e2 != 0) = false ∨ ((e2 != 0) = true ∧ ¬ ((k : Int) < 500)) := by
          by_cases h5 : k < 500
          · rw [hE2 h5]; exact Or.inl rfl
          · cases h : (e2 != 0)
            · exact Or.inl rfl
            · exact Or.inr ⟨rfl, by omega⟩
        clear hE2
        rcases hthree with hz | ⟨hz, h5⟩
        all_goals
          go_wp2_with fail
          go_loopw [10] (fun i wr => ∃ j : Nat, j + 1 ≤ M ∧ i = .int .i64 j ∧ (∃ A, Own (fun k => w.heap.size ≤ k) wr w.heap.size A ∧ Pg0 A (Mn (min j 50))) ∧ Below w.heap.size w wr) (fun i _ => M - (intOf i).toNat)
          case atStart => exact ⟨0, by omega, rfl, ⟨A0, HO2.out, HP.out⟩, HB2.out⟩
          case round =>
            obtain ⟨j, hj, rfl, ⟨A, hO, hP⟩, hB⟩ := hrel
            have hsz := hB.size
            have HO := Lib.hid hO
            have HB := Lib.hid hB
            have HPP := Lib.hid hP
            clear hO hB hP
            by_cases hlt : j + 1 < M
            · have hlast : ((j : Int) == (M : Int) - 1) = false := beq_eq_false_iff_ne.2 (by omega)
              have hlt2 : j < M := by omega
              have hkk : (j : Int) < 52 := by omega
              have hconv := wm_conv wr j (by omega)
              have HOP := Lib.hid (fun W (O : Own (fun k => w.heap.size ≤ k) W w.heap.size A) (hs : w.heap.size ≤ W.heap.size) => grant_o O (fun j h => Nat.le_trans hs h) (who := ann) (cart := nm 0) (who2 := wm j) 1 (maxLen_small (by decide)) (maxLen_small (by decide)) (maxLen_small (by show 3 ≤ 100; decide)))
              by_cases h50 : j < 50
              · have hmin : min j 50 = j := by omega
                have HM : Hid (min (j + 1) 50 = j + 1) := Lib.hid (by omega)
                rw [hmin] at HPP
                have HE := Lib.hid (grant_Mn HPP.out h50)
                clear hmin
                go_wp2_with (go_at_call 17; refine (HOP.out _ (HO.out.below ((Below.refl _ _).alloc (Nat.le_refl _) _)) (by simp; omega)).mono ?_; rw [HE.out.1]; rintro e w3 ⟨rfl, hO1, hK1⟩)
                go_roundw
                case rel =>
                  have hs1 := hK1.size
                  refine ⟨j + 1, by omega, by go_num, ⟨_, hO1, by rw [HM.out]; exact HE.out.2⟩, ?_⟩
                  exact (HB.out.alloc hsz _).trans (base_keep hK1 (by simp; omega))
                case measure => simp [intOf]; omega
              · have hmin : min j 50 = 50 := by omega
                have HM : Hid (min (j + 1) 50 = 50) := Lib.hid (by omega)
                rw [hmin] at HPP
                have HE := Lib.hid (grant_full HPP.out (by omega : 50 ≤ j) (by omega))
                clear hmin
                go_wp2_with (go_at_call 17; refine (HOP.out _ (HO.out.below ((Below.refl _ _).alloc (Nat.le_refl _) _)) (by simp; omega)).mono ?_; rw [HE.out.1]; rintro e w3 ⟨rfl, hO1, hK1⟩)
                go_roundw
                case rel =>
                  have hs1 := hK1.size
                  refine ⟨j + 1, by omega, by go_num, ⟨_, hO1, by rw [HM.out]; exact HE.out.2⟩, ?_⟩
                  exact (HB.out.alloc hsz _).trans (base_keep hK1 (by simp; omega))
                case measure => simp [intOf]; omega
            · have hlt2 : j < M := by omega
              have hlast : ((j : Int) == (M : Int) - 1) = true := beq_iff_eq.2 (by omega)
              have hkk : (j : Int) < 52 := by omega
              have hconv := wm_conv wr j (by omega)
              by_cases h50 : j < 50
              · have hmin : min j 50 = j := by omega
                rw [hmin] at HPP
                have HE := Lib.hid (pass_Mn HPP.out h50)
                have HL : Hid (j + 1 = min M 50) := Lib.hid (by omega)
                clear hmin
                go_wp2_with fail
                refine (pass_o (HO.out.below ((Below.refl _ _).alloc (Nat.le_refl _) _)) (fun j h => Nat.le_trans (by simp; omega) h) (who := ann) (cart := nm 0) (who2 := wm j) (maxLen_small (by decide)) (maxLen_small (by decide)) (maxLen_small (by show 3 ≤ 100; decide))).mono ?_
                rw [HE.out.1]
                rintro e w4 ⟨rfl, hO4, hK4⟩
                have hs4 : w.heap.size ≤ w4.heap.size := by have := hK4.size; simp at this; omega
                have HB4 := Lib.hid ((HB.out.alloc hsz (.cells #[.int .u8 109, .int .u8 (48 + (j : Int) / 10), .int .u8 (48 + (j : Int) % 10)] 5)).trans (base_keep hK4 (by simp; omega)))
                have HO4 := Lib.hid hO4
                clear hO4 hK4 hlast hconv
                go_wp2_with fail
                refine (members_o HO4.out (nm 0)).mono ?_
                rintro e w5 ⟨v, rfl, hrow, hb5⟩
                obtain ⟨a5, cap5, rfl, _, _, _⟩ := Rd.of_own hrow (by have := membersA_len HO4.out (nm 0); unfold maxLen; omega)
                rw [HE.out.2, HL.out]
                have HB5 := Lib.hid (HB4.out.trans (hb5.mono hs4))
                clear hrow hb5
                have HKN := Lib.hid (known_any w5 (rowsLie_base HR.out HB5.out h0))
                go_wp2_with (go_at_call 9; refine HKN.out.mono ?_; rintro e w6 ⟨rfl, hb6⟩)
                go_ret
                exact ⟨rfl, HB5.out.trans (hb6.mono HB5.out.size)⟩
              · have hmin : min j 50 = 50 := by omega
                rw [hmin] at HPP
                have HE := Lib.hid (pass_full HPP.out (by omega : 50 ≤ j) (by omega))
                have HL : Hid (50 = min M 50) := Lib.hid (by omega)
                clear hmin
                go_wp2_with fail
                refine (pass_o (HO.out.below ((Below.refl _ _).alloc (Nat.le_refl _) _)) (fun j h => Nat.le_trans (by simp; omega) h) (who := ann) (cart := nm 0) (who2 := wm j) (maxLen_small (by decide)) (maxLen_small (by decide)) (maxLen_small (by show 3 ≤ 100; decide))).mono ?_
                rw [HE.out.1]
                rintro e w4 ⟨rfl, hO4, hK4⟩
                have hs4 : w.heap.size ≤ w4.heap.size := by have := hK4.size; simp at this; omega
                have HB4 := Lib.hid ((HB.out.alloc hsz (.cells #[.int .u8 109, .int .u8 (48 + (j : Int) / 10), .int .u8 (48 + (j : Int) % 10)] 5)).trans (base_keep hK4 (by simp; omega)))
                have HO4 := Lib.hid hO4
                clear hO4 hK4 hlast hconv
                go_wp2_with fail
                refine (members_o HO4.out (nm 0)).mono ?_
                rintro e w5 ⟨v, rfl, hrow, hb5⟩
                obtain ⟨a5, cap5, rfl, _, _, _⟩ := Rd.of_own hrow (by have := membersA_len HO4.out (nm 0); unfold maxLen; omega)
                rw [HE.out.2, HL.out]
                have HB5 := Lib.hid (HB4.out.trans (hb5.mono hs4))
                clear hrow hb5
                have HKN := Lib.hid (known_any w5 (rowsLie_base HR.out HB5.out h0))
                go_wp2_with (go_at_call 9; refine HKN.out.mono ?_; rintro e w6 ⟨rfl, hb6⟩)
                go_ret
                exact ⟨rfl, HB5.out.trans (hb6.mono HB5.out.size)⟩
end Go.Proofs.YtdeljhehcjknbaaDoor
