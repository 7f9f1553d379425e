/- Dots: their order, sets, validity; marks: validity, their dots. -/
import Derived.Test.YtjlhdgmcaiiagaaGreatDoorItemsP
import Derived.Sort.Grow
import Derived.Deep.RegionHeld3
namespace Go.Proofs.YtjlhdgmcaiiagaaGreatDoor
open Go.RowKit

def cmpI (x y : Int) : Int := if x < y then -1 else if y < x then 1 else 0
def orI : List Int → Int
  | [] => 0
  | x :: l => if x = 0 then orI l else x
def dcmp (a b : DotD) : Int := orI [cmpI a.ctr b.ctr, cmpI a.rep b.rep]
theorem cmpI_lt (x y : Int) : cmpI x y < 0 ↔ x < y := by
  unfold cmpI; split
  · simp_all
  · split <;> simp_all
theorem cmpI_zero (x y : Int) : cmpI x y = 0 ↔ x = y := by
  unfold cmpI; split
  · simp; omega
  · split
    · simp; omega
    · simp; omega
theorem cmpI_mem (x y : Int) : cmpI x y = -1 ∨ cmpI x y = 0 ∨ cmpI x y = 1 := by
  unfold cmpI; split
  · exact Or.inl rfl
  · split
    · exact Or.inr (Or.inr rfl)
    · exact Or.inr (Or.inl rfl)
theorem dcmp_lt (a b : DotD) : decide (dcmp a b < 0) = dlt a b := by
  have h : dcmp a b < 0 ↔ dlt a b = true := by
    rw [dlt_iff]
    unfold dcmp
    simp only [orI]
    split
    · rename_i h
      rw [cmpI_zero] at h
      split
      · rename_i h2
        rw [cmpI_zero] at h2
        omega
      · rw [cmpI_lt]; omega
    · rename_i h
      rw [cmpI_zero] at h
      rw [cmpI_lt]; omega
  cases e : dlt a b with
  | true => exact decide_eq_true (h.2 e)
  | false => exact decide_eq_false (fun h' => by rw [h.1 h'] at e; cases e)

set_option maxRecDepth 100000 in
theorem isNaNInt_any (x : Int) (w : World) : Calls Tryz.prog 122 #[.int .i64 x] w fun e w' => e = .returned (.bool false) ∧ w' = w := by
  go_enter Tryz.func122, Tryz.ntmps122
  go_wp2
  go_ret
  exact ⟨rfl, rfl⟩
set_option maxRecDepth 100000 in
set_option maxHeartbeats 1000000 in
theorem cmpInt_any (x y : Int) (w : World) : Calls Tryz.prog 89 #[.int .i64 x, .int .i64 y] w fun e w' => e = .returned (.int .i64 (cmpI x y)) ∧ w' = w := by
  have HN := Lib.hid (fun z wz => isNaNInt_any z wz)
  by_cases h1 : x < y
  · have hc : Hid (cmpI x y = -1) := Lib.hid (by unfold cmpI; rw [if_pos h1])
    have t1 : decide (x < y) = true := decide_eq_true h1
    go_enter Tryz.func89, Tryz.ntmps89
    go_wp2_with fail
    refine (HN.out _ _).mono ?_
    rintro e w1 ⟨rfl, rfl⟩
    go_wp2_with fail
    refine (HN.out _ _).mono ?_
    rintro e w2 ⟨rfl, rfl⟩
    go_wp2_with fail
    go_ret
    exact ⟨by rw [hc.out]; rfl, rfl⟩
  · have t1 : decide (x < y) = false := decide_eq_false h1
    by_cases h2 : y < x
    · have hc : Hid (cmpI x y = 1) := Lib.hid (by unfold cmpI; rw [if_neg h1, if_pos h2])
      have t2 : decide (y < x) = true := decide_eq_true h2
      go_enter Tryz.func89, Tryz.ntmps89
      go_wp2_with fail
      refine (HN.out _ _).mono ?_
      rintro e w1 ⟨rfl, rfl⟩
      go_wp2_with fail
      refine (HN.out _ _).mono ?_
      rintro e w2 ⟨rfl, rfl⟩
      go_wp2_with fail
      go_ret
      exact ⟨by rw [hc.out]; rfl, rfl⟩
    · have hc : Hid (cmpI x y = 0) := Lib.hid (by unfold cmpI; rw [if_neg h1, if_neg h2])
      have t2 : decide (y < x) = false := decide_eq_false h2
      go_enter Tryz.func89, Tryz.ntmps89
      go_wp2_with fail
      refine (HN.out _ _).mono ?_
      rintro e w1 ⟨rfl, rfl⟩
      go_wp2_with fail
      refine (HN.out _ _).mono ?_
      rintro e w2 ⟨rfl, rfl⟩
      go_wp2_with fail
      go_ret
      exact ⟨by rw [hc.out]; rfl, rfl⟩

set_option maxRecDepth 100000 in
set_option maxHeartbeats 1000000 in
theorem cmpOr_any (xs : List Int) (g c : Nat) (w : World) (hl : xs.length ≤ 100) (hc : ∀ i (h : i < xs.length), w.cell? ⟨g, i, none⟩ = some (.int .i64 xs[i])) : Calls Tryz.prog 88 #[.slice (some ⟨g, 0, none⟩) xs.length c] w fun e w' => e = .returned (.int .i64 (orI xs)) ∧ w' = w := by
  have HC := Lib.hid hc
  clear hc
  go_enter Tryz.func88, Tryz.ntmps88
  go_wp2_with fail
  go_loopw [8] (fun i wr => ∃ k : Nat, k ≤ xs.length ∧ i = .int .i64 k ∧ wr = w ∧ orI xs = orI (xs.drop k)) (fun i _ => xs.length - (intOf i).toNat)
  case atStart => exact ⟨0, Nat.zero_le _, rfl, rfl, by rw [List.drop_zero]⟩
  case round =>
    obtain ⟨k, hk, rfl, rfl, heq⟩ := hrel
    have HEQ := Lib.hid heq
    clear heq
    by_cases hlt : k < xs.length
    · have e0 := HC.out k hlt
      have HD : Hid (orI (xs.drop k) = if xs[k] = 0 then orI (xs.drop (k + 1)) else xs[k]) := Lib.hid (by rw [List.drop_eq_getElem_cons hlt]; rfl)
      have a1 : (k : Int) < xs.length := by omega
      have a2 : (0 : Int) ≤ k := by omega
      have hkw : IntKind.i64.wrap ((k : Int) + 1) = (k : Int) + 1 := by rw [IntKind.wrap_i64]; omega
      obtain ⟨x, hx⟩ : ∃ x, x = xs[k] := ⟨_, rfl⟩
      rw [← hx] at e0 HD
      clear hx
      by_cases h0 : x = 0
      · have HF := Lib.hid (HEQ.out.trans (HD.out.trans (if_pos h0)))
        subst h0
        clear HD HEQ
        go_wp2_with fail
        go_roundw
        case rel => exact ⟨k + 1, by omega, by go_num, trivial, HF.out⟩
        case measure => simp [intOf]; omega
      · have HF := Lib.hid (HEQ.out.trans (HD.out.trans (if_neg h0)))
        have h0b : (x == 0) = false := by simpa using h0
        clear HD HEQ
        go_wp2_with fail
        go_ret
        exact ⟨by rw [HF.out]; rfl, rfl⟩
    · have hke : k = xs.length := by omega
      have HF : Hid (orI xs = 0) := Lib.hid (by rw [HEQ.out, hke, List.drop_length]; rfl)
      clear HEQ
      go_wp2_with fail
      go_ret
      exact ⟨by rw [HF.out]; rfl, rfl⟩
end Go.Proofs.YtjlhdgmcaiiagaaGreatDoor
