/- The reference's Item: which strings are names of items. -/
import Derived.Test.YtjlhdgmcaiiagaaGreatDoorItemsP
import Derived.Test.YtjlhdgmcaiiagaaGreatDoorName
namespace Go.Proofs.YtjlhdgmcaiiagaaGreatDoor
open Go.RowKit

/-- Two spaces stand beside each other. -/
def hasTwo : List UInt8 → Bool
  | a :: b :: l => (a == 32 && b == 32) || hasTwo (b :: l)
  | _ => false
theorem contains_two : ∀ (l : List UInt8), Lib.contains l [32, 32] = hasTwo l
  | [] => by simp [Lib.contains, Lib.index, hasTwo]
  | [a] => by simp [Lib.contains, Lib.index, hasTwo]
  | a :: b :: l => by
    have ih := contains_two (b :: l)
    have hg := Lib.index_ge (b :: l) [32, 32]
    unfold Lib.contains at ih ⊢
    rw [show hasTwo (a :: b :: l) = ((a == 32 && b == 32) || hasTwo (b :: l)) from rfl, ← ih]
    rw [show Lib.index (a :: b :: l) [32, 32] = if ([32, 32] : List UInt8).isPrefixOf (a :: b :: l) then 0 else if Lib.index (b :: l) [32, 32] == -1 then -1 else Lib.index (b :: l) [32, 32] + 1 from rfl]
    generalize Lib.index (b :: l) [32, 32] = i at *
    have hp : ([32, 32] : List UInt8).isPrefixOf (a :: b :: l) = (a == 32 && b == 32) := by
      simp [List.isPrefixOf]
      rw [Bool.eq_iff_iff]
      simp
      exact ⟨fun h => ⟨h.1.symm, h.2.symm⟩, fun h => ⟨h.1.symm, h.2.symm⟩⟩
    rw [hp]
    cases (a == 32 && b == 32) with
    | true => simp
    | false =>
      by_cases h : i = -1
      · subst h; simp
      · have h2 : (i == -1) = false := by simpa using h
        rw [if_neg (by simp), h2]
        simp
        omega
theorem dropWhile_self {l : List UInt8} {c : UInt8} : l.dropWhile (· == c) = l ↔ l[0]? ≠ some c := by
  cases l with
  | nil => simp
  | cons a l =>
    rw [List.dropWhile_cons]
    by_cases h : a = c
    · subst h
      simp
      intro e
      have h1 := congrArg List.length e
      have h2 := (List.dropWhile_sublist (fun x => x == a) (l := l)).length_le
      simp at h1
      omega
    · simp [h]
theorem trim_self {l : List UInt8} {c : UInt8} : Lib.trimB l c = l ↔ l[0]? ≠ some c ∧ l.reverse[0]? ≠ some c := by
  unfold Lib.trimB Lib.trimLeftB Lib.trimRightB
  have e0 : ∀ m : List UInt8, (m.dropWhile (· == c)).length ≤ m.length := fun m => (List.dropWhile_sublist (fun x => x == c) (l := m)).length_le
  constructor
  · intro h
    have h1 := e0 l.reverse
    have h2 := e0 (l.reverse.dropWhile (· == c)).reverse
    rw [h, List.length_reverse] at h2
    rw [List.length_reverse] at h1
    have h3 : l.reverse.dropWhile (· == c) = l.reverse := (List.dropWhile_sublist (fun x => x == c) (l := l.reverse)).eq_of_length (by rw [List.length_reverse]; omega)
    rw [h3, List.reverse_reverse] at h
    exact ⟨dropWhile_self.1 h, dropWhile_self.1 h3⟩
  · rintro ⟨h1, h2⟩
    rw [dropWhile_self.2 h2, List.reverse_reverse, dropWhile_self.2 h1]
end Go.Proofs.YtjlhdgmcaiiagaaGreatDoor
namespace Go.Proofs.YtjlhdgmcaiiagaaGreatDoor
open Go.RowKit Go.Maps

theorem hasTwo_snoc : ∀ (m : List UInt8) (a x : UInt8), hasTwo (m ++ [a] ++ [x]) = (hasTwo (m ++ [a]) || (a == 32 && x == 32))
  | [], a, x => by simp [hasTwo]
  | [b], a, x => by simp [hasTwo]
  | b :: c :: m, a, x => by
    have ih := hasTwo_snoc (c :: m) a x
    simp only [List.cons_append] at ih ⊢
    rw [show hasTwo (b :: c :: (m ++ [a] ++ [x])) = ((b == 32 && c == 32) || hasTwo (c :: (m ++ [a] ++ [x]))) from rfl, show hasTwo (b :: c :: (m ++ [a])) = ((b == 32 && c == 32) || hasTwo (c :: (m ++ [a]))) from rfl, ih, Bool.or_assoc]
theorem hasTwo_take (l : List UInt8) (k : Nat) (h : k + 1 < l.length) : hasTwo (l.take (k + 2)) = (hasTwo (l.take (k + 1)) || (l[k] == 32 && l[k + 1] == 32)) := by
  have e1 : l.take (k + 1) = l.take k ++ [l[k]] := List.take_succ_eq_append_getElem (by omega)
  have e2 : l.take (k + 2) = l.take (k + 1) ++ [l[k + 1]] := List.take_succ_eq_append_getElem h
  rw [e2, e1]
  exact hasTwo_snoc _ _ _
theorem hasTwo_left : ∀ (m t : List UInt8), hasTwo m = true → hasTwo (m ++ t) = true
  | [], _, h => by simp [hasTwo] at h
  | [a], _, h => by simp [hasTwo] at h
  | a :: b :: m, t, h => by
    rw [show hasTwo (a :: b :: m) = ((a == 32 && b == 32) || hasTwo (b :: m)) from rfl, Bool.or_eq_true] at h
    rw [show (a :: b :: m) ++ t = a :: b :: (m ++ t) from rfl, show hasTwo (a :: b :: (m ++ t)) = ((a == 32 && b == 32) || hasTwo (b :: (m ++ t))) from rfl, Bool.or_eq_true]
    rcases h with h | h
    · exact Or.inl h
    · exact Or.inr (hasTwo_left (b :: m) t h)
theorem hasTwo_mem {l : List UInt8} {k : Nat} (h : k + 1 < l.length) (h1 : l[k] = 32) (h2 : l[k + 1] = 32) : hasTwo l = true := by
  have e := hasTwo_left (l.take (k + 2)) (l.drop (k + 2)) (by rw [hasTwo_take l k h, h1, h2]; simp)
  rw [List.take_append_drop] at e
  exact e
theorem u8_eq32 {c : UInt8} : c = 32 ↔ c.toNat = 32 := by
  rw [← UInt8.toNat_inj]
  exact Iff.rfl
set_option maxRecDepth 100000 in
set_option maxHeartbeats 4000000 in
theorem r7Item_any (s : ByteArray) (w : World) (hs : s.size ≤ maxLen) : Calls Tryz.prog 44 #[.string s] w fun e w' => e = .returned (.bool (nameB s)) ∧ w' = w := by
  unfold maxLen at hs
  have HNB := Lib.hid (nameB_eq s)
  have hll : s.data.toList.length = s.size := by simp
  by_cases h0 : s.size = 0
  · have HF : Hid (nameB s = false) := Lib.hid (by rw [HNB.out, decide_eq_false (by omega : ¬ 1 ≤ s.size)]; rfl)
    have t1 : ((s.size : Int) == 0) = true := by simp [h0]
    clear h0
    go_enter Tryz.func44, Tryz.ntmps44
    go_wp2_with fail
    go_ret
    exact ⟨by rw [HF.out]; rfl, rfl⟩
  · have t1 : ((s.size : Int) == 0) = false := by simpa using h0
    by_cases h64 : s.size ≤ 64
    · have t2 : decide (64 < (s.size : Int)) = false := decide_eq_false (by omega)
      have a0 : (0 : Int) < s.size := by omega
      have hw1 : IntKind.i64.wrap ((s.size : Int) - 1) = (s.size : Int) - 1 := by rw [IntKind.wrap_i64]; omega
      have hw2 : ((s.size : Int) - 1).toNat = s.size - 1 := by omega
      have hw3 : (0 : Int) ≤ (s.size : Int) - 1 := by omega
      have hw4 : (s.size : Int) - 1 < s.size := by omega
      have hpos : 0 < s.size := by omega
      have HC0 : Hid (s.data.toList[0]? = some s[0]) := Lib.hid (by rw [List.getElem?_eq_getElem (by omega)]; rfl)
      have HCL : Hid (s.data.toList.reverse[0]? = some s[s.size - 1]) := Lib.hid (by
        rw [List.getElem?_reverse (by omega), List.getElem?_eq_getElem (by omega)]
        congr 1)
      by_cases e0 : s[0] = 32
      · have HF : Hid (nameB s = false) := Lib.hid (by
          rw [HNB.out, decide_eq_false (fun h => (trim_self.1 h).1 (by rw [HC0.out, e0]))]; simp)
        have t3 : ((s[0].toNat : Int) == 32) = true := by rw [e0]; rfl
        clear e0
        go_enter Tryz.func44, Tryz.ntmps44
        go_wp2_with fail
        go_ret
        exact ⟨by rw [HF.out]; rfl, rfl⟩
      · have t3 : ((s[0].toNat : Int) == 32) = false := by
          have : s[0].toNat ≠ 32 := fun h => e0 (u8_eq32.2 h)
          simp; omega
        by_cases el : s[s.size - 1] = 32
        · have HF : Hid (nameB s = false) := Lib.hid (by
            rw [HNB.out, decide_eq_false (fun h => (trim_self.1 h).2 (by rw [HCL.out, el]))]; simp)
          have t4 : ((s[s.size - 1].toNat : Int) == 32) = true := by rw [el]; rfl
          clear e0 el
          go_enter Tryz.func44, Tryz.ntmps44
          go_wp2_with fail
          go_ret
          exact ⟨by rw [HF.out]; rfl, rfl⟩
        · have t4 : ((s[s.size - 1].toNat : Int) == 32) = false := by
            have : s[s.size - 1].toNat ≠ 32 := fun h => el (u8_eq32.2 h)
            simp; omega
          have HTR : Hid (Lib.trimB s.data.toList 32 = s.data.toList) := Lib.hid (trim_self.2 ⟨by rw [HC0.out]; simpa using e0, by rw [HCL.out]; simpa using el⟩)
          clear e0 el
          go_enter Tryz.func44, Tryz.ntmps44
          go_wp2_with fail
          clear t3 t4
          go_loopw [3] (fun i wr => ∃ k : Nat, k ≤ s.size ∧ i = .int .i64 k ∧ (s.data.toList.take k).all okn = true ∧ hasTwo (s.data.toList.take k) = false ∧ wr = w) (fun i _ => s.size - (intOf i).toNat)
          case atStart => exact ⟨0, Nat.zero_le _, rfl, rfl, rfl, rfl⟩
          case round =>
            obtain ⟨k, hk, rfl, hall, htwo, rfl⟩ := hrel
            have HALL := Lib.hid hall
            have HTWO := Lib.hid htwo
            clear hall htwo
            by_cases hlt : k < s.size
            · have a1 : (k : Int) < s.size := by omega
              have b0 : (0 : Int) ≤ k := by omega
              have hkw : IntKind.i64.wrap ((k : Int) + 1) = (k : Int) + 1 := by rw [IntKind.wrap_i64]; omega
              have HOKB : Hid (okn s[k] = false → nameB s = false) := Lib.hid (fun h => by rw [HNB.out, not_allB hlt h]; simp)
              have HSN := Lib.hid (all_snoc okn s k hlt)
              by_cases h1 : s[k].toNat < 32
              · have HF := Lib.hid (HOKB.out (by unfold okn; rw [decide_eq_false (by omega : ¬ 32 ≤ s[k].toNat)]; rfl))
                have t5 : decide ((s[k].toNat : Int) < 32) = true := decide_eq_true (by omega)
                go_wp2_with fail
                go_ret
                exact ⟨by rw [HF.out]; rfl, rfl⟩
              · have t5 : decide ((s[k].toNat : Int) < 32) = false := decide_eq_false (by omega)
                by_cases h2 : 126 < s[k].toNat
                · have HF := Lib.hid (HOKB.out (by unfold okn; rw [decide_eq_false (by omega : ¬ s[k].toNat ≤ 126)]; simp))
                  have t6 : decide (126 < (s[k].toNat : Int)) = true := decide_eq_true (by omega)
                  go_wp2_with fail
                  go_ret
                  exact ⟨by rw [HF.out]; rfl, rfl⟩
                · have t6 : decide (126 < (s[k].toNat : Int)) = false := decide_eq_false (by omega)
                  have HA2 : Hid ((s.data.toList.take (k + 1)).all okn = true) := Lib.hid (by rw [HSN.out, HALL.out]; unfold okn; rw [decide_eq_true (by omega : 32 ≤ s[k].toNat), decide_eq_true (by omega : s[k].toNat ≤ 126)]; rfl)
                  cases k with
                  | zero =>
                    have HF : Hid ((s.data.toList.take (0 + 1)).all okn = true ∧ hasTwo (s.data.toList.take (0 + 1)) = false) := Lib.hid ⟨HA2.out, by
                      cases s.data.toList with
                      | nil => rfl
                      | cons a l => simp [hasTwo]⟩
                    go_wp2_with fail
                    go_roundw
                    case rel => exact ⟨0 + 1, by omega, by go_num, HF.out.1, HF.out.2, trivial⟩
                    case measure => simp [intOf]; omega
                  | succ j =>
                    have HST := Lib.hid (hasTwo_take s.data.toList j (by omega))
                    have hjw : IntKind.i64.wrap ((j : Int) + 1 - 1) = (j : Int) := by rw [IntKind.wrap_i64]; omega
                    have hjw2 : IntKind.i64.wrap (j : Int) = (j : Int) := by rw [IntKind.wrap_i64]; omega
                    have b1 : (0 : Int) ≤ j := by omega
                    have b2 : (j : Int) < s.size := by omega
                    have b3 : (0 : Int) < (j : Int) + 1 := by omega
                    have hg1 : s.data.toList[j + 1]'(by omega) = s[j + 1] := rfl
                    have hg0 : s.data.toList[j]'(by omega) = s[j]'(by omega) := rfl
                    rw [hg0, hg1] at HST
                    have HMEM : Hid (s[j]'(by omega) = 32 → s[j + 1] = 32 → nameB s = false) := Lib.hid (fun h1 h2 => by rw [HNB.out, contains_two, hasTwo_mem (l := s.data.toList) (k := j) (by omega) h1 h2]; simp)
                    by_cases e1 : s[j + 1] = 32
                    · have t7 : ((s[j + 1].toNat : Int) == 32) = true := by rw [e1]; rfl
                      by_cases e2 : (s[j]'(by omega)) = 32
                      · have HF := Lib.hid (HMEM.out e2 e1)
                        have t8 : (((s[j]'(by omega)).toNat : Int) == 32) = true := by rw [e2]; rfl
                        clear e1 e2 HST HMEM
                        go_wp2_with fail
                        go_ret
                        exact ⟨by rw [HF.out]; rfl, rfl⟩
                      · have HF : Hid ((s.data.toList.take (j + 1 + 1)).all okn = true ∧ hasTwo (s.data.toList.take (j + 1 + 1)) = false) := Lib.hid ⟨HA2.out, by rw [HST.out, HTWO.out]; simp [e2]⟩
                        have t8 : (((s[j]'(by omega)).toNat : Int) == 32) = false := by
                          have : (s[j]'(by omega)).toNat ≠ 32 := fun h => e2 (u8_eq32.2 h)
                          simp; omega
                        clear e1 e2 HST HMEM
                        go_wp2_with fail
                        go_roundw
                        case rel => exact ⟨j + 1 + 1, by omega, by go_num, HF.out.1, HF.out.2, trivial⟩
                        case measure => simp [intOf]; omega
                    · have HF : Hid ((s.data.toList.take (j + 1 + 1)).all okn = true ∧ hasTwo (s.data.toList.take (j + 1 + 1)) = false) := Lib.hid ⟨HA2.out, by rw [HST.out, HTWO.out]; simp [e1]⟩
                      have t7 : ((s[j + 1].toNat : Int) == 32) = false := by
                        have : s[j + 1].toNat ≠ 32 := fun h => e1 (u8_eq32.2 h)
                        simp; omega
                      clear e1 HST HMEM
                      go_wp2_with fail
                      go_roundw
                      case rel => exact ⟨j + 1 + 1, by omega, by go_num, HF.out.1, HF.out.2, trivial⟩
                      case measure => simp [intOf]; omega
            · have hke : k = s.size := by omega
              have HF : Hid (nameB s = true) := Lib.hid (by
                have h1 := HALL.out
                have h2 := HTWO.out
                rw [hke, ← hll, List.take_length] at h1 h2
                rw [HNB.out, h1, decide_eq_true HTR.out, contains_two, h2, decide_eq_true (by omega : 1 ≤ s.size), decide_eq_true h64]; rfl)
              clear HALL HTWO
              go_wp2_with fail
              go_ret
              exact ⟨by rw [HF.out]; rfl, rfl⟩
    · have HF : Hid (nameB s = false) := Lib.hid (by rw [HNB.out, decide_eq_false h64]; simp)
      have t2 : decide (64 < (s.size : Int)) = true := decide_eq_true (by omega)
      go_enter Tryz.func44, Tryz.ntmps44
      go_wp2_with fail
      go_ret
      exact ⟨by rw [HF.out]; rfl, rfl⟩
end Go.Proofs.YtjlhdgmcaiiagaaGreatDoor

