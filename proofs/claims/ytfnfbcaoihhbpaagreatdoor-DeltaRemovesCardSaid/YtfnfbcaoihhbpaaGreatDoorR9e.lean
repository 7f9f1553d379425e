/- The reference's One: whether an item is valid. -/
import Derived.Test.YtfnfbcaoihhbpaaGreatDoorItemsP
import Derived.Test.YtfnfbcaoihhbpaaGreatDoorIt3
import Derived.Test.YtfnfbcaoihhbpaaGreatDoorR9
import Derived.Test.YtfnfbcaoihhbpaaGreatDoorIt10
set_option linter.unusedSimpArgs false
set_option linter.unusedVariables false
set_option maxRecDepth 100000
set_option maxHeartbeats 4000000
namespace Go.Proofs.YtfnfbcaoihhbpaaGreatDoor
open Go.RowKit

/-- Two spaces stand beside each other. -/
def hasTwo : List UInt8 → Bool
 | a :: b :: l => (a == 32 && b == 32) || hasTwo (b :: l)
 | _ => false
theorem contains_two : ∀ (l : List UInt8), Lib.contains l [32, 32] = hasTwo l
 | [] => by simp [Lib.contains, Lib.index, hasTwo]
 | [a] => by simp [Lib.contains, Lib.index, hasTwo]
 | a :: b :: l => by
  have ih := contains_two (b :: l)
  have hg := Lib.index_ge (b :: l) [32, 32]
  unfold Lib.contains at ih ⊢
  rw [show hasTwo (a :: b :: l) = ((a == 32 && b == 32) || hasTwo (b :: l)) from rfl, ← ih]
  rw [show Lib.index (a :: b :: l) [32, 32] = if ([32, 32] : List UInt8).isPrefixOf (a :: b :: l) then 0 else if Lib.index (b :: l) [32, 32] == -1 then -1 else Lib.index (b :: l) [32, 32] + 1 from rfl]
  generalize Lib.index (b :: l) [32, 32] = i at *
  have hp : ([32, 32] : List UInt8).isPrefixOf (a :: b :: l) = (a == 32 && b == 32) := by
   simp [List.isPrefixOf]
   rw [Bool.eq_iff_iff]
   simp
   exact ⟨fun h => ⟨h.1.symm, h.2.symm⟩, fun h => ⟨h.1.symm, h.2.symm⟩⟩
  rw [hp]
  cases (a == 32 && b == 32) with
  | true => simp
  | false =>
   by_cases h : i = -1
   ·subst h; simp
   ·have h2 : (i == -1) = false := by simpa using h
    rw [if_neg (by simp), h2]
    simp
    omega
theorem dropWhile_self {l : List UInt8} {c : UInt8} : l.dropWhile (· == c) = l ↔ l[0]? ≠ some c := by
 cases l with
 | nil => simp
 | cons a l =>
  rw [List.dropWhile_cons]
  by_cases h : a = c
  ·subst h
   simp
   intro e
   have h1 := congrArg List.length e
   have h2 := (List.dropWhile_sublist (fun x => x == a) (l := l)).length_le
   simp at h1
   omega
  ·simp [h]
theorem trim_self {l : List UInt8} {c : UInt8} : Lib.trimB l c = l ↔ l[0]? ≠ some c ∧ l.reverse[0]? ≠ some c := by
 unfold Lib.trimB Lib.trimLeftB Lib.trimRightB
 have e0 : ∀ m : List UInt8, (m.dropWhile (· == c)).length ≤ m.length := fun m => (List.dropWhile_sublist (fun x => x == c) (l := m)).length_le
 constructor
 ·intro h
  have h1 := e0 l.reverse
  have h2 := e0 (l.reverse.dropWhile (· == c)).reverse
  rw [h, List.length_reverse] at h2
  rw [List.length_reverse] at h1
  have h3 : l.reverse.dropWhile (· == c) = l.reverse := (List.dropWhile_sublist (fun x => x == c) (l := l.reverse)).eq_of_length (by rw [List.length_reverse]; omega)
  rw [h3, List.reverse_reverse] at h
  exact ⟨dropWhile_self.1 h, dropWhile_self.1 h3⟩
 ·rintro ⟨h1, h2⟩
  rw [dropWhile_self.2 h2, List.reverse_reverse, dropWhile_self.2 h1]
end Go.Proofs.YtfnfbcaoihhbpaaGreatDoor
namespace Go.Proofs.YtfnfbcaoihhbpaaGreatDoor
open Go.RowKit Go.Maps

theorem hasTwo_snoc : ∀ (m : List UInt8) (a x : UInt8), hasTwo (m ++ [a] ++ [x]) = (hasTwo (m ++ [a]) || (a == 32 && x == 32))
 | [], a, x => by simp [hasTwo]
 | [b], a, x => by simp [hasTwo]
 | b :: c :: m, a, x => by
  have ih := hasTwo_snoc (c :: m) a x
  simp only [List.cons_append] at ih ⊢
  rw [show hasTwo (b :: c :: (m ++ [a] ++ [x])) = ((b == 32 && c == 32) || hasTwo (c :: (m ++ [a] ++ [x]))) from rfl, show hasTwo (b :: c :: (m ++ [a])) = ((b == 32 && c == 32) || hasTwo (c :: (m ++ [a]))) from rfl, ih, Bool.or_assoc]
theorem hasTwo_take (l : List UInt8) (k : Nat) (h : k + 1 < l.length) : hasTwo (l.take (k + 2)) = (hasTwo (l.take (k + 1)) || (l[k] == 32 && l[k + 1] == 32)) := by
 have e1 : l.take (k + 1) = l.take k ++ [l[k]] := List.take_succ_eq_append_getElem (by omega)
 have e2 : l.take (k + 2) = l.take (k + 1) ++ [l[k + 1]] := List.take_succ_eq_append_getElem h
 rw [e2, e1]
 exact hasTwo_snoc _ _ _
theorem hasTwo_left : ∀ (m t : List UInt8), hasTwo m = true → hasTwo (m ++ t) = true
 | [], _, h => by simp [hasTwo] at h
 | [a], _, h => by simp [hasTwo] at h
 | a :: b :: m, t, h => by
  rw [show hasTwo (a :: b :: m) = ((a == 32 && b == 32) || hasTwo (b :: m)) from rfl, Bool.or_eq_true] at h
  rw [show (a :: b :: m) ++ t = a :: b :: (m ++ t) from rfl, show hasTwo (a :: b :: (m ++ t)) = ((a == 32 && b == 32) || hasTwo (b :: (m ++ t))) from rfl, Bool.or_eq_true]
  rcases h with h | h
  ·exact Or.inl h
  ·exact Or.inr (hasTwo_left (b :: m) t h)
theorem hasTwo_mem {l : List UInt8} {k : Nat} (h : k + 1 < l.length) (h1 : l[k] = 32) (h2 : l[k + 1] = 32) : hasTwo l = true := by
 have e := hasTwo_left (l.take (k + 2)) (l.drop (k + 2)) (by rw [hasTwo_take l k h, h1, h2]; simp)
 rw [List.take_append_drop] at e
 exact e
theorem u8_eq32 {c : UInt8} : c = 32 ↔ c.toNat = 32 := by
 rw [← UInt8.toNat_inj]
 exact Iff.rfl
theorem r7Item_any (s : ByteArray) (w : World) (hs : s.size ≤ maxLen) : Calls Tryz.prog 42 #[.string s] w fun e w' => e = .returned (.bool (nameB s)) ∧ w' = w := by
 unfold maxLen at hs
 have HNB := Hd (nameB_eq s)
 have hll : s.data.toList.length = s.size := by simp
 by_cases h0 : s.size = 0
 ·have HF : Hid (nameB s = false) := Hd (by rw [HNB.out, decide_eq_false (by omega : ¬ 1 ≤ s.size)]; rfl)
  have t1 : ((s.size : Int) == 0) = true := by simp [h0]
  clear h0
  go_enter Tryz.func42, Tryz.ntmps42
  go_wp2_with fail
  go_ret
  exact ⟨by rw [HF.out]; rfl, rfl⟩
 ·have t1 : ((s.size : Int) == 0) = false := by simpa using h0
  by_cases h64 : s.size ≤ 64
  ·have t2 : decide (64 < (s.size : Int)) = false := decide_eq_false (by omega)
   have a0 : (0 : Int) < s.size := by omega
   have hw1 : IntKind.i64.wrap ((s.size : Int) - 1) = (s.size : Int) - 1 := by rw [IntKind.wrap_i64]; omega
   have hw2 : ((s.size : Int) - 1).toNat = s.size - 1 := by omega
   have hw3 : (0 : Int) ≤ (s.size : Int) - 1 := by omega
   have hw4 : (s.size : Int) - 1 < s.size := by omega
   have hpos : 0 < s.size := by omega
   have HC0 : Hid (s.data.toList[0]? = some s[0]) := Hd (by rw [List.getElem?_eq_getElem (by omega)]; rfl)
   have HCL : Hid (s.data.toList.reverse[0]? = some s[s.size - 1]) := Hd (by
    rw [List.getElem?_reverse (by omega), List.getElem?_eq_getElem (by omega)]
    congr 1)
   by_cases e0 : s[0] = 32
   ·have HF : Hid (nameB s = false) := Hd (by
     rw [HNB.out, decide_eq_false (fun h => (trim_self.1 h).1 (by rw [HC0.out, e0]))]; simp)
    have t3 : ((s[0].toNat : Int) == 32) = true := by rw [e0]; rfl
    clear e0
    go_enter Tryz.func42, Tryz.ntmps42
    go_wp2_with fail
    go_ret
    exact ⟨by rw [HF.out]; rfl, rfl⟩
   ·have t3 : ((s[0].toNat : Int) == 32) = false := by
     have : s[0].toNat ≠ 32 := fun h => e0 (u8_eq32.2 h)
     simp; omega
    by_cases el : s[s.size - 1] = 32
    ·have HF : Hid (nameB s = false) := Hd (by
      rw [HNB.out, decide_eq_false (fun h => (trim_self.1 h).2 (by rw [HCL.out, el]))]; simp)
     have t4 : ((s[s.size - 1].toNat : Int) == 32) = true := by rw [el]; rfl
     clear e0 el
     go_enter Tryz.func42, Tryz.ntmps42
     go_wp2_with fail
     go_ret
     exact ⟨by rw [HF.out]; rfl, rfl⟩
    ·have t4 : ((s[s.size - 1].toNat : Int) == 32) = false := by
      have : s[s.size - 1].toNat ≠ 32 := fun h => el (u8_eq32.2 h)
      simp; omega
     have HTR : Hid (Lib.trimB s.data.toList 32 = s.data.toList) := Hd (trim_self.2 ⟨by rw [HC0.out]; simpa using e0, by rw [HCL.out]; simpa using el⟩)
     clear e0 el
     go_enter Tryz.func42, Tryz.ntmps42
     go_wp2_with fail
     clear t3 t4
     go_loopw [3] (fun i wr => ∃ k : Nat, k ≤ s.size ∧ i = .int .i64 k ∧ (s.data.toList.take k).all okn = true ∧ hasTwo (s.data.toList.take k) = false ∧ wr = w) (fun i _ => s.size - (intOf i).toNat)
     case atStart => exact ⟨0, Nat.zero_le _, rfl, rfl, rfl, rfl⟩
     case round =>
      obtain ⟨k, hk, rfl, hall, htwo, rfl⟩ := hrel
      have HALL := Hd hall
      have HTWO := Hd htwo
      clear hall htwo
      by_cases hlt : k < s.size
      ·have a1 : (k : Int) < s.size := by omega
       have b0 : (0 : Int) ≤ k := by omega
       have hkw := wr1 k (by omega)
       have HOKB : Hid (okn s[k] = false → nameB s = false) := Hd (fun h => by rw [HNB.out, not_allB hlt h]; simp)
       have HSN := Hd (all_snoc okn s k hlt)
       by_cases h1 : s[k].toNat < 32
       ·have HF := Hd (HOKB.out (by unfold okn; rw [decide_eq_false (by omega : ¬ 32 ≤ s[k].toNat)]; rfl))
        have t5 : decide ((s[k].toNat : Int) < 32) = true := decide_eq_true (by omega)
        go_wp2_with fail
        go_ret
        exact ⟨by rw [HF.out]; rfl, rfl⟩
       ·have t5 : decide ((s[k].toNat : Int) < 32) = false := decide_eq_false (by omega)
        by_cases h2 : 126 < s[k].toNat
        ·have HF := Hd (HOKB.out (by unfold okn; rw [decide_eq_false (by omega : ¬ s[k].toNat ≤ 126)]; simp))
         have t6 : decide (126 < (s[k].toNat : Int)) = true := decide_eq_true (by omega)
         go_wp2_with fail
         go_ret
         exact ⟨by rw [HF.out]; rfl, rfl⟩
        ·have t6 : decide (126 < (s[k].toNat : Int)) = false := decide_eq_false (by omega)
         have HA2 : Hid ((s.data.toList.take (k + 1)).all okn = true) := Hd (by rw [HSN.out, HALL.out]; unfold okn; rw [decide_eq_true (by omega : 32 ≤ s[k].toNat), decide_eq_true (by omega : s[k].toNat ≤ 126)]; rfl)
         cases k with
         | zero =>
          have HF : Hid ((s.data.toList.take (0 + 1)).all okn = true ∧ hasTwo (s.data.toList.take (0 + 1)) = false) := Hd ⟨HA2.out, by
           cases s.data.toList with
           | nil => rfl
           | cons a l => simp [hasTwo]⟩
          go_wp2_with fail
          go_roundw
          case rel => exact ⟨0 + 1, by omega, by go_num, HF.out.1, HF.out.2, trivial⟩
          case measure => simp [intOf]; omega
         | succ j =>
          have HST := Hd (hasTwo_take s.data.toList j (by omega))
          have hjw : IntKind.i64.wrap ((j : Int) + 1 - 1) = (j : Int) := by rw [IntKind.wrap_i64]; omega
          have hjw2 : IntKind.i64.wrap (j : Int) = (j : Int) := by rw [IntKind.wrap_i64]; omega
          have b1 : (0 : Int) ≤ j := by omega
          have b2 : (j : Int) < s.size := by omega
          have b3 : (0 : Int) < (j : Int) + 1 := by omega
          have hg1 : s.data.toList[j + 1]'(by omega) = s[j + 1] := rfl
          have hg0 : s.data.toList[j]'(by omega) = s[j]'(by omega) := rfl
          rw [hg0, hg1] at HST
          have HMEM : Hid (s[j]'(by omega) = 32 → s[j + 1] = 32 → nameB s = false) := Hd (fun h1 h2 => by rw [HNB.out, contains_two, hasTwo_mem (l := s.data.toList) (k := j) (by omega) h1 h2]; simp)
          by_cases e1 : s[j + 1] = 32
          ·have t7 : ((s[j + 1].toNat : Int) == 32) = true := by rw [e1]; rfl
           by_cases e2 : (s[j]'(by omega)) = 32
           ·have HF := Hd (HMEM.out e2 e1)
            have t8 : (((s[j]'(by omega)).toNat : Int) == 32) = true := by rw [e2]; rfl
            clear e1 e2 HST HMEM
            go_wp2_with fail
            go_ret
            exact ⟨by rw [HF.out]; rfl, rfl⟩
           ·have HF : Hid ((s.data.toList.take (j + 1 + 1)).all okn = true ∧ hasTwo (s.data.toList.take (j + 1 + 1)) = false) := Hd ⟨HA2.out, by rw [HST.out, HTWO.out]; simp [e2]⟩
            have t8 : (((s[j]'(by omega)).toNat : Int) == 32) = false := by
             have : (s[j]'(by omega)).toNat ≠ 32 := fun h => e2 (u8_eq32.2 h)
             simp; omega
            clear e1 e2 HST HMEM
            go_wp2_with fail
            go_roundw
            case rel => exact ⟨j + 1 + 1, by omega, by go_num, HF.out.1, HF.out.2, trivial⟩
            case measure => simp [intOf]; omega
          ·have HF : Hid ((s.data.toList.take (j + 1 + 1)).all okn = true ∧ hasTwo (s.data.toList.take (j + 1 + 1)) = false) := Hd ⟨HA2.out, by rw [HST.out, HTWO.out]; simp [e1]⟩
           have t7 : ((s[j + 1].toNat : Int) == 32) = false := by
            have : s[j + 1].toNat ≠ 32 := fun h => e1 (u8_eq32.2 h)
            simp; omega
           clear e1 HST HMEM
           go_wp2_with fail
           go_roundw
           case rel => exact ⟨j + 1 + 1, by omega, by go_num, HF.out.1, HF.out.2, trivial⟩
           case measure => simp [intOf]; omega
      ·have hke : k = s.size := by omega
       have HF : Hid (nameB s = true) := Hd (by
        have h1 := HALL.out
        have h2 := HTWO.out
        rw [hke, ← hll, List.take_length] at h1 h2
        rw [HNB.out, h1, decide_eq_true HTR.out, contains_two, h2, decide_eq_true (by omega : 1 ≤ s.size), decide_eq_true h64]; rfl)
       clear HALL HTWO
       go_wp2_with fail
       go_ret
       exact ⟨by rw [HF.out]; rfl, rfl⟩
  ·have HF : Hid (nameB s = false) := Hd (by rw [HNB.out, decide_eq_false h64]; simp)
   have t2 : decide (64 < (s.size : Int)) = true := decide_eq_true (by omega)
   go_enter Tryz.func42, Tryz.ntmps42
   go_wp2_with fail
   go_ret
   exact ⟨by rw [HF.out]; rfl, rfl⟩
end Go.Proofs.YtfnfbcaoihhbpaaGreatDoor
namespace Go.Proofs.YtfnfbcaoihhbpaaGreatDoor
open Go.RowKit Go.Maps

theorem lt_append_left (l x y : List UInt8) : l ++ x < l ++ y ↔ x < y := by
 induction l with
 | nil => exact Iff.rfl
 | cons a l ih =>
  rw [List.cons_append, List.cons_append, List.cons_lt_cons_iff, ih]
  constructor
  ·rintro (h | h)
   ·exact absurd h (UInt8.lt_irrefl a)
   ·exact h.2
  ·exact fun h => Or.inr ⟨rfl, h⟩
theorem getB (a : ByteArray) (k : Nat) (h : k < a.size) : a.data.toList[k]'(by simpa using h) = a[k] := rfl
theorem ltK_drop {a b : ByteArray} {k : Nat} (h : a.data.toList.take k = b.data.toList.take k) : ltK a b ↔ a.data.toList.drop k < b.data.toList.drop k := by
 unfold ltK
 have e1 : a.data.toList = a.data.toList.take k ++ a.data.toList.drop k := (List.take_append_drop _ _).symm
 have e2 : b.data.toList = a.data.toList.take k ++ b.data.toList.drop k := by rw [h]; exact (List.take_append_drop _ _).symm
 conv => lhs; rw [e1, e2]
 exact lt_append_left _ _ _
theorem r9before_any (a b : ByteArray) (w : World) (ha : a.size ≤ maxLen) : Calls Tryz.prog 150 #[.string a, .string b] w fun e w' => e = .returned (.bool (decide (ltK a b))) ∧ Below w.heap.size w w' := by
 unfold maxLen at ha
 go_enter Tryz.func150, Tryz.ntmps150
 go_wp2_with fail
 go_loopw [5] (fun i wr => ∃ k : Nat, k ≤ a.size ∧ k ≤ b.size ∧ i = .int .i64 k ∧ a.data.toList.take k = b.data.toList.take k ∧ Below w.heap.size w wr) (fun i _ => a.size - (intOf i).toNat)
 case atStart => exact ⟨0, Nat.zero_le _, Nat.zero_le _, rfl, by simp, Below.refl _ _⟩
 case round =>
  obtain ⟨k, hka, hkb, rfl, htk, hB⟩ := hrel
  by_cases hla : k < a.size
  ·by_cases hlb : k < b.size
   ·have a0 : (0 : Int) ≤ k := by omega
    have a1 : (k : Int) < a.size := by omega
    have a2 : (k : Int) < b.size := by omega
    have hla' : k < a.data.toList.length := by simpa using hla
    have hlb' : k < b.data.toList.length := by simpa using hlb
    have HB := Hd hB
    have HEQ : Hid (a[k] = b[k] → a.data.toList.take (k + 1) = b.data.toList.take (k + 1)) := Hd (fun h => take_snoc_eq hla' hlb' htk h)
    have HLT : Hid (a[k] ≠ b[k] → decide (ltK a b) = decide (a[k].toNat < b[k].toNat)) := Hd (fun h => by
     congr 1
     apply propext
     rw [ltK_drop htk, List.drop_eq_getElem_cons hla', List.drop_eq_getElem_cons hlb', List.cons_lt_cons_iff, getB a k hla, getB b k hlb]
     constructor
     ·rintro (h1 | h1)
      ·have := UInt8.lt_iff_toNat_lt.1 h1; omega
      ·exact absurd h1.1 h
     ·intro h1
      exact Or.inl (UInt8.lt_iff_toNat_lt.2 (by omega)))
    have hkw := wr1 k (by omega)
    clear htk hB
    by_cases he : a[k] = b[k]
    ·have HF := Hd (HEQ.out he)
     have t1 : ((a[k].toNat : Int) != b[k].toNat) = false := by rw [he]; simp
     have t2 : ((a[k].toNat : Int) == b[k].toNat) = true := by rw [he]; simp
     clear he HEQ HLT
     go_upto_region 4 with fail
     go_quiet (fail)
     go_wp2_with fail
     go_roundw
     case rel => exact ⟨k + 1, by omega, by omega, by go_num, HF.out, below_drewN _ HB.out⟩
     case measure => simp [intOf]; omega
    ·have HF := Hd (HLT.out he)
     have hne : ¬ ((a[k].toNat : Int) = b[k].toNat) := fun h => he (UInt8.toNat_inj.1 (by omega))
     have t1 : ((a[k].toNat : Int) != b[k].toNat) = true := by simpa using hne
     have t2 : ((a[k].toNat : Int) == b[k].toNat) = false := by simpa using hne
     clear he HEQ HLT hne
     go_upto_region 4 with fail
     go_quiet (fail)
     go_upto_region 5 with fail
     go_quiet (fail)
     go_wp2_with fail
     go_ret
     exact ⟨by rw [HF.out]; rfl, below_drewN _ (below_drewN _ HB.out)⟩
   ·have hkb2 : k = b.size := by omega
    have HF : Hid (decide (ltK a b) = decide (a.size < b.size)) := Hd (by
     congr 1
     apply propext
     rw [ltK_drop htk, show b.data.toList.drop k = [] from List.drop_eq_nil_of_le (by simp; omega)]
     exact ⟨fun h => absurd h (List.not_lt_nil _), fun h => by omega⟩)
    have a2 : ¬ (k : Int) < b.size := by omega
    have a1 : (k : Int) < a.size := by omega
    clear htk
    go_wp2_with fail
    go_ret
    exact ⟨by rw [HF.out]; rfl, hB⟩
  ·have hka2 : k = a.size := by omega
   have HF : Hid (decide (ltK a b) = decide (a.size < b.size)) := Hd (by
    congr 1
    apply propext
    rw [ltK_drop htk, show a.data.toList.drop k = [] from List.drop_eq_nil_of_le (by simp; omega)]
    cases e : b.data.toList.drop k with
    | nil =>
     have := congrArg List.length e
     simp at this
     exact ⟨fun h => absurd h (List.not_lt_nil _), fun h => by omega⟩
    | cons c l =>
     have := congrArg List.length e
     simp at this
     exact ⟨fun _ => by omega, fun _ => List.nil_lt_cons _ _⟩)
   have a1 : ¬ (k : Int) < a.size := by omega
   clear htk
   go_wp2_with fail
   go_ret
   exact ⟨by rw [HF.out]; rfl, hB⟩
end Go.Proofs.YtfnfbcaoihhbpaaGreatDoor
namespace Go.Proofs.YtfnfbcaoihhbpaaGreatDoor
open Go.RowKit Go.Maps

theorem dotsM_get (ms : List MarkD) (k : Nat) (h : k < ms.length) : (dotsM ms)[k]'(by rw [dotsM_len]; exact h) = ms[k].dot := by simp [dotsM]
theorem r9has_any (x : ItemD) (d : DotD) (mv : Value) (w : World) (h : Arr MarkR 4 w mv x.marks) : Calls Tryz.prog 208 #[.agg #[.string x.name, mv], dotV d] w fun e w' => e = .returned (.bool (decide (d ∈ dotsM x.marks))) ∧ Below w.heap.size w w' := by
 have hn := h.len
 obtain ⟨o, c, rfl, hel⟩ := h.markAt
 have HEL := Hd hel
 have HEQ := Hd (fun x y wz => eqDot x y wz)
 obtain ⟨W1, hW1⟩ : ∃ W1, W1 = (w.alloc (.cells #[.string x.name, .slice o x.marks.length c] 50)).alloc (.cells #[.int .i64 d.rep, .int .i64 d.ctr] 30) := ⟨_, rfl⟩
 have hb1 : Below w.heap.size w W1 := by rw [hW1]; exact (bal).alloc (by simp) _
 have hg0 : W1.heap[w.heap.size]? = some (.cells #[.string x.name, .slice o x.marks.length c] 50) := by rw [hW1, alloc_old _ _ (by simp)]; exact alloc_new _ _
 have hg1 : W1.heap[w.heap.size + 1]? = some (.cells #[.int .i64 d.rep, .int .i64 d.ctr] 30) := by
  rw [hW1]
  have := alloc_new (w.alloc (.cells #[.string x.name, .slice o x.marks.length c] 50)) (.cells #[.int .i64 d.rep, .int .i64 d.ctr] 30)
  rw [alloc_size] at this
  exact this
 have HC : Hid (∀ wz, Below W1.heap.size W1 wz → wz.cell? ⟨w.heap.size, 1, none⟩ = some (.slice o x.marks.length c) ∧ wz.cell? ⟨w.heap.size + 1, 0, none⟩ = some (.int .i64 d.rep) ∧ wz.cell? ⟨w.heap.size + 1, 1, none⟩ = some (.int .i64 d.ctr)) := Hd (fun wz hz => ⟨by rw [hz.cell (p := ⟨w.heap.size, 1, none⟩) (lt_of_heap hg0), cell0 hg0 1]; rfl, by rw [hz.cell (p := ⟨w.heap.size + 1, 0, none⟩) (lt_of_heap hg1), cell0 hg1 0]; rfl, by rw [hz.cell (p := ⟨w.heap.size + 1, 1, none⟩) (lt_of_heap hg1), cell0 hg1 1]; rfl⟩)
 have HB1 := Hd hb1
 have HW := Hd hW1
 clear hel h hg0 hg1 hb1 hW1
 unfold dotV
 go_enter Tryz.func208, Tryz.ntmps208
 go_wp2_with fail
 rw [← HW.out]
 go_loopw [5] (fun i wr => ∃ k : Nat, k ≤ x.marks.length ∧ i = .int .i64 k ∧ d ∉ (dotsM x.marks).take k ∧ Below W1.heap.size W1 wr) (fun i _ => x.marks.length - (intOf i).toNat)
 case atStart => exact ⟨0, Nat.zero_le _, rfl, by simp, Below.refl _ _⟩
 case round =>
  obtain ⟨k, hk, rfl, hnot, hB⟩ := hrel
  have HNOT := Hd hnot
  have HB := Hd hB
  clear hnot hB
  obtain ⟨x1, d0, d1⟩ := HC.out wr HB.out
  by_cases hlt : k < x.marks.length
  ·obtain ⟨b, off, rfl, hbl, e0, e1, e2, e3, -⟩ := HEL.out k hlt
   have hbl1 : b < W1.heap.size := Nat.lt_of_lt_of_le hbl HB1.out.size
   have hlt' : k < (dotsM x.marks).length := by rw [dotsM_len]; exact hlt
   have HTK : Hid ((dotsM x.marks).take (k + 1) = (dotsM x.marks).take k ++ [x.marks[k].dot]) := Hd (by rw [List.take_succ_eq_append_getElem hlt', dotsM_get _ _ hlt])
   have HMEM : Hid (x.marks[k].dot ∈ dotsM x.marks) := Hd (List.mem_map_of_mem (List.getElem_mem hlt))
   have c0 : wr.cell? ⟨b, off + k * 4, none⟩ = some (.int .i64 x.marks[k].dot.rep) := by rw [HB.out.cell (p := ⟨_, _, _⟩) hbl1, HB1.out.cell (p := ⟨_, _, _⟩) hbl]; exact e0
   have c1 : wr.cell? ⟨b, off + k * 4 + 1, none⟩ = some (.int .i64 x.marks[k].dot.ctr) := by rw [HB.out.cell (p := ⟨_, _, _⟩) hbl1, HB1.out.cell (p := ⟨_, _, _⟩) hbl]; exact e1
   generalize x.marks[k].dot = y at *
   have heq : ∀ wz : World, Sem.run Tryz.prog (binOp .eql 30 (.agg #[.int .i64 y.rep, .int .i64 y.ctr]) (.agg #[.int .i64 d.rep, .int .i64 d.ctr])) wz = .ok (.bool (decide (y = d))) wz := fun wz => HEQ.out y d wz
   have hgd : ∀ (op : BinOp) (a b : Operand) (wz : World), Sem.run Tryz.prog (eqGuard op 30 a b (.agg #[.int .i64 y.rep, .int .i64 y.ctr]) (.agg #[.int .i64 d.rep, .int .i64 d.ctr])) wz = .ok () wz := fun op a b wz => guardDot op a b y d wz
   have a0 : (0 : Int) ≤ k := by omega
   have a1 : (k : Int) < x.marks.length := by omega
   have hkw := wr1 k (by omega)
   clear e0 e1 e2 e3 HEQ HW hlt'
   by_cases hxy : y = d
   ·have hd : decide (y = d) = true := decide_eq_true hxy
    rw [hd] at heq
    have HF : Hid (decide (d ∈ dotsM x.marks) = true) := Hd (decide_eq_true (hxy ▸ HMEM.out))
    clear HMEM HTK HNOT hxy hd
    go_upto_region 4 with fail
    go_quiet (fail)
    go_wp2_with fail
    go_ret
    exact ⟨by rw [HF.out]; rfl, below_drewN _ (HB1.out.trans (HB.out.mono HB1.out.size))⟩
   ·have hd : decide (y = d) = false := decide_eq_false hxy
    rw [hd] at heq
    have HF : Hid (d ∉ (dotsM x.marks).take (k + 1)) := Hd (by rw [HTK.out, List.mem_append, List.mem_singleton]; exact fun h => h.elim HNOT.out (fun e => hxy e.symm))
    clear HMEM HTK HNOT hxy hd
    go_upto_region 4 with fail
    go_quiet (fail)
    go_wp2_with fail
    go_roundw
    case rel => exact ⟨k + 1, by omega, by go_num, HF.out, below_drewN _ HB.out⟩
    case measure => simp [intOf]; omega
  ·have hke : k = x.marks.length := by omega
   have HF : Hid (decide (d ∈ dotsM x.marks) = false) := Hd (decide_eq_false (by have := HNOT.out; rw [hke, ← dotsM_len, List.take_length] at this; exact this))
   clear HNOT
   go_wp2_with fail
   go_ret
   exact ⟨by rw [HF.out]; rfl, HB1.out.trans (HB.out.mono HB1.out.size)⟩
end Go.Proofs.YtfnfbcaoihhbpaaGreatDoor
namespace Go.Proofs.YtfnfbcaoihhbpaaGreatDoor
open Go.RowKit Go.Maps

theorem r9Meet_any (x y : ItemD) (mv nv : Value) (w : World) (h : Arr MarkR 4 w mv x.marks) (h2 : Arr MarkR 4 w nv y.marks) : Calls Tryz.prog 151 #[.agg #[.string x.name, mv], .agg #[.string y.name, nv]] w fun e w' => e = .returned (.bool (meetB x y)) ∧ Below w.heap.size w w' := by
 have hn := h.len
 obtain ⟨o, c, rfl, hel⟩ := h.markAt
 obtain ⟨o2, c2, rfl, -⟩ := id h2
 have HEL := Hd hel
 have HY := Hd h2
 obtain ⟨W1, hW1⟩ : ∃ W1, W1 = (w.alloc (.cells #[.string x.name, .slice o x.marks.length c] 50)).alloc (.cells #[.string y.name, .slice o2 y.marks.length c2] 50) := ⟨_, rfl⟩
 have hb1 : Below w.heap.size w W1 := by rw [hW1]; exact (bal).alloc (by simp) _
 have hg0 : W1.heap[w.heap.size]? = some (.cells #[.string x.name, .slice o x.marks.length c] 50) := by rw [hW1, alloc_old _ _ (by simp)]; exact alloc_new _ _
 have hg1 : W1.heap[w.heap.size + 1]? = some (.cells #[.string y.name, .slice o2 y.marks.length c2] 50) := by
  rw [hW1]
  have := alloc_new (w.alloc (.cells #[.string x.name, .slice o x.marks.length c] 50)) (.cells #[.string y.name, .slice o2 y.marks.length c2] 50)
  rw [alloc_size] at this
  exact this
 have HC : Hid (∀ wz, Below W1.heap.size W1 wz → wz.cell? ⟨w.heap.size, 1, none⟩ = some (.slice o x.marks.length c) ∧ wz.cell? ⟨w.heap.size + 1, 0, none⟩ = some (.string y.name) ∧ wz.cell? ⟨w.heap.size + 1, 1, none⟩ = some (.slice o2 y.marks.length c2)) := Hd (fun wz hz => ⟨by rw [hz.cell (p := ⟨w.heap.size, 1, none⟩) (lt_of_heap hg0), cell0 hg0 1]; rfl, by rw [hz.cell (p := ⟨w.heap.size + 1, 0, none⟩) (lt_of_heap hg1), cell0 hg1 0]; rfl, by rw [hz.cell (p := ⟨w.heap.size + 1, 1, none⟩) (lt_of_heap hg1), cell0 hg1 1]; rfl⟩)
 have HB1 := Hd hb1
 have HW := Hd hW1
 have HE : Hid (meetB x y = (dotsM x.marks).any (fun d => decide (d ∈ dotsM y.marks))) := Hd rfl
 clear hel h h2 hg0 hg1 hb1 hW1
 go_enter Tryz.func151, Tryz.ntmps151
 go_wp2_with fail
 rw [← HW.out]
 go_loopw [5] (fun i wr => ∃ k : Nat, k ≤ x.marks.length ∧ i = .int .i64 k ∧ ((dotsM x.marks).take k).any (fun d => decide (d ∈ dotsM y.marks)) = false ∧ Below W1.heap.size W1 wr) (fun i _ => x.marks.length - (intOf i).toNat)
 case atStart => exact ⟨0, Nat.zero_le _, rfl, by simp, Below.refl _ _⟩
 case round =>
  obtain ⟨k, hk, rfl, hall, hB⟩ := hrel
  have HALL := Hd hall
  have HB := Hd hB
  clear hall hB
  obtain ⟨x1, -, -⟩ := HC.out wr HB.out
  by_cases hlt : k < x.marks.length
  ·obtain ⟨b, off, rfl, hbl, e0, e1, e2, e3, -⟩ := HEL.out k hlt
   have hbl1 : b < W1.heap.size := Nat.lt_of_lt_of_le hbl HB1.out.size
   have hlt' : k < (dotsM x.marks).length := by rw [dotsM_len]; exact hlt
   have HBW := Hd (HB1.out.trans (HB.out.mono HB1.out.size))
   have HS : Hid (∀ w2, Below wr.heap.size wr w2 → w2.cell? ⟨w.heap.size, 1, none⟩ = some (.slice (some ⟨b, off, none⟩) x.marks.length c) ∧ (w2.cell? ⟨w.heap.size + 1, 0, none⟩ = some (.string y.name) ∧ w2.cell? ⟨w.heap.size + 1, 1, none⟩ = some (.slice o2 y.marks.length c2)) ∧ w2.cell? ⟨b, off + k * 4, none⟩ = some (.int .i64 x.marks[k].dot.rep) ∧ w2.cell? ⟨b, off + k * 4 + 1, none⟩ = some (.int .i64 x.marks[k].dot.ctr)) := Hd (fun w2 h2 => by
    have h3 := btr HB.out h2
    have h4 := HC.out w2 h3
    have h5 := btr HB1.out h3
    exact ⟨h4.1, h4.2, by rw [h5.cell (p := ⟨_, _, _⟩) hbl]; exact e0, by rw [h5.cell (p := ⟨_, _, _⟩) hbl]; exact e1⟩)
   have HST := Hd (any_take_snoc (fun d => decide (d ∈ dotsM y.marks)) (dotsM x.marks) k hlt')
   have HBAD : Hid (decide (x.marks[k].dot ∈ dotsM y.marks) = true → meetB x y = true) := Hd (fun h => by rw [HE.out]; exact List.any_eq_true.2 ⟨_, List.mem_map_of_mem (List.getElem_mem hlt), h⟩)
   rw [dotsM_get _ _ hlt] at HST
   have HH : Hid (Calls Tryz.prog 208 #[.agg #[.string y.name, .slice o2 y.marks.length c2], .agg #[.int .i64 x.marks[k].dot.rep, .int .i64 x.marks[k].dot.ctr]] wr.drew fun e w' => e = .returned (.bool (decide (x.marks[k].dot ∈ dotsM y.marks))) ∧ Below wr.heap.size wr w') := Hd ((r9has_any y x.marks[k].dot _ wr.drew ((HY.out.marks HBW.out).marks bdr)).mono (fun _ _ ⟨a1, a2⟩ => ⟨a1, bdr.trans a2⟩))
   generalize x.marks[k].dot = d at *
   have a0 : (0 : Int) ≤ k := by omega
   have a1 : (k : Int) < x.marks.length := by omega
   have hkw := wr1 k (by omega)
   clear e0 e1 e2 e3 HW hlt'
   obtain ⟨r, hr⟩ : ∃ r, r = decide (d ∈ dotsM y.marks) := ⟨_, rfl⟩
   rw [← hr] at HH HST HBAD
   clear hr
   cases r with
   | true =>
    have HF := Hd (HBAD.out rfl)
    clear HST HBAD
    go_upto_region 4 with fail
    refine NQ.to ?_
    refine wp_region_held_drew (S := (fun w' => w'.cell? ⟨w.heap.size, 1, none⟩ = some (.slice (some ⟨b, off, none⟩) x.marks.length c) ∧ (w'.cell? ⟨w.heap.size + 1, 0, none⟩ = some (.string y.name) ∧ w'.cell? ⟨w.heap.size + 1, 1, none⟩ = some (.slice o2 y.marks.length c2)) ∧ w'.cell? ⟨b, off + k * 4, none⟩ = some (.int .i64 d.rep) ∧ w'.cell? ⟨b, off + k * 4 + 1, none⟩ = some (.int .i64 d.ctr))) (by kernel_rfl) (HS.out _ bdr) (fun hS => ?_)
    refine tkR (n := 7) [0, 1, 2, 3, 4, 5, 6] rfl (by decide +kernel) hS ?_
    iterate 7 ((try simp only [Act.put, s1, s2, s3, s4, s5, s6]); refine ⟨_, ?_, rfl, Or.inl ⟨by kernel_rfl, fun w hSw => ok_of fun z hz => ?_⟩, ?_⟩; rotate_left; · (obtain ⟨f1, ⟨f2, f3⟩, f4, f5⟩ := hSw; go_simp; exact hz))
    refine RunOK.done ?_
    try simp only [Act.put, s1, s2, s3, s4, s5, s6]
    refine rd1 7 (by decide +kernel) rfl (fun K hK => ?_)
    go_simp
    go_at_call 208
    refine HH.out.mono ?_
    rintro e w2 ⟨rfl, hb2⟩
    go_simp
    refine Shut.out hK _ _ (HS.out w2 hb2) (fun hS2 => ?_); clear hK K hS; have hS := hS2; clear hS2
    try simp only [Act.put, s1, s2, s3, s4, s5, s6]
    refine wpAnyH_done (by kernel_rfl) ?_ _
    try simp only [Act.put, s1, s2, s3, s4, s5, s6]
    simp only [NQ]
    go_wp2_with fail
    go_ret
    exact ⟨by rw [HF.out]; rfl, btr HBW.out hb2⟩
   | false =>
    have HF : Hid (((dotsM x.marks).take (k + 1)).any (fun d => decide (d ∈ dotsM y.marks)) = false) := Hd (by rw [HST.out, HALL.out]; rfl)
    clear HST HBAD
    go_upto_region 4 with fail
    refine NQ.to ?_
    refine wp_region_held_drew (S := (fun w' => w'.cell? ⟨w.heap.size, 1, none⟩ = some (.slice (some ⟨b, off, none⟩) x.marks.length c) ∧ (w'.cell? ⟨w.heap.size + 1, 0, none⟩ = some (.string y.name) ∧ w'.cell? ⟨w.heap.size + 1, 1, none⟩ = some (.slice o2 y.marks.length c2)) ∧ w'.cell? ⟨b, off + k * 4, none⟩ = some (.int .i64 d.rep) ∧ w'.cell? ⟨b, off + k * 4 + 1, none⟩ = some (.int .i64 d.ctr))) (by kernel_rfl) (HS.out _ bdr) (fun hS => ?_)
    refine tkR (n := 7) [0, 1, 2, 3, 4, 5, 6] rfl (by decide +kernel) hS ?_
    iterate 7 ((try simp only [Act.put, s1, s2, s3, s4, s5, s6]); refine ⟨_, ?_, rfl, Or.inl ⟨by kernel_rfl, fun w hSw => ok_of fun z hz => ?_⟩, ?_⟩; rotate_left; · (obtain ⟨f1, ⟨f2, f3⟩, f4, f5⟩ := hSw; go_simp; exact hz))
    refine RunOK.done ?_
    try simp only [Act.put, s1, s2, s3, s4, s5, s6]
    refine rd1 7 (by decide +kernel) rfl (fun K hK => ?_)
    go_simp
    go_at_call 208
    refine HH.out.mono ?_
    rintro e w2 ⟨rfl, hb2⟩
    go_simp
    refine Shut.out hK _ _ (HS.out w2 hb2) (fun hS2 => ?_); clear hK K hS; have hS := hS2; clear hS2
    try simp only [Act.put, s1, s2, s3, s4, s5, s6]
    refine wpAnyH_done (by kernel_rfl) ?_ _
    try simp only [Act.put, s1, s2, s3, s4, s5, s6]
    simp only [NQ]
    have hbf := btr HB.out hb2
    clear hb2 hS
    obtain ⟨z1, -, -⟩ := HC.out w2 hbf
    go_wp2_with fail
    go_roundw
    case rel => exact ⟨k + 1, by omega, by go_num, HF.out, hbf⟩
    case measure => simp [intOf]; omega
  ·have hke : k = x.marks.length := by omega
   have HF : Hid (meetB x y = false) := Hd (by have := HALL.out; rw [hke, ← dotsM_len, List.take_length] at this; rw [HE.out]; exact this)
   clear HALL
   go_wp2_with fail
   go_ret
   exact ⟨by rw [HF.out]; rfl, HB1.out.trans (HB.out.mono HB1.out.size)⟩
end Go.Proofs.YtfnfbcaoihhbpaaGreatDoor
namespace Go.Proofs.YtfnfbcaoihhbpaaGreatDoor
open Go.RowKit Go.Maps

theorem r9One_any (x : ItemD) (mv : Value) (w : World) (h : Arr MarkR 4 w mv x.marks) (hs : x.name.size ≤ maxLen) (hl : x.marks.length ≤ 100000) : Calls Tryz.prog 149 #[.agg #[.string x.name, mv]] w fun e w' => e = .returned (.bool (oneI x)) ∧ Below w.heap.size w w' := by
 obtain ⟨o, c, rfl, -⟩ := id h
 obtain ⟨W1, hW1⟩ : ∃ W1, W1 = w.alloc (.cells #[.string x.name, .slice o x.marks.length c] 50) := ⟨_, rfl⟩
 have hb1 : Below w.heap.size w W1 := by rw [hW1]; exact bal
 have hg1 : W1.heap[w.heap.size]? = some (.cells #[.string x.name, .slice o x.marks.length c] 50) := by rw [hW1]; exact alloc_new _ _
 have HC : Hid (∀ wz, Below W1.heap.size W1 wz → wz.cell? ⟨w.heap.size, 1, none⟩ = some (.slice o x.marks.length c)) := Hd (fun wz hz => by rw [hz.cell (p := ⟨w.heap.size, 1, none⟩) (lt_of_heap hg1), cell0 hg1 1]; rfl)
 have HN := Hd (r7Item_any x.name W1 hs)
 have HMK := Hd (r8Marks_any x.marks _ W1 (h.marks hb1))
 have HA := Hd (h.marks hb1)
 have HB1 := Hd hb1
 have HW := Hd hW1
 have HE : Hid (oneI x = (nameB x.name && decide (0 < x.marks.length) && isSetB (dotsM x.marks) && x.marks.all validMarkD)) := Hd rfl
 obtain ⟨x1⟩ : Nonempty (W1.cell? ⟨w.heap.size, 1, none⟩ = some (.slice o x.marks.length c)) := ⟨HC.out W1 brf⟩
 clear h hs hb1 hg1 hW1
 obtain ⟨rn, hrn⟩ : ∃ r, r = nameB x.name := ⟨_, rfl⟩
 obtain ⟨ra, hra⟩ : ∃ r, r = x.marks.all validMarkD := ⟨_, rfl⟩
 obtain ⟨rs, hrs⟩ : ∃ r, r = isSetB (dotsM x.marks) := ⟨_, rfl⟩
 rw [← hrn] at HN HE
 rw [← hra] at HMK HE
 rw [← hrs] at HE
 have HRS := Hd hrs
 clear hrn hra hrs
 cases rn with
 | false =>
  have HF : Hid (oneI x = false) := Hd HE.out
  go_enter Tryz.func149, Tryz.ntmps149
  go_wp2_with fail
  rw [← HW.out]
  refine HN.out.mono ?_
  rintro e w2 ⟨rfl, hw2⟩
  rw [hw2]
  clear hw2
  go_wp2_with fail
  go_ret
  exact ⟨by rw [HF.out]; rfl, HB1.out⟩
 | true =>
  by_cases h0 : 0 < x.marks.length
  ·have t1 : decide (0 < (x.marks.length : Int)) = true := decide_eq_true (by omega)
   cases ra with
   | false =>
    have HF : Hid (oneI x = false) := Hd (by rw [HE.out]; simp)
    go_enter Tryz.func149, Tryz.ntmps149
    go_wp2_with fail
    rw [← HW.out]
    refine HN.out.mono ?_
    rintro e w2 ⟨rfl, hw2⟩
    rw [hw2]
    clear hw2
    go_wp2_with fail
    refine HMK.out.mono ?_
    rintro e w3 ⟨rfl, hb3⟩
    go_wp2_with fail
    go_ret
    exact ⟨by rw [HF.out]; rfl, btr HB1.out hb3⟩
   | true =>
    have HF : Hid (oneI x = rs) := Hd (by rw [HE.out, decide_eq_true h0]; simp)
    go_enter Tryz.func149, Tryz.ntmps149
    go_wp2_with fail
    rw [← HW.out]
    refine HN.out.mono ?_
    rintro e w2 ⟨rfl, hw2⟩
    rw [hw2]
    clear hw2
    go_wp2_with fail
    refine HMK.out.mono ?_
    rintro e w3 ⟨rfl, hb3⟩
    have x3 := HC.out w3 hb3
    have HI := Hd (r8IsList_any x.marks _ w3 (HA.out.marks hb3) hl)
    rw [← HRS.out] at HI
    have HB3 := Hd (btr HB1.out hb3)
    clear hb3
    go_wp2_with fail
    refine HI.out.mono ?_
    rintro e w4 ⟨rfl, hb4⟩
    go_wp2_with fail
    go_ret
    exact ⟨by rw [HF.out]; rfl, btr HB3.out hb4⟩
  ·have t1 : decide (0 < (x.marks.length : Int)) = false := decide_eq_false (by omega)
   have HF : Hid (oneI x = false) := Hd (by rw [HE.out, decide_eq_false h0]; simp)
   go_enter Tryz.func149, Tryz.ntmps149
   go_wp2_with fail
   rw [← HW.out]
   refine HN.out.mono ?_
   rintro e w2 ⟨rfl, hw2⟩
   rw [hw2]
   clear hw2
   go_wp2_with fail
   go_ret
   exact ⟨by rw [HF.out]; rfl, HB1.out⟩
end Go.Proofs.YtfnfbcaoihhbpaaGreatDoor
