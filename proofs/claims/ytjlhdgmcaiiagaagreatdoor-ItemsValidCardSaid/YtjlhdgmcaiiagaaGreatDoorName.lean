/- names.Item: which strings are names of items. -/
import Derived.Test.YtjlhdgmcaiiagaaGreatDoorDot2
import Derived.Test.YtjlhdgmcaiiagaaGreatDoorLays
import Derived.Test.YtjlhdgmcaiiagaaGreatDoorShelf
import Derived.Laws.IdiomStrings
namespace Go.Proofs.YtjlhdgmcaiiagaaGreatDoor
open Go.RowKit Go.Maps

/-- The one package-level variable that strings.Contains looks into is a number. -/
def GlobIs (w : World) : Prop := ∃ m, w.cell? ⟨0, 0, none⟩ = some (.int .i64 m)
theorem GlobIs.below {w w' : World} (h : GlobIs w) (hb : Below w.heap.size w w') : GlobIs w' := by
  obtain ⟨m, hm⟩ := h
  obtain ⟨b, off, he, hlt⟩ := addr_plain hm
  cases he
  exact ⟨m, by rw [hb.cell (p := ⟨_, _, _⟩) hlt]; exact hm⟩
theorem below_drew1 {B : Nat} {a w : World} (h : Below B a w) : Below B a w.drew := ⟨h.os, h.tape, h.output, h.size, h.block⟩
def okn (b : UInt8) : Bool := decide (32 ≤ b.toNat) && decide (b.toNat ≤ 126)
theorem convB {P : Program} (w : World) {src dst e : TypeId} (s : ByteArray) (hs : P.underlying src = some .string) (hd : P.underlying dst = some (.slice e)) (he : P.underlying e = some (.int .u8)) :
    ∃ cap C, (convert src dst (.string s)).run P w = .ok (.slice (some ⟨w.heap.size, 0, none⟩) s.size cap) (w.drew.alloc (.cells C e (C.size, C.size + 1))) ∧
      ∀ i (h : i < s.size), C[i]? = some (.int .u8 s[i].toNat) := by
  refine ⟨_, _, run_bytes_of_string w src dst e s hs hd he, ?_⟩
  intro i h
  unfold bytesRow
  rw [Array.getElem?_append_left (by simpa using h)]
  simp [Array.getElem?_map]
  exact ⟨s[i], by simp [h]; rfl, rfl⟩
theorem all_snoc (p : UInt8 → Bool) (s : ByteArray) (k : Nat) (h : k < s.size) : (s.data.toList.take (k + 1)).all p = ((s.data.toList.take k).all p && p s[k]) := by
  rw [List.take_succ_eq_append_getElem (by simpa using h), List.all_append]
  simp; rfl
theorem not_allB {p : UInt8 → Bool} {s : ByteArray} {k : Nat} (h : k < s.size) (hp : p s[k] = false) : s.data.toList.all p = false := by
  rw [List.all_eq_false]
  exact ⟨s[k], by rw [show s[k] = s.data.toList[k]'(by simpa using h) from rfl]; exact List.getElem_mem _, by simp [hp]⟩
theorem nameB_eq (s : ByteArray) : nameB s = (decide (1 ≤ s.size) && decide (s.size ≤ 64) && s.data.toList.all okn && decide (Lib.trimB s.data.toList 32 = s.data.toList) && !(Lib.contains s.data.toList [32, 32])) := rfl
theorem str_eq_iff (a b : ByteArray) : (a.toList == b.toList) = decide (a.data.toList = b.data.toList) := by
  rw [bytes_toList, bytes_toList]
  by_cases h : a.data.toList = b.data.toList
  · rw [decide_eq_true h]; simpa using h
  · rw [decide_eq_false h]; simpa using h

set_option maxRecDepth 100000 in
set_option maxHeartbeats 4000000 in
theorem namesItem_any (s : ByteArray) (w : World) (hs : s.size ≤ maxLen) (hG : GlobIs w) :
    Calls Tryz.prog 75 #[.string s] w fun e w' => e = .returned (.bool (nameB s)) ∧ Below w.heap.size w w' := by
  unfold maxLen at hs
  obtain ⟨cap, C, hconv, hC⟩ := convB w s Tryz.underlying9 Tryz.underlying110 Tryz.underlying5
  have HC := Lib.hid hC
  clear hC
  go_enter Tryz.func75, Tryz.ntmps75
  go_wp2
  clear hconv
  obtain ⟨W1, hW1⟩ : ∃ W1, W1 = (w.alloc (.cells C 5 (C.size, C.size + 1))).drew := ⟨_, rfl⟩
  have hb1 : Below w.heap.size w W1 := by rw [hW1]; exact below_drew1 ((Below.refl _ _).alloc (Nat.le_refl _) _)
  have HCL : Hid (∀ i (h : i < s.size), W1.cell? ⟨w.heap.size, i, none⟩ = some (.int .u8 s[i].toNat)) := Lib.hid (fun i h => by
    have hg : W1.heap[w.heap.size]? = some (.cells C 5 (C.size, C.size + 1)) := by rw [hW1]; exact alloc_new w _
    unfold World.cell?
    rw [hg]
    exact HC.out i h)
  rw [← hW1]
  have HB := Lib.hid hb1
  have HG := Lib.hid (hG.below hb1)
  clear hW1 hb1 HC hG
  go_loopw [8] (fun i wr => ∃ k : Nat, k ≤ s.size ∧ i = .int .i64 k ∧ (s.data.toList.take k).all okn = true ∧ wr = W1) (fun i _ => s.size - (intOf i).toNat)
  case atStart => exact ⟨0, Nat.zero_le _, rfl, rfl, rfl⟩
  case round =>
    obtain ⟨k, hk, rfl, hall, rfl⟩ := hrel
    have HALL := Lib.hid hall
    clear hall
    by_cases hlt : k < s.size
    · have hc := HCL.out k hlt
      have HS := Lib.hid (all_snoc okn s k hlt)
      have HN : Hid (okn s[k] = false → nameB s = false) := Lib.hid (fun h => by rw [nameB_eq, not_allB hlt h]; simp)
      generalize s[k] = c at hc HS HN
      have a0 : (0 : Int) ≤ k := by omega
      have a1 : (k : Int) < s.size := by omega
      have hkw : IntKind.i64.wrap ((k : Int) + 1) = (k : Int) + 1 := by rw [IntKind.wrap_i64]; omega
      by_cases h1 : c.toNat < 32
      · have t1 : decide ((c.toNat : Int) < 32) = true := decide_eq_true (by omega)
        have HF := Lib.hid (HN.out (by unfold okn; rw [decide_eq_false (by omega : ¬ 32 ≤ c.toNat)]; rfl))
        clear HS HN
        go_wp2_with fail
        go_ret
        exact ⟨by rw [HF.out]; rfl, HB.out⟩
      · have t1 : decide ((c.toNat : Int) < 32) = false := decide_eq_false (by omega)
        by_cases h2 : 126 < c.toNat
        · have t2 : decide (126 < (c.toNat : Int)) = true := decide_eq_true (by omega)
          have HF := Lib.hid (HN.out (by unfold okn; rw [decide_eq_false (by omega : ¬ c.toNat ≤ 126)]; simp))
          clear HS HN
          go_wp2_with fail
          go_ret
          exact ⟨by rw [HF.out]; rfl, HB.out⟩
        · have t2 : decide (126 < (c.toNat : Int)) = false := decide_eq_false (by omega)
          have HF : Hid ((s.data.toList.take (k + 1)).all okn = true) := Lib.hid (by rw [HS.out, HALL.out]; unfold okn; rw [decide_eq_true (by omega : 32 ≤ c.toNat), decide_eq_true (by omega : c.toNat ≤ 126)]; rfl)
          clear HS HN
          go_wp2_with fail
          go_roundw
          case rel => exact ⟨k + 1, by omega, by go_num, HF.out, trivial⟩
          case measure => simp [intOf]; omega
    · have hke : k = s.size := by omega
      have HA : Hid (s.data.toList.all okn = true) := Lib.hid (by
        have h := HALL.out
        rw [hke, List.take_of_length_le (by simp)] at h
        exact h)
      have HE : Hid (nameB s = (decide (1 ≤ s.size) && decide (s.size ≤ 64) && decide (Lib.trimB s.data.toList 32 = s.data.toList) && !(Lib.contains s.data.toList [32, 32]))) := Lib.hid (by rw [nameB_eq, HA.out]; simp)
      clear HALL HA
      by_cases h1 : 1 ≤ s.size
      · by_cases h2 : s.size ≤ 64
        · obtain ⟨tr, htr, htq⟩ : ∃ tr : ByteArray, (⟨(Lib.trimB s.data.toList 32).toArray⟩ : ByteArray) = tr ∧ (tr.toList == s.toList) = decide (Lib.trimB s.data.toList 32 = s.data.toList) := ⟨_, rfl, str_eq_iff _ s⟩
          have HTR := Lib.hid htq
          have HT : Hid (∀ wz, Calls Tryz.prog 97 #[.string s, .string ⟨#[32]⟩] wz fun e w' => e = .returned (.string tr) ∧ (w' = wz ∨ w' = wz.drew)) := Lib.hid (fun wz => by
            rw [← htr]
            exact Any.strings_Trim_one Tryz.lays160 s 32 (by decide) wz (by omega))
          clear htr htq
          have t1 : decide (1 ≤ (s.size : Int)) = true := decide_eq_true (by omega)
          have t2 : decide ((s.size : Int) ≤ 64) = true := decide_eq_true (by omega)
          have HCN := Lib.hid (fun m wz (hm : World.cell? wz ⟨0, 0, none⟩ = some (.int .i64 m)) => Tryz.strings_Contains s ⟨#[32, 32]⟩ m wz (by omega) hm)
          go_wp2_with fail
          refine (HT.out _).mono ?_
          rintro e w3 ⟨rfl, hw3⟩
          have hb3 : Below wr.heap.size wr w3 := by
            rcases hw3 with rfl | rfl
            · exact Below.refl _ _
            · exact below_drew1 (Below.refl _ _)
          obtain ⟨m, hm3⟩ := HG.out.below hb3
          have HCN3 := Lib.hid (HCN.out m w3 hm3)
          have HB3 := Lib.hid (HB.out.trans (hb3.mono HB.out.size))
          clear hw3 hb3 hm3 HCN HT
          cases ht : (tr.toList == s.toList) with
          | false =>
            have HF : Hid (nameB s = false) := Lib.hid (by rw [HE.out, ← HTR.out, ht]; simp)
            clear HE HTR
            go_wp2_with fail
            go_ret
            exact ⟨by rw [HF.out]; rfl, HB3.out⟩
          | true =>
            have HF : Hid (nameB s = !(Lib.contains s.data.toList [32, 32])) := Lib.hid (by rw [HE.out, ← HTR.out, ht, decide_eq_true h1, decide_eq_true h2]; rfl)
            clear HE HTR
            go_wp2_with fail
            refine HCN3.out.mono ?_
            rintro e w4 ⟨rfl, rfl⟩
            go_wp2_with fail
            go_ret
            exact ⟨by rw [HF.out]; rfl, HB3.out⟩
        · have t1 : decide (1 ≤ (s.size : Int)) = true := decide_eq_true (by omega)
          have t2 : decide ((s.size : Int) ≤ 64) = false := decide_eq_false (by omega)
          have HF : Hid (nameB s = false) := Lib.hid (by rw [HE.out, decide_eq_false h2]; simp)
          clear HE
          go_wp2_with fail
          go_ret
          exact ⟨by rw [HF.out]; rfl, HB.out⟩
      · have t1 : decide (1 ≤ (s.size : Int)) = false := decide_eq_false (by omega)
        have HF : Hid (nameB s = false) := Lib.hid (by rw [HE.out, decide_eq_false h1]; simp)
        clear HE
        go_wp2_with fail
        go_ret
        exact ⟨by rw [HF.out]; rfl, HB.out⟩
end Go.Proofs.YtjlhdgmcaiiagaaGreatDoor
