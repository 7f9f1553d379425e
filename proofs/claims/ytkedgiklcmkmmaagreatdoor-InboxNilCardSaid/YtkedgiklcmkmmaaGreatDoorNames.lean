/- The walk of names.Key: which strings are keys. No condition but that the string has a size. -/
import Derived.Test.YtkedgiklcmkmmaaGreatDoorBase
import Derived.Test.YtkedgiklcmkmmaaGreatDoorShelf
import Derived.Lib.Hide
import Derived.Handy
import Derived.Deep.QuietTactic
import Derived.BigQuiet
import Derived.WalkSmall
import Derived.Laws.IdiomStrings
namespace Go.Proofs.YtkedgiklcmkmmaaGreatDoor
open Go.RowKit Go.Maps

def punct (c : UInt8) : Bool := c.toNat == 45 || c.toNat == 95 || c.toNat == 46 || c.toNat == 47

theorem u8_all (p : UInt8 → Prop) (h : ∀ n : Fin 256, p (UInt8.ofNat n.val)) (c : UInt8) : p c := by
  have := h ⟨c.toNat, c.toNat_lt⟩
  rwa [show UInt8.ofNat (⟨c.toNat, c.toNat_lt⟩ : Fin 256).val = c from by simp] at this

theorem punct_ix (c : UInt8) : decide (0 ≤ Lib.indexByte [45, 95, 46, 47] ((c.toNat : Int).toNat.toUInt8)) = punct c := by
  revert c
  refine u8_all _ ?_
  decide +kernel

theorem enc_two (c : UInt8) : 128 ≤ c.toNat → ∃ a b : UInt8, Utf8.encode (c.toNat : Int) = ⟨#[a, b]⟩ ∧ 128 ≤ b.toNat := by
  intro h
  refine ⟨UInt8.ofNat (0xC0 + c.toNat / 64), UInt8.ofNat (0x80 + c.toNat % 64), ?_, ?_⟩
  · have h2 := c.toNat_lt
    have hv : Utf8.valid (c.toNat : Int) = true := by simp [Utf8.valid]; omega
    simp only [Utf8.encode, hv, if_true, Int.toNat_natCast]
    rw [if_neg (by omega), if_pos (by omega)]
  · simp; omega

set_option maxRecDepth 100000 in
set_option maxHeartbeats 1000000 in
theorem indexRuneHi (c : UInt8) (h : 128 ≤ c.toNat) (w : World) :
    Calls Tryz.prog 52 #[.string ⟨#[45, 95, 46, 47]⟩, .int .i32 c.toNat] w fun e w' => e = .returned (.int .i64 (-1)) ∧ Below w.heap.size w w' := by
  obtain ⟨a, b, henc, hb⟩ := enc_two c h
  have hconv : ∀ w : World, (convert 21 9 (.int .i32 c.toNat)).run Tryz.prog w = .ok (.string ⟨#[a, b]⟩) w := by
    intro w
    simp [convert, run_underlying Tryz.underlying21, run_underlying Tryz.underlying9, Conv.intToString, henc]
  clear henc
  have hvr : Lib.validRune (c.toNat : Int) = true := by
    have := c.toNat_lt
    simp [Lib.validRune]; omega
  have hV : ∀ w, Calls Tryz.prog 74 #[.int .i32 c.toNat] w fun e w' => e = .returned (.bool true) ∧ w = w' := by
    intro w
    refine (Tryz.utf8_ValidRune _ w).mono ?_
    rintro e w' ⟨rfl, rfl⟩
    exact ⟨by rw [hvr], rfl⟩
  have HV := Lib.hid hV
  clear hV hvr
  have h256 : (c.toNat : Int) < 256 := by have := c.toNat_lt; omega
  have h128 : (128 : Int) ≤ c.toNat := by omega
  clear h
  have hix : Lib.indexByte [46, 47] ((b.toNat : Int).toNat.toUInt8) = -1 := by
    revert hb; revert b
    intro b _ hb
    have hh : ∀ b : UInt8, 128 ≤ b.toNat → Lib.indexByte [46, 47] ((b.toNat : Int).toNat.toUInt8) = -1 := u8_all _ (by decide +kernel)
    exact hh b hb
  have hI : ∀ w, Calls Tryz.prog 73 #[.string ((ByteArray.mk #[45, 95, 46, 47]).extract 2 4), .int .u8 (((ByteArray.mk #[a, b])[1]'(by show 1 < 2; decide)).toNat : Int)] w fun e w' => e = .returned (.int .i64 (-1)) ∧ w' = w := by
    intro w
    refine (Tryz.strings_IndexByte _ _ w).mono ?_
    rintro e w' ⟨rfl, rfl⟩
    exact ⟨congrArg (fun i : Int => Ending.returned (.int .i64 i)) hix, rfl⟩
  have HI := Lib.hid hI
  clear hI hix
  go_enter Tryz.func52, Tryz.ntmps52
  go_wp2_with (go_at_call 74; refine (HV.out _).mono ?_; rintro e w' ⟨rfl, rfl⟩)
  go_step3
  go_wp2
  refine wp_loop_rounds 1 ?_
  rw [rounds_succ]
  go_wp2
  go_step3
  go_wp2
  have hne : ((((ByteArray.mk #[45, 95, 46, 47])[1]'(by decide)).toNat : Int) != (((ByteArray.mk #[a, b])[1]'(by show 1 < 2; decide)).toNat : Int)) = true := by
    show ((95 : Int) != (b.toNat : Int)) = true
    simp; omega
  go_quiet (fail)
  go_wp2
  have hbq := Lib.hid (below_drewN (Below.refl w.heap.size w) nq)
  generalize w.drewN nq = w2 at *
  go_quiet ((go_at_call 73; exact Calls.quiet_of_same (HI.out _)))
  go_wp2
  rw [Exit.noGoto_ret]
  go_wp2
  rw [Exit.noGoto_ret]
  go_ret
  exact ⟨rfl, below_drewN hbq.out _⟩

set_option maxRecDepth 100000 in
set_option maxHeartbeats 1000000 in
theorem containsHi (c : UInt8) (h : 128 ≤ c.toNat) (w : World) :
    Calls Tryz.prog 41 #[.string ⟨#[45, 95, 46, 47]⟩, .int .i32 c.toNat] w fun e w' => e = .returned (.bool false) ∧ Below w.heap.size w w' := by
  obtain ⟨a, b, henc, hb⟩ := enc_two c h
  have hconv : ∀ w : World, (convert 21 9 (.int .i32 c.toNat)).run Tryz.prog w = .ok (.string ⟨#[a, b]⟩) w := by
    intro w
    simp [convert, run_underlying Tryz.underlying21, run_underlying Tryz.underlying9, Conv.intToString, henc]
  have h256 : (c.toNat : Int) < 256 := by have := c.toNat_lt; omega
  have h128 : (128 : Int) ≤ c.toNat := by omega
  go_enter Tryz.func41, Tryz.ntmps41
  go_wp2_with (go_at_call 52; refine (indexRuneHi c h _).mono ?_; rintro e w1 ⟨rfl, hb1⟩)
  go_ret
  exact ⟨rfl, hb1⟩

theorem contains_any (c : UInt8) (w : World) :
    Calls Tryz.prog 41 #[.string ⟨#[45, 95, 46, 47]⟩, .int .i32 c.toNat] w fun e w' => e = .returned (.bool (punct c)) ∧ Below w.heap.size w w' := by
  by_cases h : 128 ≤ c.toNat
  · refine (containsHi c h w).mono ?_
    rintro e w' ⟨rfl, hb⟩
    have : punct c = false := by unfold punct; simp; omega
    exact ⟨by rw [this], hb⟩
  · refine (Tryz.strings_ContainsRune_ascii _ _ w (by omega) (by omega)).mono ?_
    rintro e w' ⟨rfl, rfl⟩
    exact ⟨congrArg (fun b => Ending.returned (.bool b)) (punct_ix c), Below.refl _ _⟩
def okc (c : UInt8) : Bool := (decide (97 ≤ c.toNat) && decide (c.toNat ≤ 122)) || (decide (48 ≤ c.toNat) && decide (c.toNat ≤ 57)) || c.toNat == 45 || c.toNat == 95 || c.toNat == 46 || c.toNat == 47
def keyB (s : ByteArray) : Bool := s.data.toList.all okc && decide (1 ≤ s.size) && decide (s.size ≤ 64)
theorem conv_bytes {P : Program} (w : World) {src dst e : TypeId} (s : ByteArray) (hs : P.underlying src = some .string) (hd : P.underlying dst = some (.slice e)) (he : P.underlying e = some (.int .u8)) :
    ∃ cap C, (convert src dst (.string s)).run P w = .ok (.slice (some ⟨w.heap.size, 0, none⟩) s.size cap) (w.drew.alloc (.cells C e (C.size, C.size + 1))) ∧
      ∀ i (h : i < s.size), C[i]? = some (.int .u8 s[i].toNat) := by
  refine ⟨_, _, run_bytes_of_string w src dst e s hs hd he, ?_⟩
  intro i h
  unfold bytesRow
  rw [Array.getElem?_append_left (by simpa using h)]
  simp [Array.getElem?_map]
  exact ⟨s[i], by simp [h]; rfl, rfl⟩

theorem cell_newd (w : World) (C : Array Value) (e : TypeId) (fz : Nat × Nat) (i : Nat) : ((w.alloc (.cells C e fz)).drew).cell? ⟨w.heap.size, i, none⟩ = C[i]? := by
  have : ((w.alloc (.cells C e fz)).drew).heap[w.heap.size]? = some (.cells C e fz) := by
    show (w.heap.push _)[w.heap.size]? = _
    simp
  unfold World.cell?
  rw [this]
  rfl

theorem all_take_snoc (p : UInt8 → Bool) (s : ByteArray) (k : Nat) (h : k < s.size) : (s.data.toList.take (k + 1)).all p = ((s.data.toList.take k).all p && p s[k]) := by
  rw [List.take_succ_eq_append_getElem (by simpa using h), List.all_append]
  simp; rfl

theorem not_all {p : UInt8 → Bool} {s : ByteArray} {k : Nat} (h : k < s.size) (hp : p s[k] = false) : s.data.toList.all p = false := by
  rw [List.all_eq_false]
  exact ⟨s[k], by rw [show s[k] = s.data.toList[k]'(by simpa using h) from rfl]; exact List.getElem_mem _, by simp [hp]⟩

theorem ret_bool {a b : Bool} (h : a = b) : Ending.returned (.bool a) = .returned (.bool b) := by rw [h]

set_option maxRecDepth 100000 in
set_option maxHeartbeats 1000000 in
theorem key_any (s : ByteArray) (w : World) (hs : s.size ≤ maxLen) :
    Calls Tryz.prog 35 #[.string s] w fun e w' => e = .returned (.bool (keyB s)) ∧ Below w.heap.size w w' := by
  unfold maxLen at hs
  obtain ⟨cap, C, hconv, hC⟩ := conv_bytes w s Tryz.underlying9 Tryz.underlying67 Tryz.underlying5
  have HC := Lib.hid hC
  clear hC
  go_enter Tryz.func35, Tryz.ntmps35
  go_wp2
  clear hconv
  go_loopw [8] (fun i wr => ∃ k : Nat, k ≤ s.size ∧ i = .int .i64 k ∧ (s.data.toList.take k).all okc = true ∧ Below (w.heap.size + 1) ((w.alloc (.cells C 5 (C.size, C.size + 1))).drew) wr) (fun i _ => s.size - (intOf i).toNat)
  case atStart => exact ⟨0, Nat.zero_le _, rfl, rfl, Below.refl _ _⟩
  case round =>
    obtain ⟨k, hk, rfl, hall, hB⟩ := hrel
    have hsz : (w.alloc (.cells C 5 (C.size, C.size + 1))).drew.heap.size ≤ wr.heap.size := hB.size
    have hold : Below w.heap.size w ((w.alloc (.cells C 5 (C.size, C.size + 1))).drew) := ((Below.refl _ _).alloc (Nat.le_refl _) _).drew
    have HO := Lib.hid hold
    clear hold
    by_cases hlt : k < s.size
    · have hc : wr.cell? ⟨w.heap.size, k, none⟩ = some (.int .u8 s[k].toNat) := by
        rw [hB.cell (p := ⟨w.heap.size, k, none⟩) (by simp), cell_newd, HC.out k hlt]
      have HS := Lib.hid (all_take_snoc okc s k hlt)
      have HN := Lib.hid (@not_all okc s k hlt)
      generalize s[k] = c at hc HS HN
      have HB := Lib.hid hB
      clear hB
      have HA := Lib.hid hall
      clear hall
      by_cases h1 : (97 : Int) ≤ c.toNat ∧ (c.toNat : Int) ≤ 122
      · obtain ⟨h1, h2⟩ := h1
        go_wp2
        go_roundw
        case rel => exact ⟨k + 1, by omega, by go_num, by rw [HS.out, HA.out]; unfold okc; rw [decide_eq_true (by omega : 97 ≤ c.toNat), decide_eq_true (by omega : c.toNat ≤ 122)]; rfl, HB.out⟩
        case measure => simp [intOf]; omega
      · by_cases h3 : (48 : Int) ≤ c.toNat ∧ (c.toNat : Int) ≤ 57
        · obtain ⟨h3, h4⟩ := h3
          clear h1
          go_wp2
          go_roundw
          case rel => exact ⟨k + 1, by omega, by go_num, by rw [HS.out, HA.out]; unfold okc; rw [decide_eq_true (by omega : 48 ≤ c.toNat), decide_eq_true (by omega : c.toNat ≤ 57)]; simp, HB.out⟩
          case measure => simp [intOf]; omega
        · have HP : Hid (okc c = punct c) := Lib.hid (by
            unfold okc punct
            have e1 : (decide (97 ≤ c.toNat) && decide (c.toNat ≤ 122)) = false := by rw [Bool.and_eq_false_iff]; simp; omega
            have e2 : (decide (48 ≤ c.toNat) && decide (c.toNat ≤ 57)) = false := by rw [Bool.and_eq_false_iff]; simp; omega
            rw [e1, e2]; simp)
          have hor : ((c.toNat : Int) < 97 ∨ (122 : Int) < c.toNat) ∧ ((c.toNat : Int) < 48 ∨ (57 : Int) < c.toNat) := by omega
          clear h1 h3
          have hc256 : (c.toNat : Int) < 256 := by have := c.toNat_lt; omega
          have hor' : ((c.toNat : Int) < 97 ∧ (c.toNat : Int) < 48) ∨ ((c.toNat : Int) < 97 ∧ (57 : Int) < c.toNat) ∨ ((122 : Int) < c.toNat ∧ (57 : Int) < c.toNat) := by omega
          clear hor
          obtain ⟨h1, h3⟩ | ⟨h1, h3⟩ | ⟨h1, h3⟩ := hor'
          all_goals
            cases hp : punct c
            all_goals
              have hct := contains_any c
              rw [hp] at hct
              have HPP := Lib.hid hp
              clear hp
              have HCT := Lib.hid hct
              clear hct
              go_wp2_with (go_at_call 41; refine (HCT.out _).mono ?_; rintro e w1 ⟨rfl, hb1⟩)
          all_goals first
            | (go_ret
               exact ⟨ret_bool (by unfold keyB; rw [HN.out (by rw [HP.out, HPP.out])]; rfl), HO.out.trans ((HB.out.mono (by omega)).trans (hb1.mono (by simp at hsz; omega)))⟩)
            | (go_roundw
               case rel => exact ⟨k + 1, by omega, by go_num, by rw [HS.out, HA.out, HP.out, HPP.out]; rfl, HB.out.trans (hb1.mono (by simp at hsz; omega))⟩
               case measure => simp [intOf]; omega)
    · have hke : k = s.size := by omega
      subst hke
      have HA := Lib.hid hall
      clear hall
      have HB := Lib.hid hB
      clear hB
      by_cases h1 : s.size < 1
      · go_wp2
        go_ret
        exact ⟨ret_bool (by unfold keyB; rw [decide_eq_false (by omega : ¬ 1 ≤ s.size)]; simp), HO.out.trans (HB.out.mono (by omega))⟩
      · rw [List.take_of_length_le (by simp)] at HA
        by_cases h2 : s.size ≤ 64
        · go_wp2
          go_ret
          exact ⟨ret_bool (by unfold keyB; rw [decide_eq_true (by omega : 1 ≤ s.size), HA.out]; simp; omega), HO.out.trans (HB.out.mono (by omega))⟩
        · go_wp2
          go_ret
          exact ⟨ret_bool (by unfold keyB; rw [decide_eq_false h2]; simp; omega), HO.out.trans (HB.out.mono (by omega))⟩
end Go.Proofs.YtkedgiklcmkmmaaGreatDoor
