/- keys and keys over maps in this program, walked: they return the keys in entry order, for every map block that holds strings as keys. -/
import Derived.Test.YtdeljhehcjknbaaDoorClient
namespace Go.Proofs.YtdeljhehcjknbaaDoor
open Go.RowKit Go.Maps

/-- A row of strings, as it lies from the head of a block on. -/
def StrsAt (w : World) (b : Nat) (ss : List ByteArray) : Prop := ∀ k (h : k < ss.length), w.cell? ⟨b, k, none⟩ = some (.string ss[k])

theorem StrsAt.below {w w' : World} {b : Nat} {ss : List ByteArray} (h : StrsAt w b ss) (hb : b < w.heap.size) (hB : Below w.heap.size w w') : StrsAt w' b ss :=
  fun k hk => by rw [hB.cell (p := ⟨b, k, none⟩) hb]; exact h k hk

set_option maxHeartbeats 400000 in
theorem keyNot_any (s : ByteArray) (w : World) (hs : s.size ≤ maxLen) :
    Calls Tryd.prog 45 #[.string s] w fun e w' => e = .returned (.bool (!keyB s)) ∧ Below w.heap.size w w' := by
  have HK := Lib.hid (key_any s w hs)
  go_enter Tryd.func45, Tryd.ntmps45
  go_wp2_with (go_at_call 26; refine HK.out.mono ?_; rintro e w1 ⟨rfl, hb1⟩)
  go_ret
  exact ⟨rfl, hb1⟩

def SomeGe (b : Bool) (w : World) (e : Ending) (w' : World) : Prop := ∃ r : Int, e = .returned (.int .i64 r) ∧ decide (0 ≤ r) = b ∧ Below w.heap.size w w'

set_option maxHeartbeats 1000000 in
theorem indexFunc_keys (b c : Nat) (ss : List ByteArray) (w : World) (hl : ss.length ≤ 9223372036854775807) (hb : b < w.heap.size) (hS : StrsAt w b ss) (hm : ∀ s ∈ ss, s.size ≤ maxLen) :
    Calls Tryd.prog 53 #[.slice (some ⟨b, 0, none⟩) ss.length c, .func (.func 45) #[] #[]] w (SomeGe (!ss.all keyB) w) := by
  go_enter Tryd.func53, Tryd.ntmps53
  go_wp2
  go_loopw [8] (fun i wr => ∃ k : Nat, k ≤ ss.length ∧ i = .int .i64 k ∧ (ss.take k).all keyB = true ∧ Below w.heap.size w wr) (fun i _ => ss.length - (intOf i).toNat)
  case atStart => exact ⟨0, Nat.zero_le _, rfl, rfl, Below.refl _ _⟩
  case round =>
    obtain ⟨k, hk, rfl, hall, hB⟩ := hrel
    by_cases hlt : k < ss.length
    · have hc : wr.cell? ⟨b, k, none⟩ = some (.string ss[k]) := by rw [hB.cell (p := ⟨b, k, none⟩) hb]; exact hS k hlt
      have HK := Lib.hid (fun w0 => keyNot_any ss[k] w0 (hm _ (List.getElem_mem hlt)))
      have HS := Lib.hid (show (ss.take (k + 1)).all keyB = ((ss.take k).all keyB && keyB ss[k]) by
        rw [List.take_succ_eq_append_getElem hlt, List.all_append]; simp)
      have HN := Lib.hid (show keyB ss[k] = false → ss.all keyB = false from fun h => by
        rw [List.all_eq_false]; exact ⟨ss[k], List.getElem_mem hlt, by simp [h]⟩)
      have hsz := hB.size
      have HB := Lib.hid hB
      have HA := Lib.hid hall
      clear hB hall
      generalize ss[k] = s at *
      cases hkb : keyB s
      all_goals
        rw [hkb] at HK HS HN
        clear hkb
        go_wp2_with (go_at_call 45; refine (HK.out _).mono ?_; rintro e w1 ⟨rfl, hb1⟩)
      · go_ret
        exact ⟨k, rfl, by rw [HN.out trivial]; simp, HB.out.trans (hb1.mono (by omega))⟩
      · go_roundw
        case rel => exact ⟨k + 1, by omega, by go_num, by rw [HS.out, HA.out]; rfl, HB.out.trans (hb1.mono (by omega))⟩
        case measure => simp [intOf]; omega
    · have hke : k = ss.length := by omega
      subst hke
      rw [List.take_of_length_le (Nat.le_refl _)] at hall
      have HA := Lib.hid hall
      have HB := Lib.hid hB
      clear hall hB
      go_wp2
      go_ret
      exact ⟨-1, rfl, by rw [HA.out]; simp, HB.out⟩

set_option maxHeartbeats 400000 in
theorem containsFunc_keys (b c : Nat) (ss : List ByteArray) (w : World) (hl : ss.length ≤ 9223372036854775807) (hb : b < w.heap.size) (hS : StrsAt w b ss) (hm : ∀ s ∈ ss, s.size ≤ maxLen) :
    Calls Tryd.prog 44 #[.slice (some ⟨b, 0, none⟩) ss.length c, .func (.func 45) #[] #[]] w fun e w' => e = .returned (.bool (!ss.all keyB)) ∧ Below w.heap.size w w' := by
  have HK := Lib.hid (indexFunc_keys b c ss w hl hb hS hm)
  clear hS hm
  go_enter Tryd.func44, Tryd.ntmps44
  go_wp2_with (go_at_call 53; refine HK.out.mono ?_; rintro e w1 ⟨r, rfl, hr, hb1⟩; have HR := Lib.hid hr; clear hr)
  go_ret
  exact ⟨ret_bool HR.out, hb1⟩

set_option maxHeartbeats 400000 in
theorem keys_any (b c : Nat) (ss : List ByteArray) (w : World) (hl : ss.length ≤ 9223372036854775807) (hb : b < w.heap.size) (hS : StrsAt w b ss) (hm : ∀ s ∈ ss, s.size ≤ maxLen) :
    Calls Tryd.prog 34 #[.slice (some ⟨b, 0, none⟩) ss.length c] w fun e w' => e = .returned (.bool (ss.all keyB)) ∧ Below w.heap.size w w' := by
  have HK := Lib.hid (containsFunc_keys b c ss w hl hb hS hm)
  clear hS hm
  go_enter Tryd.func34, Tryd.ntmps34
  go_wp2_with (go_at_call 44; refine HK.out.mono ?_; rintro e w1 ⟨rfl, hb1⟩)
  go_ret
  exact ⟨ret_bool (by simp), hb1⟩
end Go.Proofs.YtdeljhehcjknbaaDoor
