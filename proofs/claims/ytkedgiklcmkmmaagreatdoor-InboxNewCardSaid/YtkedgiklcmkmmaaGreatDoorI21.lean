/- alike: a new inbox is like the reference's. -/
import Derived.Test.YtkedgiklcmkmmaaGreatDoorI15
import Derived.Test.YtkedgiklcmkmmaaGreatDoorI20
import Derived.Deep.RegionHeld3
namespace Go.Proofs.YtkedgiklcmkmmaaGreatDoor
open Go.RowKit Go.Maps

set_option maxRecDepth 100000 in
set_option maxHeartbeats 4000000 in
theorem alike_new {G : Nat → Prop} {w : World} {b p size : Nat} (h : Box G w b size []) (hp : w.heap[p]? = some (.cells #[.int .i64 size, .slice none 0 0] 31)) :
    Calls Tryz.prog 11 #[.pointer (some ⟨b, 0, none⟩), .pointer (some ⟨p, 0, none⟩)] w fun e w' => e = .returned (.bool true) ∧ Below w.heap.size w w' := by
  have hs3 : size ≤ 4096 := h.2.2.1
  have hwr : IntKind.i64.wrap (size : Int) = (size : Int) := by rw [IntKind.wrap_i64]; omega
  have hpl := lt_of_heap hp
  have HP := Lib.hid hp
  have HBX := Lib.hid h
  have p0 : w.cell? ⟨p, 0, none⟩ = some (.int .i64 size) := by rw [cell0 hp 0]; rfl
  have p1 : w.cell? ⟨p, 1, none⟩ = some (.slice none 0 0) := by rw [cell0 hp 1]; rfl
  clear h hp
  go_enter Tryz.func11, Tryz.ntmps11
  go_upto_region 1 with fail
  go_region_held3 (fun w' => w'.cell? ⟨p, 0, none⟩ = some (.int .i64 size) ∧ w'.cell? ⟨p, 1, none⟩ = some (.slice none 0 0)) (first | go_keep | go_simp) (first | (go_at_call 16; refine (len_any (HBX.out.below (Below.refl _ _).drew)).mono ?_; rintro e w1 ⟨rfl, rfl⟩) | (go_at_call 17; refine (room_any (HBX.out.below (Below.refl _ _).drew)).mono ?_; rintro e w2 ⟨rfl, d, rfl⟩))
  obtain ⟨W1, hW1⟩ : ∃ W1, W1 = w.drewN (1 + d) := ⟨_, rfl⟩
  have hb1 : Below w.heap.size w W1 := by rw [hW1]; exact (Below.refl _ _).drewN
  rw [← hW1]
  have HB1 := Lib.hid hb1
  rename_i hHeld
  clear hW1 hHeld p0 p1 hb1
  have HFP : Hid (∀ wx, Below w.heap.size w wx → wx.cell? ⟨p, 1, none⟩ = some (.slice none 0 0)) := Lib.hid (fun wx hx => by rw [hx.cell (p := ⟨_, _, _⟩) hpl]; rw [cell0 HP.out 1]; rfl)
  have HSZ : Hid (∀ wx, Below w.heap.size w wx → w.heap.size ≤ wx.heap.size) := Lib.hid (fun wx hx => hx.size)
  go_wp2_with fail
  refine (all_any (HBX.out.below HB1.out)).mono ?_
  rintro e w2 ⟨v, rfl, hrow, hb2⟩
  have HB2 := Lib.hid (HB1.out.trans (hb2.mono (HSZ.out _ HB1.out)))
  have hrd := Lib.hid (Rd.of_own hrow (by unfold maxLen; simp))
  obtain ⟨a, c, rfl⟩ := owns_slice hrow
  clear hb2 hrow
  have p1 := HFP.out _ HB2.out
  go_wp2_with fail
  refine (entSame_any _ _ [] [] _ hrd.out ⟨none, 0, rfl, rfl, Nat.zero_le _, fun h => absurd rfl h⟩).mono ?_
  rintro e w3 ⟨rfl, hb3⟩
  have HB3 := Lib.hid (HB2.out.trans (hb3.mono (HSZ.out _ HB2.out)))
  clear hb3 p1
  go_wp2_with fail
  refine (stain_nil _ _ _).mono ?_
  rintro e w4 ⟨rfl, rfl⟩
  go_wp2_with fail
  refine (head_any (HBX.out.below HB3.out)).mono ?_
  rintro e w5 ⟨rfl, hb5⟩
  have HB5 := Lib.hid (HB3.out.trans (hb5.mono (HSZ.out _ HB3.out)))
  clear hb5
  go_wp2_with fail
  refine (stain_one w.heap.size (w5.heap.size + 1) _ (Nat.le_trans (HSZ.out _ HB5.out) (Nat.le_succ _)) (by
    have := alloc_new (w5.alloc (.cells #[.string ⟨#[]⟩, .slice none 0 0, .slice none 0 0, .slice none 0 0] 41)) (.cells #[.string ⟨#[]⟩, .slice none 0 0, .slice none 0 0, .slice none 0 0] 41)
    rw [alloc_size] at this
    exact this)).mono ?_
  rintro e w6 ⟨rfl, hb6⟩
  have HB6 := Lib.hid (((HB5.out.alloc (HSZ.out _ HB5.out) _).alloc (by have := HSZ.out _ HB5.out; simp only [alloc_size]; omega) _).trans hb6)
  clear hb6
  go_upto_region 9 with fail
  have p1 := HFP.out _ HB6.out
  go_region_held3 (fun w' => w'.cell? ⟨p, 1, none⟩ = some (.slice none 0 0)) (first | go_keep | go_simp) (first | (go_at_call 20; refine (all_any (HBX.out.below HB6.out.drew)).mono ?_; rintro e w7 ⟨v7, rfl, hrow7, hb7⟩; have HB7 := Lib.hid (HB6.out.drew.trans (hb7.mono (HSZ.out _ HB6.out.drew))); have hrd7 := Lib.hid (Rd.of_own hrow7 (by unfold maxLen; simp)); have p7 := HFP.out _ HB7.out; clear hb7 hrow7) | (go_at_call 22; refine (entSame_any _ _ [] [] _ hrd7.out ⟨none, 0, rfl, rfl, Nat.zero_le _, fun h => absurd rfl h⟩).mono ?_; rintro e w8 ⟨rfl, hb8⟩; have HB8 := Lib.hid (HB7.out.trans (hb8.mono (HSZ.out _ HB7.out))); have p8 := HFP.out _ HB8.out; clear hb8))
  go_wp2
  go_ret
  exact ⟨rfl, HB8.out⟩
end Go.Proofs.YtkedgiklcmkmmaaGreatDoor
