/- InboxNil answers true. -/
import Derived.Test.YtkedgiklcmkmmaaGreatDoorI18
import Derived.Test.YtkedgiklcmkmmaaGreatDoorI26
import Derived.Test.YtkedgiklcmkmmaaGreatDoorI27
namespace Go.Proofs.YtkedgiklcmkmmaaGreatDoor
open Go.RowKit Go.Maps

set_option maxRecDepth 100000 in
set_option maxHeartbeats 4000000 in
theorem nil_in (l : List EntD) (v : Value) (w : World) (h : Arr EntR 4 w v l) : Calls Tryz.prog 8 #[v] w fun e w' => e = .returned (.bool true) ∧ Below w.heap.size w w' := by
  have HK := Lib.hid (fun wx => known_any wx)
  have HSM := Lib.hid (smallL_any l 8 (by decide) v w h)
  clear h
  generalize smallL l 8 = sm at HSM
  cases sm with
  | false =>
    go_enter Tryz.func8, Tryz.ntmps8
    go_wp2_with fail
    refine HSM.out.mono ?_
    rintro e w1 ⟨rfl, hb1⟩
    go_wp2_with fail
    refine (HK.out _).mono ?_
    rintro e w2 ⟨rfl, hb2⟩
    go_wp2_with fail
    go_ret
    exact ⟨rfl, hb1.trans (hb2.mono hb1.size)⟩
  | true =>
    go_enter Tryz.func8, Tryz.ntmps8
    go_wp2_with fail
    refine HSM.out.mono ?_
    rintro e w1 ⟨rfl, hb1⟩
    have HB1 := Lib.hid hb1
    clear hb1
    go_wp2_with fail
    obtain ⟨W2, hW2⟩ : ∃ W2, W2 = (w1.alloc (.cells #[.int .i64 0, .slice none 0 0, .int .i64 0, .int .i64 0] 65)).alloc (.cells #[.pointer none, .pointer (some ⟨w1.heap.size, 0, none⟩)] 22) := ⟨_, rfl⟩
    have hbw : Below w.heap.size w W2 := by rw [hW2]; exact (HB1.out.alloc HB1.out.size _).alloc (by have := HB1.out.size; simp; omega) _
    have hg1 : W2.heap[w1.heap.size]? = some (.cells #[.int .i64 0, .slice none 0 0, .int .i64 0, .int .i64 0] 65) := by rw [hW2, alloc_old _ _ (by simp)]; exact alloc_new _ _
    have hg2 : W2.heap[w1.heap.size + 1]? = some (.cells #[.pointer none, .pointer (some ⟨w1.heap.size, 0, none⟩)] 22) := by
      rw [hW2]
      have := alloc_new (w1.alloc (.cells #[.int .i64 0, .slice none 0 0, .int .i64 0, .int .i64 0] 65)) (.cells #[.pointer none, .pointer (some ⟨w1.heap.size, 0, none⟩)] 22)
      simpa only [alloc_size] using this
    rw [← hW2]
    clear hW2
    have HBW := Lib.hid hbw
    have HS0 : Hid (∀ wx, Below W2.heap.size W2 wx → wx.cell? ⟨w1.heap.size + 1, 0, none⟩ = some (.pointer none)) := Lib.hid (fun wx hx => by rw [hx.cell (p := ⟨_, _, _⟩) (lt_of_heap hg2), cell0 hg2 0]; rfl)
    have HS1 : Hid (∀ wx, Below W2.heap.size W2 wx → wx.cell? ⟨w1.heap.size + 1, 1, none⟩ = some (.pointer (some ⟨w1.heap.size, 0, none⟩))) := Lib.hid (fun wx hx => by rw [hx.cell (p := ⟨_, _, _⟩) (lt_of_heap hg2), cell0 hg2 1]; rfl)
    have HP0 : Hid (∀ wx, Below W2.heap.size W2 wx → NilBox wx (.pointer none)) := Lib.hid (fun wx _ => Or.inl rfl)
    have HP1 : Hid (∀ wx, Below W2.heap.size W2 wx → NilBox wx (.pointer (some ⟨w1.heap.size, 0, none⟩))) := Lib.hid (fun wx hx => Or.inr ⟨_, rfl, by rw [hx.block _ (lt_of_heap hg1)]; exact hg1⟩)
    clear hbw hg1 hg2
    refine wp_loop_rounds 3 ?_
    rw [rounds_succ]
    have HB := Lib.hid (Below.refl W2.heap.size W2)
    have hp0 := HS0.out _ HB.out
    have hp1 := HS1.out _ HB.out
    go_wp2_with fail
    clear hp0 hp1
    refine (nb_put (HP0.out _ HB.out) _).mono ?_
    rintro e wa ⟨rfl, rfl⟩
    go_wp2_with fail
    refine (nb_heads (HP0.out _ HB.out)).mono ?_
    rintro e wa ⟨rfl, hb⟩
    have HB := Lib.hid (HB.out.trans (hb.mono HB.out.size))
    clear hb
    go_wp2_with fail
    refine (nb_takes (HP0.out _ HB.out)).mono ?_
    rintro e wa ⟨rfl, hb⟩
    have HB := Lib.hid (HB.out.trans (hb.mono HB.out.size))
    clear hb
    go_wp2_with fail
    refine (nb_len (HP0.out _ HB.out)).mono ?_
    rintro e wa ⟨rfl, rfl⟩
    go_wp2_with fail
    refine (nb_room (HP0.out _ HB.out)).mono ?_
    rintro e wa ⟨rfl, rfl⟩
    go_wp2_with fail
    refine (nb_all (HP0.out _ HB.out)).mono ?_
    rintro e wa ⟨rfl, rfl⟩
    go_wp2_with fail
    refine (nb_copy (HP0.out _ HB.out)).mono ?_
    rintro e wa ⟨rfl, rfl⟩
    go_wp2_with fail
    rw [rounds_succ]
    have hp0 := HS0.out _ HB.out
    have hp1 := HS1.out _ HB.out
    go_wp2_with fail
    clear hp0 hp1
    refine (nb_put (HP1.out _ HB.out) _).mono ?_
    rintro e wa ⟨rfl, rfl⟩
    go_wp2_with fail
    refine (nb_heads (HP1.out _ HB.out)).mono ?_
    rintro e wa ⟨rfl, hb⟩
    have HB := Lib.hid (HB.out.trans (hb.mono HB.out.size))
    clear hb
    go_wp2_with fail
    refine (nb_takes (HP1.out _ HB.out)).mono ?_
    rintro e wa ⟨rfl, hb⟩
    have HB := Lib.hid (HB.out.trans (hb.mono HB.out.size))
    clear hb
    go_wp2_with fail
    refine (nb_len (HP1.out _ HB.out)).mono ?_
    rintro e wa ⟨rfl, rfl⟩
    go_wp2_with fail
    refine (nb_room (HP1.out _ HB.out)).mono ?_
    rintro e wa ⟨rfl, rfl⟩
    go_wp2_with fail
    refine (nb_all (HP1.out _ HB.out)).mono ?_
    rintro e wa ⟨rfl, rfl⟩
    go_wp2_with fail
    refine (nb_copy (HP1.out _ HB.out)).mono ?_
    rintro e wa ⟨rfl, rfl⟩
    go_wp2_with fail
    rw [rounds_succ]
    go_wp2_with fail
    refine (HK.out _).mono ?_
    rintro e wz ⟨rfl, hbz⟩
    go_wp2_with fail
    go_ret
    exact ⟨rfl, (HBW.out.trans (HB.out.mono HBW.out.size)).trans (hbz.mono (Nat.le_trans HBW.out.size HB.out.size))⟩
end Go.Proofs.YtkedgiklcmkmmaaGreatDoor
