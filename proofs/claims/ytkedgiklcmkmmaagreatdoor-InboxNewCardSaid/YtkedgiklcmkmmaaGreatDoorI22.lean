/- InboxNew answers true. -/
import Derived.Test.YtkedgiklcmkmmaaGreatDoorI18
import Derived.Test.YtkedgiklcmkmmaaGreatDoorI21
namespace Go.Proofs.YtkedgiklcmkmmaaGreatDoor
open Go.RowKit Go.Maps

set_option maxRecDepth 100000 in
set_option maxHeartbeats 2000000 in
theorem new_in (size : Int) (w : World) : Calls Tryz.prog 3 #[.int .i64 size] w fun e w' => e = .returned (.bool true) ∧ Below w.heap.size w w' := by
  have HK := Lib.hid (fun wx => known_any wx)
  by_cases h : size < 1 ∨ 4096 < size
  · by_cases h1 : size < 1
    · have a1 : decide (size < 1) = true := decide_eq_true h1
      have HN := Lib.hid (new_no size h w)
      clear h h1
      go_enter Tryz.func3, Tryz.ntmps3
      go_wp2_with fail
      refine HN.out.mono ?_
      rintro e w1 ⟨rfl, rfl⟩
      go_wp2_with fail
      refine (HK.out _).mono ?_
      rintro e w2 ⟨rfl, hb⟩
      go_wp2_with fail
      go_ret
      exact ⟨rfl, hb⟩
    · have a1 : decide (size < 1) = false := decide_eq_false h1
      have a2 : decide (4096 < size) = true := decide_eq_true (by omega)
      have HN := Lib.hid (new_no size h w)
      clear h h1
      go_enter Tryz.func3, Tryz.ntmps3
      go_wp2_with fail
      refine HN.out.mono ?_
      rintro e w1 ⟨rfl, rfl⟩
      go_wp2_with fail
      refine (HK.out _).mono ?_
      rintro e w2 ⟨rfl, hb⟩
      go_wp2_with fail
      go_ret
      exact ⟨rfl, hb⟩
  · obtain ⟨n, rfl⟩ : ∃ n : Nat, size = n := ⟨size.toNat, by omega⟩
    have a1 : decide ((n : Int) < 1) = false := decide_eq_false (by omega)
    have a2 : decide (4096 < (n : Int)) = false := decide_eq_false (by omega)
    have HN := Lib.hid (new_ok n (by omega) (by omega) w)
    have HB := Lib.hid (Box.new w n (by omega) (by omega))
    have HA := Lib.hid (alike_new (HB.out.below ((Below.refl _ _).alloc (Nat.le_refl _) (.cells #[.int .i64 n, .slice none 0 0] 31))) (alloc_new _ _))
    simp only [alloc_size] at HA
    clear h HB
    go_enter Tryz.func3, Tryz.ntmps3
    go_wp2_with fail
    refine HN.out.mono ?_
    rintro e w1 ⟨rfl, rfl⟩
    go_wp2_with fail
    refine HA.out.mono ?_
    rintro e w1 ⟨rfl, hb1⟩
    go_wp2_with fail
    refine (HK.out _).mono ?_
    rintro e w2 ⟨rfl, hb⟩
    go_wp2_with fail
    go_ret
    have h2 : Below w.heap.size w w1 := (((Below.refl _ _).alloc (Nat.le_refl _) _).alloc (by simp) _).trans (hb1.mono (by omega))
    exact ⟨rfl, h2.trans (hb.mono h2.size)⟩
end Go.Proofs.YtkedgiklcmkmmaaGreatDoor
