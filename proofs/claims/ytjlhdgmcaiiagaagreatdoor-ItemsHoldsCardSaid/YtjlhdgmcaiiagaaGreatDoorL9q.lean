/- light. -/
import Derived.Test.YtjlhdgmcaiiagaaGreatDoorL9p
namespace Go.Proofs.YtjlhdgmcaiiagaaGreatDoor
open Go.RowKit Go.Maps

set_option maxRecDepth 100000 in
set_option maxHeartbeats 2000000 in
theorem l9light_any (l : List ItemD) (v : Value) (w : World) (h : Arr ItemR 2 w v l) : Calls Tryz.prog 9 #[v] w fun e w' => e = .returned (.bool (lightI l)) ∧ w' = w := by
  have hn := h.len
  obtain ⟨o, c, rfl, hel⟩ := h.itemAt
  have HEL := Lib.hid hel
  clear hel h
  go_enter Tryz.func9, Tryz.ntmps9
  go_wp2_with fail
  go_loopw [3] (fun i wr => ∃ k : Nat, k ≤ l.length ∧ k ≤ 21 ∧ i = .int .i64 k ∧ (l.take k).all okL = true ∧ wr = w) (fun i _ => l.length - (intOf i).toNat)
  case atStart => exact ⟨0, Nat.zero_le _, by omega, rfl, rfl, rfl⟩
  case round =>
    obtain ⟨k, hk, hk21, rfl, hall, rfl⟩ := hrel
    have HALL := Lib.hid hall
    clear hall
    by_cases hlt : k < l.length
    · by_cases hk2 : k < 21
      · obtain ⟨b, off, mv, rfl, hbl, c0, c1, -, hm⟩ := HEL.out k hlt
        obtain ⟨o3, k3, rfl, -⟩ := id hm
        have HS := Lib.hid (show (l.take (k + 1)).all okL = ((l.take k).all okL && okL l[k]) from by rw [List.take_succ_eq_append_getElem hlt, List.all_append]; simp)
        have HBAD : Hid (okL l[k] = false → lightI l = false) := Lib.hid (fun h => by
          unfold lightI
          rw [List.all_eq_false.2 ⟨_, List.getElem_mem hlt, by simp [h]⟩]
          simp)
        have HOK : Hid (okL l[k] = (decide (l[k].name.size ≤ 100) && decide (l[k].marks.length ≤ 10))) := Lib.hid rfl
        generalize okL l[k] = r at *
        generalize l[k].name = nm at *
        generalize l[k].marks.length = ml at *
        have a0 : (0 : Int) ≤ k := by omega
        have a1 : (k : Int) < l.length := by omega
        have a2 : (k : Int) < 21 := by omega
        have hkw : IntKind.i64.wrap ((k : Int) + 1) = (k : Int) + 1 := by rw [IntKind.wrap_i64]; omega
        clear hm
        by_cases h1 : nm.size ≤ 100
        · have t1 : decide (100 < (nm.size : Int)) = false := decide_eq_false (by omega)
          by_cases h2 : ml ≤ 10
          · have t2 : decide (10 < (ml : Int)) = false := decide_eq_false (by omega)
            have HF : Hid ((l.take (k + 1)).all okL = true) := Lib.hid (by rw [HS.out, HALL.out, HOK.out, decide_eq_true h1, decide_eq_true h2]; rfl)
            clear HS HBAD HOK
            go_wp2_with fail
            go_roundw
            case rel => exact ⟨k + 1, by omega, by omega, by go_num, HF.out, trivial⟩
            case measure => simp [intOf]; omega
          · have t2 : decide (10 < (ml : Int)) = true := decide_eq_true (by omega)
            have HF := Lib.hid (HBAD.out (by rw [HOK.out, decide_eq_false h2]; simp))
            clear HS HBAD HOK
            go_wp2_with fail
            go_ret
            exact ⟨by rw [HF.out]; rfl, rfl⟩
        · have t1 : decide (100 < (nm.size : Int)) = true := decide_eq_true (by omega)
          have HF := Lib.hid (HBAD.out (by rw [HOK.out, decide_eq_false h1]; rfl))
          clear HS HBAD HOK
          go_wp2_with fail
          go_ret
          exact ⟨by rw [HF.out]; rfl, rfl⟩
      · have HF : Hid (lightI l = false) := Lib.hid (by unfold lightI; rw [decide_eq_false (by omega : ¬ l.length ≤ 20)]; rfl)
        have t1 : decide ((k : Int) < 21) = false := decide_eq_false (by omega)
        have t2 : decide ((l.length : Int) ≤ 20) = false := decide_eq_false (by omega)
        have a1 : (k : Int) < l.length := by omega
        clear HALL
        go_wp2_with fail
        go_ret
        exact ⟨by rw [HF.out]; rfl, rfl⟩
    · have hke : k = l.length := by omega
      have HF : Hid (lightI l = decide ((l.length : Int) ≤ 20)) := Lib.hid (by
        have := HALL.out
        rw [hke, List.take_length] at this
        unfold lightI
        rw [this, Bool.and_true]
        congr 1
        exact propext (by omega))
      clear HALL
      go_wp2_with fail
      go_ret
      exact ⟨by rw [HF.out]; rfl, rfl⟩
end Go.Proofs.YtjlhdgmcaiiagaaGreatDoor
