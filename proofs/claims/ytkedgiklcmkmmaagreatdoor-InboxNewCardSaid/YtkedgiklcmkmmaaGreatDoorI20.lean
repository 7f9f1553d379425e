/- Stain of entries whose carts are zero. -/
import Derived.Test.YtkedgiklcmkmmaaGreatDoorI6
namespace Go.Proofs.YtkedgiklcmkmmaaGreatDoor
open Go.RowKit Go.Maps

set_option maxRecDepth 100000 in
set_option maxHeartbeats 2000000 in
theorem cartStain_zero (w : World) : Calls Tryz.prog 39 #[.agg #[.slice none 0 0, .slice none 0 0, .slice none 0 0]] w fun e w' => e = .returned (.tuple #[]) ∧ Below w.heap.size w w' := by
  go_enter Tryz.func39, Tryz.ntmps39
  go_wp2
  refine wp_loop_rounds 3 ?_
  rw [rounds_succ]
  go_wp2
  refine wp_loop_rounds 1 ?_
  rw [rounds_succ]
  go_wp2
  rw [rounds_succ]
  go_wp2
  refine wp_loop_rounds 1 ?_
  rw [rounds_succ]
  go_wp2
  rw [rounds_succ]
  go_wp2
  refine wp_loop_rounds 1 ?_
  rw [rounds_succ]
  go_wp2
  refine bodyPost_end (results_none rfl _ _ _) rfl ?_
  exact ⟨rfl, ((Below.refl _ _).alloc (Nat.le_refl _) _).alloc (by simp) _⟩

set_option maxRecDepth 100000 in
theorem stain_nil (a : Option Addr) (c : Nat) (w : World) : Calls Tryz.prog 26 #[.slice a 0 c] w fun e w' => e = .returned (.tuple #[]) ∧ w' = w := by
  go_enter Tryz.func26, Tryz.ntmps26
  go_wp2
  refine wp_loop_rounds 1 ?_
  rw [rounds_succ]
  go_wp2
  refine bodyPost_end (results_none rfl _ _ _) rfl ?_
  exact ⟨rfl, rfl⟩

set_option maxRecDepth 100000 in
set_option maxHeartbeats 2000000 in
theorem stain_one (B g : Nat) (w : World) (hB : B ≤ g) (hg : w.heap[g]? = some (.cells #[.string ⟨#[]⟩, .slice none 0 0, .slice none 0 0, .slice none 0 0] 41)) : Calls Tryz.prog 26 #[.slice (some ⟨g, 0, none⟩) 1 1] w fun e w' => e = .returned (.tuple #[]) ∧ Below B w w' := by
  have hgl := lt_of_heap hg
  have HG := Lib.hid hg
  have c1 : w.cell? ⟨g, 1, none⟩ = some (.slice none 0 0) := by rw [cell0 hg 1]; rfl
  have c2 : w.cell? ⟨g, 2, none⟩ = some (.slice none 0 0) := by rw [cell0 hg 2]; rfl
  have c3 : w.cell? ⟨g, 3, none⟩ = some (.slice none 0 0) := by rw [cell0 hg 3]; rfl
  clear hg
  go_enter Tryz.func26, Tryz.ntmps26
  go_wp2
  refine wp_loop_rounds 2 ?_
  rw [rounds_succ]
  go_wp2_with fail
  refine (cartStain_zero _).mono ?_
  rintro e w1 ⟨rfl, hb1⟩
  have hg1 : w1.heap[g]? = some (.cells #[.string ⟨#[]⟩, .slice none 0 0, .slice none 0 0, .slice none 0 0] 41) := by rw [hb1.block _ hgl]; exact HG.out
  have d0 : w1.cell? ⟨g, 0, none⟩ = some (.string ⟨#[]⟩) := by rw [cell0 hg1 0]; rfl
  have f0 : w1.frozen? ⟨g, 0, none⟩ = false := froz0 hg1 0
  have HB1 := Lib.hid hb1
  clear hg1 hb1 c1 c2 c3
  go_wp2_with fail
  rw [rounds_succ]
  go_wp2_with fail
  refine bodyPost_end (results_none rfl _ _ _) rfl ?_
  exact ⟨rfl, (HB1.out.mono (by omega)).setCell hB _⟩
end Go.Proofs.YtkedgiklcmkmmaaGreatDoor
