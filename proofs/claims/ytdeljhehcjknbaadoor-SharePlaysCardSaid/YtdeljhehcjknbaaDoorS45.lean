/- maps.Clone of a page's members walked: the copy is a new block with the same entries. -/
import Derived.Test.YtdeljhehcjknbaaDoorS44
import Derived.Shelf.SlMaps.Clone
namespace Go.Proofs.YtdeljhehcjknbaaDoor
open Go.RowKit Go.Maps Go.Sort Go.Lib

set_option maxRecDepth 100000 in
set_option maxHeartbeats 2000000 in
theorem clone_any (r : Nat) (m : List (ByteArray × Value)) (w : World) (h : MapIs w r m) :
    Calls Tryd.prog 39 #[.map (some r)] w fun e w' => e = .returned (.map (some w.heap.size)) ∧ MapIs w' w.heap.size m ∧ ∃ o, w' = w.alloc o := by
  obtain ⟨es, clk, hb, hs, he⟩ := h
  have HF : Hid (MapIs (w.alloc (.map es clk)) w.heap.size m) := Lib.hid ⟨es, clk, alloc_new _ _, hs, he⟩
  have HB := Lib.hid hb
  have hq := fun w => run_eql_map_nil_sl (P := Tryd.prog) w 78 _ _ (some r) Tryd.underlying78
  clear hb hs he
  go_enter Tryd.func39, Tryd.ntmps39
  go_wp2
  rw [run_callFunc_extern Tryd.func50 (by kernel_rfl) (by kernel_rfl) (by kernel_rfl) (e := Extern.MapsClone.clone) (by kernel_rfl), run_maps_clone_sl w 78 HB.out]
  simp only [Result.andThen]
  rw [Oper.upon_value]
  go_wp2
  rw [run_typeAssert_map_sl _ 78 20 _ _ _ Tryd.underlying78]
  simp only [Result.andThen]
  rw [Oper.upon_value]
  go_wp2
  go_ret
  exact ⟨rfl, HF.out, _, rfl⟩
end Go.Proofs.YtdeljhehcjknbaaDoor
