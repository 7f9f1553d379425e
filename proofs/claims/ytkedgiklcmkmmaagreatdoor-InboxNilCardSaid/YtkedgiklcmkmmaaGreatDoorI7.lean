/- The law's same, heads. -/
import Derived.Test.YtkedgiklcmkmmaaGreatDoorI5
import Derived.Test.YtkedgiklcmkmmaaGreatDoorI6
namespace Go.Proofs.YtkedgiklcmkmmaaGreatDoor
open Go.RowKit Go.Maps

theorem rd_one (w : World) (k : ByteArray) (w' : World) (hb : Below (w.heap.size + 1) (w.alloc (.cells #[.string k, .slice none 0 0, .slice none 0 0, .slice none 0 0] 41)) w') : Rd w' (.slice (some ⟨w.heap.size, 0, none⟩) 1 1) 4 [k].length (flatE [k]) := by
  refine ⟨_, _, rfl, by simp [flatE, zE], by unfold maxLen; simp, fun _ => ⟨_, rfl, by have := hb.size; simp at this; omega, fun j u h => ?_⟩⟩
  rw [hb.cell (p := ⟨w.heap.size, j, none⟩) (by simp)]
  rw [cell0 (alloc_new _ _)]
  simpa [flatE, zE] using h

set_option maxRecDepth 100000 in
set_option maxHeartbeats 2000000 in
theorem same_any (k1 k2 : ByteArray) (e1 e2 : Int) (w : World) :
    Calls Tryz.prog 28 #[.agg #[.string k1, .slice none 0 0, .slice none 0 0, .slice none 0 0], .int .i64 e1, .agg #[.string k2, .slice none 0 0, .slice none 0 0, .slice none 0 0], .int .i64 e2] w fun e w' => e = .returned (.bool (decide (k1 = k2) && (e1 == e2))) ∧ Below w.heap.size w w' := by
  obtain ⟨W1, hW1⟩ : ∃ W1, W1 = (((w.alloc (.cells #[.string k1, .slice none 0 0, .slice none 0 0, .slice none 0 0] 41)).alloc (.cells #[.string k2, .slice none 0 0, .slice none 0 0, .slice none 0 0] 41)).alloc (.cells #[.string k1, .slice none 0 0, .slice none 0 0, .slice none 0 0] 41)).alloc (.cells #[.string k2, .slice none 0 0, .slice none 0 0, .slice none 0 0] 41) := ⟨_, rfl⟩
  have hb1 : Below w.heap.size w W1 := by rw [hW1]; exact ((((Below.refl _ _).alloc (Nat.le_refl _) _).alloc (by simp) _).alloc (by simp; omega) _).alloc (by simp; omega) _
  have hr1 : Rd W1 (.slice (some ⟨w.heap.size + 2, 0, none⟩) 1 1) 4 [k1].length (flatE [k1]) := by
    have := rd_one ((w.alloc (.cells #[.string k1, .slice none 0 0, .slice none 0 0, .slice none 0 0] 41)).alloc (.cells #[.string k2, .slice none 0 0, .slice none 0 0, .slice none 0 0] 41)) k1 W1 (by rw [hW1]; exact (Below.refl _ _).alloc (by simp) _)
    simpa only [alloc_size] using this
  have hr2 : Rd W1 (.slice (some ⟨w.heap.size + 3, 0, none⟩) 1 1) 4 [k2].length (flatE [k2]) := by
    have := rd_one (((w.alloc (.cells #[.string k1, .slice none 0 0, .slice none 0 0, .slice none 0 0] 41)).alloc (.cells #[.string k2, .slice none 0 0, .slice none 0 0, .slice none 0 0] 41)).alloc (.cells #[.string k1, .slice none 0 0, .slice none 0 0, .slice none 0 0] 41)) k2 W1 (by rw [hW1]; exact Below.refl _ _)
    simpa only [alloc_size] using this
  have HE := Lib.hid ((entSame_any _ _ [k1] [k2] W1 hr1 hr2).mono (fun e w' h => show e = .returned (.bool (decide (k1 = k2))) ∧ Below W1.heap.size W1 w' from ⟨by rw [h.1]; simp, h.2⟩))
  have hs1 : w.heap.size ≤ W1.heap.size := hb1.size
  have HB1 := Lib.hid hb1
  clear hr1 hr2 hb1
  go_enter Tryz.func28, Tryz.ntmps28
  go_wp2_with fail
  rw [← hW1]
  refine HE.out.mono ?_
  rintro e w3 ⟨rfl, hb3⟩
  clear hW1
  clear HE
  by_cases hk : k1 = k2
  · rw [decide_eq_true hk]
    have HK := Lib.hid hk
    clear hk
    go_wp2_with fail
    go_ret
    exact ⟨by rw [decide_eq_true HK.out]; simp, HB1.out.trans (hb3.mono hs1)⟩
  · rw [decide_eq_false hk]
    have HK := Lib.hid hk
    clear hk
    go_wp2_with fail
    go_ret
    exact ⟨by rw [decide_eq_false HK.out]; simp, HB1.out.trans (hb3.mono hs1)⟩

/-- What Head answers: the first key and no error, or the empty entry and ErrNone. -/
def headK : List ByteArray → ByteArray × Int
  | [] => (⟨#[]⟩, 9)
  | k :: _ => (k, 0)
theorem head_any {G : Nat → Prop} {w : World} {b size : Nat} {q : List ByteArray} (h : Box G w b size q) : Calls Tryz.prog 21 #[.pointer (some ⟨b, 0, none⟩)] w fun e w' => e = .returned (.tuple #[.agg #[.string (headK q).1, .slice none 0 0, .slice none 0 0, .slice none 0 0], .int .i64 (headK q).2]) ∧ Below w.heap.size w w' := by
  cases q with
  | nil => exact head_none h
  | cons k q => exact head_some h
set_option maxRecDepth 100000 in
set_option maxHeartbeats 2000000 in
theorem heads_any {G : Nat → Prop} {w : World} {b size : Nat} {q : List ByteArray} (h : Box G w b size q) (k : ByteArray) (e0 : Int) :
    Calls Tryz.prog 14 #[.pointer (some ⟨b, 0, none⟩), .agg #[.string k, .slice none 0 0, .slice none 0 0, .slice none 0 0], .int .i64 e0] w fun e w' => e = .returned (.bool (decide ((headK q).1 = k) && ((headK q).2 == e0))) ∧ Below w.heap.size w w' := by
  obtain ⟨W1, hW1⟩ : ∃ W1, W1 = w.alloc (.cells #[.string k, .slice none 0 0, .slice none 0 0, .slice none 0 0] 41) := ⟨_, rfl⟩
  have hb1 : Below w.heap.size w W1 := by rw [hW1]; exact (Below.refl _ _).alloc (Nat.le_refl _) _
  have hz1 : w.heap.size < W1.heap.size := by rw [hW1]; simp
  have hc1 : W1.heap[w.heap.size]? = some (.cells #[.string k, .slice none 0 0, .slice none 0 0, .slice none 0 0] 41) := by rw [hW1]; exact alloc_new _ _
  have HH := Lib.hid (head_any (h.below hb1))
  have HS := Lib.hid (fun k1 e1 w0 => same_any k1 k e1 e0 w0)
  generalize (headK q).1 = hk at *
  generalize (headK q).2 = he at *
  clear h
  have HB1 := Lib.hid hb1
  have HC1 := Lib.hid hc1
  clear hb1 hc1
  go_enter Tryz.func14, Tryz.ntmps14
  go_wp2_with fail
  rw [← hW1]
  refine HH.out.mono ?_
  rintro e w2 ⟨rfl, hb2⟩
  clear hW1
  have hc2 : w2.heap[w.heap.size]? = some (.cells #[.string k, .slice none 0 0, .slice none 0 0, .slice none 0 0] 41) := by rw [hb2.block _ hz1]; exact HC1.out
  have hz2 : w.heap.size < w2.heap.size := Nat.lt_of_lt_of_le hz1 hb2.size
  have c0 : w2.cell? ⟨w.heap.size, 0, none⟩ = some (.string k) := by rw [cell0 hc2 0]; rfl
  have c1 : w2.cell? ⟨w.heap.size, 1, none⟩ = some (.slice none 0 0) := by rw [cell0 hc2 1]; rfl
  have c2 : w2.cell? ⟨w.heap.size, 2, none⟩ = some (.slice none 0 0) := by rw [cell0 hc2 2]; rfl
  have c3 : w2.cell? ⟨w.heap.size, 3, none⟩ = some (.slice none 0 0) := by rw [cell0 hc2 3]; rfl
  have HB2 := Lib.hid (HB1.out.trans (hb2.mono (Nat.le_of_lt hz1)))
  clear hb2 hc2 HH
  go_wp2_with (go_at_call 28; refine (HS.out _ _ _).mono ?_; rintro e w3 ⟨rfl, hb3⟩)
  go_ret
  exact ⟨rfl, (HB2.out.alloc (Nat.le_of_lt hz2) _).trans (hb3.mono (by simp; omega))⟩
end Go.Proofs.YtkedgiklcmkmmaaGreatDoor
