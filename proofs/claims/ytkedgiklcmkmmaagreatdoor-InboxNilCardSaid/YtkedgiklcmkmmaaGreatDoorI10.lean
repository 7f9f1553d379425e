/- The law's takes. -/
import Derived.Test.YtkedgiklcmkmmaaGreatDoorI9
namespace Go.Proofs.YtkedgiklcmkmmaaGreatDoor
open Go.RowKit Go.Maps

/-- w' came out of w; of the blocks that were there, those of G alone were written. -/
def Touch (G : Nat → Prop) (w w' : World) : Prop :=
  (∀ j, j < w.heap.size → ¬ G j → w'.heap[j]? = w.heap[j]?) ∧ w.heap.size ≤ w'.heap.size ∧ w'.os = w.os ∧ w'.tape = w.tape ∧ w'.output = w.output
theorem Touch.of_below {G : Nat → Prop} {w w' : World} (h : Below w.heap.size w w') : Touch G w w' := ⟨fun j hj _ => h.block j hj, h.size, h.os, h.tape, h.output⟩
theorem Touch.trans {G : Nat → Prop} {a b c : World} (h : Touch G a b) (k : Touch G b c) : Touch G a c :=
  ⟨fun j hj hG => (k.1 j (Nat.lt_of_lt_of_le hj h.2.1) hG).trans (h.1 j hj hG), Nat.le_trans h.2.1 k.2.1, k.2.2.1.trans h.2.2.1, k.2.2.2.1.trans h.2.2.2.1, k.2.2.2.2.trans h.2.2.2.2⟩
theorem Touch.sub {G G' : Nat → Prop} {w w' : World} (h : Touch G w w') (hG : ∀ k, k < w.heap.size → G k → G' k) : Touch G' w w' :=
  ⟨fun j hj hn => h.1 j hj (fun hg => hn (hG j hj hg)), h.2⟩
theorem Box.low {G : Nat → Prop} {w : World} {b size : Nat} {q : List ByteArray} (h : Box G w b size q) : Box (fun k => G k ∧ k < w.heap.size) w b size q := by
  obtain ⟨h1, h2, h3, h4, rv, n, first, h5, h6, h7, h8, h9⟩ := h
  refine ⟨⟨h1, lt_of_heap h5⟩, h2, h3, h4, rv, n, first, h5, h6, h7, h8, fun hn => ?_⟩
  obtain ⟨a1, g, C, a2, a3, a4, a5, a6⟩ := h9 hn
  exact ⟨a1, g, C, a2, ⟨a3, lt_of_heap a5⟩, a4, a5, a6⟩
theorem Box.sub {G G' : Nat → Prop} {w : World} {b size : Nat} {q : List ByteArray} (h : Box G w b size q) (hG : ∀ k, G k → G' k) : Box G' w b size q := h.of hG (fun _ _ _ => rfl)

theorem take_any {G : Nat → Prop} {w : World} {b size : Nat} {q : List ByteArray} (h : Box G w b size q) : Calls Tryz.prog 23 #[.pointer (some ⟨b, 0, none⟩)] w fun e w' => e = .returned (.tuple #[.agg #[.string (headK q).1, .slice none 0 0, .slice none 0 0, .slice none 0 0], .int .i64 (headK q).2]) ∧ Box G w' b size q.tail ∧ Touch G w w' := by
  cases q with
  | nil => exact (take_none h).mono (fun e w' ⟨h1, h2⟩ => ⟨h1, h.below h2, .of_below h2⟩)
  | cons k q => exact take_some h

set_option maxRecDepth 100000 in
set_option maxHeartbeats 2000000 in
theorem takes_any {G : Nat → Prop} {w : World} {b size : Nat} {q : List ByteArray} (h : Box G w b size q) (k : ByteArray) (e0 : Int) :
    Calls Tryz.prog 15 #[.pointer (some ⟨b, 0, none⟩), .agg #[.string k, .slice none 0 0, .slice none 0 0, .slice none 0 0], .int .i64 e0] w fun e w' => e = .returned (.bool (decide ((headK q).1 = k) && ((headK q).2 == e0))) ∧ Box G w' b size q.tail ∧ Touch G w w' := by
  obtain ⟨W1, hW1⟩ : ∃ W1, W1 = w.alloc (.cells #[.string k, .slice none 0 0, .slice none 0 0, .slice none 0 0] 41) := ⟨_, rfl⟩
  have hb1 : Below w.heap.size w W1 := by rw [hW1]; exact (Below.refl _ _).alloc (Nat.le_refl _) _
  have hz1 : w.heap.size < W1.heap.size := by rw [hW1]; simp
  have hc1 : W1.heap[w.heap.size]? = some (.cells #[.string k, .slice none 0 0, .slice none 0 0, .slice none 0 0] 41) := by rw [hW1]; exact alloc_new _ _
  have HH := Lib.hid (take_any (h.low.below hb1))
  have HS := Lib.hid (fun k1 e1 w0 => same_any k1 k e1 e0 w0)
  generalize (headK q).1 = hk at *
  generalize (headK q).2 = he at *
  clear h
  have HB1 := Lib.hid hb1
  have HC1 := Lib.hid hc1
  clear hb1 hc1
  go_enter Tryz.func15, Tryz.ntmps15
  go_wp2_with fail
  rw [← hW1]
  refine HH.out.mono ?_
  rintro e w2 ⟨rfl, hbx, hb2⟩
  clear hW1
  have hc2 : w2.heap[w.heap.size]? = some (.cells #[.string k, .slice none 0 0, .slice none 0 0, .slice none 0 0] 41) := by rw [hb2.1 _ hz1 (fun h => Nat.lt_irrefl _ h.2)]; exact HC1.out
  have hz2 : w.heap.size < w2.heap.size := Nat.lt_of_lt_of_le hz1 hb2.2.1
  have c0 : w2.cell? ⟨w.heap.size, 0, none⟩ = some (.string k) := by rw [cell0 hc2 0]; rfl
  have c1 : w2.cell? ⟨w.heap.size, 1, none⟩ = some (.slice none 0 0) := by rw [cell0 hc2 1]; rfl
  have c2 : w2.cell? ⟨w.heap.size, 2, none⟩ = some (.slice none 0 0) := by rw [cell0 hc2 2]; rfl
  have c3 : w2.cell? ⟨w.heap.size, 3, none⟩ = some (.slice none 0 0) := by rw [cell0 hc2 3]; rfl
  have HB2 := Lib.hid ((Touch.of_below HB1.out).trans (hb2.sub (fun k _ h => h.1)))
  have HBX := Lib.hid (hbx.sub (fun k h => h.1))
  clear hb2 hc2 HH hbx
  go_wp2_with (go_at_call 28; refine (HS.out _ _ _).mono ?_; rintro e w3 ⟨rfl, hb3⟩)
  go_ret
  have hb4 := ((Below.refl _ _).alloc (Nat.le_refl _) _).trans (hb3.mono (by simp))
  exact ⟨rfl, HBX.out.below hb4, HB2.out.trans (.of_below hb4)⟩
end Go.Proofs.YtkedgiklcmkmmaaGreatDoor
