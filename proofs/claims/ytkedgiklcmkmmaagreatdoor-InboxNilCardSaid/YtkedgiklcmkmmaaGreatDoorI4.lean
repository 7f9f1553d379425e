/- An inbox of entries with zero carts in memory; New, none, Len, Room, Head. -/
import Derived.Test.YtkedgiklcmkmmaaGreatDoorI3
namespace Go.Proofs.YtkedgiklcmkmmaaGreatDoor
open Go.RowKit Go.Maps

/-- The ring: n entries in a block of G of its own; the queue stands in it from `first` on. -/
def RingIs (G : Nat → Prop) (w : World) (b : Nat) (rv : Value) (n first : Nat) (q : List ByteArray) : Prop :=
  (n = 0 → rv = .slice none 0 0 ∧ first = 0) ∧ (n ≠ 0 → first < n ∧ ∃ g C, rv = .slice (some ⟨g, 0, none⟩) n n ∧ G g ∧ g ≠ b ∧ w.heap[g]? = some (.cells C 41) ∧ C.size = n * 4 ∧ ∀ i (h : i < q.length) j, j < 4 → C[((first + i) % n) * 4 + j]? = (zE q[i])[j]?)
/-- The inbox at block b: its size, and the keys of its entries in order. -/
def Box (G : Nat → Prop) (w : World) (b size : Nat) (q : List ByteArray) : Prop :=
  G b ∧ 0 < size ∧ size ≤ 4096 ∧ (∀ k ∈ q, keyB k = true) ∧ ∃ (rv : Value) (n first : Nat), w.heap[b]? = some (.cells #[.int .i64 size, rv, .int .i64 first, .int .i64 q.length] 65) ∧ q.length ≤ n ∧ n ≤ size ∧ RingIs G w b rv n first q

theorem Box.of {G G' : Nat → Prop} {w w' : World} {b size : Nat} {q : List ByteArray} (h : Box G w b size q) (hG : ∀ k, G k → G' k) (hk : ∀ k, G k → k < w.heap.size → w'.heap[k]? = w.heap[k]?) : Box G' w' b size q := by
  obtain ⟨h1, h2, h3, h4, rv, n, first, h5, h6, h7, h8, h9⟩ := h
  refine ⟨hG b h1, h2, h3, h4, rv, n, first, by rw [hk b h1 (lt_of_heap h5)]; exact h5, h6, h7, h8, fun hn => ?_⟩
  obtain ⟨a1, g, C, a2, a3, a4, a5, a6⟩ := h9 hn
  exact ⟨a1, g, C, a2, hG g a3, a4, by rw [hk g a3 (lt_of_heap a5)]; exact a5, a6⟩
theorem Box.below {G : Nat → Prop} {w w' : World} {b size : Nat} {q : List ByteArray} (h : Box G w b size q) (hb : Below w.heap.size w w') : Box G w' b size q :=
  h.of (fun _ h => h) (fun k _ hk => hb.block k hk)
theorem Box.new (w : World) (size : Nat) (h1 : 0 < size) (h2 : size ≤ 4096) : Box (fun k => k = w.heap.size) (w.alloc (.cells #[.int .i64 size, .slice none 0 0, .int .i64 0, .int .i64 0] 65)) w.heap.size size [] :=
  ⟨rfl, h1, h2, by simp, .slice none 0 0, 0, 0, alloc_new _ _, Nat.le_refl _, Nat.zero_le _, fun _ => ⟨rfl, rfl⟩, fun h => absurd rfl h⟩

set_option maxRecDepth 100000 in
theorem new_ok (size : Nat) (h1 : 0 < size) (h2 : size ≤ 4096) (w : World) : Calls Tryz.prog 9 #[.int .i64 size] w fun e w' => e = .returned (.tuple #[.pointer (some ⟨w.heap.size, 0, none⟩), .int .i64 0]) ∧ w' = w.alloc (.cells #[.int .i64 size, .slice none 0 0, .int .i64 0, .int .i64 0] 65) := by
  have a1 : decide ((size : Int) < 1) = false := decide_eq_false (by omega)
  have a2 : decide (4096 < (size : Int)) = false := decide_eq_false (by omega)
  go_enter Tryz.func9, Tryz.ntmps9
  go_wp2
  go_ret2
  exact ⟨rfl, rfl⟩
set_option maxRecDepth 100000 in
theorem new_no (size : Int) (h : size < 1 ∨ 4096 < size) (w : World) : Calls Tryz.prog 9 #[.int .i64 size] w fun e w' => e = .returned (.tuple #[.pointer none, .int .i64 2]) ∧ w' = w := by
  by_cases h1 : size < 1
  · have a1 : decide (size < 1) = true := decide_eq_true h1
    clear h
    go_enter Tryz.func9, Tryz.ntmps9
    go_wp2
    go_ret2
    exact ⟨rfl, rfl⟩
  · have a1 : decide (size < 1) = false := decide_eq_false h1
    have a2 : decide (4096 < size) = true := decide_eq_true (by omega)
    clear h h1
    go_enter Tryz.func9, Tryz.ntmps9
    go_wp2
    go_ret2
    exact ⟨rfl, rfl⟩
section
variable {G : Nat → Prop} {w : World} {b size : Nat} {q : List ByteArray} (h : Box G w b size q)
include h
set_option maxRecDepth 100000 in
theorem none_any : Calls Tryz.prog 31 #[.pointer (some ⟨b, 0, none⟩)] w fun e w' => e = .returned (.bool false) ∧ w' = w := by
  obtain ⟨_, h2, _, _, rv, n, first, h5, _, _, _⟩ := h
  have c0 : w.cell? ⟨b, 0, none⟩ = some (.int .i64 size) := by rw [cell0 h5 0]; rfl
  have a1 : ((size : Int) == 0) = false := by simp; omega
  clear h5
  go_enter Tryz.func31, Tryz.ntmps31
  go_wp2
  go_ret
  exact ⟨rfl, rfl⟩
set_option maxRecDepth 100000 in
theorem len_any : Calls Tryz.prog 16 #[.pointer (some ⟨b, 0, none⟩)] w fun e w' => e = .returned (.int .i64 q.length) ∧ w' = w := by
  have HN := Lib.hid (none_any h)
  obtain ⟨_, h2, _, _, rv, n, first, h5, _, _, _⟩ := h
  have c3 : w.cell? ⟨b, 3, none⟩ = some (.int .i64 q.length) := by rw [cell0 h5 3]; rfl
  clear h5
  go_enter Tryz.func16, Tryz.ntmps16
  go_wp2_with (go_at_call 31; refine HN.out.mono ?_; rintro e w1 ⟨rfl, rfl⟩)
  go_ret
  exact ⟨rfl, rfl⟩
set_option maxRecDepth 100000 in
theorem room_any : Calls Tryz.prog 17 #[.pointer (some ⟨b, 0, none⟩)] w fun e w' => e = .returned (.int .i64 ((size : Int) - q.length)) ∧ ∃ n, w' = w.drewN n := by
  have HN := Lib.hid (none_any h)
  obtain ⟨_, h2, h3, _, rv, n, first, h5, h6, h7, _⟩ := h
  have c0 : w.cell? ⟨b, 0, none⟩ = some (.int .i64 size) := by rw [cell0 h5 0]; rfl
  have c3 : w.cell? ⟨b, 3, none⟩ = some (.int .i64 q.length) := by rw [cell0 h5 3]; rfl
  have hwr : IntKind.i64.wrap ((size : Int) - q.length) = (size : Int) - q.length := by rw [IntKind.wrap_i64]; omega
  clear h5
  go_enter Tryz.func17, Tryz.ntmps17
  go_wp2_with (go_at_call 31; refine HN.out.mono ?_; rintro e w1 ⟨rfl, rfl⟩)
  go_quiet (fail)
  go_wp2
  go_ret
  exact ⟨rfl, _, rfl⟩
end
end Go.Proofs.YtkedgiklcmkmmaaGreatDoor
