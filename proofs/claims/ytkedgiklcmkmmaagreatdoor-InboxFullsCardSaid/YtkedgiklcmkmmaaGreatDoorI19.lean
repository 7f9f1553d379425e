/- The queue of entries with numbers. -/
import Derived.Test.YtkedgiklcmkmmaaGreatDoorI17
namespace Go.Proofs.YtkedgiklcmkmmaaGreatDoor
open Go.RowKit Go.Maps

/-- The entries with the numbers from a up to b. -/
def qE (a b : Nat) : List ByteArray := (List.range' a (b - a)).map kE
theorem qE_len (a b : Nat) : (qE a b).length = b - a := by simp [qE]
theorem qE_nil (a : Nat) : qE a a = [] := by simp [qE]
theorem qE_put {a b c : Nat} (h : a ≤ b) (h2 : b ≤ c) : qE a b ++ qE b c = qE a c := by
  unfold qE
  rw [← List.map_append]
  have := List.range'_append (s := a) (m := b - a) (n := c - b) (step := 1)
  rw [show a + 1 * (b - a) = b by omega, show (b - a) + (c - b) = c - a by omega] at this
  rw [this]
theorem qE_cons {a b : Nat} (h : a < b) : qE a b = kE a :: qE (a + 1) b := by
  unfold qE
  rw [show b - a = (b - (a + 1)) + 1 by omega, List.range'_succ, List.map_cons]
theorem qE_snoc {a b : Nat} (h : a ≤ b) : qE a (b + 1) = qE a b ++ [kE b] := by
  rw [← qE_put h (Nat.le_succ b), qE_cons (Nat.lt_succ_self b), qE_nil]
theorem qE_head {a b : Nat} (h : a < b) : headK (qE a b) = (kE a, 0) := by rw [qE_cons h]; rfl
theorem qE_tail {a b : Nat} (h : a < b) : (qE a b).tail = qE (a + 1) b := by rw [qE_cons h]; rfl
theorem qE_keys (a b : Nat) : ∀ k ∈ qE a b, keyB k = true := by
  intro k hk
  unfold qE at hk
  obtain ⟨i, _, rfl⟩ := List.mem_map.1 hk
  exact kE_key i
theorem Touch.toBelow {G : Nat → Prop} {a w : World} {B : Nat} (h : Touch G a w) (hG : ∀ k, G k → B ≤ k) (hB : B ≤ a.heap.size) : Below B a w :=
  ⟨h.2.2.1, h.2.2.2.1, h.2.2.2.2, h.2.1, fun k hk => h.1 k (Nat.lt_of_lt_of_le hk hB) (fun hg => absurd (hG k hg) (by omega))⟩
end Go.Proofs.YtkedgiklcmkmmaaGreatDoor
