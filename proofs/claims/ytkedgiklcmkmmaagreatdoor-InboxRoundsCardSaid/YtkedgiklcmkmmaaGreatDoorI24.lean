/- An inbox through which entries with numbers go. -/
import Derived.Test.YtkedgiklcmkmmaaGreatDoorI14
import Derived.Test.YtkedgiklcmkmmaaGreatDoorI19
namespace Go.Proofs.YtkedgiklcmkmmaaGreatDoor
open Go.RowKit Go.Maps

/-- The inbox at block B, all of it from B on, that holds the entries from a up to b. -/
def RB (B : Nat) (w : World) (size a b : Nat) : Prop := Box (fun k => B ≤ k) w B size (qE a b)
theorem RB.lt {B : Nat} {w : World} {size a b : Nat} (h : RB B w size a b) : B < w.heap.size := by
  obtain ⟨_, _, _, _, _, _, _, h5, _⟩ := h
  exact lt_of_heap h5
theorem RB.below {B : Nat} {w w' : World} {size a b : Nat} (h : RB B w size a b) (hb : Below w.heap.size w w') : RB B w' size a b ∧ Below B w w' :=
  ⟨Box.below h hb, hb.mono (Nat.le_of_lt h.lt)⟩
section
variable {B : Nat} {w : World} {size a b : Nat} (h : RB B w size a b)
include h
theorem rb_entry (i : Nat) (hi : i < 10000) : Calls Tryz.prog 12 #[.int .i64 i] w fun e w' => e = .returned (.agg #[.string (kE i), .slice none 0 0, .slice none 0 0, .slice none 0 0]) ∧ RB B w' size a b ∧ Below B w w' :=
  (entry_any i hi w).mono fun _ _ ⟨h1, h2⟩ => ⟨h1, h.below h2⟩
theorem rb_heads (hab : a < b) : Calls Tryz.prog 14 #[.pointer (some ⟨B, 0, none⟩), .agg #[.string (kE a), .slice none 0 0, .slice none 0 0, .slice none 0 0], .int .i64 0] w fun e w' => e = .returned (.bool true) ∧ RB B w' size a b ∧ Below B w w' :=
  (heads_any h (kE a) 0).mono fun _ _ ⟨h1, h2⟩ => ⟨by rw [h1, qE_head hab]; simp, h.below h2⟩
theorem rb_takes (hab : a < b) : Calls Tryz.prog 15 #[.pointer (some ⟨B, 0, none⟩), .agg #[.string (kE a), .slice none 0 0, .slice none 0 0, .slice none 0 0], .int .i64 0] w fun e w' => e = .returned (.bool true) ∧ RB B w' size (a + 1) b ∧ Below B w w' :=
  (takes_any h (kE a) 0).mono fun _ _ ⟨h1, h2, h3⟩ => ⟨by rw [h1, qE_head hab]; simp, by rw [qE_tail hab] at h2; exact h2, h3.toBelow (fun _ hk => hk) (Nat.le_of_lt h.lt)⟩
theorem rb_len (hab : a ≤ b) : Calls Tryz.prog 16 #[.pointer (some ⟨B, 0, none⟩)] w fun e w' => e = .returned (.int .i64 ((b : Int) - a)) ∧ RB B w' size a b ∧ Below B w w' :=
  (len_any h).mono fun _ _ ⟨h1, h2⟩ => ⟨by rw [h1, qE_len, Int.ofNat_sub hab], by subst h2; exact ⟨h, Below.refl _ _⟩⟩
theorem rb_room (hab : a ≤ b) : Calls Tryz.prog 17 #[.pointer (some ⟨B, 0, none⟩)] w fun e w' => e = .returned (.int .i64 ((size : Int) - b + a)) ∧ RB B w' size a b ∧ Below B w w' :=
  (room_any h).mono fun _ _ ⟨h1, _, h2⟩ => ⟨by rw [h1, qE_len, Int.ofNat_sub hab]; congr 2; omega, h2 ▸ h.below (Below.refl _ _).drewN⟩
theorem rb_put_ok (hab : a ≤ b) (n base : Nat) (hn : n ≤ 10000) (hfit : b - a + n ≤ size) (v : Value) (hr : w.ownsRow base 41 4 v n (flatE (qE b (b + n)))) :
    Calls Tryz.prog 13 #[.pointer (some ⟨B, 0, none⟩), v] w fun e w' => e = .returned (.int .i64 0) ∧ RB B w' size a (b + n) ∧ Below B w w' := by
  have hl : (qE b (b + n)).length = n := by rw [qE_len]; omega
  have hrd := Rd.of_own hr (by unfold maxLen; omega)
  rw [← hl] at hrd
  rw [show qE b (b + (qE b (b + n)).length) = qE b (b + n) by rw [hl]] at hrd
  have hc : (qE a b).length + (qE b (b + n)).length ≤ size := by rw [hl, qE_len]; exact hfit
  refine (put_any h (qE b (b + n)) v hrd (qE_keys _ _) (by omega)).mono fun _ _ ⟨h1, h2, h3⟩ => ⟨by rw [h1, if_pos hc], ?_, h3.toBelow (fun _ hk => hk) (Nat.le_of_lt h.lt)⟩
  rw [if_pos hc, qE_put hab (Nat.le_add_right _ _)] at h2
  exact h2.sub (fun k hk => hk.elim id (fun hk => Nat.le_of_lt (Nat.lt_of_lt_of_le h.lt hk)))
theorem rb_put_no (n base : Nat) (hn : n ≤ 10000) (hfit : ¬ b - a + n ≤ size) (v : Value) (hr : w.ownsRow base 41 4 v n (flatE (qE b (b + n)))) :
    Calls Tryz.prog 13 #[.pointer (some ⟨B, 0, none⟩), v] w fun e w' => e = .returned (.int .i64 11) ∧ RB B w' size a b ∧ Below B w w' := by
  have hl : (qE b (b + n)).length = n := by rw [qE_len]; omega
  have hrd := Rd.of_own hr (by unfold maxLen; omega)
  rw [← hl] at hrd
  rw [show qE b (b + (qE b (b + n)).length) = qE b (b + n) by rw [hl]] at hrd
  have hc : ¬ (qE a b).length + (qE b (b + n)).length ≤ size := by rw [hl, qE_len]; exact hfit
  refine (put_any h (qE b (b + n)) v hrd (qE_keys _ _) (by omega)).mono fun _ _ ⟨h1, h2, h3⟩ => ⟨by rw [h1, if_neg hc], ?_, h3.toBelow (fun _ hk => hk) (Nat.le_of_lt h.lt)⟩
  rw [if_neg hc] at h2
  exact h2.sub (fun k hk => hk.elim id (fun hk => Nat.le_of_lt (Nat.lt_of_lt_of_le h.lt hk)))
end
theorem rb_new (w : World) (size : Nat) (h1 : 0 < size) (h2 : size ≤ 4096) : RB w.heap.size (w.alloc (.cells #[.int .i64 size, .slice none 0 0, .int .i64 0, .int .i64 0] 65)) size 0 0 := by
  have := Box.new w size h1 h2
  unfold RB
  rw [qE_nil]
  exact this.sub (fun k hk => by omega)
end Go.Proofs.YtkedgiklcmkmmaaGreatDoor
