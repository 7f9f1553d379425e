/- The box of the chapter's examples: above three entries in memory. -/
import Derived.Test.YtkedgiklcmkmmaaGreatDoorI14
import Derived.Test.YtkedgiklcmkmmaaGreatDoorI15
import Derived.Deep.RegionHeld3
namespace Go.Proofs.YtkedgiklcmkmmaaGreatDoor
open Go.RowKit Go.Maps

theorem rd_list (w : World) (l : List ByteArray) (C : Array Value) (hC : C.toList = flatE l) (hl : l.length ≤ maxLen) : Rd (w.alloc (.cells C 41)) (.slice (some ⟨w.heap.size, 0, none⟩) l.length l.length) 4 l.length (flatE l) := by
  refine ⟨_, _, rfl, flatE_len l, hl, fun _ => ⟨_, rfl, by simp, fun j u h => ?_⟩⟩
  rw [cell0 (alloc_new _ _), ← Array.getElem?_toList, hC]
  exact h

theorem below_le {A B : Nat} {a w : World} (h : Below B a w) (hAB : A ≤ B) : Below A a w := ⟨h.os, h.tape, h.output, h.size, fun k hk => h.block k (Nat.lt_of_lt_of_le hk hAB)⟩

/-- The three entries. -/
def KnW (B : Nat) (w : World) : Prop :=
  w.heap[B]? = some (.cells #[.string ⟨#[120]⟩, .slice none 0 0, .slice none 0 0, .slice none 0 0] 41) ∧ w.heap[B + 1]? = some (.cells #[.string ⟨#[121]⟩, .slice none 0 0, .slice none 0 0, .slice none 0 0] 41) ∧ w.heap[B + 1 + 1]? = some (.cells #[.string ⟨#[122]⟩, .slice none 0 0, .slice none 0 0, .slice none 0 0] 41)
/-- The box with size two that lies above them. -/
def KN (B : Nat) (w : World) (b : Nat) (q : List ByteArray) : Prop := Box (fun k => B + 1 + 1 < k) w b 2 q ∧ KnW B w

theorem KnW.lt {B : Nat} {w : World} (h : KnW B w) : B + 1 + 1 < w.heap.size := lt_of_heap h.2.2
theorem KnW.below {B n : Nat} {w w' : World} (h : KnW B w) (hb : Below n w w') (hn : B + 1 + 1 < n) : KnW B w' :=
  ⟨by rw [hb.block _ (by omega)]; exact h.1, by rw [hb.block _ (by omega)]; exact h.2.1, by rw [hb.block _ (by omega)]; exact h.2.2⟩
theorem KnW.touch {B : Nat} {w w' : World} (h : KnW B w) (ht : Touch (fun k => B + 1 + 1 < k) w w') : KnW B w' ∧ Below B w w' := by
  have hl := h.lt
  refine ⟨⟨?_, ?_, ?_⟩, ht.2.2.1, ht.2.2.2.1, ht.2.2.2.2, ht.2.1, fun k hk => ht.1 k (by omega) (by omega)⟩
  · rw [ht.1 _ (by omega) (by omega)]; exact h.1
  · rw [ht.1 _ (by omega) (by omega)]; exact h.2.1
  · rw [ht.1 _ (by omega) (by omega)]; exact h.2.2
theorem KnW.facts {B : Nat} {w : World} (h : KnW B w) :
    w.cell? ⟨B, 0, none⟩ = some (.string ⟨#[120]⟩) ∧ w.cell? ⟨B, 1, none⟩ = some (.slice none 0 0) ∧ w.cell? ⟨B, 2, none⟩ = some (.slice none 0 0) ∧ w.cell? ⟨B, 3, none⟩ = some (.slice none 0 0) ∧
    w.cell? ⟨B + 1, 0, none⟩ = some (.string ⟨#[121]⟩) ∧ w.cell? ⟨B + 1, 1, none⟩ = some (.slice none 0 0) ∧ w.cell? ⟨B + 1, 2, none⟩ = some (.slice none 0 0) ∧ w.cell? ⟨B + 1, 3, none⟩ = some (.slice none 0 0) ∧
    w.cell? ⟨B + 1 + 1, 0, none⟩ = some (.string ⟨#[122]⟩) ∧ w.cell? ⟨B + 1 + 1, 1, none⟩ = some (.slice none 0 0) ∧ w.cell? ⟨B + 1 + 1, 2, none⟩ = some (.slice none 0 0) ∧ w.cell? ⟨B + 1 + 1, 3, none⟩ = some (.slice none 0 0) := by
  obtain ⟨h1, h2, h3⟩ := h
  refine ⟨?_, ?_, ?_, ?_, ?_, ?_, ?_, ?_, ?_, ?_, ?_, ?_⟩ <;> first | (rw [cell0 h1]; rfl) | (rw [cell0 h2]; rfl) | (rw [cell0 h3]; rfl)
theorem KN.touch {B : Nat} {w w' : World} {b : Nat} {q q2 : List ByteArray} (h : KN B w b q) (hb : Box (fun k => B + 1 + 1 < k) w' b 2 q2) (ht : Touch (fun k => B + 1 + 1 < k) w w') : KN B w' b q2 ∧ Below B w w' :=
  ⟨⟨hb, (h.2.touch ht).1⟩, (h.2.touch ht).2⟩
theorem KN.below {B : Nat} {w w' : World} {b : Nat} {q : List ByteArray} (h : KN B w b q) (hb : Below w.heap.size w w') : KN B w' b q ∧ Below B w w' :=
  h.touch (h.1.below hb) (.of_below hb)
theorem KN.le {B : Nat} {w : World} {b : Nat} {q : List ByteArray} (h : KN B w b q) : B ≤ w.heap.size := by have := h.2.lt; omega
theorem KN.alloc {B : Nat} {w : World} {b : Nat} {q : List ByteArray} (h : KN B w b q) (o : Obj) : KN B (w.alloc o) b q ∧ Below B w (w.alloc o) := h.below ((Below.refl _ _).alloc (Nat.le_refl _) o)
theorem KN.drew {B : Nat} {w : World} {b : Nat} {q : List ByteArray} (h : KN B w b q) : KN B w.drew b q ∧ Below B w w.drew := h.below (Below.refl _ _).drew

section
variable {B : Nat} {w : World} {b : Nat} {q : List ByteArray} (h : KN B w b q)
include h
theorem kn_heads (k : ByteArray) (e0 : Int) (r : Bool) (hr : (decide ((headK q).1 = k) && ((headK q).2 == e0)) = r) :
    Calls Tryz.prog 14 #[.pointer (some ⟨b, 0, none⟩), .agg #[.string k, .slice none 0 0, .slice none 0 0, .slice none 0 0], .int .i64 e0] w fun e w' => e = .returned (.bool r) ∧ KN B w' b q ∧ Below B w w' :=
  (heads_any h.1 k e0).mono fun _ _ ⟨h1, h2⟩ => ⟨hr ▸ h1, h.below h2⟩
theorem kn_takes (k : ByteArray) (e0 : Int) (r : Bool) (q2 : List ByteArray) (hq : q.tail = q2) (hr : (decide ((headK q).1 = k) && ((headK q).2 == e0)) = r) :
    Calls Tryz.prog 15 #[.pointer (some ⟨b, 0, none⟩), .agg #[.string k, .slice none 0 0, .slice none 0 0, .slice none 0 0], .int .i64 e0] w fun e w' => e = .returned (.bool r) ∧ KN B w' b q2 ∧ Below B w w' :=
  (takes_any h.1 k e0).mono fun _ _ ⟨h1, h2, h3⟩ => ⟨hr ▸ h1, h.touch (hq ▸ h2) h3⟩
theorem kn_put (l : List ByteArray) (lv : Value) (hrd : Rd w lv 4 l.length (flatE l)) (hkeys : ∀ k ∈ l, keyB k = true) (hl : l.length ≤ 10000) (r : Int) (q2 : List ByteArray)
    (hr : (if q.length + l.length ≤ 2 then (0 : Int) else 11) = r) (hq : (if q.length + l.length ≤ 2 then q ++ l else q) = q2) :
    Calls Tryz.prog 13 #[.pointer (some ⟨b, 0, none⟩), lv] w fun e w' => e = .returned (.int .i64 r) ∧ KN B w' b q2 ∧ Below B w w' :=
  (put_any h.1 l lv hrd hkeys hl).mono fun _ _ ⟨h1, h2, h3⟩ => ⟨hr ▸ h1, h.touch (hq ▸ h2.sub (fun _ hk => hk.elim id (fun hk => Nat.lt_of_lt_of_le h.2.lt hk))) h3⟩
theorem kn_nil (r : Int) (q2 : List ByteArray) (hr : (if q.length ≤ 2 then (0 : Int) else 11) = r) (hq : q = q2) :
    Calls Tryz.prog 13 #[.pointer (some ⟨b, 0, none⟩), .slice none 0 0] w fun e w' => e = .returned (.int .i64 r) ∧ KN B w' b q2 ∧ Below B w w' :=
  kn_put h [] _ ⟨none, 0, rfl, rfl, Nat.zero_le _, fun h => absurd rfl h⟩ (by simp) (by simp) r q2 hr (by simpa using hq)
theorem kn_puts (l : List ByteArray) (C : Array Value) (hC : C.toList = flatE l) (hkeys : ∀ k ∈ l, keyB k = true) (n : Nat) (hn : l.length = n) (hl : n ≤ 10000) (r : Int) (q2 : List ByteArray)
    (hr : (if q.length + n ≤ 2 then (0 : Int) else 11) = r) (hq : (if q.length + n ≤ 2 then q ++ l else q) = q2) :
    Calls Tryz.prog 13 #[.pointer (some ⟨b, 0, none⟩), .slice (some ⟨w.heap.size, 0, none⟩) n n] (w.alloc (.cells C 41)) fun e w' => e = .returned (.int .i64 r) ∧ KN B w' b q2 ∧ Below B w w' := by
  subst hn
  have hml : l.length ≤ maxLen := by unfold maxLen; omega
  exact (kn_put (h.alloc _).1 l _ (rd_list w l C hC hml) hkeys hl r q2 hr hq).mono fun _ _ ⟨h1, h2, h3⟩ => ⟨h1, h2, Below.trans (h.alloc _).2 h3⟩
theorem kn_len (n : Int) (hn : (q.length : Int) = n) : Calls Tryz.prog 16 #[.pointer (some ⟨b, 0, none⟩)] w fun e w' => e = .returned (.int .i64 n) ∧ KN B w' b q ∧ Below B w w' :=
  (len_any h.1).mono fun _ _ ⟨h1, h2⟩ => ⟨hn ▸ h1, by subst h2; exact ⟨h, Below.refl _ _⟩⟩
theorem kn_room (n : Int) (hn : ((2 : Nat) : Int) - q.length = n) : Calls Tryz.prog 17 #[.pointer (some ⟨b, 0, none⟩)] w fun e w' => e = .returned (.int .i64 n) ∧ KN B w' b q ∧ Below B w w' :=
  (room_any h.1).mono fun _ _ ⟨h1, _, h2⟩ => ⟨hn ▸ h1, h2 ▸ h.below (Below.refl _ _).drewN⟩
theorem kn_all (hq : q.length ≤ maxLen) : Calls Tryz.prog 20 #[.pointer (some ⟨b, 0, none⟩)] w fun e w' => ∃ v, e = .returned v ∧ Rd w' v 4 q.length (flatE q) ∧ KN B w' b q ∧ Below w.heap.size w w' :=
  (all_any h.1).mono fun _ _ ⟨v, h1, h2, h3⟩ => ⟨v, h1, Rd.of_own h2 hq, (h.below h3).1, h3⟩
theorem kn_same (v1 v2 : Value) (l1 l2 : List ByteArray) (n1 n2 : Nat) (hn1 : l1.length = n1) (hn2 : l2.length = n2) (h1 : Rd w v1 4 n1 (flatE l1)) (h2 : Rd w v2 4 n2 (flatE l2)) (r : Bool) (hr : decide (l1 = l2) = r) :
    Calls Tryz.prog 22 #[v1, v2] w fun e w' => e = .returned (.bool r) ∧ KN B w' b q ∧ Below B w w' := by
  subst hn1; subst hn2
  exact (entSame_any v1 v2 l1 l2 w h1 h2).mono fun _ _ ⟨h1, h2⟩ => ⟨hr ▸ h1, h.below h2⟩
end
theorem new2 (w : World) : Calls Tryz.prog 9 #[.int .i64 2] w fun e w' => e = .returned (.tuple #[.pointer (some ⟨w.heap.size, 0, none⟩), .int .i64 0]) ∧ w' = w.alloc (.cells #[.int .i64 2, .slice none 0 0, .int .i64 0, .int .i64 0] 65) := new_ok 2 (by decide) (by decide) w
theorem kn_new (w : World) : KN w.heap.size ((((w.alloc (.cells #[.string ⟨#[120]⟩, .slice none 0 0, .slice none 0 0, .slice none 0 0] 41)).alloc (.cells #[.string ⟨#[121]⟩, .slice none 0 0, .slice none 0 0, .slice none 0 0] 41)).alloc (.cells #[.string ⟨#[122]⟩, .slice none 0 0, .slice none 0 0, .slice none 0 0] 41)).alloc (.cells #[.int .i64 2, .slice none 0 0, .int .i64 0, .int .i64 0] 65)) (w.heap.size + 1 + 1 + 1) [] ∧
    Below w.heap.size w ((((w.alloc (.cells #[.string ⟨#[120]⟩, .slice none 0 0, .slice none 0 0, .slice none 0 0] 41)).alloc (.cells #[.string ⟨#[121]⟩, .slice none 0 0, .slice none 0 0, .slice none 0 0] 41)).alloc (.cells #[.string ⟨#[122]⟩, .slice none 0 0, .slice none 0 0, .slice none 0 0] 41)).alloc (.cells #[.int .i64 2, .slice none 0 0, .int .i64 0, .int .i64 0] 65)) := by
  refine ⟨⟨?_, ?_, ?_, ?_⟩, ((((Below.refl _ _).alloc (Nat.le_refl _) _).alloc (by simp) _).alloc (by simp; omega) _).alloc (by simp; omega) _⟩
  · have := Box.new (((w.alloc (.cells #[.string ⟨#[120]⟩, .slice none 0 0, .slice none 0 0, .slice none 0 0] 41)).alloc (.cells #[.string ⟨#[121]⟩, .slice none 0 0, .slice none 0 0, .slice none 0 0] 41)).alloc (.cells #[.string ⟨#[122]⟩, .slice none 0 0, .slice none 0 0, .slice none 0 0] 41)) 2 (by decide) (by decide)
    simp only [alloc_size] at this
    exact this.sub (fun k hk => by omega)
  · rw [alloc_old _ _ (by simp; omega), alloc_old _ _ (by simp <;> omega), alloc_old _ _ (by simp)]
    exact alloc_new _ _
  · rw [alloc_old _ _ (by simp <;> omega), alloc_old _ _ (by simp)]
    have := alloc_new (w.alloc (.cells #[.string ⟨#[120]⟩, .slice none 0 0, .slice none 0 0, .slice none 0 0] 41)) (.cells #[.string ⟨#[121]⟩, .slice none 0 0, .slice none 0 0, .slice none 0 0] 41)
    simpa only [alloc_size] using this
  · rw [alloc_old _ _ (by simp)]
    have := alloc_new ((w.alloc (.cells #[.string ⟨#[120]⟩, .slice none 0 0, .slice none 0 0, .slice none 0 0] 41)).alloc (.cells #[.string ⟨#[121]⟩, .slice none 0 0, .slice none 0 0, .slice none 0 0] 41)) (.cells #[.string ⟨#[122]⟩, .slice none 0 0, .slice none 0 0, .slice none 0 0] 41)
    simpa only [alloc_size] using this
end Go.Proofs.YtkedgiklcmkmmaaGreatDoor
