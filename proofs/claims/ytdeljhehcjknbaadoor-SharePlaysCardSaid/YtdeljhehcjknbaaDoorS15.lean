/- The contracts of the book again, for a book that one call owns; facts of the worked example. -/
import Derived.Test.YtdeljhehcjknbaaDoorS14
namespace Go.Proofs.YtdeljhehcjknbaaDoor
open Go.RowKit Go.Maps Go.Sort

/-- The book at b holds A; what it takes up lies where G says. -/
def Own (G : Nat → Prop) (w : World) (b : Nat) (A : List APg) : Prop := ∃ F, Book w b A F ∧ ∀ k, F k → G k

theorem own_step {G : Nat → Prop} {w w' : World} {b : Nat} {A' : List APg} {F : Nat → Prop} (hF : ∀ k, F k → G k) (hG : ∀ k, w.heap.size ≤ k → G k) (h : Book w' b A' (Wider F w w') ∧ Keep F w w') : Own G w' b A' ∧ Keep G w w' :=
  ⟨⟨_, h.1, fun k hk => by
    rcases hk with hk | hk
    · exact hF k hk
    · exact hG k hk.1⟩, h.2.mono fun k _ hk => hF k hk⟩

theorem Own.below {G : Nat → Prop} {w w' : World} {b : Nat} {A : List APg} (h : Own G w b A) (hb : Below w.heap.size w w') : Own G w' b A := by
  obtain ⟨F, h1, h2⟩ := h
  exact ⟨F, h1.below hb, h2⟩
theorem Own.drewN {G : Nat → Prop} {w : World} {b : Nat} {A : List APg} (h : Own G w b A) (n : Nat) : Own G (w.drewN n) b A := h.below (below_drewN (Below.refl _ _) n)
theorem Own.new (w : World) (G : Nat → Prop) (hG : ∀ k, w.heap.size ≤ k → G k) : Own G (w.alloc (.cells #[.map none] 34)) w.heap.size [] := by
  refine ⟨fun k => k = w.heap.size, ⟨none, [], ⟨alloc_new _ _, rfl, by simp, by simp [foot], by simp, by simp⟩, rfl, by simp [foot], ?_⟩, ?_⟩
  · rintro k rfl; simp
  · rintro k rfl; exact hG _ (Nat.le_refl _)
theorem Own.lt {G : Nat → Prop} {w : World} {b : Nat} {A : List APg} (h : Own G w b A) : b < w.heap.size := by
  obtain ⟨F, ⟨mr, L, hB, _⟩, _⟩ := h
  exact lt_of_heap hB.hb

def Done (G : Nat → Prop) (w : World) (b : Nat) (A' : List APg) (n : Int) (e : Ending) (w' : World) : Prop := e = .returned (.int .i64 n) ∧ Own G w' b A' ∧ Keep G w w'

section
variable {G : Nat → Prop} {w : World} {b : Nat} {A : List APg} (h : Own G w b A) (hG : ∀ k, w.heap.size ≤ k → G k)
include h hG
theorem open_o {who cart : ByteArray} (h1 : who.size ≤ maxLen) (h2 : cart.size ≤ maxLen) : Calls Tryd.prog 14 #[.pointer (some ⟨b, 0, none⟩), .string who, .string cart] w (Done G w b (openA A who cart) (openE A who cart)) := by
  obtain ⟨F, hK, hF⟩ := h
  exact (open_any b A F who cart w hK h1 h2).mono fun e w' ⟨he, hr⟩ => ⟨he, own_step hF hG hr⟩
theorem close_o {who cart : ByteArray} (h1 : who.size ≤ maxLen) (h2 : cart.size ≤ maxLen) : Calls Tryd.prog 23 #[.pointer (some ⟨b, 0, none⟩), .string who, .string cart] w (Done G w b (closeA A who cart) (closeE A who cart)) := by
  obtain ⟨F, hK, hF⟩ := h
  exact (close_any b A F who cart w hK h1 h2).mono fun e w' ⟨he, hr⟩ => ⟨he, own_step hF hG hr⟩
theorem grant_o {who cart who2 : ByteArray} (r : Int) (h1 : who.size ≤ maxLen) (h2 : cart.size ≤ maxLen) (h3 : who2.size ≤ maxLen) : Calls Tryd.prog 17 #[.pointer (some ⟨b, 0, none⟩), .string who, .string cart, .string who2, .int .i64 r] w (Done G w b (grantA A who cart who2 r) (grantE A who cart who2 r)) := by
  obtain ⟨F, hK, hF⟩ := h
  exact (grant_any b A F who cart who2 r w hK h1 h2 h3).mono fun e w' ⟨he, hr⟩ => ⟨he, own_step hF hG hr⟩
theorem pass_o {who cart who2 : ByteArray} (h1 : who.size ≤ maxLen) (h2 : cart.size ≤ maxLen) (h3 : who2.size ≤ maxLen) : Calls Tryd.prog 16 #[.pointer (some ⟨b, 0, none⟩), .string who, .string cart, .string who2] w (Done G w b (passA A who cart who2) (passE A who cart who2)) := by
  obtain ⟨F, hK, hF⟩ := h
  exact (pass_any b A F who cart who2 w hK h1 h2 h3).mono fun e w' ⟨he, hr⟩ => ⟨he, own_step hF hG hr⟩
theorem calls_o {a : ActR} (ha : a.fits) (hR : RowsLie w) : Calls Tryd.prog 10 #[.pointer (some ⟨b, 0, none⟩), a.val] w (Done G w b (callA A a) (callE A a)) := by
  obtain ⟨F, hK, hF⟩ := h
  exact (calls_any b A F a w hK ha hR).mono fun e w' ⟨he, hr⟩ => ⟨he, own_step hF hG hr⟩
end
section
variable {G : Nat → Prop} {w : World} {b : Nat} {A : List APg} (h : Own G w b A)
include h
theorem allows_o {who : ByteArray} {c : CallR} (h1 : who.size ≤ maxLen) (hc : c.fits) (hR : RowsLie w) : Calls Tryd.prog 12 #[.pointer (some ⟨b, 0, none⟩), .string who, c.val] w (Done G w b A (allowsE A who c)) := by
  obtain ⟨F, hK, hF⟩ := h
  exact (allows_any b A F who c w hK h1 hc hR).mono fun e w' ⟨he, hb⟩ => ⟨he, ⟨F, hK.below hb, hF⟩, Keep.of_below hb⟩
theorem owner_o (cart : ByteArray) : Calls Tryd.prog 19 #[.pointer (some ⟨b, 0, none⟩), .string cart] w fun e w' => e = .returned (.string ((aFind A cart).elim ⟨#[]⟩ APg.owner)) ∧ w = w' := by
  obtain ⟨F, ⟨mr, L, hB, rfl, _⟩, hF⟩ := h
  refine (owner_any b mr L cart w hB).mono fun e w' ⟨he, hw⟩ => ⟨?_, hw⟩
  rw [he, aFind_abs]; unfold ownerF; cases pgA L cart <;> rfl
theorem rights_o (who cart : ByteArray) : Calls Tryd.prog 20 #[.pointer (some ⟨b, 0, none⟩), .string who, .string cart] w fun e w' => e = .returned (.int .i64 (rightsA A who cart)) ∧ w = w' := by
  obtain ⟨F, ⟨mr, L, hB, rfl, _⟩, hF⟩ := h
  refine (rights_any b mr L who cart w hB).mono fun e w' ⟨he, hw⟩ => ⟨?_, hw⟩
  rw [he]; unfold rightsA rightsF; rw [aFind_abs]; cases pgA L cart <;> rfl
theorem members_o (cart : ByteArray) : Calls Tryd.prog 18 #[.pointer (some ⟨b, 0, none⟩), .string cart] w (MembersPost (membersA A cart) w) := by
  obtain ⟨F, hK, hF⟩ := h
  exact members_any b A F cart w hK
theorem carts_o (who : ByteArray) : Calls Tryd.prog 15 #[.pointer (some ⟨b, 0, none⟩), .string who] w (StrsPost (cartsA A who) w) := by
  obtain ⟨F, hK, hF⟩ := h
  exact carts_any b A F who w hK
theorem membersA_len (cart : ByteArray) : (membersA A cart).length ≤ 50 := by
  obtain ⟨F, ⟨mr, L, hB, rfl, _⟩, hF⟩ := h
  unfold membersA
  rw [aFind_abs]
  cases hp : pgA L cart with
  | none => simp
  | some x => show (memS x.mem).length ≤ 50; rw [memS_len]; exact (hB.wf x (pgA_mem hp).1).2.2.1
theorem aLen : A.length ≤ 500 := by
  obtain ⟨F, ⟨mr, L, hB, rfl, _⟩, hF⟩ := h
  simpa using hB.len
end

theorem base_keep {base : Nat} {w w' : World} (h : Keep (fun k => base ≤ k) w w') (hb : base ≤ w.heap.size) : Below base w w' := h.below base hb fun k hk => by omega
theorem rowsLie_base {base : Nat} {w w' : World} (h : RowsLie w) (hb : Below base w w') (h0 : 0 < base) : RowsLie w' := by
  obtain ⟨C, tt, fz, h1, h2⟩ := h
  exact ⟨C, tt, fz, by rw [hb.block 0 h0, h1], h2⟩

-- the examples of the chapter
def ann : ByteArray := ⟨#[97, 110, 110]⟩
def kk : ByteArray := ⟨#[107]⟩
def bob : ByteArray := ⟨#[98, 111, 98]⟩
def cy : ByteArray := ⟨#[99, 121]⟩
def dee : ByteArray := ⟨#[100, 101, 101]⟩
def tea : ByteArray := ⟨#[116, 101, 97]⟩
def mm : ByteArray := ⟨#[109]⟩
def K1 : List APg := openA [] ann kk
def K2 : List APg := grantA K1 ann kk bob 11
def K3 : List APg := grantA K2 bob kk cy 3
def K4 : List APg := passA K3 ann kk cy
theorem g1 : openE [] ann kk = 0 := by decide +kernel
theorem g2 : grantE K1 ann kk bob 11 = 0 := by decide +kernel
theorem g3 : grantE K2 bob kk cy 3 = 0 := by decide +kernel
theorem g4 : grantE K3 bob kk cy 7 = 18 := by decide +kernel
theorem g5 : grantE K3 bob kk ann 0 = 18 := by decide +kernel
theorem g6 : grantE K3 bob kk bob 15 = 18 := by decide +kernel
def c1 : CallR := ⟨1, kk, ⟨#[]⟩, tea, 1, none, 0, 0⟩
def c2 : CallR := ⟨5, kk, ⟨#[]⟩, ⟨#[]⟩, 0, none, 0, 0⟩
def c3 : CallR := ⟨4, kk, ⟨#[]⟩, ⟨#[]⟩, 0, none, 0, 0⟩
def c4 : CallR := ⟨6, kk, mm, tea, 0, none, 0, 0⟩
def c5 : CallR := ⟨9, ⟨#[]⟩, ⟨#[]⟩, ⟨#[]⟩, 0, none, 0, 0⟩
theorem g7 : allowsE K3 cy c1 = 0 := by decide +kernel
theorem g8 : allowsE K3 cy c2 = 18 := by decide +kernel
theorem g9 : allowsE K3 dee c3 = 18 := by decide +kernel
theorem g10 : allowsE K3 cy c4 = 9 := by decide +kernel
theorem g11 : allowsE K3 ann c5 = 2 := by decide +kernel
theorem g12 : passE K3 bob kk cy = 18 := by decide +kernel
theorem g13 : passE K3 ann kk cy = 0 := by decide +kernel
theorem g14 : (aFind K4 kk).elim ⟨#[]⟩ APg.owner = cy := by decide +kernel
theorem g15 : rightsA K4 ann kk = 15 := by decide +kernel
theorem g16 : closeE K4 ann kk = 18 := by decide +kernel
theorem sortK_sorted {m : List (ByteArray × Value)} (h : (m.map fun p => p.1.data.toList).Pairwise (fun x y => decide (x ≤ y) = true)) : sortK m = m.map fun p => p.1.data.toList := List.mergeSort_of_pairwise h
theorem g17 : membersA K3 kk = [(bob, 11), (cy, 3)] := by
  have h : aFind K3 kk = some ⟨kk, ann, [(bob, 11), (cy, 3)]⟩ := by rfl
  unfold membersA
  rw [h]
  show memS _ = _
  unfold memS
  rw [sortK_sorted (by decide)]
  decide
theorem g18 : cartsA K4 cy = [kk] := by
  unfold cartsA
  have h : sortC K4 = [kk.data.toList] := by
    have : K4.map (fun x => x.cart.data.toList) = [kk.data.toList] := by decide +kernel
    unfold sortC; rw [this]; exact List.mergeSort_singleton _
  rw [h]
  decide +kernel
end Go.Proofs.YtdeljhehcjknbaaDoor
