/- calls and short walked: for every Act that fits. -/
import Derived.Test.YtdeljhehcjknbaaDoorS13
namespace Go.Proofs.YtdeljhehcjknbaaDoor
open Go.RowKit Go.Maps Go.Sort

structure ActR where
  what : Int
  by_ : ByteArray
  cart : ByteArray
  who : ByteArray
  right : Int
  call : CallR
def ActR.val (a : ActR) : Value := .agg #[.int .i64 a.what, .string a.by_, .string a.cart, .string a.who, .int .i64 a.right, .int .i64 a.call.op, .string a.call.key, .string a.call.other, .string a.call.item, .int .i64 a.call.qty, .slice a.call.da a.call.dl a.call.dc]
structure ActR.fits (a : ActR) : Prop where
  by_ : a.by_.size ≤ maxLen
  cart : a.cart.size ≤ maxLen
  who : a.who.size ≤ maxLen
  call : a.call.fits

def callE (A : List APg) (a : ActR) : Int :=
  if a.what = 0 then openE A a.by_ a.cart else if a.what = 1 then closeE A a.by_ a.cart else if a.what = 2 then grantE A a.by_ a.cart a.who a.right
  else if a.what = 3 then passE A a.by_ a.cart a.who else allowsE A a.by_ a.call
def callA (A : List APg) (a : ActR) : List APg :=
  if a.what = 0 then openA A a.by_ a.cart else if a.what = 1 then closeA A a.by_ a.cart else if a.what = 2 then grantA A a.by_ a.cart a.who a.right
  else if a.what = 3 then passA A a.by_ a.cart a.who else A

/-- From the world behind the box to the world ahead of it. -/
theorem call_back {w w0 w' : World} {b : Nat} {A : List APg} {F : Nat → Prop} (h0 : Below w.heap.size w w0) (hK : Book w' b A (Wider F w0 w')) (hk : Keep F w0 w') (hFs : ∀ k, F k → k < w.heap.size) : Book w' b A (Wider F w w') ∧ Keep F w w' := by
  have hs := h0.size
  have hs' := hk.size
  refine ⟨hK.mono ?_ ?_, ?_⟩
  · rintro k (h | h)
    · exact Or.inl h
    · exact Or.inr ⟨by omega, h.2⟩
  · rintro k (h | h)
    · have := hFs k h; omega
    · exact h.2
  · exact ⟨hk.os.trans h0.os, hk.tape.trans h0.tape, hk.output.trans h0.output, by omega, fun k hk1 hF => (hk.block k (by omega) hF).trans (h0.block k hk1)⟩

set_option maxRecDepth 100000 in
set_option maxHeartbeats 2000000 in
theorem calls_any (b : Nat) (A : List APg) (F : Nat → Prop) (a : ActR) (w : World) (hK : Book w b A F) (ha : a.fits) (hR : RowsLie w) :
    Calls Tryd.prog 10 #[.pointer (some ⟨b, 0, none⟩), a.val] w fun e w' => e = .returned (.int .i64 (callE A a)) ∧ Book w' b (callA A a) (Wider F w w') ∧ Keep F w w' := by
  obtain ⟨what, by_, cart, who, right, call⟩ := a
  obtain ⟨hby, hcart, hwho, hcall⟩ := ha
  simp only at hby hcart hwho hcall
  have hFs : ∀ k, F k → k < w.heap.size := by obtain ⟨_, _, _, _, _, h⟩ := hK; exact h
  have hbl : ∀ o, Below w.heap.size w (w.alloc o) := fun o => (Below.refl _ _).alloc (Nat.le_refl _) _
  have HBL := Lib.hid hbl
  have HBACK := Lib.hid (fun o w' A' h1 h2 => call_back (w' := w') (A := A') (b := b) (hbl o) h1 h2 hFs)
  have HO := Lib.hid (fun o => open_any b A F by_ cart _ (hK.below (hbl o)) hby hcart)
  have HC := Lib.hid (fun o => close_any b A F by_ cart _ (hK.below (hbl o)) hby hcart)
  have HG := Lib.hid (fun o => grant_any b A F by_ cart who right _ (hK.below (hbl o)) hby hcart hwho)
  have HP := Lib.hid (fun o => pass_any b A F by_ cart who _ (hK.below (hbl o)) hby hcart hwho)
  have HA := Lib.hid (fun o => allows_any b A F by_ call _ (hK.below (hbl o)) hby hcall (by
    obtain ⟨C, tt, fz, h1, h2⟩ := hR
    exact ⟨C, tt, fz, by rw [(hbl o).block 0 (lt_of_heap h1), h1], h2⟩))
  have HK := Lib.hid hK
  clear hK hR hbl hcall
  unfold ActR.val CallR.val at *
  simp only
  have E : Hid (callE A ⟨what, by_, cart, who, right, call⟩ = if what = 0 then openE A by_ cart else if what = 1 then closeE A by_ cart else if what = 2 then grantE A by_ cart who right else if what = 3 then passE A by_ cart who else allowsE A by_ call) := Lib.hid rfl
  have EA : Hid (callA A ⟨what, by_, cart, who, right, call⟩ = if what = 0 then openA A by_ cart else if what = 1 then closeA A by_ cart else if what = 2 then grantA A by_ cart who right else if what = 3 then passA A by_ cart who else A) := Lib.hid rfl
  by_cases h0 : what = 0
  · subst h0
    rw [if_pos rfl] at E EA
    go_enter Tryd.func10, Tryd.ntmps10
    go_wp2_with (go_at_call 14; refine (HO.out _).mono ?_; rintro e w1 ⟨rfl, h1, h2⟩)
    go_ret
    exact ⟨by rw [E.out]; rfl, by rw [EA.out]; exact HBACK.out _ _ _ h1 h2⟩
  rw [if_neg h0] at E EA
  have e0 : (what == 0) = false := by simpa using h0
  clear h0
  by_cases h0 : what = 1
  · subst h0
    rw [if_pos rfl] at E EA
    go_enter Tryd.func10, Tryd.ntmps10
    go_wp2_with (go_at_call 23; refine (HC.out _).mono ?_; rintro e w1 ⟨rfl, h1, h2⟩)
    go_ret
    exact ⟨by rw [E.out]; rfl, by rw [EA.out]; exact HBACK.out _ _ _ h1 h2⟩
  rw [if_neg h0] at E EA
  have e1 : (what == 1) = false := by simpa using h0
  clear h0
  by_cases h0 : what = 2
  · subst h0
    rw [if_pos rfl] at E EA
    go_enter Tryd.func10, Tryd.ntmps10
    go_wp2_with (go_at_call 17; refine (HG.out _).mono ?_; rintro e w1 ⟨rfl, h1, h2⟩)
    go_ret
    exact ⟨by rw [E.out]; rfl, by rw [EA.out]; exact HBACK.out _ _ _ h1 h2⟩
  rw [if_neg h0] at E EA
  have e2 : (what == 2) = false := by simpa using h0
  clear h0
  by_cases h0 : what = 3
  · subst h0
    rw [if_pos rfl] at E EA
    go_enter Tryd.func10, Tryd.ntmps10
    go_wp2_with (go_at_call 16; refine (HP.out _).mono ?_; rintro e w1 ⟨rfl, h1, h2⟩)
    go_ret
    exact ⟨by rw [E.out]; rfl, by rw [EA.out]; exact HBACK.out _ _ _ h1 h2⟩
  rw [if_neg h0] at E EA
  have e3 : (what == 3) = false := by simpa using h0
  clear h0
  obtain ⟨op, key, other, item, qty, da, dl, dc⟩ := call
  simp only at HA ⊢
  go_enter Tryd.func10, Tryd.ntmps10
  go_wp2_with (go_at_call 12; refine (HA.out _).mono ?_; rintro e w1 ⟨rfl, h1⟩)
  go_ret
  refine ⟨by rw [E.out]; rfl, ?_⟩
  rw [EA.out]
  have hb1 := (HBL.out (.cells #[.int .i64 what, .string by_, .string cart, .string who, .int .i64 right, .int .i64 op, .string key, .string other, .string item, .int .i64 qty, .slice da dl dc] 29)).trans (h1.mono (by simp))
  exact ⟨(HK.out.below hb1).mono (fun k h => Or.inl h) (by
    rintro k (h | h)
    · have := hFs k h; have := hb1.size; omega
    · exact h.2), Keep.of_below hb1⟩

def ActR.short (a : ActR) : Prop := a.by_.size ≤ 100 ∧ a.cart.size ≤ 100 ∧ a.who.size ≤ 100 ∧ a.call.key.size ≤ 100 ∧ a.call.other.size ≤ 100 ∧ a.call.item.size ≤ 100 ∧ a.call.dl ≤ 100
instance (a : ActR) : Decidable a.short := by unfold ActR.short; infer_instance

set_option maxRecDepth 100000 in
set_option maxHeartbeats 2000000 in
theorem short_any (a : ActR) (w : World) (ha : a.fits) :
    Calls Tryd.prog 8 #[a.val] w fun e w' => e = .returned (.bool (decide a.short)) ∧ Below w.heap.size w w' := by
  obtain ⟨what, by_, cart, who, right, op, key, other, item, qty, da, dl, dc⟩ := a
  obtain ⟨hby, hcart, hwho, _, _, hkey, hother, hitem, hdl⟩ := ha
  simp only at hby hcart hwho hkey hother hitem hdl
  unfold ActR.val
  simp only
  by_cases hs : by_.size ≤ 100 ∧ cart.size ≤ 100 ∧ who.size ≤ 100 ∧ key.size ≤ 100 ∧ other.size ≤ 100 ∧ item.size ≤ 100 ∧ dl ≤ 100
  · have HS : Hid (decide (ActR.short ⟨what, by_, cart, who, right, ⟨op, key, other, item, qty, da, dl, dc⟩⟩) = true) := Lib.hid (decide_eq_true hs)
    obtain ⟨h1, h2, h3, h4, h5, h6, h7⟩ := hs
    go_enter Tryd.func8, Tryd.ntmps8
    go_wp2
    go_ret
    exact ⟨by rw [HS.out]; first | rfl | exact ret_bool (by simp; omega), (Below.refl _ _).alloc (Nat.le_refl _) _⟩
  · have HS : Hid (decide (ActR.short ⟨what, by_, cart, who, right, ⟨op, key, other, item, qty, da, dl, dc⟩⟩) = false) := Lib.hid (decide_eq_false hs)
    have hor : (100 < by_.size) ∨ (by_.size ≤ 100 ∧ 100 < cart.size) ∨ (by_.size ≤ 100 ∧ cart.size ≤ 100 ∧ 100 < who.size) ∨ (by_.size ≤ 100 ∧ cart.size ≤ 100 ∧ who.size ≤ 100 ∧ 100 < key.size) ∨ (by_.size ≤ 100 ∧ cart.size ≤ 100 ∧ who.size ≤ 100 ∧ key.size ≤ 100 ∧ 100 < other.size) ∨ (by_.size ≤ 100 ∧ cart.size ≤ 100 ∧ who.size ≤ 100 ∧ key.size ≤ 100 ∧ other.size ≤ 100 ∧ 100 < item.size) ∨ (by_.size ≤ 100 ∧ cart.size ≤ 100 ∧ who.size ≤ 100 ∧ key.size ≤ 100 ∧ other.size ≤ 100 ∧ item.size ≤ 100 ∧ 100 < dl) := by omega
    clear hs
    rcases hor with h1 | ⟨h1, h2⟩ | ⟨h1, h2, h3⟩ | ⟨h1, h2, h3, h4⟩ | ⟨h1, h2, h3, h4, h5⟩ | ⟨h1, h2, h3, h4, h5, h6⟩ | ⟨h1, h2, h3, h4, h5, h6, h7⟩
    all_goals
      go_enter Tryd.func8, Tryd.ntmps8
      go_wp2
      go_ret
      exact ⟨by rw [HS.out]; first | rfl | exact ret_bool (by simp; omega), (Below.refl _ _).alloc (Nat.le_refl _) _⟩
end Go.Proofs.YtdeljhehcjknbaaDoor
