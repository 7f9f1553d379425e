/- What the functions of a book answer for a nil book: for all arguments. -/
import Derived.Test.YtdeljhehcjknbaaDoorS14
namespace Go.Proofs.YtdeljhehcjknbaaDoor
open Go.RowKit Go.Maps

def NilPost (w : World) (e : Ending) (w' : World) : Prop := e = .returned (.int .i64 1) ∧ Below w.heap.size w w'
theorem check_nil (v : ByteArray) (o : Option Addr) (n c : Nat) (w : World) : Calls Tryd.prog 37 #[.pointer none, .string v, .slice o n c] w fun e w' => e = .returned (.tuple #[.pointer none, .int .i64 1]) ∧ w = w' := by
  go_enter Tryd.func37, Tryd.ntmps37
  go_wp2
  go_ret2
  exact ⟨rfl, rfl⟩
theorem open_nil (u v : Value) (w : World) : Calls Tryd.prog 14 #[.pointer none, u, v] w (NilPost w) := by
  go_enter Tryd.func14, Tryd.ntmps14
  go_wp2
  go_ret
  exact ⟨rfl, Below.refl _ _⟩
theorem close_nil (u v : ByteArray) (w : World) : Calls Tryd.prog 23 #[.pointer none, .string u, .string v] w (NilPost w) := by
  have HC := Lib.hid (fun a o n c w0 => check_nil a o n c w0)
  go_enter Tryd.func23, Tryd.ntmps23
  go_wp2_with (go_at_call 37; refine (HC.out _ _ _ _ _).mono ?_; rintro e w1 ⟨rfl, rfl⟩)
  go_ret
  exact ⟨rfl, (Below.refl _ _).alloc (Nat.le_refl _) _⟩
theorem grant_nil (u v x : ByteArray) (r : Int) (w : World) : Calls Tryd.prog 17 #[.pointer none, .string u, .string v, .string x, .int .i64 r] w (NilPost w) := by
  have HC := Lib.hid (fun a o n c w0 => check_nil a o n c w0)
  go_enter Tryd.func17, Tryd.ntmps17
  go_wp2_with (go_at_call 37; refine (HC.out _ _ _ _ _).mono ?_; rintro e w1 ⟨rfl, rfl⟩)
  go_ret
  exact ⟨rfl, (Below.refl _ _).alloc (Nat.le_refl _) _⟩
theorem pass_nil (u v x : ByteArray) (w : World) : Calls Tryd.prog 16 #[.pointer none, .string u, .string v, .string x] w (NilPost w) := by
  have HC := Lib.hid (fun a o n c w0 => check_nil a o n c w0)
  go_enter Tryd.func16, Tryd.ntmps16
  go_wp2_with (go_at_call 37; refine (HC.out _ _ _ _ _).mono ?_; rintro e w1 ⟨rfl, rfl⟩)
  go_ret
  exact ⟨rfl, (Below.refl _ _).alloc (Nat.le_refl _) _⟩
set_option maxRecDepth 100000 in
theorem allows_nil (u : ByteArray) (c : CallR) (w : World) : Calls Tryd.prog 12 #[.pointer none, .string u, c.val] w (NilPost w) := by
  have HN := Lib.hid (fun w0 => needs_any c w0)
  obtain ⟨op, key, other, item, qty, da, dl, dc⟩ := c
  unfold CallR.val at *
  simp only at *
  go_enter Tryd.func12, Tryd.ntmps12
  go_wp2_with (go_at_call 31; refine (HN.out _).mono ?_; rintro e w1 ⟨vv, rfl, -, hb⟩)
  go_ret
  exact ⟨rfl, ((Below.refl _ _).alloc (Nat.le_refl _) _).trans (hb.mono (by simp))⟩
theorem rights_nil (u v : Value) (w : World) : Calls Tryd.prog 20 #[.pointer none, u, v] w fun e w' => e = .returned (.int .i64 0) ∧ w = w' := by
  go_enter Tryd.func20, Tryd.ntmps20
  go_wp2
  go_ret
  exact ⟨rfl, rfl⟩
theorem owner_nil (u : Value) (w : World) : Calls Tryd.prog 19 #[.pointer none, u] w fun e w' => e = .returned (.string ⟨#[]⟩) ∧ w = w' := by
  go_enter Tryd.func19, Tryd.ntmps19
  go_wp2
  go_ret
  exact ⟨rfl, rfl⟩
theorem members_nil (u : Value) (w : World) : Calls Tryd.prog 18 #[.pointer none, u] w fun e w' => e = .returned (.slice none 0 0) ∧ w = w' := by
  go_enter Tryd.func18, Tryd.ntmps18
  go_wp2
  go_ret
  exact ⟨rfl, rfl⟩
theorem carts_nil (u : Value) (w : World) : Calls Tryd.prog 15 #[.pointer none, u] w fun e w' => e = .returned (.slice none 0 0) ∧ w = w' := by
  go_enter Tryd.func15, Tryd.ntmps15
  go_wp2
  go_ret
  exact ⟨rfl, rfl⟩
theorem copy_nil (w : World) : Calls Tryd.prog 22 #[.pointer none] w fun e w' => e = .returned (.pointer none) ∧ w = w' := by
  go_enter Tryd.func22, Tryd.ntmps22
  go_wp2
  go_ret
  exact ⟨rfl, rfl⟩
set_option maxRecDepth 100000 in
set_option maxHeartbeats 2000000 in
theorem calls_nil (a : ActR) (w : World) : Calls Tryd.prog 10 #[.pointer none, a.val] w (NilPost w) := by
  obtain ⟨what, by_, cart, who, right, call⟩ := a
  have HO := Lib.hid (fun w0 => open_nil (.string by_) (.string cart) w0)
  have HC := Lib.hid (fun w0 => close_nil by_ cart w0)
  have HG := Lib.hid (fun w0 => grant_nil by_ cart who right w0)
  have HP := Lib.hid (fun w0 => pass_nil by_ cart who w0)
  have HA := Lib.hid (fun w0 => allows_nil by_ call w0)
  have HB := Lib.hid (fun o w' (h : Below (w.alloc o).heap.size (w.alloc o) w') => show Below w.heap.size w w' from ((Below.refl _ _).alloc (Nat.le_refl _) _).trans (h.mono (by simp)))
  obtain ⟨op, key, other, item, qty, da, dl, dc⟩ := call
  unfold ActR.val CallR.val at *
  simp only at *
  by_cases h0 : what = 0
  · subst h0
    go_enter Tryd.func10, Tryd.ntmps10
    go_wp2_with (go_at_call 14; refine (HO.out _).mono ?_; rintro e w1 ⟨rfl, h1⟩)
    go_ret
    exact ⟨rfl, HB.out _ _ h1⟩
  have e0 : (what == 0) = false := by simpa using h0
  clear h0
  by_cases h0 : what = 1
  · subst h0
    go_enter Tryd.func10, Tryd.ntmps10
    go_wp2_with (go_at_call 23; refine (HC.out _).mono ?_; rintro e w1 ⟨rfl, h1⟩)
    go_ret
    exact ⟨rfl, HB.out _ _ h1⟩
  have e1 : (what == 1) = false := by simpa using h0
  clear h0
  by_cases h0 : what = 2
  · subst h0
    go_enter Tryd.func10, Tryd.ntmps10
    go_wp2_with (go_at_call 17; refine (HG.out _).mono ?_; rintro e w1 ⟨rfl, h1⟩)
    go_ret
    exact ⟨rfl, HB.out _ _ h1⟩
  have e2 : (what == 2) = false := by simpa using h0
  clear h0
  by_cases h0 : what = 3
  · subst h0
    go_enter Tryd.func10, Tryd.ntmps10
    go_wp2_with (go_at_call 16; refine (HP.out _).mono ?_; rintro e w1 ⟨rfl, h1⟩)
    go_ret
    exact ⟨rfl, HB.out _ _ h1⟩
  have e3 : (what == 3) = false := by simpa using h0
  clear h0
  go_enter Tryd.func10, Tryd.ntmps10
  go_wp2_with (go_at_call 12; refine (HA.out _).mono ?_; rintro e w1 ⟨rfl, h1⟩)
  go_ret
  exact ⟨rfl, HB.out _ _ h1⟩
end Go.Proofs.YtdeljhehcjknbaaDoor
