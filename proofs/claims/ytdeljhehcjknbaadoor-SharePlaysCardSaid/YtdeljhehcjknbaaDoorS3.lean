/- page.rights, Book.Rights and Book.Owner walked: for every book that lies so. -/
import Derived.Test.YtdeljhehcjknbaaDoorS2
namespace Go.Proofs.YtdeljhehcjknbaaDoor
open Go.RowKit Go.Maps

def rightsR (x : PgR) (who : ByteArray) : Int := if who = x.owner then 15 else (lkA x.mem who).getD 0

theorem lkA_memV (l : List (ByteArray × Int)) (k : ByteArray) : lkA (memV l) k = (lkA l k).map (Value.int .i64) := by
  induction l with
  | nil => rfl
  | cons x l ih => simp only [memV, List.map_cons, lkA] at ih ⊢; split <;> simp_all

theorem lkA_memV_getD (l : List (ByteArray × Int)) (k : ByteArray) : (lkA (memV l) k).getD (.int .i64 0) = .int .i64 ((lkA l k).getD 0) := by
  rw [lkA_memV]; cases lkA l k <;> rfl

set_option maxHeartbeats 400000 in
theorem prights_any (x : PgR) (who : ByteArray) (w : World) (hx : x.is w) :
    Calls Tryd.prog 33 #[x.ptr, .string who] w fun e w' => e = .returned (.int .i64 (rightsR x who)) ∧ w = w' := by
  have c0 := cell0 hx.1 0
  have c1 := cell0 hx.1 1
  have hl := hx.look who
  rw [lkA_memV_getD] at hl
  clear hx
  by_cases he : who = x.owner
  · have HE : Hid (rightsR x who = 15) := Lib.hid (if_pos he)
    have e := str_eq he
    clear he hl
    unfold PgR.ptr
    generalize rightsR x who = r at *
    obtain ⟨cart, p, mb, owner, mem⟩ := x
    simp only at c0 c1 e ⊢
    go_enter Tryd.func33, Tryd.ntmps33
    go_wp2
    go_ret
    exact ⟨by rw [HE.out]; rfl, rfl⟩
  · have HE : Hid (rightsR x who = (lkA x.mem who).getD 0) := Lib.hid (if_neg he)
    have e := str_ne he
    clear he
    unfold PgR.ptr
    generalize rightsR x who = r at *
    generalize (lkA x.mem who).getD 0 = q at *
    obtain ⟨cart, p, mb, owner, mem⟩ := x
    simp only at c0 c1 e hl ⊢
    go_enter Tryd.func33, Tryd.ntmps33
    go_wp2
    go_ret
    exact ⟨by rw [HE.out]; rfl, rfl⟩

def rightsF (L : List PgR) (who cart : ByteArray) : Int := match pgA L cart with
  | none => 0
  | some x => rightsR x who
def ownerF (L : List PgR) (cart : ByteArray) : ByteArray := match pgA L cart with
  | none => ⟨#[]⟩
  | some x => x.owner

set_option maxHeartbeats 400000 in
theorem rights_any (b : Nat) (mr : Option Nat) (L : List PgR) (who cart : ByteArray) (w : World) (hK : BookIs w b mr L) :
    Calls Tryd.prog 20 #[.pointer (some ⟨b, 0, none⟩), .string who, .string cart] w fun e w' => e = .returned (.int .i64 (rightsF L who cart)) ∧ w = w' := by
  have c0 := cell0 hK.hb 0
  have hl := hK.look cart
  unfold rightsF
  cases hp : pgA L cart with
  | none =>
    rw [hp] at hl
    clear hK hp
    go_enter Tryd.func20, Tryd.ntmps20
    go_wp2
    go_ret
    exact ⟨rfl, rfl⟩
  | some x =>
    rw [hp] at hl
    simp only [Option.map_some, Option.getD_some, PgR.ptr] at hl
    have HR := Lib.hid (prights_any x who w (hK.hp x (pgA_mem hp).1))
    clear hK hp
    go_enter Tryd.func20, Tryd.ntmps20
    go_wp2_with (go_at_call 33; refine HR.out.mono ?_; rintro e w' ⟨rfl, rfl⟩)
    go_ret
    exact ⟨rfl, rfl⟩

set_option maxHeartbeats 400000 in
theorem owner_any (b : Nat) (mr : Option Nat) (L : List PgR) (cart : ByteArray) (w : World) (hK : BookIs w b mr L) :
    Calls Tryd.prog 19 #[.pointer (some ⟨b, 0, none⟩), .string cart] w fun e w' => e = .returned (.string (ownerF L cart)) ∧ w = w' := by
  have c0 := cell0 hK.hb 0
  have hl := hK.look cart
  unfold ownerF
  cases hp : pgA L cart with
  | none =>
    rw [hp] at hl
    clear hK hp
    go_enter Tryd.func19, Tryd.ntmps19
    go_wp2
    go_ret
    exact ⟨rfl, rfl⟩
  | some x =>
    rw [hp] at hl
    simp only [Option.map_some, Option.getD_some, PgR.ptr] at hl
    have c1 := cell0 (hK.hp x (pgA_mem hp).1).1 0
    clear hK hp
    go_enter Tryd.func19, Tryd.ntmps19
    go_wp2
    go_ret
    exact ⟨rfl, rfl⟩
end Go.Proofs.YtdeljhehcjknbaaDoor
