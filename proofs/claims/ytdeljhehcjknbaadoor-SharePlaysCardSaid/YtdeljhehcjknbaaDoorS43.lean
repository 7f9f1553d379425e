/- Model.do: every call answers as the book's, for every model of the shape of S27 where the table of rows lies. -/
import Derived.Test.YtdeljhehcjknbaaDoorS38
import Derived.Test.YtdeljhehcjknbaaDoorS40
import Derived.Test.YtdeljhehcjknbaaDoorS41
import Derived.Test.YtdeljhehcjknbaaDoorS42
namespace Go.Proofs.YtdeljhehcjknbaaDoor
open Go.RowKit Go.Maps Go.Sort Go.Lib

theorem do_any {G : Nat → Prop} {w : World} {b : Nat} {A : List APg} {a : ActR} (ha : a.fits) (h0 : 0 ≤ a.what) (h4 : a.what ≤ 4) (hR : RowsLie w) (hM : ModelIs G w b A) (hO : Okay (callA A a)) :
    Calls Tryd.prog 11 #[.pointer (some ⟨b, 0, none⟩), a.val] w (DoPost G w b (callA A a) (callE A a)) := by
  obtain ⟨what, by_, crt, who, right, op, key, other, item, qty, da, dl, dc⟩ := a
  simp only at h0 h4
  have h : what = 0 ∨ what = 1 ∨ what = 2 ∨ what = 3 ∨ what = 4 := by omega
  rcases h with rfl | rfl | rfl | rfl | rfl
  · exact do_open by_ crt who right op key other item qty da dl dc hM hO ha.by_ ha.cart
  · exact do_close by_ crt who right op key other item qty da dl dc hM hO ha.by_ ha.cart
  · exact do_grant by_ crt who right op key other item qty da dl dc hM hO ha.by_ ha.cart ha.who
  · exact do_pass by_ crt who right op key other item qty da dl dc hM hO ha.by_ ha.cart ha.who
  · exact do_allows by_ crt who right op key other item qty da dl dc hM hR ha.call ha.by_
/-- A call of the book and then of the model: the same answers. -/
theorem do_both {base : Nat} {S : Nat → Prop} {w : World} {bB bM : Nat} {A : List APg} {a : ActR} (ha : a.fits) (h0 : 0 ≤ a.what) (h4 : a.what ≤ 4) (hR : RowsLie w) (h : Mid base S w bB bM (callA A a) A) :
    Calls Tryd.prog 11 #[.pointer (some ⟨bM, 0, none⟩), a.val] w fun e w' => e = .returned (.int .i64 (callE A a)) ∧ Mid base S w' bB bM (callA A a) (callA A a) ∧ Stay base S w w' :=
  do_mid h fun _ hM hO => do_any ha h0 h4 hR hM hO
end Go.Proofs.YtdeljhehcjknbaaDoor
