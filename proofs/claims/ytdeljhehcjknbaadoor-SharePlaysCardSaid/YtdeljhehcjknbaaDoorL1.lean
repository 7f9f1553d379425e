/- The table of rows lies as the row lists it: for every world that meets the row. -/
import Derived.Test.YtdeljhehcjknbaaDoorRows
import Derived.Test.YtdeljhehcjknbaaDoorBase
import Derived.Lib.LaidTab
import Derived.Test.YtdeljhehcjknbaaDoorClient
namespace Go.Proofs.YtdeljhehcjknbaaDoor
open Go.RowKit

set_option maxRecDepth 100000 in
/-- A row of the table: two texts. -/
theorem row_of_trod {H : Type} {enc : TypeId × Value → H} {W : World} {base : Nat} {sp : Nat → Bool} {held : Bool} {fuel : Nat} {cs : List Value} {d : DataW H} {p : List MemPlace}
    (h : DataW.trod enc Tryd.prog W base sp held fuel 91 cs = some (d, p)) : ∃ s1 s2 : ByteArray, cs = [.string s1, .string s2] ∧ d = .agg [.lit (.string s1.data.toList), .lit (.string s2.data.toList)] := by
  cases fuel with
  | zero => simp [DataW.trod] at h
  | succ fuel =>
    have c2 : Tryd.prog.cellsOf 91 = 2 := by kernel_rfl
    have c1 : Tryd.prog.cellsOf 9 = 1 := by kernel_rfl
    simp only [DataW.trod, Tryd.underlying91, c2] at h
    split at h
    · rename_i hl
      obtain ⟨xs, hm, hx⟩ := Option.map_eq_some_iff.1 h
      simp only [Prod.mk.injEq] at hx
      obtain ⟨b0, hb0, hf0⟩ := Lib.mapM_at hm 0 _ rfl
      obtain ⟨b1, hb1, hf1⟩ := Lib.mapM_at hm 1 _ rfl
      have hlen : xs.length = 2 := Lib.mapM_length hm
      simp only [c1] at hf0 hf1
      obtain ⟨s1, e1, rfl, _⟩ := DataW.trod_string Tryd.underlying9 hf0
      obtain ⟨s2, e2, rfl, _⟩ := DataW.trod_string Tryd.underlying9 hf1
      match cs, hl with
      | [x, y], _ =>
        simp at e1 e2
        subst e1 e2
        match xs, hlen with
        | [u, v], _ =>
          simp at hb0 hb1
          subst hb0 hb1
          exact ⟨s1, s2, rfl, hx.1.symm⟩
    · cases h

/-- The table: twelve rows. -/
theorem rows_of_trod {H : Type} {enc : TypeId × Value → H} {W : World} {base : Nat} {sp : Nat → Bool} {held : Bool} {fuel : Nat} {cs : List Value} {ds : List (DataW H)} {p : List MemPlace}
    (h : DataW.trod enc Tryd.prog W base sp held fuel 102 cs = some (.agg ds, p)) (n : Nat) (hn : n < 12) :
    ∃ s1 s2 : ByteArray, cs[2 * n]? = some (.string s1) ∧ cs[2 * n + 1]? = some (.string s2) ∧ ds[n]? = some (.agg [.lit (.string s1.data.toList), .lit (.string s2.data.toList)]) := by
  cases fuel with
  | zero => simp [DataW.trod] at h
  | succ fuel =>
    have c2 : Tryd.prog.cellsOf 91 = 2 := by kernel_rfl
    have c24 : Tryd.prog.cellsOf 102 = 24 := by kernel_rfl
    simp only [DataW.trod, Tryd.underlying102, c2, c24] at h
    split at h
    · rename_i hl
      obtain ⟨xs, hm, hx⟩ := Option.map_eq_some_iff.1 h
      simp only [Prod.mk.injEq, DataW.agg.injEq] at hx
      obtain ⟨b, hb, hf⟩ := Lib.mapM_at hm n n (by simp [hn])
      obtain ⟨s1, s2, e, hd⟩ := row_of_trod (d := b.1) (p := b.2) hf
      refine ⟨s1, s2, ?_, ?_, ?_⟩
      · have := congrArg (·[0]?) e
        simp only [List.getElem?_cons_zero] at this
        rw [← this]; simp [Nat.mul_comm]
      · have := congrArg (·[1]?) e
        simp only [List.getElem?_cons_succ, List.getElem?_cons_zero] at this
        rw [← this]; simp [Nat.mul_comm]
      · rw [← hx.1]; simp [hb, hd]
    · cases h

theorem rows_laid {W : World} (h : laidMetH Tryd.prog [("pannier/client.rows", Rows.laid_pannier_client_rows)] W) :
    ∃ C tt fz, W.heap[0]? = some (.cells C tt fz) ∧ ∀ n : Nat, n < 12 → ∃ s1 s2 : ByteArray, C[2 * n]? = some (.string s1) ∧ C[2 * n + 1]? = some (.string s2) ∧
      (match (Rows.laid_pannier_client_rows : DataW Unit) with | .agg ds => ds | _ => [])[n]? = some (.agg [.lit (.string s1.data.toList), .lit (.string s2.data.toList)]) := by
  have h' : laidMet Tryd.prog [("pannier/client.rows", Rows.laid_pannier_client_rows)] W := h
  obtain ⟨ps, ⟨g', t', cs, fuel, p, q, hg', ht', hvar, hd, _, _⟩, _⟩ := h'
  obtain rfl : 0 = g' := Option.some.inj ((show Tryd.prog.globalNamed "pannier/client.rows" = some 0 by kernel_rfl).symm.trans hg')
  obtain rfl : 102 = t' := Option.some.inj ((show (Tryd.prog.globals[0]?).map (·.type) = some 102 by kernel_rfl).symm.trans ht')
  simp only [World.var?, hg', Option.bind_some] at hvar
  split at hvar
  · rename_i C tt fz hb
    refine ⟨C, tt, fz, hb, fun n hn => ?_⟩
    obtain ⟨s1, s2, h1, h2, h3⟩ := rows_of_trod (ds := (match (Rows.laid_pannier_client_rows : DataW Unit) with | .agg ds => ds | _ => [])) hd n hn
    obtain rfl := Option.some.inj hvar
    exact ⟨s1, s2, by simpa using h1, by simpa using h2, h3⟩
  · cases hvar
end Go.Proofs.YtdeljhehcjknbaaDoor

namespace Go.Proofs.YtdeljhehcjknbaaDoor
open Go.RowKit
def rowsD : List (DataW Unit) := match (Rows.laid_pannier_client_rows : DataW Unit) with | .agg ds => ds | _ => []
def sec : DataW Unit → List UInt8
  | .agg [_, .lit (.string l)] => l
  | _ => []
theorem sec_rows : ∀ n : Nat, n < 12 → (rowsD[n]?).map sec = some (partsOf n).data.toList := by decide +kernel
theorem rowsLie_of_laid {W : World} (h : laidMetH Tryd.prog [("pannier/client.rows", Rows.laid_pannier_client_rows)] W) : RowsLie W := by
  obtain ⟨C, tt, fz, hb, hC⟩ := rows_laid h
  refine ⟨C, tt, fz, hb, fun n hn => ?_⟩
  obtain ⟨s1, s2, h1, h2, h3⟩ := hC n hn
  refine ⟨⟨s1, h1⟩, ?_⟩
  have h4 := congrArg (Option.map sec) (show rowsD[n]? = _ from h3)
  rw [sec_rows n hn] at h4
  have h5 : (partsOf n).data.toList = s2.data.toList := Option.some.inj h4
  have h6 : partsOf n = s2 := ByteArray.ext (Array.toList_inj.1 h5)
  rw [h2, h6]
end Go.Proofs.YtdeljhehcjknbaaDoor
