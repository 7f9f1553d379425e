/- ShareFulls walked: true for all numbers, wherever the table of rows lies. -/
import Derived.Test.YtdeljhehcjknbaaDoorS18
namespace Go.Proofs.YtdeljhehcjknbaaDoor
open Go.RowKit Go.Maps Go.Sort

set_option maxRecDepth 100000 in
set_option maxHeartbeats 4000000 in
/-- ShareFulls, for all numbers: outside of its range it is `known`. -/
theorem fulls_any (carts many : Int) (pass : Bool) (w : World) (hR : RowsLie w) :
    Calls Tryd.prog 4 #[.int .i64 carts, .int .i64 many, .bool pass] w fun e w' => e = .returned (.bool true) ∧ Below w.heap.size w w' := by
  by_cases hin : (498 ≤ carts ∧ carts ≤ 502) ∧ 48 ≤ many ∧ many ≤ 52
  · exact fulls_in carts many pass w hR hin.1.1 hin.1.2 hin.2.1 hin.2.2
  · have HK := Lib.hid (known_any w hR)
    clear hR
    go_enter Tryd.func4, Tryd.ntmps4
    by_cases h1 : carts < 498
    · have h1b : decide (carts < 498) = true := decide_eq_true h1
      go_wp2_with (go_at_call 9; refine HK.out.mono ?_; rintro e w6 ⟨rfl, hb6⟩)
      go_ret
      exact ⟨rfl, hb6⟩
    · have h1b : decide (carts < 498) = false := decide_eq_false h1
      by_cases h2 : 502 < carts
      · have h2b : decide (502 < carts) = true := decide_eq_true h2
        go_wp2_with (go_at_call 9; refine HK.out.mono ?_; rintro e w6 ⟨rfl, hb6⟩)
        go_ret
        exact ⟨rfl, hb6⟩
      · have h2b : decide (502 < carts) = false := decide_eq_false h2
        by_cases h3 : many < 48
        · have h3b : decide (many < 48) = true := decide_eq_true h3
          go_wp2_with (go_at_call 9; refine HK.out.mono ?_; rintro e w6 ⟨rfl, hb6⟩)
          go_ret
          exact ⟨rfl, hb6⟩
        · have h3b : decide (many < 48) = false := decide_eq_false h3
          have h4 : 52 < many := by omega
          have h4b : decide (52 < many) = true := decide_eq_true h4
          go_wp2_with (go_at_call 9; refine HK.out.mono ?_; rintro e w6 ⟨rfl, hb6⟩)
          go_ret
          exact ⟨rfl, hb6⟩
end Go.Proofs.YtdeljhehcjknbaaDoor
