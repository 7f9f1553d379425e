/- What JoinHolds and JoinGroups ask, plain. -/
import Derived.Test.YtemfaojmelljpaaGreatDoorC22
namespace Go.Proofs.YtemfaojmelljpaaGreatDoor
open Go.RowKit Go.Maps

theorem withinB_true {a b : CartD} (ha : validC a = true) (hb : validC b = true) : withinB a b = decide (refJoin a b = b) := by
  unfold withinB
  rw [ha, hb]; simp
theorem dj {a b c : CartD} (ha : validC a = true) (hb : validC b = true) (h : refJoin a b = c) : (decide (joinR a b = c) && (joinE a b == 0)) = true := by
  rw [(joinR_true ha hb).1, (joinR_true ha hb).2, h]
  simp
theorem wj {a b : CartD} (ha : validC a = true) (hb : validC b = true) (h : refJoin a b = b) : ((withinB a b == true) && (joinE a b == 0)) = true := by
  rw [withinB_true ha hb, (joinR_true ha hb).2, h]
  simp
/-- JoinHolds, plain. -/
theorem holds_plain {a b : CartD} (ha : validC a = true) (hb : validC b = true) :
    joinE a b = 0 ∧ validC (joinR a b) = true ∧ (decide (joinR b a = joinR a b) && (joinE b a == 0)) = true ∧ (decide (joinR a a = a) && (joinE a a == 0)) = true ∧
    ((withinB a (joinR a b) == true) && (joinE a (joinR a b) == 0)) = true ∧ ((withinB b (joinR a b) == true) && (joinE b (joinR a b) == 0)) = true ∧ joinE b a = 0 ∧
    ((withinB a b && withinB b a) == decide (a = b)) = true ∧ (withinB a b == decide (joinR a b = b)) = true := by
  have hv := join_valid ha hb
  have e := (joinR_true ha hb).1
  refine ⟨(joinR_true ha hb).2, by rw [e]; exact hv, dj hb ha (by rw [e]; exact join_comm hb ha), dj ha ha (join_self ha), by rw [e]; exact wj ha hv (join_absorb ha hb), ?_, (joinR_true hb ha).2, ?_, ?_⟩
  · rw [e]
    refine wj hb hv ?_
    rw [join_comm ha hb]
    exact join_absorb hb ha
  · rw [withinB_true ha hb, withinB_true hb ha, within_both ha hb]
    simp
  · rw [withinB_true ha hb, e]
    simp
/-- JoinGroups, plain. -/
theorem groups_plain {a b c : CartD} (ha : validC a = true) (hb : validC b = true) (hc : validC c = true) :
    joinE a b = 0 ∧ joinE b c = 0 ∧ joinE (joinR a b) c = 0 ∧ (decide (joinR a (joinR b c) = joinR (joinR a b) c) && (joinE a (joinR b c) == 0)) = true ∧
    (decide (joinR b (joinR (joinR a b) c) = joinR (joinR a b) c) && (joinE b (joinR (joinR a b) c) == 0)) = true ∧
    (decide (allR [c, a, b] = joinR (joinR a b) c) && (allE [c, a, b] == 0)) = true := by
  have hab := join_valid ha hb
  have hbc := join_valid hb hc
  have habc := join_valid hab hc
  have e1 := (joinR_true ha hb).1
  have e2 := (joinR_true hb hc).1
  have e3 := (joinR_true hab hc).1
  rw [e1, e2, e3]
  refine ⟨(joinR_true ha hb).2, (joinR_true hb hc).2, (joinR_true hab hc).2, dj ha hbc (join_assoc ha hb hc).symm, dj hb habc ?_, ?_⟩
  · rw [join_assoc ha hb hc, ← join_assoc hb ha hbc, join_comm hb ha, join_assoc ha hb hbc, join_absorb hb hc]
  · have hl : ∀ x ∈ [c, a, b], validC x = true := fun x hx => by
      simp only [List.mem_cons, List.not_mem_nil, or_false] at hx
      rcases hx with rfl | rfl | rfl
      · exact hc
      · exact ha
      · exact hb
    have hv : allV [c, a, b] = true := List.all_eq_true.2 hl
    unfold allR allE
    rw [if_pos hv, if_pos hv]
    have e : allC [c, a, b] = refJoin (refJoin a b) c := by
      rw [allC_eq (m := [a, b, c]) hl (fun x => by simp only [List.mem_cons, List.not_mem_nil, or_false]; constructor <;> (intro h; rcases h with h | h | h <;> simp [h]))]
      show refJoin (refJoin (refJoin zeroC a) b) c = _
      rw [join_zero ha]
    rw [e]
    simp
end Go.Proofs.YtemfaojmelljpaaGreatDoor
