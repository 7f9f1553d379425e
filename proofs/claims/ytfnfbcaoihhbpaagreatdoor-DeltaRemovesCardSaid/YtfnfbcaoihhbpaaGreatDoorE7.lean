/- Stage 12: plain facts of the four changes, for DeltaHolds and DeltaTwo (no program in sight). -/
import Derived.Test.YtfnfbcaoihhbpaaGreatDoorDeltaK
set_option linter.unusedSimpArgs false
set_option linter.unusedVariables false
set_option maxRecDepth 100000
set_option maxHeartbeats 4000000
namespace Go.Proofs.YtfnfbcaoihhbpaaGreatDoor
open Go.RowKit Go.Maps Go.Sort Go.Shelf

theorem allDots_mul {n : Nat} : ∀ (l : List ItemD), (∀ x ∈ l, x.marks.length ≤ n) → (allDots l).length ≤ l.length * n
 | [], _ => by simp [allDots]
 | a :: l, h => by
  have := allDots_mul l (fun x hx => h x (.tail _ hx))
  have h2 := h a (.head _)
  unfold allDots at this ⊢
  rw [List.flatMap_cons, List.length_append, List.length_cons, Nat.succ_mul]
  have h3 : (dotsM a.marks).length = a.marks.length := by unfold dotsM; rw [List.length_map]
  omega
theorem dotsC_le (c : CartD) (nm : ByteArray) : (dotsC c nm).length ≤ (allDots c.items).length := by
 unfold dotsC
 split
 ·split
  ·have := setD_leL (allDots c.items)
   omega
  ·unfold dotsM marksOf findX
   rw [List.length_map]
   rcases e : c.items.find? (fun x => decide (x.name = nm)) with _ | x
   ·rw [e]; simp
   ·have hx := List.mem_of_find?_eq_some e
    have : ∀ l : List ItemD, x ∈ l → x.marks.length ≤ (allDots l).length := fun l => by
     induction l with
     | nil => intro h; cases h
     | cons y l ih =>
      intro h
      unfold allDots at ih ⊢
      rw [List.flatMap_cons, List.length_append]
      rcases List.mem_cons.1 h with rfl | h
      ·have h3 : (dotsM x.marks).length = x.marks.length := by unfold dotsM; rw [List.length_map]
       omega
      ·have := ih h
       omega
    rw [e]
    exact this _ hx
 ·simp
end Go.Proofs.YtfnfbcaoihhbpaaGreatDoor
