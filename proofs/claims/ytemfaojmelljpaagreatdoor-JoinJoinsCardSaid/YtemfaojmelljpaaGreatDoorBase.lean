/- Maps keyed by strings as they lie, and their operations: for every map block that holds its entries in order. -/
import Derived.Test.YtemfaojmelljpaaGreatDoorRows
import Derived.WalkKit
import Derived.WalkSpells
import Derived.WalkLawsBesides
import Derived.Maps.Own
import Derived.Maps.OwnOps
import Derived.Maps.OwnSet
namespace Go.Proofs.YtemfaojmelljpaaGreatDoor
open Go.RowKit Go.Maps Go.MapKept

section
variable {P : Program} {w : World} {r : Nat} {m : List (ByteArray × Value)} {t kt et : TypeId}

theorem grownBy_set (w : World) (r : Nat) (o : Obj) : w.grownBy { w with heap := w.heap.setIfInBounds r o } (some r) :=
  ⟨rfl, rfl, rfl, by simp, fun k _ hne => by
    show (w.heap.setIfInBounds r o)[k]? = _
    rw [Array.getElem?_setIfInBounds]; rw [if_neg (fun e => hne (by rw [e]))]⟩

end

theorem toList_loop (s : ByteArray) : ∀ (n i : Nat) (r : List UInt8), s.size - i = n → ByteArray.toList.loop s i r = r.reverse ++ s.data.toList.drop i
  | 0, i, r, h => by
    unfold ByteArray.toList.loop;rw [if_neg (by omega), List.drop_of_length_le (by simp; show s.size ≤ i; omega)]
    simp
  | n + 1, i, r, h => by
    unfold ByteArray.toList.loop;rw [if_pos (by omega), toList_loop s n (i + 1) _ (by omega)]
    have hi : i < s.data.toList.length := by simp; show i < s.size; omega
    rw [List.drop_eq_getElem_cons hi];simp only [List.reverse_cons, List.append_assoc, List.singleton_append]
    congr 2
    have : s.get! i = s.data.toList[i] := by
      show s.data[i]! = _
      rw [getElem!_pos s.data i (by simpa using hi)]
      simp
    rw [this]
theorem bytes_toList (s : ByteArray) : s.toList = s.data.toList := by
  unfold ByteArray.toList;rw [toList_loop s _ 0 [] rfl]; simp
theorem bytes_toList_beq (a b : ByteArray) : (a.toList == b.toList) = decide (a = b) := by
  rw [bytes_toList, bytes_toList]
  by_cases h : a = b
  · subst h; rw [beq_self_eq_true]; simp
  · have : ¬ a.data.toList = b.data.toList := fun e => h (by cases a; cases b; simp only [ByteArray.mk.injEq]; exact Array.toList_inj.1 e)
    rw [decide_eq_false h, beq_eq_false_iff_ne.2 this]
theorem str_eq {a b : ByteArray} (h : a = b) : (a.toList == b.toList) = true := by rw [bytes_toList_beq]; simp [h]
theorem str_ne {a b : ByteArray} (h : ¬ a = b) : (a.toList == b.toList) = false := by rw [bytes_toList_beq]; simp [h]

section
variable {P : Program} {w : World} {ops : Array Oper} {rest : List Oper} {o : Oper} {a : Act} {Q : Exit → Act → World → Prop} {r : Nat} {m : List (ByteArray × Value)} {t kt et : TypeId}

theorem wpList_wanted (hg : Region.wanted o (yielded ops a.tmps) = true)
    (h : ∀ K : Act → World → Prop, (∀ a w, wpList P ops Q rest a w → K a w) → o.wp P a w K Q) : wpList P ops Q (o :: rest) a w :=
  wpList_step fun K hK => by rw [if_pos hg]; exact h K hK

end

end Go.Proofs.YtemfaojmelljpaaGreatDoor
