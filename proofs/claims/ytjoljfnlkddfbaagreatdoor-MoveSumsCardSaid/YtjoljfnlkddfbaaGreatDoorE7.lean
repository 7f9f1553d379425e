/- Stage 12: plain facts of the four changes, for DeltaHolds and DeltaTwo (no program in sight). -/
import Derived.Test.YtjoljfnlkddfbaaGreatDoorDeltaK
set_option linter.unusedSimpArgs false
set_option linter.unusedVariables false
set_option maxRecDepth 100000
set_option maxHeartbeats 4000000
namespace Go.Proofs.YtjoljfnlkddfbaaGreatDoor
open Go.RowKit Go.Maps Go.Sort Go.Shelf

theorem allDots_mul {n : Nat} : ∀ (l : List ItemD), (∀ x ∈ l, x.marks.length ≤ n) → (allDots l).length ≤ l.length * n
 | [], _ => by simp [allDots]
 | a :: l, h => by
  have := allDots_mul l (fun x hx => h x (.tail _ hx))
  have h2 := h a (.head _)
  unfold allDots at this ⊢
  rw [List.flatMap_cons, List.length_append, List.length_cons, Nat.succ_mul]
  have h3 : (dotsM a.marks).length = a.marks.length := by unfold dotsM; rw [List.length_map]
  omega
theorem dotsC_le (c : CartD) (nm : ByteArray) : (dotsC c nm).length ≤ (allDots c.items).length := by
 unfold dotsC
 split
 ·split
  ·have := setD_leL (allDots c.items)
   omega
  ·unfold dotsM marksOf findX
   rw [List.length_map]
   rcases e : c.items.find? (fun x => decide (x.name = nm)) with _ | x
   ·rw [e]; simp
   ·have hx := List.mem_of_find?_eq_some e
    have : ∀ l : List ItemD, x ∈ l → x.marks.length ≤ (allDots l).length := fun l => by
     induction l with
     | nil => intro h; cases h
     | cons y l ih =>
      intro h
      unfold allDots at ih ⊢
      rw [List.flatMap_cons, List.length_append]
      rcases List.mem_cons.1 h with rfl | h
      ·have h3 : (dotsM x.marks).length = x.marks.length := by unfold dotsM; rw [List.length_map]
       omega
      ·have := ih h
       omega
    rw [e]
    exact this _ hx
 ·simp
theorem putOf_CL {n : Nat} {c : CartD} {d : DotD} {nm : ByteArray} {q : Int} (h : (dotsC c nm).length + 1 ≤ n) : CL n (putOf c d nm q) := by
 have hg : CL n (goneC (d :: dotsC c nm)) := goneC_CL.mono (by simpa using h)
 refine ⟨hg.1, by simp [putOf]; omega, fun x hx => ?_⟩
 have : x = ⟨nm, [newM c d q]⟩ := by simpa [putOf] using hx
 rw [this]
 simp
 omega
/-- Behind Add or Set. -/
theorem put_holds {c : CartD} {d : DotD} {nm : ByteArray} {q : Int} {set : Bool} (h : putCE c d nm q set = 0) :
  putC c d nm q set = putOf c d nm q ∧ validC c = true ∧ freshC c d = true ∧ validC (putOf c d nm q) = true ∧ nameB nm = true ∧ validMarkD (newM c d q) = true ∧
  refJoin c (putOf c d nm q) = ⟨(addX (c.vec, c.cloud) [d]).1, (addX (c.vec, c.cloud) [d]).2, putI c.items ⟨nm, [newM c d q]⟩⟩ ∧ validI (putI c.items ⟨nm, [newM c d q]⟩) = true ∧
  qtyC (refJoin c (putOf c d nm q)) nm = q ∧ qtyCE (refJoin c (putOf c d nm q)) nm = 0 ∧ thereB (refJoin c (putOf c d nm q)).items nm = true ∧ findX (refJoin c (putOf c d nm q)).items nm = ⟨nm, [newM c d q]⟩ ∧ freshC (refJoin c (putOf c d nm q)) d = false := by
 obtain ⟨hf, hn, hq, hs, ht⟩ := putCE_zero h
 have hm := newM_valid hf hq ht
 have ho := oneI_new hn hm
 have hj := put_join hf hn hm
 have hX := putOf_valid hf hn hm
 have hc := (freshC_parts hf).1
 have hY := join_valid hc hX
 have hvI := (validC_parts hY).2.1
 have hmem : (⟨nm, [newM c d q]⟩ : ItemD) ∈ (refJoin c (putOf c d nm q)).items := by rw [hj]; exact mem_putI.2 (Or.inr rfl)
 have hqy := qtyC_mem hY hmem
 refine ⟨by unfold putC; rw [if_pos h], hc, hf, hX, hn, hm, hj, by rw [hj] at hvI; exact hvI, ?_, hqy.2, thereB_mem hmem, findX_mem hvI hmem, ?_⟩
 ·rw [show qtyC (refJoin c (putOf c d nm q)) nm = qtyI ⟨nm, [newM c d q]⟩ from hqy.1, qtyI_one ho]
  rfl
 ·unfold freshC
  rw [(validC_parts hY).2.2 d (mem_allDots.2 ⟨_, hmem, newM c d q, by simp, rfl⟩)]
  simp
theorem put_zero {c : CartD} {d : DotD} {nm : ByteArray} {q : Int} {set : Bool} (h : putCE c d nm q set ≠ 0) : putC c d nm q set = zeroC := by unfold putC; rw [if_neg h]
theorem remCE_zero {c : CartD} {nm : ByteArray} (h : remCE c nm = 0) : validC c = true ∧ nameB nm = true ∧ thereB c.items nm = true := by
 unfold remCE at h
 cases hv : validC c <;> cases hn : nameB nm <;> cases ht : thereB c.items nm <;> simp [hv, hn, ht] at h ⊢
theorem clrCE_zero {c : CartD} (h : clrCE c = 0) : validC c = true := by
 unfold clrCE at h
 cases hv : validC c <;> simp [hv] at h ⊢
theorem rem_holds {c : CartD} {nm : ByteArray} (h : remCE c nm = 0) :
  remC c nm = goneC (dotsC c nm) ∧ validC c = true ∧ thereB c.items nm = true ∧ validC (goneC (dotsC c nm)) = true ∧ refJoin c (goneC (dotsC c nm)) = ⟨c.vec, c.cloud, dropN c.items nm⟩ ∧ dotsC c nm = dotsM (marksOf c.items nm) := by
 obtain ⟨hc, hn, ht⟩ := remCE_zero h
 have e := dotsC_named hc hn
 refine ⟨by unfold remC; rw [if_pos h], hc, ht, ?_, ?_, e⟩
 ·rw [e]; exact (goneC_spec (dotsM_valid (validC_parts hc).2.1 nm)).1
 ·rw [e]; exact rem_join hc
theorem clr_holds {c : CartD} (h : clrCE c = 0) :
  clrC c = goneC (setD (allDots c.items)) ∧ validC c = true ∧ validC (goneC (setD (allDots c.items))) = true ∧ refJoin c (goneC (setD (allDots c.items))) = ⟨c.vec, c.cloud, []⟩ := by
 have hc := clrCE_zero h
 exact ⟨by unfold clrC; rw [if_pos h], hc, (goneC_spec (dotsM_valid_all (validC_parts hc).2.1)).1, clr_join hc⟩
end Go.Proofs.YtjoljfnlkddfbaaGreatDoor
