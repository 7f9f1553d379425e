/- Canon and deltas as the kernel reckons them: the chapters' examples. -/
import Derived.Test.YtadbmineobldbaaGreatDoorCanonP
namespace Go.Proofs.YtadbmineobldbaaGreatDoor

def thereB (l : List ItemD) (nm : ByteArray) : Bool := l.any (fun x => decide (x.name = nm))
def qtyC (c : CartD) (nm : ByteArray) : Int := if validC c && thereB c.items nm then qtyI (findX c.items nm) else 0
def qtyCE (c : CartD) (nm : ByteArray) : Int := if validC c then (if thereB c.items nm then 0 else 9) else 2
def unitsI (l : List ItemD) : Int := l.foldl (fun n x => n + qtyI x) 0
def unitsC (c : CartD) : Int := if validC c then unitsI c.items else 0
def dotsC (c : CartD) (nm : ByteArray) : List DotD := if validC c then (if nm.size = 0 then setD (allDots c.items) else dotsM (marksOf c.items nm)) else []
def allMarks (l : List ItemD) : List MarkD := l.flatMap (·.marks)
def zM : MarkD := ⟨⟨0, 0⟩, 0, 0⟩
def lastT (l : List MarkD) : Int := (greatM zM (zM :: l)).time
def timeC (c : CartD) : Int := if validC c then (if lastT (allMarks c.items) = 18446744073709551615 then 0 else lastT (allMarks c.items) + 1) else 0
def timeCE (c : CartD) : Int := if validC c then (if lastT (allMarks c.items) = 18446744073709551615 then 15 else 0) else 2
theorem thereB_find {l : List ItemD} {nm : ByteArray} (h : thereB l nm = true) : findX l nm ∈ l ∧ (findX l nm).name = nm := by
 unfold findX
 rcases he : l.find? (fun x => decide (x.name = nm)) with _ | x
 ·exfalso
  unfold thereB at h;obtain ⟨x, hx, hn⟩ := List.any_eq_true.1 h;have := List.find?_eq_none.1 he x hx;exact this hn
 ·rw [he, Option.getD_some]
  exact ⟨List.mem_of_find?_eq_some he, by simpa using List.find?_some he⟩
theorem oneI_marks {x : ItemD} (h : oneI x = true) : x.marks ≠ [] ∧ ∀ m ∈ x.marks, validMarkD m = true := by
 unfold oneI at h;simp only [Bool.and_eq_true, decide_eq_true_iff] at h;exact ⟨fun e => by rw [e] at h; simp at h, List.all_eq_true.1 h.2⟩
theorem newestM_mem {l : List MarkD} (h : l ≠ []) : newestM l ∈ l := by
 rcases l with _ | ⟨a, l⟩
 ·exact absurd rfl h
 ·have e : newestM (a :: l) = greatM a l := by
   show greatM (better a a) l = _
   rw [better_self]
  rw [e];exact (greatM_spec l a).1
theorem addX_perm (a : List DotD × List DotD) {l m : List DotD} (h : ∀ d, d ∈ l ↔ d ∈ m) : addX a l = addX a m := by
 unfold addX;rw [show setD (a.2 ++ l) = setD (a.2 ++ m) from ss_ext (setD_ss _) (setD_ss _) (fun d => by rw [setD_mem, setD_mem, List.mem_append, List.mem_append, h])]
end Go.Proofs.YtadbmineobldbaaGreatDoor
namespace Go.Proofs.YtadbmineobldbaaGreatDoor

end Go.Proofs.YtadbmineobldbaaGreatDoor
namespace Go.Proofs.YtadbmineobldbaaGreatDoor

theorem addXK (a : List DotD × List DotD) (l : List DotD) : addX a l = compactX a.1 (unionD a.2 l) := by
 unfold addX;rw [unionD_eq]
theorem addXK2 (a : List DotD × List DotD) (l : List DotD) : addX a (setD l) = compactX a.1 (unionD a.2 l) := by
 rw [addX_perm a (fun d => setD_mem l d), addXK]
theorem validC_K : validC = validCK := funext validCK_eq
def canonOkK (c : CartD) : Bool := validX c.vec c.cloud && goodI (c.items.map canonItem)
theorem canonOkK_eq (c : CartD) : canonOk c = canonOkK c := canonOk_good c
def canonK (c : CartD) : CartD := ⟨(compactX c.vec (unionD c.cloud (allDots (canonI c.items)))).1, (compactX c.vec (unionD c.cloud (allDots (canonI c.items)))).2, canonI c.items⟩
theorem canonK_eq (c : CartD) : canonOf c = canonK c := by
 unfold canonOf canonK;rw [addXK2]
 rfl
def tTea : ByteArray := ⟨#[84, 101, 97]⟩
def tNut : ByteArray := ⟨#[78, 117, 116]⟩
def tOil : ByteArray := ⟨#[79, 105, 108]⟩
def k1 : MarkD := ⟨⟨1, 1⟩, 5, 3⟩
def k2 : MarkD := ⟨⟨2, 1⟩, 7, 4⟩
def k3 : MarkD := ⟨⟨1, 2⟩, 2, 9⟩
def cX : CartD := ⟨[⟨1, 1⟩, ⟨2, 1⟩], [], [⟨tNut, [k2]⟩, ⟨tTea, [k1]⟩]⟩
def cY : CartD := ⟨[], [], [⟨tTea, [k3, k1]⟩, ⟨tNut, [k2]⟩]⟩
def cZ : CartD := ⟨[⟨1, 2⟩, ⟨2, 1⟩], [], [⟨tNut, [k2]⟩, ⟨tTea, [k1, k3]⟩]⟩
def cP : CartD := ⟨[⟨1, 1⟩], [], [⟨tNut, [k2]⟩, ⟨tTea, [k1]⟩]⟩
def cQ : CartD := ⟨[⟨1, 1⟩], [⟨2, 1⟩], [⟨tNut, [k2]⟩, ⟨tTea, [k1]⟩]⟩
theorem kv : validC cX = true ∧ validC cY = false ∧ validC zeroC = true ∧ validC cP = false ∧ validC cQ = false ∧ validC cZ = true := by
 rw [validC_K]; decide +kernel
theorem kc : canonOk cY = true ∧ canonOf cY = cZ := by
 rw [canonOkK_eq, canonK_eq]; decide +kernel
theorem kq : (qtyC cX tTea = 5 ∧ qtyCE cX tTea = 0) ∧ (qtyC cZ tTea = 2 ∧ qtyCE cZ tTea = 0) ∧ (qtyC cX tOil = 0 ∧ qtyCE cX tOil = 9) ∧ (qtyC cY tTea = 0 ∧ qtyCE cY tTea = 2) := by
 unfold qtyC qtyCE; rw [validC_K]; decide +kernel
theorem ku : unitsC cX = 12 ∧ unitsC cZ = 9 := by
 unfold unitsC; rw [validC_K]; decide +kernel
theorem kd : dotsC cX tTea = [⟨1, 1⟩] ∧ dotsC cX tOil = [] ∧ dotsC cX ⟨#[]⟩ = [⟨1, 1⟩, ⟨2, 1⟩] := by
 unfold dotsC;rw [setD_eq (l := allDots cX.items) (m := [⟨1, 1⟩, ⟨2, 1⟩]) (by decide +kernel) (by decide +kernel) (by decide +kernel), validC_K]
 decide +kernel
theorem kt : (timeC cX = 5 ∧ timeCE cX = 0) ∧ (timeC zeroC = 1 ∧ timeCE zeroC = 0) := by
 unfold timeC timeCE; rw [validC_K]; decide +kernel
end Go.Proofs.YtadbmineobldbaaGreatDoor
