/- Canon and deltas as the kernel reckons them: the chapters' examples. -/
import Derived.Test.YtfnfbcaoihhbpaaGreatDoorCanonP
namespace Go.Proofs.YtfnfbcaoihhbpaaGreatDoor

/-! ### Quantities, dots, times -/
def thereB (l : List ItemD) (nm : ByteArray) : Bool := l.any (fun x => decide (x.name = nm))
def dotsC (c : CartD) (nm : ByteArray) : List DotD := if validC c then (if nm.size = 0 then setD (allDots c.items) else dotsM (marksOf c.items nm)) else []
def allMarks (l : List ItemD) : List MarkD := l.flatMap (·.marks)
def zM : MarkD := ⟨⟨0, 0⟩, 0, 0⟩
def lastT (l : List MarkD) : Int := (greatM zM (zM :: l)).time
def timeC (c : CartD) : Int := if validC c then (if lastT (allMarks c.items) = 18446744073709551615 then 0 else lastT (allMarks c.items) + 1) else 0
def timeCE (c : CartD) : Int := if validC c then (if lastT (allMarks c.items) = 18446744073709551615 then 15 else 0) else 2
theorem lastT_newest {l : List MarkD} (h : ∀ m ∈ l, 0 < m.time) : lastT l = (newestM l).time := by
 unfold lastT
 have hz : greatM zM (zM :: l) = greatM zM l := by
  show greatM (better zM zM) l = _
  rw [better_self]
 rw [hz]
 obtain ⟨g1, g2⟩ := greatM_spec l zM
 rcases l with _ | ⟨a, l⟩
 ·rfl
 ·have e : newestM (a :: l) = greatM a l := by
   show greatM (better a a) l = _
   rw [better_self]
  obtain ⟨n1, n2⟩ := greatM_spec l a
  rw [e]
  have h1 := g2 (greatM a l) (List.mem_cons_of_mem _ n1)
  have h3 : ¬ (greatM zM (a :: l)).time < (greatM a l).time := fun h4 => h1 (Or.inl h4)
  rcases List.mem_cons.1 g1 with h5 | h5
  ·have := h _ n1
   have h6 : (greatM zM (a :: l)).time = 0 := by rw [h5]; rfl
   omega
  ·have h2 := n2 _ h5
   have h7 : ¬ (greatM a l).time < (greatM zM (a :: l)).time := fun h4 => h2 (Or.inl h4)
   omega
theorem thereB_find {l : List ItemD} {nm : ByteArray} (h : thereB l nm = true) : findX l nm ∈ l ∧ (findX l nm).name = nm := by
 unfold findX
 rcases he : l.find? (fun x => decide (x.name = nm)) with _ | x
 ·exfalso
  unfold thereB at h
  obtain ⟨x, hx, hn⟩ := List.any_eq_true.1 h
  have := List.find?_eq_none.1 he x hx
  exact this hn
 ·rw [he, Option.getD_some]
  exact ⟨List.mem_of_find?_eq_some he, by simpa using List.find?_some he⟩
theorem thereB_marks {l : List ItemD} (h : validI l = true) (nm : ByteArray) : thereB l nm = decide (0 < (marksOf l nm).length) := by
 rw [Bool.eq_iff_iff, decide_eq_true_iff]
 constructor
 ·intro ht
  obtain ⟨h1, h2⟩ := thereB_find ht
  have := (validI_parts h).1 _ h1
  unfold oneI at this
  simp only [Bool.and_eq_true, decide_eq_true_iff] at this
  exact this.1.1.2
 ·intro hp
  unfold thereB
  rw [List.any_eq_true]
  apply Classical.byContradiction
  intro hno
  have : marksOf l nm = [] := marksOf_none (fun x hx e => hno ⟨x, hx, by simp [e]⟩)
  rw [this] at hp
  simp at hp
theorem oneI_marks {x : ItemD} (h : oneI x = true) : x.marks ≠ [] ∧ ∀ m ∈ x.marks, validMarkD m = true := by
 unfold oneI at h
 simp only [Bool.and_eq_true, decide_eq_true_iff] at h
 exact ⟨fun e => by rw [e] at h; simp at h, List.all_eq_true.1 h.2⟩
theorem validMark_parts {m : MarkD} (h : validMarkD m = true) : validDotD m.dot = true ∧ 1 ≤ m.qty ∧ m.qty ≤ 2147483647 ∧ 0 < m.time := by
 unfold validMarkD at h
 simp only [Bool.and_eq_true, decide_eq_true_iff] at h
 exact ⟨h.1.1, h.1.2.1, h.1.2.2, h.2⟩
theorem newestM_mem {l : List MarkD} (h : l ≠ []) : newestM l ∈ l := by
 rcases l with _ | ⟨a, l⟩
 ·exact absurd rfl h
 ·have e : newestM (a :: l) = greatM a l := by
   show greatM (better a a) l = _
   rw [better_self]
  rw [e]
  exact (greatM_spec l a).1
theorem allMarks_time {l : List ItemD} (h : validI l = true) : ∀ m ∈ allMarks l, 0 < m.time := by
 intro m hm
 obtain ⟨x, hx, hmx⟩ := List.mem_flatMap.1 hm
 exact (validMark_parts ((oneI_marks ((validI_parts h).1 x hx)).2 m hmx)).2.2.2

/-! ### Deltas -/
def goneC (l : List DotD) : CartD := ⟨(addX ([], []) l).1, (addX ([], []) l).2, []⟩
theorem addX_perm (a : List DotD × List DotD) {l m : List DotD} (h : ∀ d, d ∈ l ↔ d ∈ m) : addX a l = addX a m := by
 unfold addX
 rw [show setD (a.2 ++ l) = setD (a.2 ++ m) from ss_ext (setD_ss _) (setD_ss _) (fun d => by rw [setD_mem, setD_mem, List.mem_append, List.mem_append, h])]
def freshC (c : CartD) (d : DotD) : Bool := validC c && validDotD d && !hasC c d
def putCE (c : CartD) (d : DotD) (nm : ByteArray) (q : Int) (set : Bool) : Int :=
 if freshC c d && nameB nm then
  if validQ q then
   if set && !thereB c.items nm then 9 else if !set && !thereB c.items nm && decide (256 ≤ c.items.length) then 13 else timeCE c
  else 14
 else 2
def newM (c : CartD) (d : DotD) (q : Int) : MarkD := ⟨d, q, timeC c⟩
def putOf (c : CartD) (d : DotD) (nm : ByteArray) (q : Int) : CartD := ⟨(goneC (d :: dotsC c nm)).vec, (goneC (d :: dotsC c nm)).cloud, [⟨nm, [newM c d q]⟩]⟩
def putC (c : CartD) (d : DotD) (nm : ByteArray) (q : Int) (set : Bool) : CartD := if putCE c d nm q set = 0 then putOf c d nm q else zeroC
def remCE (c : CartD) (nm : ByteArray) : Int := if validC c && nameB nm then (if thereB c.items nm then 0 else 9) else 2
def remC (c : CartD) (nm : ByteArray) : CartD := if remCE c nm = 0 then goneC (dotsC c nm) else zeroC
def clrCE (c : CartD) : Int := if validC c then 0 else 2
def clrC (c : CartD) : CartD := if clrCE c = 0 then goneC (setD (allDots c.items)) else zeroC
def emptyC (c : CartD) : Bool := decide (c = zeroC)

theorem zeroX_valid : validX [] [] = true := rfl
theorem goneC_spec {l : List DotD} (h : l.all validDotD = true) : validC (goneC l) = true ∧ ∀ d, hasC (goneC l) d = decide (d ∈ l) := by
 obtain ⟨s1, s2⟩ := addX_spec (a := ([], [])) (l := l) zeroX_valid h
 refine ⟨validC_of s1 (by show validI [] = true; unfold validI; simp [risB, allDots, setD, sortD, compactD]) (fun d hd => by simp [allDots, goneC] at hd), fun d => ?_⟩
 show hasX (addX ([], []) l).1 (addX ([], []) l).2 d = _
 rw [s2]
 have : hasX [] [] d = false := by
  rw [← Bool.not_eq_true, hasX_iff]
  rintro ⟨h1, h2 | h2⟩
  ·have := (validDot_iff d).1 h1
   simp only [getV] at h2
   omega
  ·simp at h2
 simp [this]
theorem marks_valid {l : List ItemD} (h : validI l = true) (nm : ByteArray) : ∀ m ∈ marksOf l nm, validMarkD m = true := by
 intro m hm
 have h1 := (mem_marksOf h).1 hm
 obtain ⟨x, hx, -, hmx, -⟩ := (markAt_some h).1 h1
 exact (oneI_marks ((validI_parts h).1 x hx)).2 m hmx
theorem dotsC_named {c : CartD} (h : validC c = true) {nm : ByteArray} (hn : nameB nm = true) : dotsC c nm = dotsM (marksOf c.items nm) := by
 unfold dotsC
 rw [if_pos h]
 have : ¬ nm.size = 0 := by
  unfold nameB at hn
  simp only [Bool.and_eq_true, decide_eq_true_iff] at hn
  omega
 rw [if_neg this]
theorem dotsM_valid {l : List ItemD} (h : validI l = true) (nm : ByteArray) : (dotsM (marksOf l nm)).all validDotD = true := by
 rw [List.all_eq_true]
 intro d hd
 obtain ⟨m, hm, rfl⟩ := List.mem_map.1 hd
 exact (validMark_parts (marks_valid h nm m hm)).1
theorem dotsM_valid_all {l : List ItemD} (h : validI l = true) : (setD (allDots l)).all validDotD = true := setD_all (allDots_valid h)
theorem freshC_parts {c : CartD} {d : DotD} (h : freshC c d = true) : validC c = true ∧ validDotD d = true ∧ hasC c d = false := by
 unfold freshC at h
 simp only [Bool.and_eq_true, Bool.not_eq_true'] at h
 exact ⟨h.1.1, h.1.2, h.2⟩
theorem lastT_nonneg {l : List MarkD} (h : ∀ m ∈ l, 0 < m.time) : 0 ≤ lastT l := by
 unfold lastT
 have hz : greatM zM (zM :: l) = greatM zM l := by
  show greatM (better zM zM) l = _
  rw [better_self]
 rw [hz]
 rcases List.mem_cons.1 (greatM_spec l zM).1 with e | e
 ·rw [e]; exact Int.le_refl _
 ·exact Int.le_of_lt (h _ e)
theorem newM_valid {c : CartD} {d : DotD} {q : Int} (h : freshC c d = true) (hq : validQ q = true) (ht : lastT (allMarks c.items) ≠ 18446744073709551615) : validMarkD (newM c d q) = true := by
 obtain ⟨h1, h2, -⟩ := freshC_parts h
 unfold validQ at hq
 simp only [Bool.and_eq_true, decide_eq_true_iff] at hq
 have h0 := lastT_nonneg (allMarks_time (validC_parts h1).2.1)
 unfold validMarkD newM timeC
 rw [if_pos h1, if_neg ht]
 simp only [Bool.and_eq_true, decide_eq_true_iff]
 exact ⟨⟨h2, hq⟩, by omega⟩
end Go.Proofs.YtfnfbcaoihhbpaaGreatDoor
namespace Go.Proofs.YtfnfbcaoihhbpaaGreatDoor

/-! ### Sizes -/
end Go.Proofs.YtfnfbcaoihhbpaaGreatDoor
namespace Go.Proofs.YtfnfbcaoihhbpaaGreatDoor

theorem addXK (a : List DotD × List DotD) (l : List DotD) : addX a l = compactX a.1 (unionD a.2 l) := by
 unfold addX
 rw [unionD_eq]
theorem addXK2 (a : List DotD × List DotD) (l : List DotD) : addX a (setD l) = compactX a.1 (unionD a.2 l) := by
 rw [addX_perm a (fun d => setD_mem l d), addXK]
def goneK (l : List DotD) : CartD := ⟨(compactX [] (unionD [] l)).1, (compactX [] (unionD [] l)).2, []⟩
theorem goneK_eq (l : List DotD) : goneC l = goneK l := by
 unfold goneC goneK
 rw [addXK]
theorem goneK_eq2 (l : List DotD) : goneC (setD l) = goneK l := by
 unfold goneC goneK
 rw [addXK2]
theorem validC_K : validC = validCK := funext validCK_eq
/-! The examples of stage 10. -/
def tTea : ByteArray := ⟨#[84, 101, 97]⟩
def tNut : ByteArray := ⟨#[78, 117, 116]⟩
def tOil : ByteArray := ⟨#[79, 105, 108]⟩
def k1 : MarkD := ⟨⟨1, 1⟩, 5, 3⟩
def k2 : MarkD := ⟨⟨2, 1⟩, 7, 4⟩
def k3 : MarkD := ⟨⟨1, 2⟩, 2, 9⟩
def cX : CartD := ⟨[⟨1, 1⟩, ⟨2, 1⟩], [], [⟨tNut, [k2]⟩, ⟨tTea, [k1]⟩]⟩
def cY : CartD := ⟨[], [], [⟨tTea, [k3, k1]⟩, ⟨tNut, [k2]⟩]⟩
def cZ : CartD := ⟨[⟨1, 2⟩, ⟨2, 1⟩], [], [⟨tNut, [k2]⟩, ⟨tTea, [k1, k3]⟩]⟩
def cP : CartD := ⟨[⟨1, 1⟩], [], [⟨tNut, [k2]⟩, ⟨tTea, [k1]⟩]⟩
def cQ : CartD := ⟨[⟨1, 1⟩], [⟨2, 1⟩], [⟨tNut, [k2]⟩, ⟨tTea, [k1]⟩]⟩
theorem kv : validC cX = true ∧ validC cY = false ∧ validC zeroC = true ∧ validC cP = false ∧ validC cQ = false ∧ validC cZ = true := by
 rw [validC_K]; decide +kernel
theorem kd : dotsC cX tTea = [⟨1, 1⟩] ∧ dotsC cX tOil = [] ∧ dotsC cX ⟨#[]⟩ = [⟨1, 1⟩, ⟨2, 1⟩] := by
 unfold dotsC
 rw [setD_eq (l := allDots cX.items) (m := [⟨1, 1⟩, ⟨2, 1⟩]) (by decide +kernel) (by decide +kernel) (by decide +kernel), validC_K]
 decide +kernel
theorem kt : (timeC cX = 5 ∧ timeCE cX = 0) ∧ (timeC zeroC = 1 ∧ timeCE zeroC = 0) := by
 unfold timeC timeCE; rw [validC_K]; decide +kernel
/-! The examples of stage 12. -/
theorem dput1 : putCE cZ ⟨1, 3⟩ tTea 4 false = 0 ∧ putOf cZ ⟨1, 3⟩ tTea 4 = ⟨[⟨1, 3⟩], [], [⟨tTea, [⟨⟨1, 3⟩, 4, 10⟩]⟩]⟩ := by
 unfold putCE freshC timeCE putOf newM timeC dotsC; simp only [goneK_eq, validC_K]; rw [if_neg (by decide : ¬ tTea.size = 0)]; decide +kernel
theorem dput2 : putCE cZ ⟨1, 4⟩ tOil 1 false = 0 ∧ putOf cZ ⟨1, 4⟩ tOil 1 = ⟨[], [⟨1, 4⟩], [⟨tOil, [⟨⟨1, 4⟩, 1, 10⟩]⟩]⟩ := by
 unfold putCE freshC timeCE putOf newM timeC dotsC; simp only [goneK_eq, validC_K]; rw [if_neg (by decide : ¬ tOil.size = 0)]; decide +kernel
theorem dput3 : putCE cZ ⟨2, 2⟩ tNut 8 true = 0 ∧ putOf cZ ⟨2, 2⟩ tNut 8 = ⟨[⟨2, 2⟩], [], [⟨tNut, [⟨⟨2, 2⟩, 8, 10⟩]⟩]⟩ := by
 unfold putCE freshC timeCE putOf newM timeC dotsC; simp only [goneK_eq, validC_K]; rw [if_neg (by decide : ¬ tNut.size = 0)]; decide +kernel
theorem drem1 : remCE cZ tTea = 0 ∧ goneC (dotsC cZ tTea) = ⟨[⟨1, 2⟩], [], []⟩ := by
 unfold remCE dotsC; simp only [goneK_eq, validC_K]; rw [if_neg (by decide : ¬ tTea.size = 0)]; decide +kernel
theorem dclr1 : goneC (setD (allDots cZ.items)) = ⟨[⟨1, 2⟩, ⟨2, 1⟩], [], []⟩ := by
 rw [goneK_eq2]; decide +kernel
theorem dclr2 : goneC (setD (allDots zeroC.items)) = zeroC := by
 rw [goneK_eq2]; decide +kernel
theorem derr : putCE cZ ⟨1, 2⟩ tOil 1 false = 2 ∧ putCE cZ ⟨1, 3⟩ ⟨#[]⟩ 0 false = 2 ∧ putCE cZ ⟨1, 3⟩ tOil 0 false = 14 ∧ putCE cZ ⟨1, 3⟩ tOil 0 true = 14 ∧ putCE cZ ⟨1, 3⟩ tOil 1 true = 9 ∧ remCE cZ tOil = 9 := by
 unfold putCE freshC timeCE remCE; simp only [validC_K]; decide +kernel
theorem dfresh : freshC cZ ⟨1, 3⟩ = true ∧ freshC cZ ⟨2, 1⟩ = false ∧ freshC cZ ⟨0, 1⟩ = false ∧ emptyC cZ = false ∧ emptyC zeroC = true := by
 unfold freshC emptyC; simp only [validC_K]; decide +kernel
end Go.Proofs.YtfnfbcaoihhbpaaGreatDoor
