/- Canon and deltas as the kernel reckons them: the chapters' examples. -/
import Derived.Test.YtjoljfnlkddfbaaGreatDoorCanonP
namespace Go.Proofs.YtjoljfnlkddfbaaGreatDoor

/-! ### Quantities, dots, times -/
def thereB (l : List ItemD) (nm : ByteArray) : Bool := l.any (fun x => decide (x.name = nm))
def qtyC (c : CartD) (nm : ByteArray) : Int := if validC c && thereB c.items nm then qtyI (findX c.items nm) else 0
def qtyCE (c : CartD) (nm : ByteArray) : Int := if validC c then (if thereB c.items nm then 0 else 9) else 2
def unitsI (l : List ItemD) : Int := l.foldl (fun n x => n + qtyI x) 0
def unitsC (c : CartD) : Int := if validC c then unitsI c.items else 0
def dotsC (c : CartD) (nm : ByteArray) : List DotD := if validC c then (if nm.size = 0 then setD (allDots c.items) else dotsM (marksOf c.items nm)) else []
def allMarks (l : List ItemD) : List MarkD := l.flatMap (·.marks)
def zM : MarkD := ⟨⟨0, 0⟩, 0, 0⟩
def lastT (l : List MarkD) : Int := (greatM zM (zM :: l)).time
def timeC (c : CartD) : Int := if validC c then (if lastT (allMarks c.items) = 18446744073709551615 then 0 else lastT (allMarks c.items) + 1) else 0
def timeCE (c : CartD) : Int := if validC c then (if lastT (allMarks c.items) = 18446744073709551615 then 15 else 0) else 2
theorem lastT_newest {l : List MarkD} (h : ∀ m ∈ l, 0 < m.time) : lastT l = (newestM l).time := by
 unfold lastT
 have hz : greatM zM (zM :: l) = greatM zM l := by
  show greatM (better zM zM) l = _
  rw [better_self]
 rw [hz]
 obtain ⟨g1, g2⟩ := greatM_spec l zM
 rcases l with _ | ⟨a, l⟩
 ·rfl
 ·have e : newestM (a :: l) = greatM a l := by
   show greatM (better a a) l = _
   rw [better_self]
  obtain ⟨n1, n2⟩ := greatM_spec l a
  rw [e]
  have h1 := g2 (greatM a l) (List.mem_cons_of_mem _ n1)
  have h3 : ¬ (greatM zM (a :: l)).time < (greatM a l).time := fun h4 => h1 (Or.inl h4)
  rcases List.mem_cons.1 g1 with h5 | h5
  ·have := h _ n1
   have h6 : (greatM zM (a :: l)).time = 0 := by rw [h5]; rfl
   omega
  ·have h2 := n2 _ h5
   have h7 : ¬ (greatM a l).time < (greatM zM (a :: l)).time := fun h4 => h2 (Or.inl h4)
   omega
theorem thereB_find {l : List ItemD} {nm : ByteArray} (h : thereB l nm = true) : findX l nm ∈ l ∧ (findX l nm).name = nm := by
 unfold findX
 rcases he : l.find? (fun x => decide (x.name = nm)) with _ | x
 ·exfalso
  unfold thereB at h
  obtain ⟨x, hx, hn⟩ := List.any_eq_true.1 h
  have := List.find?_eq_none.1 he x hx
  exact this hn
 ·rw [he, Option.getD_some]
  exact ⟨List.mem_of_find?_eq_some he, by simpa using List.find?_some he⟩
theorem thereB_marks {l : List ItemD} (h : validI l = true) (nm : ByteArray) : thereB l nm = decide (0 < (marksOf l nm).length) := by
 rw [Bool.eq_iff_iff, decide_eq_true_iff]
 constructor
 ·intro ht
  obtain ⟨h1, h2⟩ := thereB_find ht
  have := (validI_parts h).1 _ h1
  unfold oneI at this
  simp only [Bool.and_eq_true, decide_eq_true_iff] at this
  exact this.1.1.2
 ·intro hp
  unfold thereB
  rw [List.any_eq_true]
  apply Classical.byContradiction
  intro hno
  have : marksOf l nm = [] := marksOf_none (fun x hx e => hno ⟨x, hx, by simp [e]⟩)
  rw [this] at hp
  simp at hp
theorem oneI_marks {x : ItemD} (h : oneI x = true) : x.marks ≠ [] ∧ ∀ m ∈ x.marks, validMarkD m = true := by
 unfold oneI at h
 simp only [Bool.and_eq_true, decide_eq_true_iff] at h
 exact ⟨fun e => by rw [e] at h; simp at h, List.all_eq_true.1 h.2⟩
theorem validMark_parts {m : MarkD} (h : validMarkD m = true) : validDotD m.dot = true ∧ 1 ≤ m.qty ∧ m.qty ≤ 2147483647 ∧ 0 < m.time := by
 unfold validMarkD at h
 simp only [Bool.and_eq_true, decide_eq_true_iff] at h
 exact ⟨h.1.1, h.1.2.1, h.1.2.2, h.2⟩
theorem newestM_mem {l : List MarkD} (h : l ≠ []) : newestM l ∈ l := by
 rcases l with _ | ⟨a, l⟩
 ·exact absurd rfl h
 ·have e : newestM (a :: l) = greatM a l := by
   show greatM (better a a) l = _
   rw [better_self]
  rw [e]
  exact (greatM_spec l a).1
theorem qtyI_pos {x : ItemD} (h : oneI x = true) : 1 ≤ qtyI x ∧ qtyI x ≤ 2147483647 := by
 unfold qtyI
 rw [if_pos h]
 obtain ⟨h1, h2⟩ := oneI_marks h
 obtain ⟨_, a, b, _⟩ := validMark_parts (h2 _ (newestM_mem h1))
 exact ⟨a, b⟩
theorem allMarks_time {l : List ItemD} (h : validI l = true) : ∀ m ∈ allMarks l, 0 < m.time := by
 intro m hm
 obtain ⟨x, hx, hmx⟩ := List.mem_flatMap.1 hm
 exact (validMark_parts ((oneI_marks ((validI_parts h).1 x hx)).2 m hmx)).2.2.2

/-! ### Deltas -/
def goneC (l : List DotD) : CartD := ⟨(addX ([], []) l).1, (addX ([], []) l).2, []⟩
theorem addX_perm (a : List DotD × List DotD) {l m : List DotD} (h : ∀ d, d ∈ l ↔ d ∈ m) : addX a l = addX a m := by
 unfold addX
 rw [show setD (a.2 ++ l) = setD (a.2 ++ m) from ss_ext (setD_ss _) (setD_ss _) (fun d => by rw [setD_mem, setD_mem, List.mem_append, List.mem_append, h])]
def freshC (c : CartD) (d : DotD) : Bool := validC c && validDotD d && !hasC c d
def putCE (c : CartD) (d : DotD) (nm : ByteArray) (q : Int) (set : Bool) : Int :=
 if freshC c d && nameB nm then
  if validQ q then
   if set && !thereB c.items nm then 9 else if !set && !thereB c.items nm && decide (256 ≤ c.items.length) then 13 else timeCE c
  else 14
 else 2
def newM (c : CartD) (d : DotD) (q : Int) : MarkD := ⟨d, q, timeC c⟩
def putOf (c : CartD) (d : DotD) (nm : ByteArray) (q : Int) : CartD := ⟨(goneC (d :: dotsC c nm)).vec, (goneC (d :: dotsC c nm)).cloud, [⟨nm, [newM c d q]⟩]⟩
def putC (c : CartD) (d : DotD) (nm : ByteArray) (q : Int) (set : Bool) : CartD := if putCE c d nm q set = 0 then putOf c d nm q else zeroC
def remCE (c : CartD) (nm : ByteArray) : Int := if validC c && nameB nm then (if thereB c.items nm then 0 else 9) else 2
def remC (c : CartD) (nm : ByteArray) : CartD := if remCE c nm = 0 then goneC (dotsC c nm) else zeroC
def clrCE (c : CartD) : Int := if validC c then 0 else 2
def clrC (c : CartD) : CartD := if clrCE c = 0 then goneC (setD (allDots c.items)) else zeroC
theorem zeroX_valid : validX [] [] = true := rfl
theorem goneC_spec {l : List DotD} (h : l.all validDotD = true) : validC (goneC l) = true ∧ ∀ d, hasC (goneC l) d = decide (d ∈ l) := by
 obtain ⟨s1, s2⟩ := addX_spec (a := ([], [])) (l := l) zeroX_valid h
 refine ⟨validC_of s1 (by show validI [] = true; unfold validI; simp [risB, allDots, setD, sortD, compactD]) (fun d hd => by simp [allDots, goneC] at hd), fun d => ?_⟩
 show hasX (addX ([], []) l).1 (addX ([], []) l).2 d = _
 rw [s2]
 have : hasX [] [] d = false := by
  rw [← Bool.not_eq_true, hasX_iff]
  rintro ⟨h1, h2 | h2⟩
  ·have := (validDot_iff d).1 h1
   simp only [getV] at h2
   omega
  ·simp at h2
 simp [this]
theorem markAt_nil (nm : ByteArray) (d : DotD) : markAt [] nm d = none := rfl
theorem goneC_st {l : List DotD} (h : l.all validDotD = true) (nm : ByteArray) (d : DotD) : st (goneC l) nm d = if d ∈ l then some none else none := by
 unfold st
 rw [(goneC_spec h).2 d]
 by_cases hd : d ∈ l
 ·simp [hd, goneC, markAt_nil]
 ·simp [hd]
theorem marks_valid {l : List ItemD} (h : validI l = true) (nm : ByteArray) : ∀ m ∈ marksOf l nm, validMarkD m = true := by
 intro m hm
 have h1 := (mem_marksOf h).1 hm
 obtain ⟨x, hx, -, hmx, -⟩ := (markAt_some h).1 h1
 exact (oneI_marks ((validI_parts h).1 x hx)).2 m hmx
theorem marksOf_has {c : CartD} (h : validC c = true) {nm : ByteArray} {d : DotD} (hd : d ∈ dotsM (marksOf c.items nm)) : hasC c d = true := by
 obtain ⟨m, hm, rfl⟩ := List.mem_map.1 hd
 exact markAt_has h ((mem_marksOf (validC_parts h).2.1).1 hm)
theorem dotsC_named {c : CartD} (h : validC c = true) {nm : ByteArray} (hn : nameB nm = true) : dotsC c nm = dotsM (marksOf c.items nm) := by
 unfold dotsC
 rw [if_pos h]
 have : ¬ nm.size = 0 := by
  unfold nameB at hn
  simp only [Bool.and_eq_true, decide_eq_true_iff] at hn
  omega
 rw [if_neg this]
theorem dotsM_valid {l : List ItemD} (h : validI l = true) (nm : ByteArray) : (dotsM (marksOf l nm)).all validDotD = true := by
 rw [List.all_eq_true]
 intro d hd
 obtain ⟨m, hm, rfl⟩ := List.mem_map.1 hd
 exact (validMark_parts (marks_valid h nm m hm)).1
theorem dotsM_valid_all {l : List ItemD} (h : validI l = true) : (setD (allDots l)).all validDotD = true := setD_all (allDots_valid h)
theorem freshC_parts {c : CartD} {d : DotD} (h : freshC c d = true) : validC c = true ∧ validDotD d = true ∧ hasC c d = false := by
 unfold freshC at h
 simp only [Bool.and_eq_true, Bool.not_eq_true'] at h
 exact ⟨h.1.1, h.1.2, h.2⟩
/-- What must be true for a delta of Add or Set. -/
theorem putCE_zero {c : CartD} {d : DotD} {nm : ByteArray} {q : Int} {set : Bool} (h : putCE c d nm q set = 0) : freshC c d = true ∧ nameB nm = true ∧ validQ q = true ∧ (set = true → thereB c.items nm = true) ∧ lastT (allMarks c.items) ≠ 18446744073709551615 := by
 unfold putCE at h
 by_cases h1 : (freshC c d && nameB nm) = true
 ·rw [if_pos h1] at h
  rw [Bool.and_eq_true] at h1
  by_cases h2 : validQ q = true
  ·rw [if_pos h2] at h
   by_cases h3 : (set && !thereB c.items nm) = true
   ·rw [if_pos h3] at h; omega
   ·rw [if_neg h3] at h
    by_cases h4 : (!set && !thereB c.items nm && decide (256 ≤ c.items.length)) = true
    ·rw [if_pos h4] at h; omega
    ·rw [if_neg h4] at h
     unfold timeCE at h
     rw [if_pos (freshC_parts h1.1).1] at h
     refine ⟨h1.1, h1.2, h2, fun hs => ?_, fun e => ?_⟩
     ·subst hs
      simpa using h3
     ·rw [if_pos e] at h; omega
  ·rw [if_neg h2] at h; omega
 ·rw [if_neg h1] at h; omega
theorem lastT_nonneg {l : List MarkD} (h : ∀ m ∈ l, 0 < m.time) : 0 ≤ lastT l := by
 unfold lastT
 have hz : greatM zM (zM :: l) = greatM zM l := by
  show greatM (better zM zM) l = _
  rw [better_self]
 rw [hz]
 rcases List.mem_cons.1 (greatM_spec l zM).1 with e | e
 ·rw [e]; exact Int.le_refl _
 ·exact Int.le_of_lt (h _ e)
theorem newM_valid {c : CartD} {d : DotD} {q : Int} (h : freshC c d = true) (hq : validQ q = true) (ht : lastT (allMarks c.items) ≠ 18446744073709551615) : validMarkD (newM c d q) = true := by
 obtain ⟨h1, h2, -⟩ := freshC_parts h
 unfold validQ at hq
 simp only [Bool.and_eq_true, decide_eq_true_iff] at hq
 have h0 := lastT_nonneg (allMarks_time (validC_parts h1).2.1)
 unfold validMarkD newM timeC
 rw [if_pos h1, if_neg ht]
 simp only [Bool.and_eq_true, decide_eq_true_iff]
 exact ⟨⟨h2, hq⟩, by omega⟩
theorem validI_one {x : ItemD} (h : oneI x = true) : validI [x] = true := validI_of (fun y hy => by rw [List.mem_singleton.1 hy]; exact h) rfl (List.pairwise_singleton _ _)
theorem oneI_new {nm : ByteArray} {m : MarkD} (hn : nameB nm = true) (hm : validMarkD m = true) : oneI ⟨nm, [m]⟩ = true := by
 unfold oneI
 simp [hn, hm, dotsM, isSetB]
theorem marksOf_one (nm : ByteArray) (ms : List MarkD) (n2 : ByteArray) : marksOf [⟨nm, ms⟩] n2 = if n2 = nm then ms else [] := by
 unfold marksOf findX
 by_cases h : n2 = nm
 ·subst h; simp
 ·have : ¬ nm = n2 := fun e => h e.symm
  simp [h, this]
theorem markD_one (m : MarkD) (d : DotD) : markD [m] d = if d = m.dot then some m else none := by
 unfold markD
 by_cases h : d = m.dot
 ·subst h; simp
 ·have : ¬ m.dot = d := fun e => h e.symm
  simp [h, this]
theorem put_dots {c : CartD} {d : DotD} {nm : ByteArray} (h : freshC c d = true) (hn : nameB nm = true) : (d :: dotsC c nm).all validDotD = true := by
 obtain ⟨h1, h2, -⟩ := freshC_parts h
 rw [dotsC_named h1 hn]
 rw [List.all_cons, h2, dotsM_valid (validC_parts h1).2.1 nm]; rfl
theorem putOf_hasC (c : CartD) (d : DotD) (nm : ByteArray) (q : Int) (e : DotD) : hasC (putOf c d nm q) e = hasC (goneC (d :: dotsC c nm)) e := rfl
theorem putOf_valid {c : CartD} {d : DotD} {nm : ByteArray} {q : Int} (h : freshC c d = true) (hn : nameB nm = true) (hm : validMarkD (newM c d q) = true) : validC (putOf c d nm q) = true := by
 have hd := put_dots h hn
 obtain ⟨g1, g2⟩ := goneC_spec hd
 refine validC_of (validC_parts g1).1 (validI_one (oneI_new hn hm)) (fun e he => ?_)
 rw [putOf_hasC, g2]
 have : e = d := by simpa [putOf, allDots, dotsM, newM] using he
 simp [this]
theorem putOf_st {c : CartD} {d : DotD} {nm : ByteArray} {q : Int} (h : freshC c d = true) (hn : nameB nm = true) (n2 : ByteArray) (e : DotD) :
  st (putOf c d nm q) n2 e = if e = d then (if n2 = nm then some (some (newM c d q)) else some none) else if e ∈ dotsM (marksOf c.items nm) then some none else none := by
 have hd := put_dots h hn
 have hc := (freshC_parts h).1
 unfold st
 rw [putOf_hasC, (goneC_spec hd).2 e, dotsC_named hc hn]
 have hm : markAt (putOf c d nm q).items n2 e = if n2 = nm ∧ e = d then some (newM c d q) else none := by
  show markD (marksOf [⟨nm, [newM c d q]⟩] n2) e = _
  rw [marksOf_one]
  by_cases h1 : n2 = nm
  ·rw [if_pos h1, markD_one]
   have : (newM c d q).dot = d := rfl
   rw [this]
   simp [h1]
  ·rw [if_neg h1]
   simp [h1, markD]
 rw [hm]
 by_cases h1 : e = d
 ·subst h1
  by_cases h2 : n2 = nm <;> simp [h2]
 ·by_cases h2 : e ∈ dotsM (marksOf c.items nm) <;> simp [h1, h2]
theorem validI_putI {l : List ItemD} {x : ItemD} (h : validI l = true) (hx : oneI x = true) (hm : ∀ y ∈ dropN l x.name, meetB y x = false) : validI (putI l x) = true := by
 obtain ⟨h1, h2, h3⟩ := validI_parts h
 refine validI_of (fun y hy => ?_) (risB_iff.2 (putI_rising h2 x)) (insI_pairwise ((validI_parts (validI_drop h x.name)).2.2) hm)
 rcases mem_putI.1 hy with hy | hy
 ·exact h1 y (mem_dropN.1 hy).1
 ·rw [hy]; exact hx
theorem marksOf_putI {l : List ItemD} {x : ItemD} (h : validI l = true) (hp : validI (putI l x) = true) (nm : ByteArray) : marksOf (putI l x) nm = if nm = x.name then x.marks else marksOf l nm := by
 by_cases e : nm = x.name
 ·rw [if_pos e, e]
  exact marksOf_mem hp (mem_putI.2 (Or.inr rfl))
 ·rw [if_neg e]
  by_cases ht : ∃ y ∈ l, y.name = nm
  ·obtain ⟨y, hy, hyn⟩ := ht
   subst hyn
   rw [marksOf_mem h hy]
   exact marksOf_mem hp (mem_putI.2 (Or.inl (mem_dropN.2 ⟨hy, e⟩)))
  ·rw [marksOf_none (fun y hy k => ht ⟨y, hy, k⟩), marksOf_none (fun y hy k => ?_)]
   rcases mem_putI.1 hy with hy | hy
   ·exact ht ⟨y, (mem_dropN.1 hy).1, k⟩
   ·rw [hy] at k; exact e k.symm
theorem marksOf_dropN {l : List ItemD} (h : validI l = true) (nm n2 : ByteArray) : marksOf (dropN l nm) n2 = if n2 = nm then [] else marksOf l n2 := by
 by_cases e : n2 = nm
 ·rw [if_pos e, e]
  exact marksOf_none (fun y hy => (mem_dropN.1 hy).2)
 ·rw [if_neg e]
  by_cases ht : ∃ y ∈ l, y.name = n2
  ·obtain ⟨y, hy, hyn⟩ := ht
   subst hyn
   rw [marksOf_mem h hy]
   exact marksOf_mem (validI_drop h nm) (mem_dropN.2 ⟨hy, e⟩)
  ·rw [marksOf_none (fun y hy k => ht ⟨y, hy, k⟩), marksOf_none (fun y hy k => ht ⟨y, (mem_dropN.1 hy).1, k⟩)]
theorem markD_has {ms : List MarkD} {d : DotD} : (∃ m, markD ms d = some m) ↔ d ∈ dotsM ms := by
 rcases h : markD ms d with _ | m
 ·simpa using markD_none.1 h
 ·obtain ⟨h1, h2⟩ := markD_some h
  simp
  exact List.mem_map.2 ⟨m, h1, h2⟩
/-- Joining the delta of Add or Set: the item has just the new mark, all others are as before, and the context has the new dot more. -/
theorem put_join {c : CartD} {d : DotD} {nm : ByteArray} {q : Int} (h : freshC c d = true) (hn : nameB nm = true) (hm : validMarkD (newM c d q) = true) :
  refJoin c (putOf c d nm q) = ⟨(addX (ctxC c) [d]).1, (addX (ctxC c) [d]).2, putI c.items ⟨nm, [newM c d q]⟩⟩ := by
 obtain ⟨hc, hd, hno⟩ := freshC_parts h
 obtain ⟨p1, p2, p3⟩ := validC_parts hc
 have hx := putOf_valid h hn hm
 have hone := oneI_new hn hm
 have hput : validI (putI c.items ⟨nm, [newM c d q]⟩) = true := validI_putI p2 hone (fun y hy => by
  rw [meetB_false]
  intro e he he2
  have : e = d := by simpa [dotsM, newM] using he2
  subst this
  have := p3 e (mem_allDots.2 (by
   obtain ⟨m, hm1, hm2⟩ := List.mem_map.1 he
   exact ⟨y, (mem_dropN.1 hy).1, m, hm1, hm2⟩))
  rw [hno] at this
  cases this)
 obtain ⟨s1, s2⟩ := addX_spec (a := ctxC c) (l := [d]) (compactB_validX p1) (by simp [hd])
 refine (refJoin_is hc hx).unique ⟨validC_of s1 hput (fun e he => ?_), fun n2 e => ?_⟩
 ·show hasX (addX (ctxC c) [d]).1 (addX (ctxC c) [d]).2 e = true
  rw [s2]
  obtain ⟨x, hx2, m, hm2, rfl⟩ := mem_allDots.1 he
  rcases mem_putI.1 hx2 with hx2 | hx2
  ·have : hasX (ctxC c).1 (ctxC c).2 m.dot = true := p3 _ (mem_allDots.2 ⟨x, (mem_dropN.1 hx2).1, m, hm2, rfl⟩)
   rw [this]; rfl
  ·have hmd : m.dot = d := by rw [hx2] at hm2; rw [List.mem_singleton.1 hm2]; rfl
   simp [hmd]
 ·rw [putOf_st h hn]
  unfold st
  rw [show hasC (⟨(addX (ctxC c) [d]).1, (addX (ctxC c) [d]).2, putI c.items ⟨nm, [newM c d q]⟩⟩ : CartD) e = (hasC c e || decide (e ∈ [d])) from s2 e]
  have hma : markAt (putI c.items ⟨nm, [newM c d q]⟩) n2 e = if n2 = nm then (if e = d then some (newM c d q) else none) else markAt c.items n2 e := by
   unfold markAt
   rw [marksOf_putI p2 hput]
   by_cases k : n2 = nm
   ·simp only [k, if_true]
    rw [markD_one]
    rfl
   ·simp only [k, if_false]
  rw [hma]
  by_cases he : e = d
  ·subst he
   rw [hno]
   have hnone : markAt c.items n2 e = none := by
    rcases hk : markAt c.items n2 e with _ | m
    ·rfl
    ·rw [markAt_has hc hk] at hno; cases hno
   rw [hnone]
   by_cases k : n2 = nm <;> simp [k, supS]
  ·by_cases hh : hasC c e = true
   ·rw [hh]
    by_cases k : n2 = nm
    ·subst k
     by_cases hin : e ∈ dotsM (marksOf c.items n2)
     ·obtain ⟨m, hmm⟩ := markD_has.2 hin
      have : markAt c.items n2 e = some m := hmm
      simp [he, hin, this, supS]
     ·have : markAt c.items n2 e = none := by
       show markD _ _ = none
       exact markD_none.2 hin
      simp [he, hin, this, supS]
    ·by_cases hin : e ∈ dotsM (marksOf c.items nm)
     ·obtain ⟨m, hmm⟩ := markD_has.2 hin
      have h1 : markAt c.items nm e = some m := hmm
      have h2 : markAt c.items n2 e = none := by
       rcases hk : markAt c.items n2 e with _ | m2
       ·rfl
       ·exact absurd (one_name p2 hk h1) k
      simp [he, hin, k, h2, supS]
     ·simp only [he, hin, k, if_false, Bool.true_or, if_true]
      rcases hk : markAt c.items n2 e with _ | m2 <;> simp [supS]
   ·have hin : e ∉ dotsM (marksOf c.items nm) := fun hin => hh (marksOf_has hc hin)
    simp [hh, he, hin, supS]
/-- Joining the delta of Remove. -/
theorem rem_join {c : CartD} {nm : ByteArray} (hc : validC c = true) : refJoin c (goneC (dotsM (marksOf c.items nm))) = ⟨c.vec, c.cloud, dropN c.items nm⟩ := by
 obtain ⟨p1, p2, p3⟩ := validC_parts hc
 have hd := dotsM_valid p2 nm
 refine (refJoin_is hc (goneC_spec hd).1).unique ⟨validC_of p1 (validI_drop p2 nm) (fun e he => ?_), fun n2 e => ?_⟩
 ·obtain ⟨x, hx2, m, hm2, rfl⟩ := mem_allDots.1 he
  exact p3 _ (mem_allDots.2 ⟨x, (mem_dropN.1 hx2).1, m, hm2, rfl⟩)
 ·rw [goneC_st hd]
  unfold st
  rw [show hasC (⟨c.vec, c.cloud, dropN c.items nm⟩ : CartD) e = hasC c e from rfl]
  have hma : markAt (dropN c.items nm) n2 e = if n2 = nm then none else markAt c.items n2 e := by
   unfold markAt
   rw [marksOf_dropN p2]
   by_cases k : n2 = nm
   ·simp [k, markD]
   ·simp [k]
  rw [hma]
  by_cases hh : hasC c e = true
  ·rw [hh]
   by_cases k : n2 = nm
   ·subst k
    by_cases hin : e ∈ dotsM (marksOf c.items n2)
    ·obtain ⟨m, hmm⟩ := markD_has.2 hin
     have : markAt c.items n2 e = some m := hmm
     simp [hin, this, supS]
    ·have : markAt c.items n2 e = none := markD_none.2 hin
     simp [hin, this, supS]
   ·by_cases hin : e ∈ dotsM (marksOf c.items nm)
    ·obtain ⟨m, hmm⟩ := markD_has.2 hin
     have h1 : markAt c.items nm e = some m := hmm
     have h2 : markAt c.items n2 e = none := by
      rcases hk : markAt c.items n2 e with _ | m2
      ·rfl
      ·exact absurd (one_name p2 hk h1) k
     simp [hin, k, h2, supS]
    ·simp only [hin, k, if_false, if_true]
     rcases hk : markAt c.items n2 e with _ | m2 <;> simp [supS]
  ·have hin : e ∉ dotsM (marksOf c.items nm) := fun hin => hh (marksOf_has hc hin)
   simp [hh, hin, supS]
/-- Joining the delta of Clear. -/
theorem clr_join {c : CartD} (hc : validC c = true) : refJoin c (goneC (setD (allDots c.items))) = ⟨c.vec, c.cloud, []⟩ := by
 obtain ⟨p1, p2, p3⟩ := validC_parts hc
 have hd := dotsM_valid_all p2
 refine (refJoin_is hc (goneC_spec hd).1).unique ⟨validC_of p1 (validC_parts zeroC_valid).2.1 (fun e he => by simp [allDots] at he), fun n2 e => ?_⟩
 rw [goneC_st hd]
 unfold st
 rw [show hasC (⟨c.vec, c.cloud, []⟩ : CartD) e = hasC c e from rfl]
 show (if hasC c e = true then some (markAt [] n2 e) else none) = _
 rw [markAt_nil]
 by_cases hh : hasC c e = true
 ·rw [hh]
  by_cases hin : e ∈ setD (allDots c.items)
  ·simp only [hin, if_true]
   rcases hk : markAt c.items n2 e with _ | m2 <;> simp [supS]
  ·have : markAt c.items n2 e = none := by
    rcases hk : markAt c.items n2 e with _ | m2
    ·rfl
    ·obtain ⟨x, hx, -, hmx, hdx⟩ := (markAt_some p2).1 hk
     exact absurd ((setD_mem _ _).2 (mem_allDots.2 ⟨x, hx, m2, hmx, hdx⟩)) hin
   simp [hin, this, supS]
 ·have hin : e ∉ setD (allDots c.items) := fun hin => hh (p3 e ((setD_mem _ _).1 hin))
  simp [hh, hin, supS]
end Go.Proofs.YtjoljfnlkddfbaaGreatDoor
namespace Go.Proofs.YtjoljfnlkddfbaaGreatDoor

theorem findX_mem {l : List ItemD} (h : validI l = true) {x : ItemD} (hx : x ∈ l) : findX l x.name = x := by
 have ht : thereB l x.name = true := by
  unfold thereB
  exact List.any_eq_true.2 ⟨x, hx, by simp⟩
 obtain ⟨h1, h2⟩ := thereB_find ht
 exact rising_name (risB_iff.1 (validI_parts h).2.1) h1 hx h2
theorem thereB_mem {l : List ItemD} {x : ItemD} (hx : x ∈ l) : thereB l x.name = true := by
 unfold thereB
 exact List.any_eq_true.2 ⟨x, hx, by simp⟩
theorem qtyC_mem {c : CartD} (hc : validC c = true) {x : ItemD} (hx : x ∈ c.items) : qtyC c x.name = qtyI x ∧ qtyCE c x.name = 0 := by
 unfold qtyC qtyCE
 rw [hc, thereB_mem hx, findX_mem (validC_parts hc).2.1 hx]
 exact ⟨rfl, rfl⟩
theorem newestM_one (m : MarkD) : newestM [m] = m := better_self m
theorem qtyI_one {nm : ByteArray} {m : MarkD} (h : oneI ⟨nm, [m]⟩ = true) : qtyI ⟨nm, [m]⟩ = m.qty := by
 unfold qtyI
 rw [if_pos h]
 show (newestM [m]).qty = m.qty
 rw [newestM_one]
/-! ### Sizes -/
theorem goneC_CL {l : List DotD} : CL l.length (goneC l) := by
 refine ⟨?_, by simp [goneC], fun x hx => by simp [goneC] at hx⟩
 show (compactX [] (setD ([] ++ l))).1.length + (compactX [] (setD ([] ++ l))).2.length ≤ _
 unfold compactX
 have := foldX_len (setD ([] ++ l)) ([], [])
 have h2 := setD_leL ([] ++ l)
 simp at this h2 ⊢
 omega
end Go.Proofs.YtjoljfnlkddfbaaGreatDoor
namespace Go.Proofs.YtjoljfnlkddfbaaGreatDoor

theorem addXK (a : List DotD × List DotD) (l : List DotD) : addX a l = compactX a.1 (unionD a.2 l) := by
 unfold addX
 rw [unionD_eq]
theorem addXK2 (a : List DotD × List DotD) (l : List DotD) : addX a (setD l) = compactX a.1 (unionD a.2 l) := by
 rw [addX_perm a (fun d => setD_mem l d), addXK]
def goneK (l : List DotD) : CartD := ⟨(compactX [] (unionD [] l)).1, (compactX [] (unionD [] l)).2, []⟩
theorem goneK_eq (l : List DotD) : goneC l = goneK l := by
 unfold goneC goneK
 rw [addXK]
theorem goneK_eq2 (l : List DotD) : goneC (setD l) = goneK l := by
 unfold goneC goneK
 rw [addXK2]
theorem validC_K : validC = validCK := funext validCK_eq
/-! The examples of stage 10. -/
def tTea : ByteArray := ⟨#[84, 101, 97]⟩
def tNut : ByteArray := ⟨#[78, 117, 116]⟩
def tOil : ByteArray := ⟨#[79, 105, 108]⟩
def k1 : MarkD := ⟨⟨1, 1⟩, 5, 3⟩
def k2 : MarkD := ⟨⟨2, 1⟩, 7, 4⟩
def k3 : MarkD := ⟨⟨1, 2⟩, 2, 9⟩
def cX : CartD := ⟨[⟨1, 1⟩, ⟨2, 1⟩], [], [⟨tNut, [k2]⟩, ⟨tTea, [k1]⟩]⟩
theorem kd : dotsC cX tTea = [⟨1, 1⟩] ∧ dotsC cX tOil = [] ∧ dotsC cX ⟨#[]⟩ = [⟨1, 1⟩, ⟨2, 1⟩] := by
 unfold dotsC
 rw [setD_eq (l := allDots cX.items) (m := [⟨1, 1⟩, ⟨2, 1⟩]) (by decide +kernel) (by decide +kernel) (by decide +kernel), validC_K]
 decide +kernel
theorem kt : (timeC cX = 5 ∧ timeCE cX = 0) ∧ (timeC zeroC = 1 ∧ timeCE zeroC = 0) := by
 unfold timeC timeCE; rw [validC_K]; decide +kernel
/-! The examples of stage 12. -/
theorem dclr2 : goneC (setD (allDots zeroC.items)) = zeroC := by
 rw [goneK_eq2]; decide +kernel
end Go.Proofs.YtjoljfnlkddfbaaGreatDoor
