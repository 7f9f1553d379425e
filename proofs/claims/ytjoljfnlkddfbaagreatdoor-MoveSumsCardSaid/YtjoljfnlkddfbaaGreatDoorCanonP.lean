/- Canon: a cart in order, without a program in sight. -/
import Derived.Test.YtjoljfnlkddfbaaGreatDoorRaiseP
import Derived.Test.YtjoljfnlkddfbaaGreatDoorDot2
namespace Go.Proofs.YtjoljfnlkddfbaaGreatDoor

def ctxC (c : CartD) : List DotD × List DotD := (c.vec, c.cloud)
def hasC (c : CartD) (d : DotD) : Bool := hasX c.vec c.cloud d
def validC (c : CartD) : Bool := compactB c.vec c.cloud && validI c.items && (allDots c.items).all (hasC c)
/-- The marks of the item with a name. -/
def marksOf (l : List ItemD) (nm : ByteArray) : List MarkD := (findX l nm).marks
def markD (ms : List MarkD) (d : DotD) : Option MarkD := ms.find? (fun m => decide (m.dot = d))
def markAt (l : List ItemD) (nm : ByteArray) (d : DotD) : Option MarkD := markD (marksOf l nm) d
/-- What a cart says of a name and a dot: nothing, or a mark, or that there is none any more. -/
def st (c : CartD) (nm : ByteArray) (d : DotD) : Option (Option MarkD) := if hasC c d then some (markAt c.items nm d) else none

theorem validC_parts {c : CartD} (h : validC c = true) : compactB c.vec c.cloud = true ∧ validI c.items = true ∧ ∀ d ∈ allDots c.items, hasC c d = true := by
 unfold validC at h
 rw [Bool.and_eq_true, Bool.and_eq_true, List.all_eq_true] at h
 exact ⟨h.1.1, h.1.2, h.2⟩
theorem validC_of {c : CartD} (h1 : compactB c.vec c.cloud = true) (h2 : validI c.items = true) (h3 : ∀ d ∈ allDots c.items, hasC c d = true) : validC c = true := by
 unfold validC
 rw [h1, h2, List.all_eq_true.2 h3]; rfl
theorem markD_some {ms : List MarkD} {d : DotD} {m : MarkD} (h : markD ms d = some m) : m ∈ ms ∧ m.dot = d := by
 have h1 := List.find?_some h
 exact ⟨List.mem_of_find?_eq_some h, by simpa using h1⟩
theorem markD_of {ms : List MarkD} (hs : SS (dotsM ms)) {m : MarkD} (h : m ∈ ms) : markD ms m.dot = some m := by
 induction ms with
 | nil => simp at h
 | cons a ms ih =>
  have hp := List.pairwise_cons.1 (show (dotsM (a :: ms)).Pairwise _ from hs)
  unfold markD
  rw [List.find?_cons]
  by_cases e : a.dot = m.dot
  ·rw [decide_eq_true e]
   rcases List.mem_cons.1 h with rfl | h
   ·rfl
   ·have : dlt a.dot m.dot = true := hp.1 m.dot (List.mem_map_of_mem h)
    rw [e, dlt_irrefl] at this; cases this
  ·rw [decide_eq_false e]
   rcases List.mem_cons.1 h with rfl | h
   ·exact absurd rfl e
   ·exact ih hp.2 h
theorem markD_none {ms : List MarkD} {d : DotD} : markD ms d = none ↔ d ∉ dotsM ms := by
 unfold markD dotsM
 rw [List.find?_eq_none]
 simp
/-- Marks in the order of their dots are known by what is in them. -/
theorem marks_ext : ∀ {a b : List MarkD}, SS (dotsM a) → SS (dotsM b) → (∀ m, m ∈ a ↔ m ∈ b) → a = b
 | [], b, _, _, h => (List.eq_nil_iff_forall_not_mem.2 (fun x hx => by have := (h x).2 hx; simp at this)).symm
 | x :: a, [], _, _, h => by have := (h x).1 (by simp); simp at this
 | x :: a, y :: b, ha, hb, h => by
  have a1 := List.pairwise_cons.1 (show (dotsM (x :: a)).Pairwise _ from ha)
  have b1 := List.pairwise_cons.1 (show (dotsM (y :: b)).Pairwise _ from hb)
  have exy : x = y := by
   rcases List.mem_cons.1 ((h x).1 (by simp)) with e | e
   ·exact e
   ·rcases List.mem_cons.1 ((h y).2 (by simp)) with e2 | e2
    ·exact e2.symm
    ·have h1 := b1.1 x.dot (List.mem_map_of_mem e)
     have h2 := a1.1 y.dot (List.mem_map_of_mem e2)
     rw [dlt_asymm h1] at h2; cases h2
  subst exy
  congr 1
  refine marks_ext a1.2 b1.2 (fun m => ⟨fun hm => ?_, fun hm => ?_⟩)
  ·rcases List.mem_cons.1 ((h m).1 (by simp [hm])) with e | e
   ·have : dlt x.dot m.dot = true := a1.1 m.dot (List.mem_map_of_mem hm)
    rw [e, dlt_irrefl] at this; cases this
   ·exact e
  ·rcases List.mem_cons.1 ((h m).2 (by simp [hm])) with e | e
   ·have : dlt x.dot m.dot = true := b1.1 m.dot (List.mem_map_of_mem hm)
    rw [e, dlt_irrefl] at this; cases this
   ·exact e
theorem oneI_ss {x : ItemD} (h : oneI x = true) : SS (dotsM x.marks) := by
 simp only [oneI, Bool.and_eq_true] at h
 exact isSetB_iff.1 h.1.2
theorem marksOf_mem {l : List ItemD} (h : validI l = true) {x : ItemD} (hx : x ∈ l) : marksOf l x.name = x.marks := by
 have := find_rising (risB_iff.1 (validI_parts h).2.1) hx
 unfold fX at this
 unfold marksOf findX
 rw [this]; rfl
theorem marksOf_none {l : List ItemD} {nm : ByteArray} (h : ∀ x ∈ l, x.name ≠ nm) : marksOf l nm = [] := by
 have : l.find? (fun x => decide (x.name = nm)) = none := List.find?_eq_none.2 (fun x hx => by simpa using h x hx)
 unfold marksOf findX
 rw [this]; rfl
/-- A mark of a cart: its item. -/
theorem markAt_some {l : List ItemD} (h : validI l = true) {nm : ByteArray} {d : DotD} {m : MarkD} : markAt l nm d = some m ↔ ∃ x ∈ l, x.name = nm ∧ m ∈ x.marks ∧ m.dot = d := by
 constructor
 ·intro hm
  by_cases hx : ∃ x ∈ l, x.name = nm
  ·obtain ⟨x, hx, rfl⟩ := hx
   unfold markAt at hm
   rw [marksOf_mem h hx] at hm
   obtain ⟨h1, h2⟩ := markD_some hm
   exact ⟨x, hx, rfl, h1, h2⟩
  ·unfold markAt at hm
   rw [marksOf_none (fun x hx2 e => hx ⟨x, hx2, e⟩)] at hm
   cases hm
 ·rintro ⟨x, hx, rfl, hm, rfl⟩
  unfold markAt
  rw [marksOf_mem h hx]
  exact markD_of (oneI_ss ((validI_parts h).1 x hx)) hm
theorem mem_allDots {l : List ItemD} {d : DotD} : d ∈ allDots l ↔ ∃ x ∈ l, ∃ m ∈ x.marks, m.dot = d := by
 unfold allDots dotsM
 simp
theorem markAt_has {c : CartD} (h : validC c = true) {nm : ByteArray} {d : DotD} {m : MarkD} (hm : markAt c.items nm d = some m) : hasC c d = true := by
 obtain ⟨h1, h2, h3⟩ := validC_parts h
 obtain ⟨x, hx, -, hmm, hd⟩ := (markAt_some h2).1 hm
 exact h3 d (mem_allDots.2 ⟨x, hx, m, hmm, hd⟩)
theorem st_mark {c : CartD} (h : validC c = true) {nm : ByteArray} {d : DotD} {m : MarkD} : st c nm d = some (some m) ↔ markAt c.items nm d = some m := by
 unfold st
 constructor
 ·intro hs
  by_cases hh : hasC c d = true
  ·rw [if_pos hh] at hs; exact Option.some.inj hs
  ·rw [if_neg hh] at hs; cases hs
 ·intro hm
  rw [if_pos (markAt_has h hm), hm]
theorem st_none {c : CartD} {nm : ByteArray} {d : DotD} : st c nm d = none ↔ hasC c d = false := by
 unfold st
 by_cases hh : hasC c d = true
 ·rw [if_pos hh, hh]; simp
 ·rw [if_neg hh]; simpa using hh
theorem validI_ext {l m : List ItemD} (hl : validI l = true) (hm : validI m = true) (h : ∀ nm d, markAt l nm d = markAt m nm d) : l = m := by
 have sub : ∀ {l m : List ItemD}, validI l = true → validI m = true → (∀ nm d, markAt l nm d = markAt m nm d) → ∀ x ∈ l, x ∈ m := fun {l m} hl hm h x hx => by
  obtain ⟨a, ha⟩ := List.exists_mem_of_ne_nil _ (show x.marks ≠ [] from by
   intro e
   have := (validI_parts hl).1 x hx
   unfold oneI at this
   rw [e] at this
   simp at this)
  have h1 := (markAt_some hl).2 ⟨x, hx, rfl, ha, rfl⟩
  rw [h] at h1
  obtain ⟨y, hy, hyn, -, -⟩ := (markAt_some hm).1 h1
  have he : x.marks = y.marks := marks_ext (oneI_ss ((validI_parts hl).1 x hx)) (oneI_ss ((validI_parts hm).1 y hy)) (fun b => by
   constructor
   ·intro hb
    have h2 := (markAt_some hl).2 ⟨x, hx, rfl, hb, rfl⟩
    rw [h] at h2
    obtain ⟨z, hz, hzn, hzb, -⟩ := (markAt_some hm).1 h2
    rw [rising_name (risB_iff.1 (validI_parts hm).2.1) hy hz (by rw [hyn, hzn])]
    exact hzb
   ·intro hb
    have h2 := (markAt_some hm).2 ⟨y, hy, hyn, hb, rfl⟩
    rw [← h] at h2
    obtain ⟨z, hz, hzn, hzb, -⟩ := (markAt_some hl).1 h2
    rw [rising_name (risB_iff.1 (validI_parts hl).2.1) hx hz (by rw [hzn])]
    exact hzb)
  have : x = y := item_eq.2 ⟨hyn.symm, he⟩
  rw [this]; exact hy
 exact rising_ext (risB_iff.1 (validI_parts hl).2.1) (risB_iff.1 (validI_parts hm).2.1) (fun x => ⟨sub hl hm h x, sub hm hl (fun nm d => (h nm d).symm) x⟩)
/-- TWO VALID CARTS THAT SAY THE SAME ARE THE SAME. -/
theorem cart_ext {a b : CartD} (ha : validC a = true) (hb : validC b = true) (h : ∀ nm d, st a nm d = st b nm d) : a = b := by
 obtain ⟨a1, a2, a3⟩ := validC_parts ha
 obtain ⟨b1, b2, b3⟩ := validC_parts hb
 have hh : ∀ d, hasX a.vec a.cloud d = hasX b.vec b.cloud d := fun d => by
  have h1 := h ⟨#[]⟩ d
  show hasC a d = hasC b d
  rcases ea : hasC a d with _ | _
  ·have := (st_none (nm := ⟨#[]⟩)).2 ea
   rw [h1] at this
   exact (st_none.1 this).symm
  ·rcases eb : hasC b d with _ | _
   ·have := (st_none (nm := ⟨#[]⟩)).2 eb
    rw [← h1] at this
    rw [st_none.1 this] at ea; cases ea
   ·rfl
 obtain ⟨e1, e2⟩ := ctx_ext a1 b1 hh
 have e3 : a.items = b.items := validI_ext a2 b2 (fun nm d => by
  rcases hm : markAt a.items nm d with _ | m
  ·rcases hn : markAt b.items nm d with _ | n
   ·rfl
   ·have := (st_mark hb).2 hn
    rw [← h] at this
    rw [(st_mark ha).1 this] at hm; cases hm
  ·have := (st_mark ha).2 hm
   rw [h] at this
   exact ((st_mark hb).1 this).symm)
 rcases a with ⟨av, ac, ai⟩
 rcases b with ⟨bv, bc, bi⟩
 simp only at e1 e2 e3
 rw [e1, e2, e3]

/-! ### The order of what can be said -/
def supS : Option (Option MarkD) → Option (Option MarkD) → Option (Option MarkD)
 | none, y => y
 | x, none => x
 | some none, _ => some none
 | _, some none => some none
 | some (some m), some (some n) => some (some (better m n))
theorem better_eq (m n : MarkD) : better m n = if newerM n m then n else m := by
 unfold better
 by_cases h : 0 < mcmp n m
 ·rw [if_pos h, if_pos ((newerM_iff n m).2 ((mcmp_iff n m).1 h))]
 ·rw [if_neg h, if_neg (fun h2 => h ((mcmp_iff n m).2 ((newerM_iff n m).1 h2)))]
theorem better_comm (m n : MarkD) : better m n = better n m := by
 rw [better_eq, better_eq]
 by_cases h1 : newerM n m = true
 ·rw [if_pos h1]
  have h2 : ¬ newerM m n = true := fun h2 => newP_irrefl _ (newP_trans ((newerM_iff _ _).1 h1) ((newerM_iff _ _).1 h2))
  rw [if_neg h2]
 ·rw [if_neg h1]
  by_cases h2 : newerM m n = true
  ·rw [if_pos h2]
  ·rw [if_neg h2]
   exact newP_total (fun h => h2 ((newerM_iff _ _).2 h)) (fun h => h1 ((newerM_iff _ _).2 h))
theorem better_self (m : MarkD) : better m m = m := by
 rw [better_eq]
 split <;> rfl
theorem better_assoc (a b c : MarkD) : better (better a b) c = better a (better b c) := by
 have tr : ∀ {x y z : MarkD}, newerM x y = true → newerM y z = true → newerM x z = true := fun h1 h2 => (newerM_iff _ _).2 (newP_trans ((newerM_iff _ _).1 h1) ((newerM_iff _ _).1 h2))
 have ntr : ∀ {x y z : MarkD}, ¬ newerM x y = true → ¬ newerM y z = true → ¬ newerM x z = true := fun {x y z} h1 h2 h3 => by
  have h3' := (newerM_iff _ _).1 h3
  by_cases e : NewP y x
  ·exact h2 ((newerM_iff _ _).2 (newP_trans e h3'))
  ·have := newP_total (fun h => h1 ((newerM_iff _ _).2 h)) e
   rw [this] at h3
   exact h2 h3
 rw [better_eq a b, better_eq b c]
 by_cases h1 : newerM b a = true
 ·rw [if_pos h1]
  by_cases h2 : newerM c b = true
  ·rw [if_pos h2, better_eq, better_eq, if_pos h2, if_pos (tr h2 h1)]
  ·rw [if_neg h2, better_eq, better_eq, if_neg h2, if_pos h1]
 ·rw [if_neg h1]
  by_cases h2 : newerM c b = true
  ·rw [if_pos h2]
  ·rw [if_neg h2, better_eq, better_eq, if_neg h1, if_neg (ntr h2 h1)]
theorem supS_comm (x y : Option (Option MarkD)) : supS x y = supS y x := by
 rcases x with _ | _ | m <;> rcases y with _ | _ | n <;> simp [supS, better_comm]
theorem supS_self (x : Option (Option MarkD)) : supS x x = x := by
 rcases x with _ | _ | m <;> simp [supS, better_self]
theorem supS_assoc (x y z : Option (Option MarkD)) : supS (supS x y) z = supS x (supS y z) := by
 rcases x with _ | _ | m <;> rcases y with _ | _ | n <;> rcases z with _ | _ | k <;> simp [supS, better_assoc]
/-- What a join is. -/
def JoinIs (a b c : CartD) : Prop := validC c = true ∧ ∀ nm d, st c nm d = supS (st a nm d) (st b nm d)
theorem JoinIs.unique {a b c e : CartD} (h : JoinIs a b c) (k : JoinIs a b e) : c = e := cart_ext h.1 k.1 (fun nm d => by rw [h.2, k.2])
theorem JoinIs.symm {a b c : CartD} (h : JoinIs a b c) : JoinIs b a c := ⟨h.1, fun nm d => by rw [h.2, supS_comm]⟩
theorem JoinIs.within {a b c : CartD} (h : JoinIs a b c) {e : CartD} (k : JoinIs a c e) : e = c :=
 cart_ext k.1 h.1 (fun nm d => by rw [k.2, h.2, ← supS_assoc, supS_self])
end Go.Proofs.YtjoljfnlkddfbaaGreatDoor
namespace Go.Proofs.YtjoljfnlkddfbaaGreatDoor

theorem neg_or (x y : Int) (l : List Int) : orI (cmpI x y :: l) < 0 ↔ x < y ∨ (x = y ∧ orI l < 0) := by
 show (if cmpI x y = 0 then orI l else cmpI x y) < 0 ↔ _
 by_cases h : x = y
 ·subst h
  rw [if_pos ((cmpI_zero x x).2 rfl)]
  constructor
  ·exact fun h => Or.inr ⟨rfl, h⟩
  ·rintro (h | h)
   ·omega
   ·exact h.2
 ·rw [if_neg (fun h2 => h ((cmpI_zero x y).1 h2))]
  unfold cmpI
  by_cases h1 : x < y
  ·rw [if_pos h1]
   constructor
   ·intro _; exact Or.inl h1
   ·intro _; omega
  ·rw [if_neg h1, if_pos (by omega)]
   constructor
   ·intro h2; omega
   ·rintro (h2 | h2) <;> omega
theorem mcmp_neg (a b : MarkD) : mcmp a b < 0 ↔ NewP b a := by
 unfold mcmp
 by_cases e : a = b
 ·subst e
  rw [if_pos rfl]
  unfold NewP
  omega
 ·rw [if_neg e, neg_or, neg_or, neg_or, neg_or]
  have : ¬ orI [] < (0 : Int) := by unfold orI; omega
  unfold NewP
  simp only [this, and_false, or_false]
  constructor
  ·rintro (h | ⟨h1, h | ⟨h2, h | ⟨h3, h⟩⟩⟩)
   ·exact Or.inl h
   ·exact Or.inr ⟨h1.symm, Or.inl h⟩
   ·exact Or.inr ⟨h1.symm, Or.inr ⟨h2.symm, Or.inl h⟩⟩
   ·exact Or.inr ⟨h1.symm, Or.inr ⟨h2.symm, Or.inr ⟨h3.symm, h⟩⟩⟩
  ·rintro (h | ⟨h1, h | ⟨h2, h | ⟨h3, h⟩⟩⟩)
   ·exact Or.inl h
   ·exact Or.inr ⟨h1.symm, Or.inl h⟩
   ·exact Or.inr ⟨h1.symm, Or.inr ⟨h2.symm, Or.inl h⟩⟩
   ·exact Or.inr ⟨h1.symm, Or.inr ⟨h2.symm, Or.inr ⟨h3.symm, h⟩⟩⟩
/-- Which marks of a list stay. -/
def staysM (other : List MarkD) (c : CartD) (m : MarkD) : Bool := match markD other m.dot with
 | none => !hasC c m.dot
 | some o => decide (0 ≤ mcmp m o)
def stayM (l other : List MarkD) (c : CartD) : List MarkD := l.filter (staysM other c)
/-- The marks of a name behind a join. -/
def JM (a b : CartD) (nm : ByteArray) (m : MarkD) : Prop := m ∈ stayM (marksOf a.items nm) (marksOf b.items nm) b ∨ m ∈ stayM (marksOf b.items nm) (marksOf a.items nm) a
theorem marksOf_ss {l : List ItemD} (h : validI l = true) (nm : ByteArray) : SS (dotsM (marksOf l nm)) := by
 by_cases hx : ∃ x ∈ l, x.name = nm
 ·obtain ⟨x, hx, rfl⟩ := hx
  rw [marksOf_mem h hx]
  exact oneI_ss ((validI_parts h).1 x hx)
 ·rw [marksOf_none (fun x hx2 e => hx ⟨x, hx2, e⟩)]
  exact List.Pairwise.nil
theorem mem_marksOf {l : List ItemD} (h : validI l = true) {nm : ByteArray} {m : MarkD} : m ∈ marksOf l nm ↔ markAt l nm m.dot = some m := by
 unfold markAt
 constructor
 ·exact fun hm => markD_of (marksOf_ss h nm) hm
 ·exact fun hm => (markD_some hm).1
theorem mem_stayM {a b : CartD} (ha : validC a = true) (hb : validC b = true) {nm : ByteArray} {m : MarkD} :
  m ∈ stayM (marksOf a.items nm) (marksOf b.items nm) b ↔ st a nm m.dot = some (some m) ∧ supS (st a nm m.dot) (st b nm m.dot) = some (some m) := by
 have hva := (validC_parts ha).2.1
 unfold stayM
 rw [List.mem_filter, mem_marksOf hva, st_mark ha]
 refine and_congr_right (fun hm => ?_)
 have h1 : st a nm m.dot = some (some m) := (st_mark ha).2 hm
 rw [h1]
 unfold staysM
 show (match markAt b.items nm m.dot with | none => !hasC b m.dot | some o => decide (0 ≤ mcmp m o)) = true ↔ _
 rcases hn : markAt b.items nm m.dot with _ | o
 ·rcases hh : hasC b m.dot with _ | _
  ·rw [st_none.2 hh]
   simp [supS]
  ·have : st b nm m.dot = some none := by unfold st; rw [if_pos hh, hn]
   rw [this]
   simp [supS]
 ·rw [(st_mark hb).2 hn]
  show decide (0 ≤ mcmp m o) = true ↔ some (some (better m o)) = some (some m)
  rw [decide_eq_true_iff, better_eq]
  have := mcmp_neg m o
  have h2 := newerM_iff o m
  constructor
  ·intro h
   rw [if_neg (fun h3 => by have := this.2 (h2.1 h3); omega)]
  ·intro h
   rcases Int.lt_or_le (mcmp m o) 0 with h3 | h3
   ·have h4 := h2.2 (this.1 h3)
    rw [if_pos h4] at h
    have e : o = m := by injection h with h; injection h
    rw [e] at h4
    exact absurd ((newerM_iff m m).1 h4) (newP_irrefl m)
   ·exact h3
theorem JM_iff {a b : CartD} (ha : validC a = true) (hb : validC b = true) {nm : ByteArray} {m : MarkD} : JM a b nm m ↔ supS (st a nm m.dot) (st b nm m.dot) = some (some m) := by
 unfold JM
 rw [mem_stayM ha hb, mem_stayM hb ha, supS_comm (st b nm m.dot)]
 constructor
 ·rintro (h | h)
  ·exact h.2
  ·exact h.2
 ·intro h
  rcases hx : st a nm m.dot with _ | _ | x
  ·rw [hx] at h
   right
   have h' : st b nm m.dot = some (some m) := h
   exact ⟨h', h⟩
  ·rw [hx] at h
   rcases hy : st b nm m.dot with _ | y <;> rw [hy] at h <;> cases h
  ·rcases hy : st b nm m.dot with _ | _ | y
   ·rw [hx, hy] at h
    left
    exact ⟨h, h⟩
   ·rw [hx, hy] at h; cases h
   ·rw [hx, hy] at h
    have e : better x y = m := by
     have h' : some (some (better x y)) = some (some m) := h
     injection h' with h'
     injection h'
    rw [better_eq] at e
    by_cases hn : newerM y x = true
    ·rw [if_pos hn] at e
     right
     exact ⟨by rw [e], h⟩
    ·rw [if_neg hn] at e
     left
     exact ⟨by rw [e], h⟩
/-- A mark that a sup holds comes from one of both. -/
theorem sup_from {x y : Option (Option MarkD)} {m : MarkD} (h : supS x y = some (some m)) : (x = some (some m) ∨ y = some (some m)) ∧ (x = none ∨ ∃ k, x = some (some k)) ∧ (y = none ∨ ∃ k, y = some (some k)) := by
 rcases x with _ | _ | x
 ·have h' : y = some (some m) := h
  exact ⟨Or.inr h', Or.inl rfl, Or.inr ⟨m, h'⟩⟩
 ·rcases y with _ | y <;> cases h
 ·rcases y with _ | _ | y
  ·exact ⟨Or.inl h, Or.inr ⟨x, rfl⟩, Or.inl rfl⟩
  ·cases h
  ·have e : better x y = m := by
    have h' : some (some (better x y)) = some (some m) := h
    injection h' with h'
    injection h'
   rw [better_eq] at e
   refine ⟨?_, Or.inr ⟨x, rfl⟩, Or.inr ⟨y, rfl⟩⟩
   by_cases hn : newerM y x = true
   ·rw [if_pos hn] at e; rw [e]; exact Or.inr rfl
   ·rw [if_neg hn] at e; rw [e]; exact Or.inl rfl
theorem one_name {l : List ItemD} (h : validI l = true) {n1 n2 : ByteArray} {d : DotD} {m1 m2 : MarkD} (h1 : markAt l n1 d = some m1) (h2 : markAt l n2 d = some m2) : n1 = n2 := by
 obtain ⟨x, hx, rfl, hxm, hd1⟩ := (markAt_some h).1 h1
 obtain ⟨y, hy, rfl, hym, hd2⟩ := (markAt_some h).1 h2
 by_cases e : x = y
 ·rw [e]
 ·have := pairwise_mem (validI_parts h).2.2 hx hy e
  rw [meetB_false] at this
  exact absurd (by rw [← hd2]; exact List.mem_map_of_mem hym) (this d (by rw [← hd1]; exact List.mem_map_of_mem hxm))
theorem hasC_st {c : CartD} {nm : ByteArray} {d : DotD} {x : Option MarkD} (h : st c nm d = some x) : hasC c d = true := by
 rcases hh : hasC c d with _ | _
 ·rw [st_none.2 hh] at h; cases h
 ·rfl
/-- What a join must hold to be one. -/
theorem join_spec {a b out : CartD} (ha : validC a = true) (hb : validC b = true) (h1 : (out.vec, out.cloud) = unionX (ctxC a) (ctxC b)) (h2 : risB out.items = true)
  (h3 : ∀ z ∈ out.items, nameB z.name = true ∧ z.marks ≠ [] ∧ SS (dotsM z.marks) ∧ ∀ m, m ∈ z.marks ↔ JM a b z.name m) (h4 : ∀ nm m, JM a b nm m → ∃ z ∈ out.items, z.name = nm) : JoinIs a b out := by
 obtain ⟨a1, a2, a3⟩ := validC_parts ha
 obtain ⟨b1, b2, b3⟩ := validC_parts hb
 obtain ⟨u1, u2⟩ := unionX_spec (a := ctxC a) (b := ctxC b) (compactB_parts a1).1 (compactB_parts b1).1
 rw [← h1] at u1 u2
 have hhas : ∀ d, hasC out d = (hasC a d || hasC b d) := u2
 have hJ := @JM_iff a b ha hb
 -- a dot has one name
 have hone : ∀ {n1 n2 : ByteArray} {m1 m2 : MarkD}, JM a b n1 m1 → JM a b n2 m2 → m1.dot = m2.dot → n1 = n2 := fun {n1 n2 m1 m2} j1 j2 hd => by
  have k1 := sup_from (hJ.1 j1)
  have k2 := sup_from (hJ.1 j2)
  rw [← hd] at k2
  rcases k1.1 with e1 | e1
  ·rcases k2.1 with e2 | e2
   ·exact one_name a2 ((st_mark ha).1 e1) ((st_mark ha).1 e2)
   ·have hb2 := hasC_st e2
    rcases k1.2.2 with e3 | ⟨k, e3⟩
    ·rw [st_none.1 e3] at hb2; cases hb2
    ·exact one_name b2 ((st_mark hb).1 e3) ((st_mark hb).1 e2)
  ·rcases k2.1 with e2 | e2
   ·have ha2 := hasC_st e2
    rcases k1.2.1 with e3 | ⟨k, e3⟩
    ·rw [st_none.1 e3] at ha2; cases ha2
    ·exact one_name a2 ((st_mark ha).1 e3) ((st_mark ha).1 e2)
   ·exact one_name b2 ((st_mark hb).1 e1) ((st_mark hb).1 e2)
 have hmv : ∀ {nm : ByteArray} {m : MarkD}, JM a b nm m → validMarkD m = true ∧ hasC out m.dot = true := fun {nm m} j => by
  have ov : ∀ {c : CartD}, validC c = true → markAt c.items nm m.dot = some m → validMarkD m = true := fun {c} hc hm => by
   obtain ⟨x, hx, -, hxm, -⟩ := (markAt_some (validC_parts hc).2.1).1 hm
   have := (validI_parts (validC_parts hc).2.1).1 x hx
   simp only [oneI, Bool.and_eq_true, List.all_eq_true] at this
   exact this.2 m hxm
  rcases (sup_from (hJ.1 j)).1 with e | e
  ·exact ⟨ov ha ((st_mark ha).1 e), by rw [hhas, hasC_st e]; rfl⟩
  ·exact ⟨ov hb ((st_mark hb).1 e), by rw [hhas, hasC_st e, Bool.or_true]⟩
 have hvi : validI out.items = true := by
  refine validI_of (fun z hz => ?_) h2 ?_
  ·obtain ⟨z1, z2, z3, z4⟩ := h3 z hz
   simp only [oneI, Bool.and_eq_true, decide_eq_true_eq, List.all_eq_true]
   exact ⟨⟨⟨z1, List.length_pos_iff.2 z2⟩, isSetB_iff.2 z3⟩, fun m hm => (hmv ((z4 m).1 hm)).1⟩
  ·have hp := risB_iff.1 h2
   refine hp.imp_of_mem (fun {x y} hx hy hlt => meetB_false.2 (fun d hdx hdy => ?_))
   obtain ⟨m1, hm1, e1⟩ := List.mem_map.1 hdx
   obtain ⟨m2, hm2, e2⟩ := List.mem_map.1 hdy
   have := hone (((h3 x hx).2.2.2 m1).1 hm1) (((h3 y hy).2.2.2 m2).1 hm2) (by rw [e1, e2])
   rw [this] at hlt
   exact ltK_irrefl _ hlt
 have hvc : validC out = true := validC_of u1 hvi (fun d hd => by
  obtain ⟨x, hx, m, hm, rfl⟩ := mem_allDots.1 hd
  exact (hmv (((h3 x hx).2.2.2 m).1 hm)).2)
 refine ⟨hvc, fun nm d => ?_⟩
 have hmk : ∀ m, markAt out.items nm d = some m ↔ supS (st a nm d) (st b nm d) = some (some m) := fun m => by
  constructor
  ·intro hm
   obtain ⟨x, hx, rfl, hxm, rfl⟩ := (markAt_some hvi).1 hm
   exact hJ.1 (((h3 x hx).2.2.2 m).1 hxm)
  ·intro hs
   have hd : m.dot = d := by
    rcases (sup_from hs).1 with e | e
    ·exact (markD_some ((st_mark ha).1 e)).2
    ·exact (markD_some ((st_mark hb).1 e)).2
   subst hd
   have j := hJ.2 hs
   obtain ⟨z, hz, rfl⟩ := h4 nm m j
   exact (markAt_some hvi).2 ⟨z, hz, rfl, ((h3 z hz).2.2.2 m).2 j, rfl⟩
 rcases hh : hasC out d with _ | _
 ·rw [st_none.2 hh]
  rw [hhas, Bool.or_eq_false_iff] at hh
  rw [st_none.2 hh.1, st_none.2 hh.2]
  rfl
 ·have e : st out nm d = some (markAt out.items nm d) := by unfold st; rw [if_pos hh]
  rw [e]
  rcases hm : markAt out.items nm d with _ | m
  ·rcases hs : supS (st a nm d) (st b nm d) with _ | _ | m
   ·exfalso
    rw [hhas, Bool.or_eq_true] at hh
    rcases hx : st a nm d with _ | x
    ·rcases hy : st b nm d with _ | y
     ·rw [st_none.1 hx, st_none.1 hy] at hh; simp at hh
     ·rw [hx, hy] at hs; cases hs
    ·rcases hy : st b nm d with _ | y
     ·rw [hx, hy] at hs
      rcases x with _ | x <;> cases hs
     ·rw [hx, hy] at hs
      rcases x with _ | x <;> rcases y with _ | y <;> cases hs
   ·rfl
   ·rw [(hmk m).2 hs] at hm; cases hm
  ·exact ((hmk m).1 hm).symm
end Go.Proofs.YtjoljfnlkddfbaaGreatDoor
namespace Go.Proofs.YtjoljfnlkddfbaaGreatDoor

/-- The mark of a name and a dot that two carts have together. -/
def joinedM (a b : CartD) (nm : ByteArray) (d : DotD) : Option MarkD := match markAt a.items nm d, markAt b.items nm d with
 | some x, some y => if newerM y x then some y else some x
 | some x, none => if hasC b d then none else some x
 | none, some y => if hasC a d then none else some y
 | none, none => none
theorem joinedM_sup {a b : CartD} (ha : validC a = true) (hb : validC b = true) (nm : ByteArray) (d : DotD) (m : MarkD) : joinedM a b nm d = some m ↔ supS (st a nm d) (st b nm d) = some (some m) := by
 unfold joinedM
 rcases hx : markAt a.items nm d with _ | x
 ·rcases hy : markAt b.items nm d with _ | y
  ·simp only
   constructor
   ·intro h; cases h
   ·intro h
    rcases (sup_from h).1 with e | e
    ·rw [(st_mark ha).1 e] at hx; cases hx
    ·rw [(st_mark hb).1 e] at hy; cases hy
  ·simp only
   rw [(st_mark hb).2 hy]
   rcases hh : hasC a d with _ | _
   ·rw [st_none.2 hh]
    rw [if_neg (by simp)]
    show _ ↔ some (some y) = some (some m)
    constructor
    ·intro h; injection h with h; rw [h]
    ·intro h; injection h
   ·have : st a nm d = some none := by unfold st; rw [if_pos hh, hx]
    rw [this, if_pos rfl]
    show _ ↔ some none = some (some m)
    simp
 ·rcases hy : markAt b.items nm d with _ | y
  ·simp only
   rw [(st_mark ha).2 hx]
   rcases hh : hasC b d with _ | _
   ·rw [st_none.2 hh, if_neg (by simp)]
    show _ ↔ some (some x) = some (some m)
    constructor
    ·intro h; injection h with h; rw [h]
    ·intro h; injection h
   ·have : st b nm d = some none := by unfold st; rw [if_pos hh, hy]
    rw [this, if_pos rfl]
    show _ ↔ some none = some (some m)
    simp
  ·simp only
   rw [(st_mark ha).2 hx, (st_mark hb).2 hy]
   show _ ↔ some (some (better x y)) = some (some m)
   rw [better_eq]
   by_cases hn : newerM y x = true
   ·rw [if_pos hn, if_pos hn]; simp
   ·rw [if_neg hn, if_neg hn]; simp
def dotsU (a b : CartD) : List DotD := unionD (setD (allDots a.items)) (setD (allDots b.items))
theorem dotsU_ss (a b : CartD) : SS (dotsU a b) := by unfold dotsU; rw [unionD_eq]; exact setD_ss _
theorem dotsU_mem (a b : CartD) (d : DotD) : d ∈ dotsU a b ↔ d ∈ allDots a.items ∨ d ∈ allDots b.items := by
 unfold dotsU
 rw [unionD_eq, setD_mem, List.mem_append, setD_mem, setD_mem]
def itemR (a b : CartD) (nm : ByteArray) : ItemD := ⟨nm, (dotsU a b).filterMap (joinedM a b nm)⟩
def stepR (a b : CartD) (out : List ItemD) (nm : ByteArray) : List ItemD :=
 if out.any (fun z => decide (z.name = nm)) then out else if 0 < (itemR a b nm).marks.length then insI out (itemR a b nm) else out
def namesC (c : CartD) : List ByteArray := c.items.map (·.name)
def itemsR (a b : CartD) : List ItemD := (namesC a ++ namesC b).foldl (stepR a b) []
def refJoin (a b : CartD) : CartD := ⟨(unionX (ctxC a) (ctxC b)).1, (unionX (ctxC a) (ctxC b)).2, itemsR a b⟩
theorem joinedM_dot {a b : CartD} {nm : ByteArray} {d : DotD} {m : MarkD} (h : joinedM a b nm d = some m) : m.dot = d ∧ (markAt a.items nm d = some m ∨ markAt b.items nm d = some m) := by
 unfold joinedM at h
 rcases hx : markAt a.items nm d with _ | x <;> rcases hy : markAt b.items nm d with _ | y <;> rw [hx, hy] at h <;> simp only at h
 ·cases h
 ·by_cases hh : hasC a d = true
  ·rw [if_pos hh] at h; cases h
  ·rw [if_neg hh] at h
   injection h with h
   rw [← h]
   exact ⟨(markD_some hy).2, Or.inr rfl⟩
 ·by_cases hh : hasC b d = true
  ·rw [if_pos hh] at h; cases h
  ·rw [if_neg hh] at h
   injection h with h
   rw [← h]
   exact ⟨(markD_some hx).2, Or.inl rfl⟩
 ·by_cases hh : newerM y x = true
  ·rw [if_pos hh] at h
   injection h with h
   rw [← h]
   exact ⟨(markD_some hy).2, Or.inr rfl⟩
  ·rw [if_neg hh] at h
   injection h with h
   rw [← h]
   exact ⟨(markD_some hx).2, Or.inl rfl⟩
theorem itemR_ss (a b : CartD) (nm : ByteArray) : SS (dotsM (itemR a b nm).marks) := by
 have key : ∀ (l : List DotD), SS l → SS (dotsM (l.filterMap (joinedM a b nm))) := by
  intro l
  induction l with
  | nil => exact fun _ => List.Pairwise.nil
  | cons d l ih =>
   intro h
   obtain ⟨h1, h2⟩ := List.pairwise_cons.1 h
   rw [List.filterMap_cons]
   rcases hj : joinedM a b nm d with _ | m
   ·exact ih h2
   ·refine List.pairwise_cons.2 ⟨fun e he => ?_, ih h2⟩
    obtain ⟨m2, hm2, rfl⟩ := List.mem_map.1 he
    obtain ⟨d2, hd2, hj2⟩ := List.mem_filterMap.1 hm2
    show dlt m.dot m2.dot = true
    rw [(joinedM_dot hj).1, (joinedM_dot hj2).1]
    exact h1 d2 hd2
 exact key _ (dotsU_ss a b)
theorem itemR_mem {a b : CartD} (ha : validC a = true) (hb : validC b = true) (nm : ByteArray) (m : MarkD) : m ∈ (itemR a b nm).marks ↔ JM a b nm m := by
 have hva := (validC_parts ha).2.1
 have hvb := (validC_parts hb).2.1
 rw [JM_iff ha hb]
 unfold itemR
 simp only
 rw [List.mem_filterMap]
 constructor
 ·rintro ⟨d, hd, hj⟩
  have := (joinedM_sup ha hb nm d m).1 hj
  rw [← (joinedM_dot hj).1] at this
  exact this
 ·intro h
  have hj := (joinedM_sup ha hb nm m.dot m).2 h
  refine ⟨m.dot, (dotsU_mem a b _).2 ?_, hj⟩
  rcases (joinedM_dot hj).2 with e | e
  ·obtain ⟨x, hx, -, hxm, -⟩ := (markAt_some hva).1 e
   exact Or.inl (mem_allDots.2 ⟨x, hx, m, hxm, rfl⟩)
  ·obtain ⟨x, hx, -, hxm, -⟩ := (markAt_some hvb).1 e
   exact Or.inr (mem_allDots.2 ⟨x, hx, m, hxm, rfl⟩)
theorem mem_insI {l : List ItemD} {x y : ItemD} : y ∈ insI l x ↔ y ∈ l ∨ y = x := by
 rw [← (insI_perm l x).mem_iff, List.mem_append, List.mem_singleton]
theorem foldR_inv (a b : CartD) : ∀ (Q P : List ByteArray) (out : List ItemD), out.Pairwise (fun a b => ltK a.name b.name) → (∀ z, z ∈ out ↔ ∃ nm ∈ P, z = itemR a b nm ∧ 0 < z.marks.length) →
  (Q.foldl (stepR a b) out).Pairwise (fun a b => ltK a.name b.name) ∧ ∀ z, z ∈ Q.foldl (stepR a b) out ↔ ∃ nm ∈ P ++ Q, z = itemR a b nm ∧ 0 < z.marks.length
 | [], P, out, h1, h2 => by rw [List.append_nil]; exact ⟨h1, h2⟩
 | nm :: Q, P, out, h1, h2 => by
  have e : P ++ nm :: Q = P ++ [nm] ++ Q := by simp
  rw [e, List.foldl_cons]
  have step : (stepR a b out nm).Pairwise (fun a b => ltK a.name b.name) ∧ ∀ z, z ∈ stepR a b out nm ↔ ∃ n ∈ P ++ [nm], z = itemR a b n ∧ 0 < z.marks.length := by
   unfold stepR
   rcases ha : out.any (fun z => decide (z.name = nm)) with _ | _
   ·rw [if_neg (by simp)]
    have hno : ∀ z ∈ out, z.name ≠ nm := fun z hz => by simpa using List.any_eq_false.1 ha z hz
    by_cases hm : 0 < (itemR a b nm).marks.length
    ·rw [if_pos hm]
     refine ⟨insI_rising h1 hno, fun z => ?_⟩
     rw [mem_insI, h2]
     constructor
     ·rintro (⟨n, hn, hz⟩ | rfl)
      ·exact ⟨n, by simp [hn], hz⟩
      ·exact ⟨nm, by simp, rfl, hm⟩
     ·rintro ⟨n, hn, hz, hl⟩
      rcases List.mem_append.1 hn with hn | hn
      ·exact Or.inl ⟨n, hn, hz, hl⟩
      ·rw [List.mem_singleton.1 hn] at hz; exact Or.inr hz
    ·rw [if_neg hm]
     refine ⟨h1, fun z => ?_⟩
     rw [h2]
     constructor
     ·rintro ⟨n, hn, hz⟩
      exact ⟨n, by simp [hn], hz⟩
     ·rintro ⟨n, hn, hz, hl⟩
      rcases List.mem_append.1 hn with hn | hn
      ·exact ⟨n, hn, hz, hl⟩
      ·rw [List.mem_singleton.1 hn] at hz
       rw [hz] at hl
       exact absurd hl hm
   ·rw [if_pos rfl]
    refine ⟨h1, fun z => ?_⟩
    rw [h2]
    constructor
    ·rintro ⟨n, hn, hz⟩
     exact ⟨n, by simp [hn], hz⟩
    ·rintro ⟨n, hn, hz, hl⟩
     rcases List.mem_append.1 hn with hn | hn
     ·exact ⟨n, hn, hz, hl⟩
     ·rw [List.mem_singleton.1 hn] at hz
      obtain ⟨z2, hz2, he2⟩ := List.any_eq_true.1 ha
      obtain ⟨n2, hn2, hz3, hl2⟩ := (h2 z2).1 hz2
      have : n2 = nm := by
       have := of_decide_eq_true he2
       rw [hz3] at this
       exact this
      subst this
      exact ⟨n2, hn2, hz, hl⟩
  exact foldR_inv a b Q (P ++ [nm]) _ step.1 step.2
/-- THE REFERENCE'S JOIN IS THE JOIN. -/
theorem refJoin_is {a b : CartD} (ha : validC a = true) (hb : validC b = true) : JoinIs a b (refJoin a b) := by
 have hva := (validC_parts ha).2.1
 have hvb := (validC_parts hb).2.1
 obtain ⟨f1, f2⟩ := foldR_inv a b (namesC a ++ namesC b) [] [] List.Pairwise.nil (fun z => by simp)
 rw [List.nil_append] at f2
 refine join_spec ha hb rfl (risB_iff.2 f1) (fun z hz => ?_) (fun nm m j => ?_)
 ·obtain ⟨nm, hnm, rfl, hl⟩ := (f2 z).1 hz
  refine ⟨?_, List.length_pos_iff.1 hl, itemR_ss a b nm, fun m => itemR_mem ha hb nm m⟩
  show nameB nm = true
  have nb : ∀ {l : List ItemD}, validI l = true → nm ∈ l.map (·.name) → nameB nm = true := fun {l} hvl hn => by
   obtain ⟨x, hx, rfl⟩ := List.mem_map.1 hn
   have := (validI_parts hvl).1 x hx
   simp only [oneI, Bool.and_eq_true] at this
   exact this.1.1.1
  rcases List.mem_append.1 hnm with h | h
  ·exact nb hva h
  ·exact nb hvb h
 ·have hne : 0 < (itemR a b nm).marks.length := List.length_pos_iff.2 (fun e => by
   have := (itemR_mem ha hb nm m).2 j
   rw [e] at this; simp at this)
  have hin : nm ∈ namesC a ++ namesC b := by
   rcases (sup_from ((JM_iff ha hb).1 j)).1 with e | e
   ·obtain ⟨x, hx, hn, -, -⟩ := (markAt_some hva).1 ((st_mark ha).1 e)
    exact List.mem_append.2 (Or.inl (by rw [← hn]; exact List.mem_map_of_mem hx))
   ·obtain ⟨x, hx, hn, -, -⟩ := (markAt_some hvb).1 ((st_mark hb).1 e)
    exact List.mem_append.2 (Or.inr (by rw [← hn]; exact List.mem_map_of_mem hx))
  exact ⟨itemR a b nm, (f2 _).2 ⟨nm, hin, rfl, hne⟩, rfl⟩
end Go.Proofs.YtjoljfnlkddfbaaGreatDoor
namespace Go.Proofs.YtjoljfnlkddfbaaGreatDoor

/-- How great a cart is at most. -/
def CL (n : Nat) (c : CartD) : Prop := c.vec.length + c.cloud.length ≤ n ∧ c.items.length ≤ n ∧ ∀ x ∈ c.items, x.marks.length ≤ n
theorem CL.mono {n m : Nat} {c : CartD} (h : CL n c) (hn : n ≤ m) : CL m c := ⟨Nat.le_trans h.1 hn, Nat.le_trans h.2.1 hn, fun x hx => Nat.le_trans (h.2.2 x hx) hn⟩
theorem raise1_len : ∀ (v : List DotD) (d : DotD), (raise1 v d).length ≤ v.length + 1
 | [], d => by simp [raise1]
 | x :: v, d => by
  unfold raise1
  split
  ·simp
  ·split
   ·simp
   ·have := raise1_len v d
    simp only [List.length_cons]
    omega
theorem foldl_raise_len : ∀ (l v : List DotD), (l.foldl raise1 v).length ≤ v.length + l.length
 | [], v => by simp
 | d :: l, v => by
  have h1 := raise1_len v d
  have h2 := foldl_raise_len l (raise1 v d)
  rw [List.foldl_cons, List.length_cons]
  omega
theorem stepX_len (s : List DotD × List DotD) (d : DotD) : (stepX s d).1.length + (stepX s d).2.length ≤ s.1.length + s.2.length + 1 := by
 unfold stepX
 split
 ·simp; omega
 ·split
  ·have := raise1_len s.1 d
   simp only; omega
  ·omega
theorem foldX_len : ∀ (c : List DotD) (s : List DotD × List DotD), (c.foldl stepX s).1.length + (c.foldl stepX s).2.length ≤ s.1.length + s.2.length + c.length
 | [], s => by simp
 | d :: c, s => by
  have h1 := stepX_len s d
  have h2 := foldX_len c (stepX s d)
  rw [List.foldl_cons, List.length_cons]
  omega
theorem setD_leL (l : List DotD) : (setD l).length ≤ l.length := by
 unfold setD sortD
 exact Nat.le_trans (compactD_len _) (by simp)
theorem unionX_len (a b : List DotD × List DotD) : (unionX a b).1.length + (unionX a b).2.length ≤ a.1.length + a.2.length + (b.1.length + b.2.length) := by
 have h1 := foldX_len (setD (a.2 ++ b.2)) (unionV a.1 b.1, [])
 have h2 := foldl_raise_len (a.1 ++ b.1) []
 have h3 := setD_leL (a.2 ++ b.2)
 have e : unionV a.1 b.1 = (a.1 ++ b.1).foldl raise1 [] := rfl
 rw [← e] at h2
 rw [List.length_append] at h2 h3
 simp only [List.length_nil] at h1 h2
 show ((setD (a.2 ++ b.2)).foldl stepX (unionV a.1 b.1, [])).1.length + ((setD (a.2 ++ b.2)).foldl stepX (unionV a.1 b.1, [])).2.length ≤ _
 omega
theorem insI_len (l : List ItemD) (x : ItemD) : (insI l x).length = l.length + 1 := by rw [← (insI_perm l x).length_eq]; simp
theorem foldR_len (a b : CartD) : ∀ (Q : List ByteArray) (out : List ItemD), (Q.foldl (stepR a b) out).length ≤ out.length + Q.length
 | [], out => by simp
 | nm :: Q, out => by
  have h1 : (stepR a b out nm).length ≤ out.length + 1 := by
   unfold stepR
   split
   ·omega
   ·split
    ·rw [insI_len]; omega
    ·omega
  have h2 := foldR_len a b Q (stepR a b out nm)
  rw [List.foldl_cons, List.length_cons]
  omega
theorem marksOf_len {n : Nat} {l : List ItemD} (h : ∀ x ∈ l, x.marks.length ≤ n) (nm : ByteArray) : (marksOf l nm).length ≤ n := by
 unfold marksOf findX
 rcases hf : l.find? (fun x => decide (x.name = nm)) with _ | x
 ·rw [hf]; exact Nat.zero_le _
 ·rw [hf]; exact h x (List.mem_of_find?_eq_some hf)
theorem SS_nodup {ms : List MarkD} (h : SS (dotsM ms)) : ms.Nodup := by
 have : (dotsM ms).Nodup := SS.nodup h
 unfold dotsM at this
 exact (List.pairwise_map.1 this).imp (fun {a b} h e => h (by rw [e]))
theorem itemR_len {n m : Nat} {a b : CartD} (ha : validC a = true) (hb : validC b = true) (h1 : CL n a) (h2 : CL m b) (nm : ByteArray) : (itemR a b nm).marks.length ≤ n + m := by
 have hs : (itemR a b nm).marks ⊆ marksOf a.items nm ++ marksOf b.items nm := fun x hx => by
  have j := (itemR_mem ha hb nm x).1 hx
  unfold JM stayM at j
  rcases j with j | j
  ·exact List.mem_append.2 (Or.inl (List.mem_filter.1 j).1)
  ·exact List.mem_append.2 (Or.inr (List.mem_filter.1 j).1)
 have := (SS_nodup (itemR_ss a b nm)).length_le_of_subset hs
 rw [List.length_append] at this
 have l1 := marksOf_len h1.2.2 nm
 have l2 := marksOf_len h2.2.2 nm
 omega
theorem refJoin_CL {n m : Nat} {a b : CartD} (ha : validC a = true) (hb : validC b = true) (h1 : CL n a) (h2 : CL m b) : CL (n + m) (refJoin a b) := by
 refine ⟨?_, ?_, fun x hx => ?_⟩
 ·have := unionX_len (ctxC a) (ctxC b)
  have k1 : (ctxC a).1.length + (ctxC a).2.length ≤ n := h1.1
  have k2 : (ctxC b).1.length + (ctxC b).2.length ≤ m := h2.1
  show (unionX (ctxC a) (ctxC b)).1.length + (unionX (ctxC a) (ctxC b)).2.length ≤ _
  omega
 ·have := foldR_len a b (namesC a ++ namesC b) []
  rw [List.length_append] at this
  unfold namesC at this
  rw [List.length_map, List.length_map] at this
  have k1 := h1.2.1
  have k2 := h2.2.1
  show (itemsR a b).length ≤ _
  unfold itemsR namesC
  simp only [List.length_nil] at this
  omega
 ·obtain ⟨-, f2⟩ := foldR_inv a b (namesC a ++ namesC b) [] [] List.Pairwise.nil (fun z => by simp)
  obtain ⟨nm, -, rfl, -⟩ := (f2 x).1 hx
  exact itemR_len ha hb h1 h2 nm
/-- Whether they do, as a law. -/
def FitsIs (a b : CartD) : Prop := ∀ n1 n2 d m1 m2, markAt a.items n1 d = some m1 → markAt b.items n2 d = some m2 → n1 = n2 ∧ m1 = m2
theorem FitsIs.symm {a b : CartD} (h : FitsIs a b) : FitsIs b a := fun n1 n2 d m1 m2 h1 h2 => by
 obtain ⟨e1, e2⟩ := h n2 n1 d m2 m1 h2 h1
 exact ⟨e1.symm, e2.symm⟩
end Go.Proofs.YtjoljfnlkddfbaaGreatDoor
namespace Go.Proofs.YtjoljfnlkddfbaaGreatDoor

def zeroC : CartD := ⟨[], [], []⟩
theorem zeroC_valid : validC zeroC = true := by
 unfold validC zeroC
 rw [validI_eqB]
 rfl
theorem zeroC_st (nm : ByteArray) (d : DotD) : st zeroC nm d = none := by
 refine st_none.2 ?_
 rcases h : hasC zeroC d with _ | _
 ·rfl
 ·exfalso
  obtain ⟨h1, h2⟩ := (hasX_iff _ _ _).1 (show hasX [] [] d = true from h)
  have := (validDot_iff d).1 h1
  rcases h2 with h2 | h2
  ·have h2' : d.ctr ≤ 0 := h2
   omega
  ·simp at h2
theorem join_valid {a b : CartD} (ha : validC a = true) (hb : validC b = true) : validC (refJoin a b) = true := (refJoin_is ha hb).1
theorem join_st {a b : CartD} (ha : validC a = true) (hb : validC b = true) (nm : ByteArray) (d : DotD) : st (refJoin a b) nm d = supS (st a nm d) (st b nm d) := (refJoin_is ha hb).2 nm d
theorem join_comm {a b : CartD} (ha : validC a = true) (hb : validC b = true) : refJoin a b = refJoin b a := (refJoin_is ha hb).unique (refJoin_is hb ha).symm
theorem join_assoc {a b c : CartD} (ha : validC a = true) (hb : validC b = true) (hc : validC c = true) : refJoin (refJoin a b) c = refJoin a (refJoin b c) :=
 cart_ext (join_valid (join_valid ha hb) hc) (join_valid ha (join_valid hb hc)) (fun nm d => by
  rw [join_st (join_valid ha hb) hc, join_st ha hb, join_st ha (join_valid hb hc), join_st hb hc, supS_assoc])
theorem join_zero {a : CartD} (ha : validC a = true) : refJoin zeroC a = a :=
 cart_ext (join_valid zeroC_valid ha) ha (fun nm d => by rw [join_st zeroC_valid ha, zeroC_st]; rfl)
/-! ### Many carts -/
def allC (l : List CartD) : CartD := l.foldl refJoin zeroC
theorem allC_foldl : ∀ (l : List CartD) (s : CartD), validC s = true → (∀ c ∈ l, validC c = true) → validC (l.foldl refJoin s) = true ∧ ∀ nm d, st (l.foldl refJoin s) nm d = l.foldl (fun x c => supS x (st c nm d)) (st s nm d)
 | [], s, hs, _ => ⟨hs, fun _ _ => rfl⟩
 | c :: l, s, hs, hl => by
  have hc := hl c (by simp)
  obtain ⟨i1, i2⟩ := allC_foldl l (refJoin s c) (join_valid hs hc) (fun x hx => hl x (by simp [hx]))
  refine ⟨i1, fun nm d => ?_⟩
  rw [List.foldl_cons, i2, join_st hs hc, List.foldl_cons]
theorem allC_valid {l : List CartD} (h : ∀ c ∈ l, validC c = true) : validC (allC l) = true := (allC_foldl l zeroC zeroC_valid h).1
end Go.Proofs.YtjoljfnlkddfbaaGreatDoor
namespace Go.Proofs.YtjoljfnlkddfbaaGreatDoor

def unionXK (a b : List DotD × List DotD) : List DotD × List DotD := compactX (madeV (a.1 ++ b.1)) (unionD a.2 b.2)
theorem unionXK_eq (a b : List DotD × List DotD) : unionX a b = unionXK a b := by
 unfold unionX unionXK unionV
 rw [unionD_eq]
def dotsUK (a b : CartD) : List DotD := unionD (allDots a.items) (allDots b.items)
theorem dotsUK_eq (a b : CartD) : dotsU a b = dotsUK a b := by
 refine ss_ext (dotsU_ss a b) (by unfold dotsUK; rw [unionD_eq]; exact setD_ss _) (fun d => ?_)
 rw [dotsU_mem]
 unfold dotsUK
 rw [unionD_eq, setD_mem, List.mem_append]
def itemRK (a b : CartD) (nm : ByteArray) : ItemD := ⟨nm, (dotsUK a b).filterMap (joinedM a b nm)⟩
def stepRK (a b : CartD) (out : List ItemD) (nm : ByteArray) : List ItemD :=
 if out.any (fun z => decide (z.name = nm)) then out else if 0 < (itemRK a b nm).marks.length then insI out (itemRK a b nm) else out
def refJoinK (a b : CartD) : CartD := ⟨(unionXK (ctxC a) (ctxC b)).1, (unionXK (ctxC a) (ctxC b)).2, (namesC a ++ namesC b).foldl (stepRK a b) []⟩
theorem refJoinK_eq (a b : CartD) : refJoin a b = refJoinK a b := by
 have e1 : itemR a b = itemRK a b := by funext nm; unfold itemR itemRK; rw [dotsUK_eq]
 have e2 : stepR a b = stepRK a b := by funext out nm; unfold stepR stepRK; rw [e1]
 unfold refJoin refJoinK itemsR
 rw [unionXK_eq, e2]
def validCK (c : CartD) : Bool := compactB c.vec c.cloud && validB c.items && (allDots c.items).all (hasC c)
theorem validCK_eq (c : CartD) : validC c = validCK c := by
 unfold validC validCK
 rw [validI_eqB]
/-! ### The examples -/
def j1 : MarkD := ⟨⟨1, 1⟩, 5, 3⟩
def j2 : MarkD := ⟨⟨2, 1⟩, 7, 4⟩
def tea (l : List MarkD) : List ItemD := [⟨⟨#[84, 101, 97]⟩, l⟩]
def jX : CartD := ⟨[⟨1, 1⟩], [], tea [j1]⟩
def jY : CartD := ⟨[⟨2, 1⟩], [], tea [j2]⟩
def jZ : CartD := ⟨[⟨1, 1⟩, ⟨2, 1⟩], [], []⟩
def jT : CartD := ⟨[⟨1, 1⟩], [], tea [⟨⟨1, 1⟩, 6, 3⟩]⟩
def jXY : CartD := ⟨[⟨1, 1⟩, ⟨2, 1⟩], [], tea [j1, j2]⟩
def jB : CartD := ⟨[], [], tea [j1]⟩
def jO : CartD := ⟨[⟨1, 1⟩], [], []⟩
theorem jv : ([jX, jY, jZ, jT, jXY, jO, zeroC].all validCK && !validCK jB) = true := by decide +kernel
end Go.Proofs.YtjoljfnlkddfbaaGreatDoor
namespace Go.Proofs.YtjoljfnlkddfbaaGreatDoor
def qtyI (x : ItemD) : Int := if oneI x then (newestM x.marks).qty else 0
def qtyIE (x : ItemD) : Int := if oneI x then 0 else 2
end Go.Proofs.YtjoljfnlkddfbaaGreatDoor
namespace Go.Proofs.YtjoljfnlkddfbaaGreatDoor

/-! ### Marks in order -/
def leM (a b : MarkD) : Prop := dlt b.dot a.dot = false
/-! ### Items in order -/
theorem allDots_valid {l : List ItemD} (h : validI l = true) : (allDots l).all validDotD = true := by
 rw [List.all_eq_true]
 intro d hd
 obtain ⟨x, hx, m, hm, rfl⟩ := mem_allDots.1 hd
 have h1 := (validI_parts h).1 x hx
 unfold oneI at h1
 simp only [Bool.and_eq_true] at h1
 have h2 := List.all_eq_true.1 h1.2 m hm
 unfold validMarkD at h2
 simp only [Bool.and_eq_true] at h2
 exact h2.1.1
theorem compactB_validX {v c : List DotD} (h : compactB v c = true) : validX v c = true := (compactB_parts h).1
theorem rising_nodup {l : List ItemD} (h : l.Pairwise (fun a b => ltK a.name b.name)) : (l.map (·.name)).Nodup := by
 unfold List.Nodup
 rw [List.pairwise_map]
 exact h.imp (fun {a b} h e => by rw [e] at h; exact ltK_irrefl _ h)
end Go.Proofs.YtjoljfnlkddfbaaGreatDoor
