/- Canon: a cart in order, without a program in sight. -/
import Derived.Test.YtfnfbcaoihhbpaaGreatDoorRaiseP
import Derived.Test.YtfnfbcaoihhbpaaGreatDoorDot2
namespace Go.Proofs.YtfnfbcaoihhbpaaGreatDoor

def hasC (c : CartD) (d : DotD) : Bool := hasX c.vec c.cloud d
def validC (c : CartD) : Bool := compactB c.vec c.cloud && validI c.items && (allDots c.items).all (hasC c)
/-- The marks of the item with a name. -/
def marksOf (l : List ItemD) (nm : ByteArray) : List MarkD := (findX l nm).marks
def markD (ms : List MarkD) (d : DotD) : Option MarkD := ms.find? (fun m => decide (m.dot = d))
def markAt (l : List ItemD) (nm : ByteArray) (d : DotD) : Option MarkD := markD (marksOf l nm) d
/-- What a cart says of a name and a dot: nothing, or a mark, or that there is none any more. -/
def st (c : CartD) (nm : ByteArray) (d : DotD) : Option (Option MarkD) := if hasC c d then some (markAt c.items nm d) else none

theorem validC_parts {c : CartD} (h : validC c = true) : compactB c.vec c.cloud = true ∧ validI c.items = true ∧ ∀ d ∈ allDots c.items, hasC c d = true := by
 unfold validC at h
 rw [Bool.and_eq_true, Bool.and_eq_true, List.all_eq_true] at h
 exact ⟨h.1.1, h.1.2, h.2⟩
theorem validC_of {c : CartD} (h1 : compactB c.vec c.cloud = true) (h2 : validI c.items = true) (h3 : ∀ d ∈ allDots c.items, hasC c d = true) : validC c = true := by
 unfold validC
 rw [h1, h2, List.all_eq_true.2 h3]; rfl
theorem markD_some {ms : List MarkD} {d : DotD} {m : MarkD} (h : markD ms d = some m) : m ∈ ms ∧ m.dot = d := by
 have h1 := List.find?_some h
 exact ⟨List.mem_of_find?_eq_some h, by simpa using h1⟩
theorem markD_of {ms : List MarkD} (hs : SS (dotsM ms)) {m : MarkD} (h : m ∈ ms) : markD ms m.dot = some m := by
 induction ms with
 | nil => simp at h
 | cons a ms ih =>
  have hp := List.pairwise_cons.1 (show (dotsM (a :: ms)).Pairwise _ from hs)
  unfold markD
  rw [List.find?_cons]
  by_cases e : a.dot = m.dot
  ·rw [decide_eq_true e]
   rcases List.mem_cons.1 h with rfl | h
   ·rfl
   ·have : dlt a.dot m.dot = true := hp.1 m.dot (List.mem_map_of_mem h)
    rw [e, dlt_irrefl] at this; cases this
  ·rw [decide_eq_false e]
   rcases List.mem_cons.1 h with rfl | h
   ·exact absurd rfl e
   ·exact ih hp.2 h
/-- Marks in the order of their dots are known by what is in them. -/
theorem marks_ext : ∀ {a b : List MarkD}, SS (dotsM a) → SS (dotsM b) → (∀ m, m ∈ a ↔ m ∈ b) → a = b
 | [], b, _, _, h => (List.eq_nil_iff_forall_not_mem.2 (fun x hx => by have := (h x).2 hx; simp at this)).symm
 | x :: a, [], _, _, h => by have := (h x).1 (by simp); simp at this
 | x :: a, y :: b, ha, hb, h => by
  have a1 := List.pairwise_cons.1 (show (dotsM (x :: a)).Pairwise _ from ha)
  have b1 := List.pairwise_cons.1 (show (dotsM (y :: b)).Pairwise _ from hb)
  have exy : x = y := by
   rcases List.mem_cons.1 ((h x).1 (by simp)) with e | e
   ·exact e
   ·rcases List.mem_cons.1 ((h y).2 (by simp)) with e2 | e2
    ·exact e2.symm
    ·have h1 := b1.1 x.dot (List.mem_map_of_mem e)
     have h2 := a1.1 y.dot (List.mem_map_of_mem e2)
     rw [dlt_asymm h1] at h2; cases h2
  subst exy
  congr 1
  refine marks_ext a1.2 b1.2 (fun m => ⟨fun hm => ?_, fun hm => ?_⟩)
  ·rcases List.mem_cons.1 ((h m).1 (by simp [hm])) with e | e
   ·have : dlt x.dot m.dot = true := a1.1 m.dot (List.mem_map_of_mem hm)
    rw [e, dlt_irrefl] at this; cases this
   ·exact e
  ·rcases List.mem_cons.1 ((h m).2 (by simp [hm])) with e | e
   ·have : dlt x.dot m.dot = true := b1.1 m.dot (List.mem_map_of_mem hm)
    rw [e, dlt_irrefl] at this; cases this
   ·exact e
theorem oneI_ss {x : ItemD} (h : oneI x = true) : SS (dotsM x.marks) := by
 simp only [oneI, Bool.and_eq_true] at h
 exact isSetB_iff.1 h.1.2
theorem marksOf_mem {l : List ItemD} (h : validI l = true) {x : ItemD} (hx : x ∈ l) : marksOf l x.name = x.marks := by
 have := find_rising (risB_iff.1 (validI_parts h).2.1) hx
 unfold fX at this
 unfold marksOf findX
 rw [this]; rfl
theorem marksOf_none {l : List ItemD} {nm : ByteArray} (h : ∀ x ∈ l, x.name ≠ nm) : marksOf l nm = [] := by
 have : l.find? (fun x => decide (x.name = nm)) = none := List.find?_eq_none.2 (fun x hx => by simpa using h x hx)
 unfold marksOf findX
 rw [this]; rfl
/-- A mark of a cart: its item. -/
theorem markAt_some {l : List ItemD} (h : validI l = true) {nm : ByteArray} {d : DotD} {m : MarkD} : markAt l nm d = some m ↔ ∃ x ∈ l, x.name = nm ∧ m ∈ x.marks ∧ m.dot = d := by
 constructor
 ·intro hm
  by_cases hx : ∃ x ∈ l, x.name = nm
  ·obtain ⟨x, hx, rfl⟩ := hx
   unfold markAt at hm
   rw [marksOf_mem h hx] at hm
   obtain ⟨h1, h2⟩ := markD_some hm
   exact ⟨x, hx, rfl, h1, h2⟩
  ·unfold markAt at hm
   rw [marksOf_none (fun x hx2 e => hx ⟨x, hx2, e⟩)] at hm
   cases hm
 ·rintro ⟨x, hx, rfl, hm, rfl⟩
  unfold markAt
  rw [marksOf_mem h hx]
  exact markD_of (oneI_ss ((validI_parts h).1 x hx)) hm
theorem mem_allDots {l : List ItemD} {d : DotD} : d ∈ allDots l ↔ ∃ x ∈ l, ∃ m ∈ x.marks, m.dot = d := by
 unfold allDots dotsM
 simp
theorem markAt_has {c : CartD} (h : validC c = true) {nm : ByteArray} {d : DotD} {m : MarkD} (hm : markAt c.items nm d = some m) : hasC c d = true := by
 obtain ⟨h1, h2, h3⟩ := validC_parts h
 obtain ⟨x, hx, -, hmm, hd⟩ := (markAt_some h2).1 hm
 exact h3 d (mem_allDots.2 ⟨x, hx, m, hmm, hd⟩)
theorem st_mark {c : CartD} (h : validC c = true) {nm : ByteArray} {d : DotD} {m : MarkD} : st c nm d = some (some m) ↔ markAt c.items nm d = some m := by
 unfold st
 constructor
 ·intro hs
  by_cases hh : hasC c d = true
  ·rw [if_pos hh] at hs; exact Option.some.inj hs
  ·rw [if_neg hh] at hs; cases hs
 ·intro hm
  rw [if_pos (markAt_has h hm), hm]
theorem st_none {c : CartD} {nm : ByteArray} {d : DotD} : st c nm d = none ↔ hasC c d = false := by
 unfold st
 by_cases hh : hasC c d = true
 ·rw [if_pos hh, hh]; simp
 ·rw [if_neg hh]; simpa using hh
theorem validI_ext {l m : List ItemD} (hl : validI l = true) (hm : validI m = true) (h : ∀ nm d, markAt l nm d = markAt m nm d) : l = m := by
 have sub : ∀ {l m : List ItemD}, validI l = true → validI m = true → (∀ nm d, markAt l nm d = markAt m nm d) → ∀ x ∈ l, x ∈ m := fun {l m} hl hm h x hx => by
  obtain ⟨a, ha⟩ := List.exists_mem_of_ne_nil _ (show x.marks ≠ [] from by
   intro e
   have := (validI_parts hl).1 x hx
   unfold oneI at this
   rw [e] at this
   simp at this)
  have h1 := (markAt_some hl).2 ⟨x, hx, rfl, ha, rfl⟩
  rw [h] at h1
  obtain ⟨y, hy, hyn, -, -⟩ := (markAt_some hm).1 h1
  have he : x.marks = y.marks := marks_ext (oneI_ss ((validI_parts hl).1 x hx)) (oneI_ss ((validI_parts hm).1 y hy)) (fun b => by
   constructor
   ·intro hb
    have h2 := (markAt_some hl).2 ⟨x, hx, rfl, hb, rfl⟩
    rw [h] at h2
    obtain ⟨z, hz, hzn, hzb, -⟩ := (markAt_some hm).1 h2
    rw [rising_name (risB_iff.1 (validI_parts hm).2.1) hy hz (by rw [hyn, hzn])]
    exact hzb
   ·intro hb
    have h2 := (markAt_some hm).2 ⟨y, hy, hyn, hb, rfl⟩
    rw [← h] at h2
    obtain ⟨z, hz, hzn, hzb, -⟩ := (markAt_some hl).1 h2
    rw [rising_name (risB_iff.1 (validI_parts hl).2.1) hx hz (by rw [hzn])]
    exact hzb)
  have : x = y := item_eq.2 ⟨hyn.symm, he⟩
  rw [this]; exact hy
 exact rising_ext (risB_iff.1 (validI_parts hl).2.1) (risB_iff.1 (validI_parts hm).2.1) (fun x => ⟨sub hl hm h x, sub hm hl (fun nm d => (h nm d).symm) x⟩)
/-- TWO VALID CARTS THAT SAY THE SAME ARE THE SAME. -/
theorem cart_ext {a b : CartD} (ha : validC a = true) (hb : validC b = true) (h : ∀ nm d, st a nm d = st b nm d) : a = b := by
 obtain ⟨a1, a2, a3⟩ := validC_parts ha
 obtain ⟨b1, b2, b3⟩ := validC_parts hb
 have hh : ∀ d, hasX a.vec a.cloud d = hasX b.vec b.cloud d := fun d => by
  have h1 := h ⟨#[]⟩ d
  show hasC a d = hasC b d
  rcases ea : hasC a d with _ | _
  ·have := (st_none (nm := ⟨#[]⟩)).2 ea
   rw [h1] at this
   exact (st_none.1 this).symm
  ·rcases eb : hasC b d with _ | _
   ·have := (st_none (nm := ⟨#[]⟩)).2 eb
    rw [← h1] at this
    rw [st_none.1 this] at ea; cases ea
   ·rfl
 obtain ⟨e1, e2⟩ := ctx_ext a1 b1 hh
 have e3 : a.items = b.items := validI_ext a2 b2 (fun nm d => by
  rcases hm : markAt a.items nm d with _ | m
  ·rcases hn : markAt b.items nm d with _ | n
   ·rfl
   ·have := (st_mark hb).2 hn
    rw [← h] at this
    rw [(st_mark ha).1 this] at hm; cases hm
  ·have := (st_mark ha).2 hm
   rw [h] at this
   exact ((st_mark hb).1 this).symm)
 rcases a with ⟨av, ac, ai⟩
 rcases b with ⟨bv, bc, bi⟩
 simp only at e1 e2 e3
 rw [e1, e2, e3]

/-! ### The order of what can be said -/
def supS : Option (Option MarkD) → Option (Option MarkD) → Option (Option MarkD)
 | none, y => y
 | x, none => x
 | some none, _ => some none
 | _, some none => some none
 | some (some m), some (some n) => some (some (better m n))
theorem better_eq (m n : MarkD) : better m n = if newerM n m then n else m := by
 unfold better
 by_cases h : 0 < mcmp n m
 ·rw [if_pos h, if_pos ((newerM_iff n m).2 ((mcmp_iff n m).1 h))]
 ·rw [if_neg h, if_neg (fun h2 => h ((mcmp_iff n m).2 ((newerM_iff n m).1 h2)))]
theorem better_comm (m n : MarkD) : better m n = better n m := by
 rw [better_eq, better_eq]
 by_cases h1 : newerM n m = true
 ·rw [if_pos h1]
  have h2 : ¬ newerM m n = true := fun h2 => newP_irrefl _ (newP_trans ((newerM_iff _ _).1 h1) ((newerM_iff _ _).1 h2))
  rw [if_neg h2]
 ·rw [if_neg h1]
  by_cases h2 : newerM m n = true
  ·rw [if_pos h2]
  ·rw [if_neg h2]
   exact newP_total (fun h => h2 ((newerM_iff _ _).2 h)) (fun h => h1 ((newerM_iff _ _).2 h))
theorem better_self (m : MarkD) : better m m = m := by
 rw [better_eq]
 split <;> rfl
theorem better_assoc (a b c : MarkD) : better (better a b) c = better a (better b c) := by
 have tr : ∀ {x y z : MarkD}, newerM x y = true → newerM y z = true → newerM x z = true := fun h1 h2 => (newerM_iff _ _).2 (newP_trans ((newerM_iff _ _).1 h1) ((newerM_iff _ _).1 h2))
 have ntr : ∀ {x y z : MarkD}, ¬ newerM x y = true → ¬ newerM y z = true → ¬ newerM x z = true := fun {x y z} h1 h2 h3 => by
  have h3' := (newerM_iff _ _).1 h3
  by_cases e : NewP y x
  ·exact h2 ((newerM_iff _ _).2 (newP_trans e h3'))
  ·have := newP_total (fun h => h1 ((newerM_iff _ _).2 h)) e
   rw [this] at h3
   exact h2 h3
 rw [better_eq a b, better_eq b c]
 by_cases h1 : newerM b a = true
 ·rw [if_pos h1]
  by_cases h2 : newerM c b = true
  ·rw [if_pos h2, better_eq, better_eq, if_pos h2, if_pos (tr h2 h1)]
  ·rw [if_neg h2, better_eq, better_eq, if_neg h2, if_pos h1]
 ·rw [if_neg h1]
  by_cases h2 : newerM c b = true
  ·rw [if_pos h2]
  ·rw [if_neg h2, better_eq, better_eq, if_neg h1, if_neg (ntr h2 h1)]
theorem supS_comm (x y : Option (Option MarkD)) : supS x y = supS y x := by
 rcases x with _ | _ | m <;> rcases y with _ | _ | n <;> simp [supS, better_comm]
theorem supS_self (x : Option (Option MarkD)) : supS x x = x := by
 rcases x with _ | _ | m <;> simp [supS, better_self]
theorem supS_assoc (x y z : Option (Option MarkD)) : supS (supS x y) z = supS x (supS y z) := by
 rcases x with _ | _ | m <;> rcases y with _ | _ | n <;> rcases z with _ | _ | k <;> simp [supS, better_assoc]
/-- What a join is. -/
def JoinIs (a b c : CartD) : Prop := validC c = true ∧ ∀ nm d, st c nm d = supS (st a nm d) (st b nm d)
theorem JoinIs.symm {a b c : CartD} (h : JoinIs a b c) : JoinIs b a c := ⟨h.1, fun nm d => by rw [h.2, supS_comm]⟩
theorem JoinIs.within {a b c : CartD} (h : JoinIs a b c) {e : CartD} (k : JoinIs a c e) : e = c :=
 cart_ext k.1 h.1 (fun nm d => by rw [k.2, h.2, ← supS_assoc, supS_self])
end Go.Proofs.YtfnfbcaoihhbpaaGreatDoor
namespace Go.Proofs.YtfnfbcaoihhbpaaGreatDoor

theorem marksOf_ss {l : List ItemD} (h : validI l = true) (nm : ByteArray) : SS (dotsM (marksOf l nm)) := by
 by_cases hx : ∃ x ∈ l, x.name = nm
 ·obtain ⟨x, hx, rfl⟩ := hx
  rw [marksOf_mem h hx]
  exact oneI_ss ((validI_parts h).1 x hx)
 ·rw [marksOf_none (fun x hx2 e => hx ⟨x, hx2, e⟩)]
  exact List.Pairwise.nil
theorem mem_marksOf {l : List ItemD} (h : validI l = true) {nm : ByteArray} {m : MarkD} : m ∈ marksOf l nm ↔ markAt l nm m.dot = some m := by
 unfold markAt
 constructor
 ·exact fun hm => markD_of (marksOf_ss h nm) hm
 ·exact fun hm => (markD_some hm).1
end Go.Proofs.YtfnfbcaoihhbpaaGreatDoor
namespace Go.Proofs.YtfnfbcaoihhbpaaGreatDoor

end Go.Proofs.YtfnfbcaoihhbpaaGreatDoor
namespace Go.Proofs.YtfnfbcaoihhbpaaGreatDoor

/-- How great a cart is at most. -/
def CL (n : Nat) (c : CartD) : Prop := c.vec.length + c.cloud.length ≤ n ∧ c.items.length ≤ n ∧ ∀ x ∈ c.items, x.marks.length ≤ n
theorem CL.mono {n m : Nat} {c : CartD} (h : CL n c) (hn : n ≤ m) : CL m c := ⟨Nat.le_trans h.1 hn, Nat.le_trans h.2.1 hn, fun x hx => Nat.le_trans (h.2.2 x hx) hn⟩
theorem raise1_len : ∀ (v : List DotD) (d : DotD), (raise1 v d).length ≤ v.length + 1
 | [], d => by simp [raise1]
 | x :: v, d => by
  unfold raise1
  split
  ·simp
  ·split
   ·simp
   ·have := raise1_len v d
    simp only [List.length_cons]
    omega
theorem stepX_len (s : List DotD × List DotD) (d : DotD) : (stepX s d).1.length + (stepX s d).2.length ≤ s.1.length + s.2.length + 1 := by
 unfold stepX
 split
 ·simp; omega
 ·split
  ·have := raise1_len s.1 d
   simp only; omega
  ·omega
theorem foldX_len : ∀ (c : List DotD) (s : List DotD × List DotD), (c.foldl stepX s).1.length + (c.foldl stepX s).2.length ≤ s.1.length + s.2.length + c.length
 | [], s => by simp
 | d :: c, s => by
  have h1 := stepX_len s d
  have h2 := foldX_len c (stepX s d)
  rw [List.foldl_cons, List.length_cons]
  omega
theorem setD_leL (l : List DotD) : (setD l).length ≤ l.length := by
 unfold setD sortD
 exact Nat.le_trans (compactD_len _) (by simp)
/-- Whether they do, as a law. -/
def FitsIs (a b : CartD) : Prop := ∀ n1 n2 d m1 m2, markAt a.items n1 d = some m1 → markAt b.items n2 d = some m2 → n1 = n2 ∧ m1 = m2
theorem FitsIs.symm {a b : CartD} (h : FitsIs a b) : FitsIs b a := fun n1 n2 d m1 m2 h1 h2 => by
 obtain ⟨e1, e2⟩ := h n2 n1 d m2 m1 h2 h1
 exact ⟨e1.symm, e2.symm⟩
end Go.Proofs.YtfnfbcaoihhbpaaGreatDoor
namespace Go.Proofs.YtfnfbcaoihhbpaaGreatDoor

def zeroC : CartD := ⟨[], [], []⟩
/-! ### Many carts -/
end Go.Proofs.YtfnfbcaoihhbpaaGreatDoor
namespace Go.Proofs.YtfnfbcaoihhbpaaGreatDoor

def validCK (c : CartD) : Bool := compactB c.vec c.cloud && validB c.items && (allDots c.items).all (hasC c)
theorem validCK_eq (c : CartD) : validC c = validCK c := by
 unfold validC validCK
 rw [validI_eqB]
/-! ### The examples -/
def j1 : MarkD := ⟨⟨1, 1⟩, 5, 3⟩
def j2 : MarkD := ⟨⟨2, 1⟩, 7, 4⟩
def tea (l : List MarkD) : List ItemD := [⟨⟨#[84, 101, 97]⟩, l⟩]
def jX : CartD := ⟨[⟨1, 1⟩], [], tea [j1]⟩
def jY : CartD := ⟨[⟨2, 1⟩], [], tea [j2]⟩
def jZ : CartD := ⟨[⟨1, 1⟩, ⟨2, 1⟩], [], []⟩
def jT : CartD := ⟨[⟨1, 1⟩], [], tea [⟨⟨1, 1⟩, 6, 3⟩]⟩
def jXY : CartD := ⟨[⟨1, 1⟩, ⟨2, 1⟩], [], tea [j1, j2]⟩
def jB : CartD := ⟨[], [], tea [j1]⟩
def jO : CartD := ⟨[⟨1, 1⟩], [], []⟩
theorem jv : ([jX, jY, jZ, jT, jXY, jO, zeroC].all validCK && !validCK jB) = true := by decide +kernel
end Go.Proofs.YtfnfbcaoihhbpaaGreatDoor
namespace Go.Proofs.YtfnfbcaoihhbpaaGreatDoor
end Go.Proofs.YtfnfbcaoihhbpaaGreatDoor
namespace Go.Proofs.YtfnfbcaoihhbpaaGreatDoor

/-! ### Marks in order -/
/-! ### Items in order -/
theorem allDots_valid {l : List ItemD} (h : validI l = true) : (allDots l).all validDotD = true := by
 rw [List.all_eq_true]
 intro d hd
 obtain ⟨x, hx, m, hm, rfl⟩ := mem_allDots.1 hd
 have h1 := (validI_parts h).1 x hx
 unfold oneI at h1
 simp only [Bool.and_eq_true] at h1
 have h2 := List.all_eq_true.1 h1.2 m hm
 unfold validMarkD at h2
 simp only [Bool.and_eq_true] at h2
 exact h2.1.1
end Go.Proofs.YtfnfbcaoihhbpaaGreatDoor
