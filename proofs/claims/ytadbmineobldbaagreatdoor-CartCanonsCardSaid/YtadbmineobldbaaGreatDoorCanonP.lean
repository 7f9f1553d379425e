/- Canon: a cart in order, without a program in sight. -/
import Derived.Test.YtadbmineobldbaaGreatDoorRaiseP
import Derived.Test.YtadbmineobldbaaGreatDoorDot2
namespace Go.Proofs.YtadbmineobldbaaGreatDoor

def ctxC (c : CartD) : List DotD × List DotD := (c.vec, c.cloud)
def hasC (c : CartD) (d : DotD) : Bool := hasX c.vec c.cloud d
def validC (c : CartD) : Bool := compactB c.vec c.cloud && validI c.items && (allDots c.items).all (hasC c)
def marksOf (l : List ItemD) (nm : ByteArray) : List MarkD := (findX l nm).marks
def markD (ms : List MarkD) (d : DotD) : Option MarkD := ms.find? (fun m => decide (m.dot = d))
def markAt (l : List ItemD) (nm : ByteArray) (d : DotD) : Option MarkD := markD (marksOf l nm) d
def st (c : CartD) (nm : ByteArray) (d : DotD) : Option (Option MarkD) := if hasC c d then some (markAt c.items nm d) else none

theorem validC_parts {c : CartD} (h : validC c = true) : compactB c.vec c.cloud = true ∧ validI c.items = true ∧ ∀ d ∈ allDots c.items, hasC c d = true := by
 unfold validC at h;rw [Bool.and_eq_true, Bool.and_eq_true, List.all_eq_true] at h;exact ⟨h.1.1, h.1.2, h.2⟩
theorem validC_of {c : CartD} (h1 : compactB c.vec c.cloud = true) (h2 : validI c.items = true) (h3 : ∀ d ∈ allDots c.items, hasC c d = true) : validC c = true := by
 unfold validC;rw [h1, h2, List.all_eq_true.2 h3]; rfl
theorem marks_ext : ∀ {a b : List MarkD}, SS (dotsM a) → SS (dotsM b) → (∀ m, m ∈ a ↔ m ∈ b) → a = b
 | [], b, _, _, h => (List.eq_nil_iff_forall_not_mem.2 (fun x hx => by have := (h x).2 hx; simp at this)).symm
 | x :: a, [], _, _, h => by have := (h x).1 (by simp); simp at this
 | x :: a, y :: b, ha, hb, h => by
  have a1 := List.pairwise_cons.1 (show (dotsM (x :: a)).Pairwise _ from ha)
  have b1 := List.pairwise_cons.1 (show (dotsM (y :: b)).Pairwise _ from hb)
  have exy : x = y := by
   rcases List.mem_cons.1 ((h x).1 (by simp)) with e | e
   ·exact e
   ·rcases List.mem_cons.1 ((h y).2 (by simp)) with e2 | e2
    ·exact e2.symm
    ·have h1 := b1.1 x.dot (List.mem_map_of_mem e)
     have h2 := a1.1 y.dot (List.mem_map_of_mem e2);rw [dlt_asymm h1] at h2; cases h2
  subst exy
  congr 1
  refine marks_ext a1.2 b1.2 (fun m => ⟨fun hm => ?_, fun hm => ?_⟩)
  ·rcases List.mem_cons.1 ((h m).1 (by simp [hm])) with e | e
   ·have : dlt x.dot m.dot = true := a1.1 m.dot (List.mem_map_of_mem hm)
    rw [e, dlt_irrefl] at this; cases this
   ·exact e
  ·rcases List.mem_cons.1 ((h m).2 (by simp [hm])) with e | e
   ·have : dlt x.dot m.dot = true := b1.1 m.dot (List.mem_map_of_mem hm)
    rw [e, dlt_irrefl] at this; cases this
   ·exact e
theorem oneI_ss {x : ItemD} (h : oneI x = true) : SS (dotsM x.marks) := by
 simp only [oneI, Bool.and_eq_true] at h;exact isSetB_iff.1 h.1.2
theorem marksOf_none {l : List ItemD} {nm : ByteArray} (h : ∀ x ∈ l, x.name ≠ nm) : marksOf l nm = [] := by
 have : l.find? (fun x => decide (x.name = nm)) = none := List.find?_eq_none.2 (fun x hx => by simpa using h x hx)
 unfold marksOf findX;rw [this]; rfl
theorem mem_allDots {l : List ItemD} {d : DotD} : d ∈ allDots l ↔ ∃ x ∈ l, ∃ m ∈ x.marks, m.dot = d := by
 unfold allDots dotsM
 simp
def supS : Option (Option MarkD) → Option (Option MarkD) → Option (Option MarkD)
 | none, y => y
 | x, none => x
 | some none, _ => some none
 | _, some none => some none
 | some (some m), some (some n) => some (some (better m n))
theorem better_eq (m n : MarkD) : better m n = if newerM n m then n else m := by
 unfold better
 by_cases h : 0 < mcmp n m
 ·rw [if_pos h, if_pos ((newerM_iff n m).2 ((mcmp_iff n m).1 h))]
 ·rw [if_neg h, if_neg (fun h2 => h ((mcmp_iff n m).2 ((newerM_iff n m).1 h2)))]
theorem better_comm (m n : MarkD) : better m n = better n m := by
 rw [better_eq, better_eq]
 by_cases h1 : newerM n m = true
 ·rw [if_pos h1]
  have h2 : ¬ newerM m n = true := fun h2 => newP_irrefl _ (newP_trans ((newerM_iff _ _).1 h1) ((newerM_iff _ _).1 h2))
  rw [if_neg h2]
 ·rw [if_neg h1]
  by_cases h2 : newerM m n = true
  ·rw [if_pos h2]
  ·rw [if_neg h2]
   exact newP_total (fun h => h2 ((newerM_iff _ _).2 h)) (fun h => h1 ((newerM_iff _ _).2 h))
theorem better_self (m : MarkD) : better m m = m := by
 rw [better_eq]
 split <;> rfl
theorem supS_comm (x y : Option (Option MarkD)) : supS x y = supS y x := by
 rcases x with _ | _ | m <;> rcases y with _ | _ | n <;> simp [supS, better_comm]
def JoinIs (a b c : CartD) : Prop := validC c = true ∧ ∀ nm d, st c nm d = supS (st a nm d) (st b nm d)
theorem JoinIs.symm {a b c : CartD} (h : JoinIs a b c) : JoinIs b a c := ⟨h.1, fun nm d => by rw [h.2, supS_comm]⟩
end Go.Proofs.YtadbmineobldbaaGreatDoor
namespace Go.Proofs.YtadbmineobldbaaGreatDoor

end Go.Proofs.YtadbmineobldbaaGreatDoor
namespace Go.Proofs.YtadbmineobldbaaGreatDoor

end Go.Proofs.YtadbmineobldbaaGreatDoor
namespace Go.Proofs.YtadbmineobldbaaGreatDoor

def CL (n : Nat) (c : CartD) : Prop := c.vec.length + c.cloud.length ≤ n ∧ c.items.length ≤ n ∧ ∀ x ∈ c.items, x.marks.length ≤ n
theorem CL.mono {n m : Nat} {c : CartD} (h : CL n c) (hn : n ≤ m) : CL m c := ⟨Nat.le_trans h.1 hn, Nat.le_trans h.2.1 hn, fun x hx => Nat.le_trans (h.2.2 x hx) hn⟩
theorem raise1_len : ∀ (v : List DotD) (d : DotD), (raise1 v d).length ≤ v.length + 1
 | [], d => by simp [raise1]
 | x :: v, d => by
  unfold raise1
  split
  ·simp
  ·split
   ·simp
   ·have := raise1_len v d
    simp only [List.length_cons];omega
theorem stepX_len (s : List DotD × List DotD) (d : DotD) : (stepX s d).1.length + (stepX s d).2.length ≤ s.1.length + s.2.length + 1 := by
 unfold stepX
 split
 ·simp; omega
 ·split
  ·have := raise1_len s.1 d
   simp only; omega
  ·omega
theorem foldX_len : ∀ (c : List DotD) (s : List DotD × List DotD), (c.foldl stepX s).1.length + (c.foldl stepX s).2.length ≤ s.1.length + s.2.length + c.length
 | [], s => by simp
 | d :: c, s => by
  have h1 := stepX_len s d;have h2 := foldX_len c (stepX s d);rw [List.foldl_cons, List.length_cons];omega
theorem setD_leL (l : List DotD) : (setD l).length ≤ l.length := by
 unfold setD sortD;exact Nat.le_trans (compactD_len _) (by simp)
def FitsIs (a b : CartD) : Prop := ∀ n1 n2 d m1 m2, markAt a.items n1 d = some m1 → markAt b.items n2 d = some m2 → n1 = n2 ∧ m1 = m2
theorem FitsIs.symm {a b : CartD} (h : FitsIs a b) : FitsIs b a := fun n1 n2 d m1 m2 h1 h2 => by
 obtain ⟨e1, e2⟩ := h n2 n1 d m2 m1 h2 h1;exact ⟨e1.symm, e2.symm⟩
end Go.Proofs.YtadbmineobldbaaGreatDoor
namespace Go.Proofs.YtadbmineobldbaaGreatDoor

def zeroC : CartD := ⟨[], [], []⟩
end Go.Proofs.YtadbmineobldbaaGreatDoor
namespace Go.Proofs.YtadbmineobldbaaGreatDoor

def validCK (c : CartD) : Bool := compactB c.vec c.cloud && validB c.items && (allDots c.items).all (hasC c)
theorem validCK_eq (c : CartD) : validC c = validCK c := by
 unfold validC validCK;rw [validI_eqB]
def j1 : MarkD := ⟨⟨1, 1⟩, 5, 3⟩
def j2 : MarkD := ⟨⟨2, 1⟩, 7, 4⟩
def tea (l : List MarkD) : List ItemD := [⟨⟨#[84, 101, 97]⟩, l⟩]
def jX : CartD := ⟨[⟨1, 1⟩], [], tea [j1]⟩
def jY : CartD := ⟨[⟨2, 1⟩], [], tea [j2]⟩
def jZ : CartD := ⟨[⟨1, 1⟩, ⟨2, 1⟩], [], []⟩
def jT : CartD := ⟨[⟨1, 1⟩], [], tea [⟨⟨1, 1⟩, 6, 3⟩]⟩
def jXY : CartD := ⟨[⟨1, 1⟩, ⟨2, 1⟩], [], tea [j1, j2]⟩
def jB : CartD := ⟨[], [], tea [j1]⟩
def jO : CartD := ⟨[⟨1, 1⟩], [], []⟩
theorem jv : ([jX, jY, jZ, jT, jXY, jO, zeroC].all validCK && !validCK jB) = true := by decide +kernel
end Go.Proofs.YtadbmineobldbaaGreatDoor
namespace Go.Proofs.YtadbmineobldbaaGreatDoor
def qtyI (x : ItemD) : Int := if oneI x then (newestM x.marks).qty else 0
def qtyIE (x : ItemD) : Int := if oneI x then 0 else 2
end Go.Proofs.YtadbmineobldbaaGreatDoor
namespace Go.Proofs.YtadbmineobldbaaGreatDoor

def insM (l : List MarkD) (m : MarkD) : List MarkD := l.takeWhile (fun o => !dlt m.dot o.dot) ++ m :: l.dropWhile (fun o => !dlt m.dot o.dot)
def sortedM (ms : List MarkD) : List MarkD := ms.foldl insM []
def leM (a b : MarkD) : Prop := dlt b.dot a.dot = false
theorem leM_trans {a b c : MarkD} (h : leM a b) (k : leM b c) : leM a c := by
 unfold leM at *
 rw [← Bool.not_eq_true, dlt_iff] at *
 omega
theorem insM_perm (l : List MarkD) (m : MarkD) : (insM l m).Perm (l ++ [m]) := by
 unfold insM;refine List.perm_middle.trans ?_;rw [List.takeWhile_append_dropWhile];exact (List.perm_append_comm (l₁ := [m]) (l₂ := l))
theorem foldl_insM_perm : ∀ (ms l : List MarkD), (ms.foldl insM l).Perm (l ++ ms)
 | [], l => by simp
 | m :: ms, l => by
  refine (foldl_insM_perm ms (insM l m)).trans ?_;refine ((insM_perm l m).append_right ms).trans ?_
  simp
theorem sortedM_perm (ms : List MarkD) : (sortedM ms).Perm ms := foldl_insM_perm ms []
theorem insM_sorted {l : List MarkD} (h : l.Pairwise leM) (m : MarkD) : (insM l m).Pairwise leM := by
 have e : l = l.takeWhile (fun o => !dlt m.dot o.dot) ++ l.dropWhile (fun o => !dlt m.dot o.dot) := (List.takeWhile_append_dropWhile).symm
 have h2 := h;rw [e] at h2;obtain ⟨p1, p2, p3⟩ := List.pairwise_append.1 h2;have ht : ∀ x ∈ l.takeWhile (fun o => !dlt m.dot o.dot), leM x m := fun x hx => by
  have := List.all_eq_true.1 (List.all_takeWhile (l := l) (p := fun o => !dlt m.dot o.dot)) x hx
  unfold leM
  simpa using this
 have hd : ∀ y ∈ l.dropWhile (fun o => !dlt m.dot o.dot), leM m y := fun y hy => by
  generalize hD : l.dropWhile (fun o => !dlt m.dot o.dot) = D at *
  rcases D with _ | ⟨z, D⟩
  ·cases hy
  ·have hz : dlt m.dot z.dot = true := by
    have := List.head?_dropWhile_not (fun o : MarkD => !dlt m.dot o.dot) l
    rw [hD] at this
    simpa using this
   have hmz : leM m z := by unfold leM; exact dlt_asymm hz
   rcases List.mem_cons.1 hy with e | hy
   ·rw [e]; exact hmz
   ·exact leM_trans hmz ((List.pairwise_cons.1 p2).1 y hy)
 unfold insM;refine List.pairwise_append.2 ⟨p1, List.pairwise_cons.2 ⟨hd, p2⟩, fun x hx y hy => ?_⟩
 rcases List.mem_cons.1 hy with e | hy
 ·rw [e]; exact ht x hx
 ·exact p3 x hx y hy
theorem foldl_insM_sorted : ∀ (ms l : List MarkD), l.Pairwise leM → (ms.foldl insM l).Pairwise leM
 | [], _, h => h
 | m :: ms, l, h => foldl_insM_sorted ms (insM l m) (insM_sorted h m)
theorem sortedM_sorted (ms : List MarkD) : (sortedM ms).Pairwise leM := foldl_insM_sorted ms [] List.Pairwise.nil
theorem leM_ss {l : List MarkD} (h : l.Pairwise leM) (hn : (dotsM l).Nodup) : SS (dotsM l) := by
 unfold dotsM SS;rw [List.pairwise_map];have hn2 : l.Pairwise (fun a b => a.dot ≠ b.dot) := by
  unfold dotsM at hn;exact List.pairwise_map.1 hn
 refine h.imp₂ (fun {a b} h1 h2 => ?_) hn2
 rcases hb : dlt a.dot b.dot with _ | _
 ·exact absurd (dlt_total hb h1) h2
 ·rfl
theorem dotsM_perm {l m : List MarkD} (h : l.Perm m) : (dotsM l).Perm (dotsM m) := h.map _
theorem marks_unique {l m : List MarkD} (hp : l.Perm m) (hl : l.Pairwise leM) (hm : m.Pairwise leM) (hn : (dotsM l).Nodup) : l = m :=
 marks_ext (leM_ss hl hn) (leM_ss hm ((dotsM_perm hp).nodup_iff.1 hn)) (fun _ => hp.mem_iff)
theorem sortedM_unique {l ms : List MarkD} (hp : l.Perm ms) (hl : l.Pairwise leM) (hn : (dotsM ms).Nodup) : l = sortedM ms :=
 marks_unique (hp.trans (sortedM_perm ms).symm) hl (sortedM_sorted ms) ((dotsM_perm hp).nodup_iff.2 hn)
theorem sortedM_self {ms : List MarkD} (h : SS (dotsM ms)) : sortedM ms = ms := by
 refine (sortedM_unique (List.Perm.refl _) ?_ h.nodup).symm;unfold dotsM SS at h;rw [List.pairwise_map] at h;exact h.imp (fun h => dlt_asymm h)

def canonItem (x : ItemD) : ItemD := ⟨x.name, sortedM x.marks⟩
def canonI (l : List ItemD) : List ItemD := (l.map canonItem).foldl insI []
def diffI (l : List ItemD) : Bool := decide ((l.map (·.name)).Nodup) && decide ((allDots l).Nodup)
def canonOk (c : CartD) : Bool := validX c.vec c.cloud && diffI c.items && validI (canonI c.items)
def canonOf (c : CartD) : CartD := ⟨(addX (ctxC c) (setD (allDots (canonI c.items)))).1, (addX (ctxC c) (setD (allDots (canonI c.items)))).2, canonI c.items⟩
def canonC (c : CartD) : CartD := if canonOk c then canonOf c else zeroC
def canonE (c : CartD) : Int := if canonOk c then 0 else 2
theorem foldl_insI_perm : ∀ (l out : List ItemD), (l.foldl insI out).Perm (out ++ l)
 | [], out => by simp
 | x :: l, out => by
  refine (foldl_insI_perm l (insI out x)).trans ?_;refine ((insI_perm out x).symm.append_right l).trans ?_
  simp
theorem canonI_perm (l : List ItemD) : (canonI l).Perm (l.map canonItem) := foldl_insI_perm _ []
theorem foldl_insI_rising : ∀ (l out : List ItemD), out.Pairwise (fun a b => ltK a.name b.name) → ((out ++ l).map (·.name)).Nodup → (l.foldl insI out).Pairwise (fun a b => ltK a.name b.name)
 | [], _, h, _ => h
 | x :: l, out, h, hn => by
  refine foldl_insI_rising l (insI out x) (insI_rising h (fun z hz => ?_)) ?_
  ·intro e
   rw [List.map_append, List.nodup_append] at hn;exact hn.2.2 z.name (List.mem_map.2 ⟨z, hz, rfl⟩) x.name (by simp) e
  ·have hp : ((insI out x) ++ l).Perm (out ++ x :: l) := by
    refine ((insI_perm out x).symm.append_right l).trans ?_
    simp
   exact ((hp.map (·.name)).nodup_iff).2 hn
theorem canonI_rising {l : List ItemD} (h : (l.map (·.name)).Nodup) : (canonI l).Pairwise (fun a b => ltK a.name b.name) := by
 refine foldl_insI_rising _ [] List.Pairwise.nil ?_;rw [List.nil_append, List.map_map];exact h
theorem canonI_unique {l m : List ItemD} (hn : (l.map (·.name)).Nodup) (hp : m.Perm (l.map canonItem)) (hs : m.Pairwise (fun a b => ¬ ltK b.name a.name)) : m = canonI l :=
 sorted_unique (hp.trans (canonI_perm l).symm) hs (canonI_rising hn)
theorem allDots_perm {l m : List ItemD} (h : l.Perm m) : (allDots l).Perm (allDots m) := by
 unfold allDots;exact h.flatMap_right _
theorem allDots_canon (l : List ItemD) : (allDots (l.map canonItem)).Perm (allDots l) := by
 unfold allDots
 induction l with
 | nil => simp
 | cons x l ih =>
  simp only [List.map_cons, List.flatMap_cons];refine List.Perm.append ?_ ih;exact (sortedM_perm x.marks).map _
theorem allDots_canonI (l : List ItemD) : (allDots (canonI l)).Perm (allDots l) := (allDots_perm (canonI_perm l)).trans (allDots_canon l)
def goodI (P : List ItemD) : Bool := P.all oneI && decide ((P.map (·.name)).Nodup) && decide (P.Pairwise (fun a b => meetB a b = false))
theorem goodI_iff (P : List ItemD) : goodI P = true ↔ (∀ x ∈ P, oneI x = true) ∧ (P.map (·.name)).Nodup ∧ P.Pairwise (fun a b => meetB a b = false) := by
 unfold goodI;rw [Bool.and_eq_true, Bool.and_eq_true, decide_eq_true_iff, decide_eq_true_iff, List.all_eq_true, and_assoc]
theorem map_name_canon (l : List ItemD) : (l.map canonItem).map (·.name) = l.map (·.name) := by
 rw [List.map_map]; rfl
theorem goodI_canon (l : List ItemD) : goodI (l.map canonItem) = (diffI l && validI (canonI l)) := by
 rw [Bool.eq_iff_iff, goodI_iff, Bool.and_eq_true, validI_iff];unfold diffI;rw [Bool.and_eq_true, decide_eq_true_iff, decide_eq_true_iff, List.all_eq_true, map_name_canon];have hp := canonI_perm l;have hmeet : (l.map canonItem).Pairwise (fun a b => meetB a b = false) ↔ (canonI l).Pairwise (fun a b => meetB a b = false) := hp.symm.pairwise_iff (fun h => meetB_symm h)
 rw [hmeet]
 constructor
 ·rintro ⟨h1, h2, h3⟩
  have h1' : ∀ x ∈ canonI l, oneI x = true := fun x hx => h1 x (hp.mem_iff.1 hx)
  have hd : (allDots (canonI l)).Nodup := (nodup_allDots (fun x hx => oneI_nodup (h1' x hx))).2 h3
  exact ⟨⟨h2, (allDots_canonI l).nodup_iff.1 hd⟩, h1', risB_iff.2 (canonI_rising h2), h3⟩
 ·rintro ⟨⟨h2, _⟩, h1, _, h3⟩
  exact ⟨fun x hx => h1 x (hp.mem_iff.2 hx), h2, h3⟩
theorem canonOk_good (c : CartD) : canonOk c = (validX c.vec c.cloud && goodI (c.items.map canonItem)) := by
 unfold canonOk;rw [goodI_canon, Bool.and_assoc]
theorem canonOk_parts {c : CartD} (h : canonOk c = true) : validX c.vec c.cloud = true ∧ (c.items.map (·.name)).Nodup ∧ (allDots c.items).Nodup ∧ validI (canonI c.items) = true := by
 unfold canonOk diffI at h;simp only [Bool.and_eq_true, decide_eq_true_iff] at h;exact ⟨h.1.1, h.1.2.1, h.1.2.2, h.2⟩
theorem allDots_valid {l : List ItemD} (h : validI l = true) : (allDots l).all validDotD = true := by
 rw [List.all_eq_true];intro d hd;obtain ⟨x, hx, m, hm, rfl⟩ := mem_allDots.1 hd;have h1 := (validI_parts h).1 x hx;unfold oneI at h1;simp only [Bool.and_eq_true] at h1;have h2 := List.all_eq_true.1 h1.2 m hm;unfold validMarkD at h2;simp only [Bool.and_eq_true] at h2;exact h2.1.1
theorem canonOf_valid {c : CartD} (h : canonOk c = true) : validC (canonOf c) = true := by
 obtain ⟨h1, h2, h3, h4⟩ := canonOk_parts h;have hv : (setD (allDots (canonI c.items))).all validDotD = true := setD_all (allDots_valid h4);obtain ⟨s1, s2⟩ := addX_spec (a := ctxC c) (l := setD (allDots (canonI c.items))) h1 hv;refine validC_of s1 h4 (fun d hd => ?_)
 show hasX (addX (ctxC c) _).1 (addX (ctxC c) _).2 d = true
 rw [s2];have hd' : d ∈ setD (allDots (canonI c.items)) := (setD_mem _ _).2 hd
 simp [hd']
theorem compactB_validX {v c : List DotD} (h : compactB v c = true) : validX v c = true := (compactB_parts h).1
theorem addX_has {v c l : List DotD} (h : compactB v c = true) (hl : ∀ d ∈ l, hasX v c d = true) : addX (v, c) l = (v, c) := by
 have hv : l.all validDotD = true := List.all_eq_true.2 (fun d hd => ((hasX_iff v c d).1 (hl d hd)).1)
 obtain ⟨s1, s2⟩ := addX_spec (a := (v, c)) (l := l) (compactB_validX h) hv;obtain ⟨e1, e2⟩ := ctx_ext s1 h (fun d => by
  rw [s2]
  by_cases hd : d ∈ l
  ·simp [hl d hd]
  ·simp [hd])
 exact Prod.ext e1 e2
theorem canonItem_self {x : ItemD} (h : oneI x = true) : canonItem x = x := by
 unfold canonItem;rw [sortedM_self (oneI_ss h)]
theorem map_canon_self {l : List ItemD} (h : ∀ x ∈ l, oneI x = true) : l.map canonItem = l := by
 conv => rhs; rw [← List.map_id l]
 exact List.map_congr_left (fun x hx => canonItem_self (h x hx))
theorem rising_nodup {l : List ItemD} (h : l.Pairwise (fun a b => ltK a.name b.name)) : (l.map (·.name)).Nodup := by
 unfold List.Nodup;rw [List.pairwise_map];exact h.imp (fun {a b} h e => by rw [e] at h; exact ltK_irrefl _ h)
theorem canon_turned {c : CartD} (hc : validC c = true) {l : List ItemD} (h : (l.map canonItem).Perm c.items) : canonOk ⟨c.vec, c.cloud, l⟩ = true ∧ canonOf ⟨c.vec, c.cloud, l⟩ = c := by
 obtain ⟨h1, h2, h3⟩ := validC_parts hc;obtain ⟨v1, v2, v3⟩ := validI_parts h2;have hr := risB_iff.1 v2;have hn : (l.map (·.name)).Nodup := by
  rw [← map_name_canon];exact (h.map (·.name)).nodup_iff.2 (rising_nodup hr)
 have hI : canonI l = c.items := by
  symm
  refine canonI_unique hn h.symm (hr.imp (fun {a b} h k => ltK_irrefl _ (ltK_trans h k)))
 have hd : (allDots l).Nodup := by
  refine (allDots_canonI l).nodup_iff.1 ?_;rw [hI];exact (nodup_allDots (fun x hx => oneI_nodup (v1 x hx))).2 v3
 refine ⟨?_, ?_⟩
 ·unfold canonOk diffI
  simp only [Bool.and_eq_true, decide_eq_true_iff];exact ⟨⟨compactB_validX h1, hn, hd⟩, by rw [hI]; exact h2⟩
 ·unfold canonOf
  simp only;rw [hI];have := addX_has (l := setD (allDots c.items)) h1 (fun d hd => h3 d ((setD_mem _ _).1 hd))
  show CartD.mk (addX (c.vec, c.cloud) _).1 (addX (c.vec, c.cloud) _).2 c.items = c
  rw [this]
end Go.Proofs.YtadbmineobldbaaGreatDoor
