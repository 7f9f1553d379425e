/- Marks and items, without a program in sight. -/
import Derived.Test.YtjlhdgmcaiiagaaGreatDoorSets
import Derived.Lib.IndexMore
import Derived.Shelf.Strings.Trim
namespace Go.Proofs.YtjlhdgmcaiiagaaGreatDoor
open Go.RowKit

def validDotD (d : DotD) : Bool := decide (1 ≤ d.rep) && decide (d.rep ≤ 65535) && decide (1 ≤ d.ctr) && decide (d.ctr ≤ 4294967295)
def validMarkD (m : MarkD) : Bool := validDotD m.dot && (decide (1 ≤ m.qty) && decide (m.qty ≤ 2147483647)) && decide (0 < m.time)
def isSetB : List DotD → Bool
  | [] => true
  | [_] => true
  | a :: b :: l => dlt a b && isSetB (b :: l)
theorem isSetB_iff : ∀ {l : List DotD}, isSetB l = true ↔ SS l
  | [] => by simp [isSetB, SS]
  | [a] => by simp [isSetB, SS]
  | a :: b :: l => by
    unfold isSetB
    rw [Bool.and_eq_true, isSetB_iff (l := b :: l)]
    constructor
    · rintro ⟨h1, h2⟩
      refine List.pairwise_cons.2 ⟨fun x hx => ?_, h2⟩
      rcases List.mem_cons.1 hx with e | e
      · subst e; exact h1
      · exact dlt_trans h1 ((List.pairwise_cons.1 h2).1 x e)
    · intro h
      obtain ⟨h1, h2⟩ := List.pairwise_cons.1 h
      exact ⟨h1 b (.head _), h2⟩
theorem compactD_len : ∀ (l : List DotD), (compactD l).length ≤ l.length
  | [] => Nat.le_refl _
  | [a] => Nat.le_refl _
  | a :: b :: l => by
    have ih := compactD_len (b :: l)
    unfold compactD
    split
    · exact Nat.le_trans ih (by simp)
    · simp only [List.length_cons] at *; omega
theorem compactD_eq : ∀ {l : List DotD}, (compactD l).length = l.length → compactD l = l
  | [], _ => rfl
  | [a], _ => rfl
  | a :: b :: l, h => by
    have ih := @compactD_eq (b :: l)
    have hl := compactD_len (b :: l)
    unfold compactD at h ⊢
    split at h
    · simp only [List.length_cons] at *; omega
    · rename_i hne
      rw [if_neg hne]
      rw [ih (by simp only [List.length_cons] at *; omega)]
theorem compactD_ss_self : ∀ {l : List DotD}, SS l → compactD l = l
  | [], _ => rfl
  | [a], _ => rfl
  | a :: b :: l, h => by
    obtain ⟨h1, h2⟩ := List.pairwise_cons.1 h
    unfold compactD
    rw [if_neg (dlt_ne (h1 b (.head _))), compactD_ss_self h2]
/-- As many dots in the set as in the list: each dot once. -/
theorem setD_len_iff (l : List DotD) : (setD l).length = l.length ↔ l.Nodup := by
  have hp := List.mergeSort_perm l (fun x y => !dlt y x)
  have hpl : (sortD l).length = l.length := hp.length_eq
  constructor
  · intro h
    have h1 : compactD (sortD l) = sortD l := compactD_eq (by rw [hpl]; exact h)
    have h2 : SS (sortD l) := h1 ▸ compactD_ss _ (sortD_sorted l)
    exact hp.nodup_iff.1 h2.nodup
  · intro h
    have h1 : (sortD l).Nodup := hp.nodup_iff.2 h
    have h2 : SS (sortD l) := by
      have hs := sortD_sorted l
      refine (List.pairwise_and_iff.2 ⟨hs, h1⟩).imp (fun {a b} ⟨h3, h4⟩ => ?_)
      cases e : dlt a b with
      | true => rfl
      | false => exact absurd (dlt_total e h3) h4
    unfold setD
    rw [compactD_ss_self h2, hpl]

def dotsM (ms : List MarkD) : List DotD := ms.map (·.dot)
/-- The names of items. -/
def nameB (s : ByteArray) : Bool := decide (1 ≤ s.size) && decide (s.size ≤ 64) && s.data.toList.all (fun b => decide (32 ≤ b.toNat) && decide (b.toNat ≤ 126)) && (decide (Lib.trimB s.data.toList 32 = s.data.toList)) && !(Lib.contains s.data.toList [32, 32])
def oneI (x : ItemD) : Bool := nameB x.name && decide (0 < x.marks.length) && isSetB (dotsM x.marks) && x.marks.all validMarkD
def allDots (l : List ItemD) : List DotD := l.flatMap (fun x => dotsM x.marks)
def ltK (a b : ByteArray) : Prop := a.data.toList < b.data.toList
instance (a b : ByteArray) : Decidable (ltK a b) := by unfold ltK; infer_instance
theorem ltK_irrefl (a : ByteArray) : ¬ ltK a a := List.lt_irrefl _
theorem ltK_trans {a b c : ByteArray} (h : ltK a b) (h2 : ltK b c) : ltK a c := List.lt_trans h h2
/-- The names strictly rise. -/
def risB : List ItemD → Bool
  | [] => true
  | [_] => true
  | a :: b :: l => decide (ltK a.name b.name) && risB (b :: l)
theorem risB_iff : ∀ {l : List ItemD}, risB l = true ↔ l.Pairwise (fun a b => ltK a.name b.name)
  | [] => by simp [risB]
  | [a] => by simp [risB]
  | a :: b :: l => by
    unfold risB
    rw [Bool.and_eq_true, decide_eq_true_iff, risB_iff (l := b :: l)]
    constructor
    · rintro ⟨h1, h2⟩
      refine List.pairwise_cons.2 ⟨fun x hx => ?_, h2⟩
      rcases List.mem_cons.1 hx with e | e
      · subst e; exact h1
      · exact ltK_trans h1 ((List.pairwise_cons.1 h2).1 x e)
    · intro h
      obtain ⟨h1, h2⟩ := List.pairwise_cons.1 h
      exact ⟨h1 b (.head _), h2⟩
def meetB (a b : ItemD) : Bool := (dotsM a.marks).any (fun d => decide (d ∈ dotsM b.marks))
theorem meetB_false {a b : ItemD} : meetB a b = false ↔ ∀ d, d ∈ dotsM a.marks → d ∉ dotsM b.marks := by
  unfold meetB
  rw [List.any_eq_false]
  simp
theorem nodup_allDots : ∀ {l : List ItemD}, (∀ x ∈ l, (dotsM x.marks).Nodup) → ((allDots l).Nodup ↔ l.Pairwise (fun a b => meetB a b = false))
  | [], _ => by simp [allDots]
  | a :: l, h => by
    have ih := @nodup_allDots l (fun x hx => h x (.tail _ hx))
    have e : allDots (a :: l) = dotsM a.marks ++ allDots l := by simp [allDots]
    rw [e, List.nodup_append, ih, List.pairwise_cons]
    constructor
    · rintro ⟨_, h2, h3⟩
      refine ⟨fun b hb => meetB_false.2 (fun d hd hdb => ?_), h2⟩
      exact h3 d hd d (List.mem_flatMap.2 ⟨b, hb, hdb⟩) rfl
    · rintro ⟨h1, h2⟩
      refine ⟨h a (.head _), h2, fun d hd d' hd' e => ?_⟩
      subst e
      obtain ⟨b, hb, hdb⟩ := List.mem_flatMap.1 hd'
      exact meetB_false.1 (h1 b hb) d hd hdb
/-- The items are valid. -/
def validI (l : List ItemD) : Bool := l.all oneI && risB l && decide ((setD (allDots l)).length = (allDots l).length)
theorem oneI_nodup {x : ItemD} (h : oneI x = true) : (dotsM x.marks).Nodup := by
  unfold oneI at h
  simp only [Bool.and_eq_true] at h
  exact (isSetB_iff.1 h.1.2).nodup
/-- .. as the reference says it. -/
theorem validI_iff (l : List ItemD) : validI l = true ↔ l.all oneI = true ∧ risB l = true ∧ l.Pairwise (fun a b => meetB a b = false) := by
  unfold validI
  rw [Bool.and_eq_true, Bool.and_eq_true, decide_eq_true_iff, setD_len_iff]
  constructor
  · rintro ⟨⟨h1, h2⟩, h3⟩
    exact ⟨h1, h2, (nodup_allDots (fun x hx => oneI_nodup (List.all_eq_true.1 h1 x hx))).1 h3⟩
  · rintro ⟨h1, h2, h3⟩
    exact ⟨⟨h1, h2⟩, (nodup_allDots (fun x hx => oneI_nodup (List.all_eq_true.1 h1 x hx))).2 h3⟩
end Go.Proofs.YtjlhdgmcaiiagaaGreatDoor
