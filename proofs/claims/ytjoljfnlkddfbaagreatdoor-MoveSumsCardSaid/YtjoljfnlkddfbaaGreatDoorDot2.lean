/- Dots: Compare, IsSet, Valid; marks: ValidMark, Dots, IsList. -/
import Derived.Test.YtjoljfnlkddfbaaGreatDoorItemsP
import Derived.Sort.Grow
import Derived.Deep.RegionHeld3
set_option linter.unusedSimpArgs false
set_option linter.unusedVariables false
set_option maxRecDepth 100000
set_option maxHeartbeats 4000000
namespace Go.Proofs.YtjoljfnlkddfbaaGreatDoor
open Go.RowKit

def cmpI (x y : Int) : Int := if x < y then -1 else if y < x then 1 else 0
def orI : List Int → Int
 | [] => 0
 | x :: l => if x = 0 then orI l else x
def dcmp (a b : DotD) : Int := orI [cmpI a.ctr b.ctr, cmpI a.rep b.rep]
theorem cmpI_lt (x y : Int) : cmpI x y < 0 ↔ x < y := by
 unfold cmpI; split
 ·simp_all
 ·split <;> simp_all
theorem cmpI_zero (x y : Int) : cmpI x y = 0 ↔ x = y := by
 unfold cmpI; split
 ·simp; omega
 ·split
  ·simp; omega
  ·simp; omega
theorem dcmp_lt (a b : DotD) : decide (dcmp a b < 0) = dlt a b := by
 have h : dcmp a b < 0 ↔ dlt a b = true := by
  rw [dlt_iff]
  unfold dcmp
  simp only [orI]
  split
  ·rename_i h
   rw [cmpI_zero] at h
   split
   ·rename_i h2
    rw [cmpI_zero] at h2
    omega
   ·rw [cmpI_lt]; omega
  ·rename_i h
   rw [cmpI_zero] at h
   rw [cmpI_lt]; omega
 cases e : dlt a b with
 | true => exact decide_eq_true (h.2 e)
 | false => exact decide_eq_false (fun h' => by rw [h.1 h'] at e; cases e)

theorem isNaNInt_any (x : Int) (w : World) : Calls Tryz.prog 192 #[.int .i64 x] w fun e w' => e = .returned (.bool false) ∧ w' = w := by
 go_enter Tryz.func192, Tryz.ntmps192
 go_wp2
 go_ret
 exact ⟨rfl, rfl⟩
theorem cmpInt_any (x y : Int) (w : World) : Calls Tryz.prog 152 #[.int .i64 x, .int .i64 y] w fun e w' => e = .returned (.int .i64 (cmpI x y)) ∧ w' = w := by
 have HN := Hd (fun z wz => isNaNInt_any z wz)
 by_cases h1 : x < y
 ·have hc : Hid (cmpI x y = -1) := Hd (by unfold cmpI; rw [if_pos h1])
  have t1 : decide (x < y) = true := decide_eq_true h1
  go_enter Tryz.func152, Tryz.ntmps152
  go_wp2_with fail
  refine (HN.out _ _).mono ?_
  rintro e w1 ⟨rfl, rfl⟩
  go_wp2_with fail
  refine (HN.out _ _).mono ?_
  rintro e w2 ⟨rfl, rfl⟩
  go_wp2_with fail
  go_ret
  exact ⟨by rw [hc.out]; rfl, rfl⟩
 ·have t1 : decide (x < y) = false := decide_eq_false h1
  by_cases h2 : y < x
  ·have hc : Hid (cmpI x y = 1) := Hd (by unfold cmpI; rw [if_neg h1, if_pos h2])
   have t2 : decide (y < x) = true := decide_eq_true h2
   go_enter Tryz.func152, Tryz.ntmps152
   go_wp2_with fail
   refine (HN.out _ _).mono ?_
   rintro e w1 ⟨rfl, rfl⟩
   go_wp2_with fail
   refine (HN.out _ _).mono ?_
   rintro e w2 ⟨rfl, rfl⟩
   go_wp2_with fail
   go_ret
   exact ⟨by rw [hc.out]; rfl, rfl⟩
  ·have hc : Hid (cmpI x y = 0) := Hd (by unfold cmpI; rw [if_neg h1, if_neg h2])
   have t2 : decide (y < x) = false := decide_eq_false h2
   go_enter Tryz.func152, Tryz.ntmps152
   go_wp2_with fail
   refine (HN.out _ _).mono ?_
   rintro e w1 ⟨rfl, rfl⟩
   go_wp2_with fail
   refine (HN.out _ _).mono ?_
   rintro e w2 ⟨rfl, rfl⟩
   go_wp2_with fail
   go_ret
   exact ⟨by rw [hc.out]; rfl, rfl⟩

theorem cmpOr_any (xs : List Int) (g c : Nat) (w : World) (hl : xs.length ≤ 100) (hc : ∀ i (h : i < xs.length), w.cell? ⟨g, i, none⟩ = some (.int .i64 xs[i])) : Calls Tryz.prog 151 #[.slice (some ⟨g, 0, none⟩) xs.length c] w fun e w' => e = .returned (.int .i64 (orI xs)) ∧ w' = w := by
 have HC := Hd hc
 clear hc
 go_enter Tryz.func151, Tryz.ntmps151
 go_wp2_with fail
 go_loopw [8] (fun i wr => ∃ k : Nat, k ≤ xs.length ∧ i = .int .i64 k ∧ wr = w ∧ orI xs = orI (xs.drop k)) (fun i _ => xs.length - (intOf i).toNat)
 case atStart => exact ⟨0, Nat.zero_le _, rfl, rfl, by rw [List.drop_zero]⟩
 case round =>
  obtain ⟨k, hk, rfl, rfl, heq⟩ := hrel
  have HEQ := Hd heq
  clear heq
  by_cases hlt : k < xs.length
  ·have e0 := HC.out k hlt
   have HD : Hid (orI (xs.drop k) = if xs[k] = 0 then orI (xs.drop (k + 1)) else xs[k]) := Hd (by rw [List.drop_eq_getElem_cons hlt]; rfl)
   have a1 : (k : Int) < xs.length := by omega
   have a2 : (0 : Int) ≤ k := by omega
   have hkw := wr1 k (by omega)
   obtain ⟨x, hx⟩ : ∃ x, x = xs[k] := ⟨_, rfl⟩
   rw [← hx] at e0 HD
   clear hx
   by_cases h0 : x = 0
   ·have HF := Hd (HEQ.out.trans (HD.out.trans (if_pos h0)))
    subst h0
    clear HD HEQ
    go_wp2_with fail
    go_roundw
    case rel => exact ⟨k + 1, by omega, by go_num, trivial, HF.out⟩
    case measure => simp [intOf]; omega
   ·have HF := Hd (HEQ.out.trans (HD.out.trans (if_neg h0)))
    have h0b : (x == 0) = false := by simpa using h0
    clear HD HEQ
    go_wp2_with fail
    go_ret
    exact ⟨by rw [HF.out]; rfl, rfl⟩
  ·have hke : k = xs.length := by omega
   have HF : Hid (orI xs = 0) := Hd (by rw [HEQ.out, hke, List.drop_length]; rfl)
   clear HEQ
   go_wp2_with fail
   go_ret
   exact ⟨by rw [HF.out]; rfl, rfl⟩
end Go.Proofs.YtjoljfnlkddfbaaGreatDoor
namespace Go.Proofs.YtjoljfnlkddfbaaGreatDoor
open Go.RowKit

theorem filter_take {α : Type} (p : α → Bool) (l : List α) (k : Nat) (h : k < l.length) : (l.take (k + 1)).filter p = (l.take k).filter p ++ (if p l[k] then [l[k]] else []) := by
 rw [List.take_succ_eq_append_getElem h, List.filter_append]
 simp [List.filter_cons]
theorem filter_all {α : Type} (p : α → Bool) (l : List α) (h : l.any p = false) : l.filter (fun x => !p x) = l := by
 rw [List.filter_eq_self]
 intro a ha
 rw [List.any_eq_false] at h
 simpa using h a ha
theorem find_at {α : Type} (p : α → Bool) (l : List α) (k : Nat) (h : k < l.length) (h1 : (l.take k).any p = false) (h2 : p l[k] = true) : l.find? p = some l[k] := by
 have e : l = l.take k ++ l[k] :: l.drop (k + 1) := by rw [List.getElem_cons_drop, List.take_append_drop]
 refine (congrArg (List.find? p) e).trans ?_
 rw [List.find?_append, List.find?_cons]
 have h3 : (l.take k).find? p = none := by
  rw [List.find?_eq_none]
  intro x hx
  rw [List.any_eq_false] at h1
  exact h1 x hx
 simp [h3, h2]
theorem find_none {α : Type} (p : α → Bool) (l : List α) (h1 : l.any p = false) : l.find? p = none := by
 rw [List.find?_eq_none]
 intro x hx
 rw [List.any_eq_false] at h1
 exact h1 x hx
theorem item_eq {x y : ItemD} : (x = y) ↔ x.name = y.name ∧ x.marks = y.marks := by
 obtain ⟨a, b⟩ := x
 obtain ⟨c, d⟩ := y
 simp
theorem ltK_total {a b : ByteArray} (h : ¬ ltK a b) (h2 : ¬ ltK b a) : a = b := by
 have e : a.data.toList = b.data.toList := List.le_antisymm h2 h
 obtain ⟨⟨x⟩⟩ := a
 obtain ⟨⟨y⟩⟩ := b
 simp at e
 subst e
 rfl
/-- Items in order, each name once: only one list of them is. -/
theorem sorted_unique {l m : List ItemD} (hp : l.Perm m) (hl : l.Pairwise (fun a b => ¬ ltK b.name a.name)) (hm : m.Pairwise (fun a b => ltK a.name b.name)) : l = m := by
 refine List.Perm.eq_of_pairwise (le := fun a b : ItemD => ¬ ltK b.name a.name) ?_ hl (hm.imp (fun {a b} h h2 => ltK_irrefl _ (ltK_trans h h2))) hp
 intro a b ha hb h1 h2
 have hn := ltK_total h2 h1
 have ha' := hp.mem_iff.1 ha
 obtain ⟨i, hi, rfl⟩ := List.getElem_of_mem ha'
 obtain ⟨j, hj, rfl⟩ := List.getElem_of_mem hb
 have hpw := List.pairwise_iff_getElem.1 hm
 rcases Nat.lt_trichotomy i j with h | h | h
 ·have := hpw i j hi hj h
  rw [hn] at this
  exact absurd this (ltK_irrefl _)
 ·subst h; rfl
 ·have := hpw j i hj hi h
  rw [hn] at this
  exact absurd this (ltK_irrefl _)
def dropN (l : List ItemD) (nm : ByteArray) : List ItemD := l.filter (fun y => !decide (y.name = nm))
def insI (l : List ItemD) (x : ItemD) : List ItemD := l.takeWhile (fun y => decide (ltK y.name x.name)) ++ x :: l.dropWhile (fun y => decide (ltK y.name x.name))
/-- Items with one in the place of the one with its name, or one more. -/
def putI (l : List ItemD) (x : ItemD) : List ItemD := insI (dropN l x.name) x
theorem insI_perm (l : List ItemD) (x : ItemD) : (l ++ [x]).Perm (insI l x) := by
 unfold insI
 have h := List.takeWhile_append_dropWhile (p := fun y : ItemD => decide (ltK y.name x.name)) (l := l)
 have h2 : (l ++ [x]).Perm ((l.takeWhile (fun y => decide (ltK y.name x.name)) ++ l.dropWhile (fun y => decide (ltK y.name x.name))) ++ [x]) := by rw [h]
 refine h2.trans ?_
 rw [List.append_assoc]
 exact (List.perm_append_comm (l₁ := l.dropWhile (fun y => decide (ltK y.name x.name))) (l₂ := [x])).append_left _
theorem mem_takeWhile_ltK {l : List ItemD} {x y : ItemD} (h : y ∈ l.takeWhile (fun y => decide (ltK y.name x.name))) : ltK y.name x.name := by
 induction l with
 | nil => simp at h
 | cons a s ih =>
  rw [List.takeWhile_cons] at h
  split at h
  ·rcases List.mem_cons.1 h with e | e
   ·subst e; rename_i h2; exact of_decide_eq_true h2
   ·exact ih e
  ·simp at h
theorem mem_dropWhile_ltK : ∀ {l : List ItemD} {x y : ItemD}, l.Pairwise (fun a b => ltK a.name b.name) → (∀ z ∈ l, z.name ≠ x.name) → y ∈ l.dropWhile (fun y => decide (ltK y.name x.name)) → ltK x.name y.name
 | [], _, _, _, _, h => by simp at h
 | a :: l, x, y, hs, hd, h => by
  obtain ⟨ha, hs'⟩ := List.pairwise_cons.1 hs
  rw [List.dropWhile_cons] at h
  split at h
  ·exact mem_dropWhile_ltK hs' (fun z hz => hd z (.tail _ hz)) h
  ·rename_i hn
   have hxa : ltK x.name a.name := by
    by_cases e : ltK x.name a.name
    ·exact e
    ·exact absurd (ltK_total (fun h3 => hn (decide_eq_true h3)) e) (hd a (.head _))
   rcases List.mem_cons.1 h with e | e
   ·subst e; exact hxa
   ·exact ltK_trans hxa (ha y e)
theorem insI_rising {l : List ItemD} {x : ItemD} (h : l.Pairwise (fun a b => ltK a.name b.name)) (hx : ∀ z ∈ l, z.name ≠ x.name) : (insI l x).Pairwise (fun a b => ltK a.name b.name) := by
 unfold insI
 refine List.pairwise_append.2 ⟨h.sublist (List.takeWhile_sublist _), List.pairwise_cons.2 ⟨fun y hy => mem_dropWhile_ltK h hx hy, h.sublist (List.dropWhile_sublist _)⟩, fun a ha b hb => ?_⟩
 have h1 := mem_takeWhile_ltK ha
 rcases List.mem_cons.1 hb with e | e
 ·subst e; exact h1
 ·exact ltK_trans h1 (mem_dropWhile_ltK h hx e)
theorem dropN_rising {l : List ItemD} (h : risB l = true) (nm : ByteArray) : (dropN l nm).Pairwise (fun a b => ltK a.name b.name) := (risB_iff.1 h).sublist List.filter_sublist
theorem dropN_ne (l : List ItemD) (nm : ByteArray) : ∀ z ∈ dropN l nm, z.name ≠ nm := by
 intro z hz
 have := (List.mem_filter.1 hz).2
 simpa using this
theorem putI_rising {l : List ItemD} (h : risB l = true) (x : ItemD) : (putI l x).Pairwise (fun a b => ltK a.name b.name) := insI_rising (dropN_rising h _) (dropN_ne _ _)
def findX (l : List ItemD) (nm : ByteArray) : ItemD := (l.find? (fun x => decide (x.name = nm))).getD ⟨⟨#[]⟩, []⟩
/-- The order of marks. -/
def mcmp (a b : MarkD) : Int := if a = b then 0 else orI [cmpI a.time b.time, cmpI a.dot.rep b.dot.rep, cmpI a.dot.ctr b.dot.ctr, cmpI a.qty b.qty]
def better (o x : MarkD) : MarkD := if 0 < mcmp x o then x else o
/-- The greatest one of m and l. -/
def greatM (m : MarkD) (l : List MarkD) : MarkD := l.foldl better m
theorem greatM_take (m : MarkD) (l : List MarkD) (k : Nat) (h : k < l.length) : greatM m (l.take (k + 1)) = better (greatM m (l.take k)) l[k] := by
 unfold greatM
 rw [List.take_succ_eq_append_getElem h, List.foldl_append]; rfl
/-- The newest mark of a list that has one. -/
def newestM : List MarkD → MarkD
 | [] => ⟨⟨0, 0⟩, 0, 0⟩
 | a :: l => greatM a (a :: l)
def newestE (l : List MarkD) : Int := if l.all validMarkD then (if l = [] then 9 else 0) else 2
def newestV (l : List MarkD) : MarkD := if l.all validMarkD then newestM l else ⟨⟨0, 0⟩, 0, 0⟩
/-- Whether a mark is newer, as the reference says it. -/
def newerM (a b : MarkD) : Bool := if a.time ≠ b.time then decide (b.time < a.time) else if a.dot.rep ≠ b.dot.rep then decide (b.dot.rep < a.dot.rep) else if a.dot.ctr ≠ b.dot.ctr then decide (b.dot.ctr < a.dot.ctr) else decide (b.qty < a.qty)
theorem pos_or (x y : Int) (l : List Int) : 0 < orI (cmpI x y :: l) ↔ y < x ∨ (x = y ∧ 0 < orI l) := by
 show 0 < (if cmpI x y = 0 then orI l else cmpI x y) ↔ _
 by_cases h : x = y
 ·subst h
  rw [if_pos ((cmpI_zero x x).2 rfl)]
  constructor
  ·exact fun h => Or.inr ⟨rfl, h⟩
  ·rintro (h | h)
   ·omega
   ·exact h.2
 ·rw [if_neg (fun h2 => h ((cmpI_zero x y).1 h2))]
  unfold cmpI
  by_cases h1 : x < y
  ·rw [if_pos h1]
   constructor
   ·intro h2; omega
   ·rintro (h2 | h2) <;> omega
  ·rw [if_neg h1, if_pos (by omega)]
   constructor
   ·intro _; exact Or.inl (by omega)
   ·intro _; omega
/-- The order of marks. -/
def NewP (a b : MarkD) : Prop := b.time < a.time ∨ (a.time = b.time ∧ (b.dot.rep < a.dot.rep ∨ (a.dot.rep = b.dot.rep ∧ (b.dot.ctr < a.dot.ctr ∨ (a.dot.ctr = b.dot.ctr ∧ b.qty < a.qty)))))
theorem newerM_iff (a b : MarkD) : newerM a b = true ↔ NewP a b := by
 unfold newerM NewP
 by_cases h1 : a.time ≠ b.time
 ·rw [if_pos h1, decide_eq_true_iff]; omega
 ·rw [if_neg h1]
  by_cases h2 : a.dot.rep ≠ b.dot.rep
  ·rw [if_pos h2, decide_eq_true_iff]; omega
  ·rw [if_neg h2]
   by_cases h3 : a.dot.ctr ≠ b.dot.ctr
   ·rw [if_pos h3, decide_eq_true_iff]; omega
   ·rw [if_neg h3, decide_eq_true_iff]; omega
theorem mcmp_iff (a b : MarkD) : 0 < mcmp a b ↔ NewP a b := by
 unfold mcmp
 by_cases e : a = b
 ·subst e
  rw [if_pos rfl]
  unfold NewP
  omega
 ·rw [if_neg e, pos_or, pos_or, pos_or, pos_or]
  have : ¬ (0 : Int) < orI [] := by unfold orI; omega
  unfold NewP
  simp only [this, and_false, or_false]
theorem newP_total {a b : MarkD} (h : ¬ NewP a b) (k : ¬ NewP b a) : a = b := by
 unfold NewP at h k
 have e1 : a.time = b.time := by omega
 have e2 : a.dot.rep = b.dot.rep := by omega
 have e3 : a.dot.ctr = b.dot.ctr := by omega
 have e4 : a.qty = b.qty := by omega
 rcases a with ⟨⟨r, c⟩, q, t⟩
 rcases b with ⟨⟨r2, c2⟩, q2, t2⟩
 simp only at e1 e2 e3 e4
 rw [e1, e2, e3, e4]
theorem newP_trans {a b c : MarkD} (h : NewP a b) (k : NewP b c) : NewP a c := by
 unfold NewP at *
 omega
theorem newP_irrefl (a : MarkD) : ¬ NewP a a := by
 unfold NewP
 omega
theorem greatM_spec : ∀ (l : List MarkD) (m : MarkD), (greatM m l ∈ m :: l) ∧ ∀ x ∈ m :: l, ¬ NewP x (greatM m l)
 | [], m => by
  refine ⟨by simp [greatM], fun x hx => ?_⟩
  rw [List.mem_singleton.1 hx]
  exact newP_irrefl _
 | y :: l, m => by
  have e : greatM m (y :: l) = greatM (better m y) l := rfl
  obtain ⟨i1, i2⟩ := greatM_spec l (better m y)
  rw [← e] at i1 i2
  have hb := mcmp_iff y m
  have hbe : better m y = if 0 < mcmp y m then y else m := rfl
  by_cases h : 0 < mcmp y m
  ·rw [if_pos h] at hbe
   rw [hbe] at i1 i2
   refine ⟨List.mem_cons_of_mem _ i1, fun x hx => ?_⟩
   rcases List.mem_cons.1 hx with rfl | hx
   ·intro h3
    exact i2 y (by simp) (newP_trans (hb.1 h) h3)
   ·exact i2 x hx
  ·rw [if_neg h] at hbe
   rw [hbe] at i1 i2
   refine ⟨?_, fun x hx => ?_⟩
   ·rcases List.mem_cons.1 i1 with h4 | h4
    ·rw [h4]; simp
    ·exact List.mem_cons_of_mem _ (List.mem_cons_of_mem _ h4)
   ·rcases List.mem_cons.1 hx with rfl | hx
    ·exact i2 x (by simp)
    ·rcases List.mem_cons.1 hx with rfl | hx
     ·intro h3
      have h5 : ¬ NewP x m := fun h6 => h (hb.2 h6)
      have h7 := i2 m (by simp)
      by_cases h8 : NewP m x
      ·exact h7 (newP_trans h8 h3)
      ·have e9 := newP_total h5 h8
       subst e9
       exact h7 h3
     ·exact i2 x (List.mem_cons_of_mem _ hx)
theorem validI_parts {l : List ItemD} (h : validI l = true) : (∀ x ∈ l, oneI x = true) ∧ risB l = true ∧ l.Pairwise (fun a b => meetB a b = false) := by
 obtain ⟨h1, h2, h3⟩ := (validI_iff l).1 h
 exact ⟨fun x hx => List.all_eq_true.1 h1 x hx, h2, h3⟩
theorem validI_of {l : List ItemD} (h1 : ∀ x ∈ l, oneI x = true) (h2 : risB l = true) (h3 : l.Pairwise (fun a b => meetB a b = false)) : validI l = true :=
 (validI_iff l).2 ⟨List.all_eq_true.2 h1, h2, h3⟩
theorem validI_drop {l : List ItemD} (h : validI l = true) (nm : ByteArray) : validI (dropN l nm) = true := by
 obtain ⟨h1, h2, h3⟩ := validI_parts h
 exact validI_of (fun x hx => h1 x (List.mem_filter.1 hx).1) (risB_iff.2 (dropN_rising h2 nm)) (h3.sublist List.filter_sublist)
theorem mem_putI {l : List ItemD} {x y : ItemD} : y ∈ putI l x ↔ y ∈ dropN l x.name ∨ y = x := by
 unfold putI
 rw [← (insI_perm (dropN l x.name) x).mem_iff]
 simp
theorem mem_dropN {l : List ItemD} {nm : ByteArray} {y : ItemD} : y ∈ dropN l nm ↔ y ∈ l ∧ y.name ≠ nm := by
 unfold dropN
 rw [List.mem_filter]
 simp
/-- Rising lists with the same items are the same. -/
theorem rising_ext {l m : List ItemD} (hl : l.Pairwise (fun a b => ltK a.name b.name)) (hm : m.Pairwise (fun a b => ltK a.name b.name)) (h : ∀ x, x ∈ l ↔ x ∈ m) : l = m := by
 have nd : ∀ {l : List ItemD}, l.Pairwise (fun a b => ltK a.name b.name) → l.Nodup := fun h => h.imp (fun {a b} h e => by rw [e] at h; exact ltK_irrefl _ h)
 refine sorted_unique ?_ (hl.imp (fun {a b} h h2 => ltK_irrefl _ (ltK_trans h h2))) hm
 exact (List.perm_ext_iff_of_nodup (nd hl) (nd hm)).2 h
theorem rising_name {l : List ItemD} (h : l.Pairwise (fun a b => ltK a.name b.name)) {x y : ItemD} (hx : x ∈ l) (hy : y ∈ l) (hn : x.name = y.name) : x = y := by
 obtain ⟨i, hi, rfl⟩ := List.getElem_of_mem hx
 obtain ⟨j, hj, rfl⟩ := List.getElem_of_mem hy
 have hpw := List.pairwise_iff_getElem.1 h
 rcases Nat.lt_trichotomy i j with e | e | e
 ·have := hpw i j hi hj e; rw [hn] at this; exact absurd this (ltK_irrefl _)
 ·subst e; rfl
 ·have := hpw j i hj hi e; rw [hn] at this; exact absurd this (ltK_irrefl _)
def fX (l : List ItemD) (nm : ByteArray) : Option ItemD := l.find? (fun x => decide (x.name = nm))
theorem find_rising {l : List ItemD} (h : l.Pairwise (fun a b => ltK a.name b.name)) {x : ItemD} (hx : x ∈ l) : fX l x.name = some x := by
 unfold fX
 cases e : l.find? (fun y => decide (y.name = x.name)) with
 | none =>
  rw [List.find?_eq_none] at e
  exact absurd (decide_eq_true rfl) (e x hx)
 | some y =>
  have h1 := List.find?_some e
  have h2 := List.mem_of_find?_eq_some e
  rw [rising_name h h2 hx (by simpa using h1)]
theorem meetB_symm {a b : ItemD} (h : meetB a b = false) : meetB b a = false := by
 rw [meetB_false] at *
 exact fun d h1 h2 => h d h2 h1
theorem pairwise_mem {l : List ItemD} (h : l.Pairwise (fun a b => meetB a b = false)) {x y : ItemD} (hx : x ∈ l) (hy : y ∈ l) (hn : x ≠ y) : meetB x y = false := by
 obtain ⟨i, hi, rfl⟩ := List.getElem_of_mem hx
 obtain ⟨j, hj, rfl⟩ := List.getElem_of_mem hy
 have hpw := List.pairwise_iff_getElem.1 h
 rcases Nat.lt_trichotomy i j with e | e | e
 ·exact hpw i j hi hj e
 ·subst e; exact absurd rfl hn
 ·exact meetB_symm (hpw j i hj hi e)
theorem setD_eq {l m : List DotD} (hm : isSetB m = true) (h1 : l.all (fun x => decide (x ∈ m)) = true) (h2 : m.all (fun x => decide (x ∈ l)) = true) : setD l = m := by
 refine ss_ext (setD_ss l) (isSetB_iff.1 hm) (fun x => ?_)
 rw [setD_mem]
 exact ⟨fun h => of_decide_eq_true (List.all_eq_true.1 h1 x h), fun h => of_decide_eq_true (List.all_eq_true.1 h2 x h)⟩
/-- .. in a form that can be reckoned. -/
def validB (l : List ItemD) : Bool := l.all oneI && risB l && decide (l.Pairwise (fun a b => meetB a b = false))
theorem validI_eqB (l : List ItemD) : validI l = validB l := by
 rw [Bool.eq_iff_iff, validI_iff]
 unfold validB
 simp only [Bool.and_eq_true, decide_eq_true_eq, and_assoc]
theorem insI_pairwise {l : List ItemD} {x : ItemD} (h : l.Pairwise (fun a b => meetB a b = false)) (hx : ∀ y ∈ l, meetB y x = false) : (insI l x).Pairwise (fun a b => meetB a b = false) := by
 have h2 : (l ++ [x]).Pairwise (fun a b => meetB a b = false) := List.pairwise_append.2 ⟨h, List.pairwise_singleton _ _, fun a ha b hb => by rw [List.mem_singleton.1 hb]; exact hx a ha⟩
 exact h2.perm (insI_perm l x) (fun {a b} h => meetB_symm h)
theorem oneI_name {x : ItemD} (h : oneI x = true) : x.name.size ≤ 64 := by
 simp only [oneI, nameB, Bool.and_eq_true, decide_eq_true_eq] at h
 omega
end Go.Proofs.YtjoljfnlkddfbaaGreatDoor
namespace Go.Proofs.YtjoljfnlkddfbaaGreatDoor
open Go.RowKit Go.Maps

/-- A world that has grown: blocks behind, draws. -/
def Grown (w w' : World) : Prop := ∃ q os, w' = Go.Sort.grow (w.drewN q) os
theorem Grown.below {w w' : World} (h : Grown w w') : Below w.heap.size w w' := by
 obtain ⟨q, os, rfl⟩ := h
 exact ⟨rfl, rfl, rfl, by simp [Go.Sort.grow], fun k hk => by
  show (w.heap ++ os)[k]? = w.heap[k]?
  rw [Array.getElem?_append_left hk]⟩
theorem Grown.of_alloc {w W1 : World} {os : Array Obj} (hW : W1 = Go.Sort.grow w os) (o : Obj) : Grown w (W1.alloc o).drew :=
 ⟨1, os ++ #[o], by rw [hW, Go.Sort.alloc_eq_grow, Go.Sort.grow_grow]; rfl⟩
def encD (d : DotD) : List Value := [.int .i64 d.rep, .int .i64 d.ctr]
def dotV (d : DotD) : Value := .agg #[.int .i64 d.rep, .int .i64 d.ctr]

theorem dotCompare_any (a b : DotD) (w : World) : Calls Tryz.prog 100 #[dotV a, dotV b] w fun e w' => e = .returned (.int .i64 (dcmp a b)) ∧ Grown w w' := by
 have HC := Hd (fun x y wz => cmpInt_any x y wz)
 have HO := Hd (fun x y g wz (h0 : World.cell? wz ⟨g, 0, none⟩ = some (.int .i64 x)) (h1 : World.cell? wz ⟨g, 1, none⟩ = some (.int .i64 y)) => cmpOr_any [x, y] g 2 wz (by simp) (fun i hi => by
  match i, hi with
  | 0, _ => exact h0
  | 1, _ => exact h1))
 have HD : Hid (dcmp a b = orI [cmpI a.ctr b.ctr, cmpI a.rep b.rep]) := Hd rfl
 unfold dotV
 go_enter Tryz.func100, Tryz.ntmps100
 go_upto_region 1 with fail
 obtain ⟨W1, hW1⟩ : ∃ W1, W1 = ((w.alloc (.cells #[.int .i64 a.rep, .int .i64 a.ctr] 39)).alloc (.cells #[.int .i64 b.rep, .int .i64 b.ctr] 39)) := ⟨_, rfl⟩
 have hg0 : W1.heap[w.heap.size]? = some (.cells #[.int .i64 a.rep, .int .i64 a.ctr] 39) := by rw [hW1, alloc_old _ _ (by simp)]; exact alloc_new _ _
 have hg1 : W1.heap[w.heap.size + 1]? = some (.cells #[.int .i64 b.rep, .int .i64 b.ctr] 39) := by
  rw [hW1]
  have := alloc_new (w.alloc (.cells #[.int .i64 a.rep, .int .i64 a.ctr] 39)) (.cells #[.int .i64 b.rep, .int .i64 b.ctr] 39)
  simpa only [alloc_size] using this
 have hgr : W1 = Go.Sort.grow w #[.cells #[.int .i64 a.rep, .int .i64 a.ctr] 39, .cells #[.int .i64 b.rep, .int .i64 b.ctr] 39] := by rw [hW1, Go.Sort.alloc_eq_grow, Go.Sort.alloc_eq_grow, Go.Sort.grow_grow]; rfl
 rw [← hW1]
 clear hW1
 have HGR := Hd hgr
 have c0 : W1.cell? ⟨w.heap.size, 0, none⟩ = some (.int .i64 a.rep) := cl0 hg0 0 rfl
 have c1 : W1.cell? ⟨w.heap.size, 1, none⟩ = some (.int .i64 a.ctr) := cl0 hg0 1 rfl
 have c2 : W1.cell? ⟨w.heap.size + 1, 0, none⟩ = some (.int .i64 b.rep) := cl0 hg1 0 rfl
 have c3 : W1.cell? ⟨w.heap.size + 1, 1, none⟩ = some (.int .i64 b.ctr) := cl0 hg1 1 rfl
 clear hg0 hg1 hgr
 obtain ⟨x, hx⟩ : ∃ x, x = cmpI a.ctr b.ctr := ⟨_, rfl⟩
 obtain ⟨y, hy⟩ : ∃ y, y = cmpI a.rep b.rep := ⟨_, rfl⟩
 rw [← hx, ← hy] at HD
 have HC1 : Hid (∀ wz, Calls Tryz.prog 152 #[.int .i64 a.ctr, .int .i64 b.ctr] wz fun e w' => e = .returned (.int .i64 x) ∧ w' = wz) := Hd (fun wz => by rw [hx]; exact HC.out _ _ wz)
 have HC2 : Hid (∀ wz, Calls Tryz.prog 152 #[.int .i64 a.rep, .int .i64 b.rep] wz fun e w' => e = .returned (.int .i64 y) ∧ w' = wz) := Hd (fun wz => by rw [hy]; exact HC.out _ _ wz)
 clear hx hy HC
 have HO2 : Hid (Calls Tryz.prog 151 #[.slice (some ⟨W1.heap.size, 0, none⟩) 2 2] (W1.drew.alloc (.cells #[.int .i64 x, .int .i64 y] 3)) fun e w' => e = .returned (.int .i64 (orI [x, y])) ∧ w' = W1.drew.alloc (.cells #[.int .i64 x, .int .i64 y] 3)) := Hd (by
   have h0 : (W1.drew.alloc (.cells #[.int .i64 x, .int .i64 y] 3)).heap[W1.heap.size]? = some (.cells #[.int .i64 x, .int .i64 y] 3) := alloc_new W1.drew _
   exact HO.out x y W1.heap.size _ (cl0 h0 0 rfl) (cl0 h0 1 rfl))
 clear HO
 go_region_held3 (fun w' => w'.cell? ⟨w.heap.size, 0, none⟩ = some (.int .i64 a.rep) ∧ w'.cell? ⟨w.heap.size, 1, none⟩ = some (.int .i64 a.ctr) ∧ w'.cell? ⟨w.heap.size + 1, 0, none⟩ = some (.int .i64 b.rep) ∧ w'.cell? ⟨w.heap.size + 1, 1, none⟩ = some (.int .i64 b.ctr)) (first | go_keep | go_simp) (first | (go_at_call 152; first | (with_reducible show Calls _ _ #[.int .i64 a.ctr, _] _ _; refine (HC1.out _).mono ?_; rintro e w1 ⟨rfl, rfl⟩) | (refine (HC2.out _).mono ?_; rintro e w1 ⟨rfl, rfl⟩)) | (go_at_call 151; refine HO2.out.mono ?_; rintro e w1 ⟨rfl, rfl⟩))
 all_goals
  go_wp2
  go_ret
  exact ⟨by rw [HD.out]; rfl, Grown.of_alloc HGR.out _⟩

theorem dotValid_any (d : DotD) (w : World) : Calls Tryz.prog 52 #[dotV d] w fun e w' => e = .returned (.bool (validDotD d)) ∧ Below w.heap.size w w' := by
 unfold dotV
 go_enter Tryz.func52, Tryz.ntmps52
 by_cases h1 : 1 ≤ d.rep
 ·have h1d : decide (1 ≤ d.rep) = true := decide_eq_true h1
  by_cases h2 : d.rep ≤ 65535
  ·have h2d : decide (d.rep ≤ 65535) = true := decide_eq_true h2
   by_cases h3 : 1 ≤ d.ctr
   ·have h3d : decide (1 ≤ d.ctr) = true := decide_eq_true h3
    by_cases h4 : d.ctr ≤ 4294967295
    ·have h4d : decide (d.ctr ≤ 4294967295) = true := decide_eq_true h4
     have HF : Hid (validDotD d = true) := Hd (by unfold validDotD; simp only [h1d, h2d, h3d, h4d, Bool.true_and, Bool.and_true, Bool.false_and, Bool.and_false]; try rfl)
     go_wp2_with fail
     go_ret
     exact ⟨by rw [HF.out]; rfl, bal⟩
    ·have h4d : decide (d.ctr ≤ 4294967295) = false := decide_eq_false h4
     have HF : Hid (validDotD d = false) := Hd (by unfold validDotD; simp only [h1d, h2d, h3d, h4d, Bool.true_and, Bool.and_true, Bool.false_and, Bool.and_false]; try rfl)
     go_wp2_with fail
     go_ret
     exact ⟨by rw [HF.out]; rfl, bal⟩
   ·have h3d : decide (1 ≤ d.ctr) = false := decide_eq_false h3
    have HF : Hid (validDotD d = false) := Hd (by unfold validDotD; simp only [h1d, h2d, h3d, Bool.true_and, Bool.and_true, Bool.false_and, Bool.and_false]; try rfl)
    go_wp2_with fail
    go_ret
    exact ⟨by rw [HF.out]; rfl, bal⟩
  ·have h2d : decide (d.rep ≤ 65535) = false := decide_eq_false h2
   have HF : Hid (validDotD d = false) := Hd (by unfold validDotD; simp only [h1d, h2d, Bool.true_and, Bool.and_true, Bool.false_and, Bool.and_false]; try rfl)
   go_wp2_with fail
   go_ret
   exact ⟨by rw [HF.out]; rfl, bal⟩
 ·have h1d : decide (1 ≤ d.rep) = false := decide_eq_false h1
  have HF : Hid (validDotD d = false) := Hd (by unfold validDotD; simp only [h1d, Bool.true_and, Bool.and_true, Bool.false_and, Bool.and_false]; try rfl)
  go_wp2_with fail
  go_ret
  exact ⟨by rw [HF.out]; rfl, bal⟩
def validQ (q : Int) : Bool := decide (1 ≤ q) && decide (q ≤ 2147483647)
theorem qtyValid_any (q : Int) (w : World) : Calls Tryz.prog 121 #[.int .i64 q] w fun e w' => e = .returned (.bool (validQ q)) ∧ w' = w := by
 go_enter Tryz.func121, Tryz.ntmps121
 by_cases h1 : 1 ≤ q
 ·have h1d : decide (1 ≤ q) = true := decide_eq_true h1
  by_cases h2 : q ≤ 2147483647
  ·have h2d : decide (q ≤ 2147483647) = true := decide_eq_true h2
   have HF : Hid (validQ q = true) := Hd (by unfold validQ; simp only [h1d, h2d, Bool.true_and, Bool.and_true, Bool.false_and]; try rfl)
   go_wp2_with fail
   go_ret
   exact ⟨by rw [HF.out]; rfl, rfl⟩
  ·have h2d : decide (q ≤ 2147483647) = false := decide_eq_false h2
   have HF : Hid (validQ q = false) := Hd (by unfold validQ; simp only [h1d, h2d, Bool.true_and, Bool.and_true, Bool.false_and]; try rfl)
   go_wp2_with fail
   go_ret
   exact ⟨by rw [HF.out]; rfl, rfl⟩
 ·have h1d : decide (1 ≤ q) = false := decide_eq_false h1
  have HF : Hid (validQ q = false) := Hd (by unfold validQ; simp only [h1d, Bool.true_and, Bool.and_true, Bool.false_and]; try rfl)
  go_wp2_with fail
  go_ret
  exact ⟨by rw [HF.out]; rfl, rfl⟩
def markV (m : MarkD) : Value := .agg #[.int .i64 m.dot.rep, .int .i64 m.dot.ctr, .int .i64 m.qty, .int .u64 m.time]
theorem qtyValidMark_any (m : MarkD) (w : World) : Calls Tryz.prog 112 #[markV m] w fun e w' => e = .returned (.bool (validMarkD m)) ∧ Below w.heap.size w w' := by
 have HV := Hd (fun wz => dotValid_any m.dot wz)
 have HQ := Hd (fun wz => qtyValid_any m.qty wz)
 have HM : Hid (validMarkD m = (validDotD m.dot && validQ m.qty && decide (0 < m.time))) := Hd rfl
 unfold dotV at HV
 obtain ⟨rd, hrd⟩ : ∃ rd, rd = validDotD m.dot := ⟨_, rfl⟩
 obtain ⟨rq, hrq⟩ : ∃ rq, rq = validQ m.qty := ⟨_, rfl⟩
 rw [← hrd] at HV HM
 rw [← hrq] at HQ HM
 clear hrd hrq
 unfold markV
 have hb1 : Below w.heap.size w (w.alloc (.cells #[.int .i64 m.dot.rep, .int .i64 m.dot.ctr, .int .i64 m.qty, .int .u64 m.time] 85)) := bal
 have HB1 := Hd hb1
 obtain ⟨W1, hW1⟩ : ∃ W1, W1 = w.alloc (.cells #[.int .i64 m.dot.rep, .int .i64 m.dot.ctr, .int .i64 m.qty, .int .u64 m.time] 85) := ⟨_, rfl⟩
 have hg1 : W1.heap[w.heap.size]? = some (.cells #[.int .i64 m.dot.rep, .int .i64 m.dot.ctr, .int .i64 m.qty, .int .u64 m.time] 85) := by rw [hW1]; exact alloc_new _ _
 rw [← hW1] at HB1
 have HW := Hd hW1
 have hgl := lt_of_heap hg1
 have HF : Hid (∀ wz, Below W1.heap.size W1 wz → wz.cell? ⟨w.heap.size, 2, none⟩ = some (.int .i64 m.qty) ∧ wz.cell? ⟨w.heap.size, 3, none⟩ = some (.int .u64 m.time)) := Hd (fun wz hz => by
  constructor
  ·rw [hz.cell (p := ⟨w.heap.size, 2, none⟩) hgl, cell0 hg1 2]; rfl
  ·rw [hz.cell (p := ⟨w.heap.size, 3, none⟩) hgl, cell0 hg1 3]; rfl)
 clear hW1 hb1 hg1 hgl
 cases rd with
 | false =>
  go_enter Tryz.func112, Tryz.ntmps112
  go_wp2_with fail
  rw [← HW.out]
  refine (HV.out _).mono ?_
  rintro e w2 ⟨rfl, hb2⟩
  go_wp2_with fail
  go_ret
  exact ⟨by rw [HM.out]; rfl, btr HB1.out hb2⟩
 | true =>
  go_enter Tryz.func112, Tryz.ntmps112
  go_wp2_with fail
  rw [← HW.out]
  refine (HV.out _).mono ?_
  rintro e w2 ⟨rfl, hb2⟩
  obtain ⟨f2, f3⟩ := HF.out w2 hb2
  have HB2 := Hd (btr HB1.out hb2)
  clear hb2 HW HF
  go_wp2_with fail
  refine (HQ.out _).mono ?_
  rintro e w3 ⟨rfl, rfl⟩
  cases rq with
  | false =>
   go_wp2_with fail
   go_ret
   exact ⟨by rw [HM.out]; rfl, HB2.out⟩
  | true =>
   by_cases ht : 0 < m.time
   ·have t1 : decide (0 < m.time) = true := decide_eq_true ht
    go_wp2_with fail
    go_ret
    exact ⟨by rw [HM.out, t1]; rfl, HB2.out⟩
   ·have t1 : decide (0 < m.time) = false := decide_eq_false ht
    go_wp2_with fail
    go_ret
    exact ⟨by rw [HM.out, t1]; rfl, HB2.out⟩

theorem Arr.len {α : Type} {R : World → α → List Value → Prop} {sz : Nat} {w : World} {v : Value} {l : List α} (h : Arr R sz w v l) : l.length ≤ 9223372036854775807 := by
 obtain ⟨_, _, _, h1, h2, _⟩ := h
 have := Nat.le_trans h1 h2
 unfold maxLen at this
 omega
/-- Element i of a slice of dots: where it lies. -/
theorem Arr.dotAt {w : World} {v : Value} {l : List DotD} (h : Arr DotR 2 w v l) : ∃ (o : Option Addr) (c : Nat), v = .slice o l.length c ∧ ∀ i (hi : i < l.length), ∃ b off, o = some ⟨b, off, none⟩ ∧ b < w.heap.size ∧ w.cell? ⟨b, off + i * 2, none⟩ = some (.int .i64 l[i].rep) ∧ w.cell? ⟨b, off + i * 2 + 1, none⟩ = some (.int .i64 l[i].ctr) := by
 obtain ⟨o, c, rfl, _, _, h4⟩ := h
 refine ⟨o, c, rfl, fun i hi => ?_⟩
 obtain ⟨b, off, cs, rfl, hb, _, ⟨rfl, _⟩, hc⟩ := h4 i hi
 exact ⟨b, off, rfl, hb, hc 0 (by decide), hc 1 (by decide)⟩

theorem dotIsSet_any (l : List DotD) (v : Value) (w : World) (h : Arr DotR 2 w v l) : Calls Tryz.prog 86 #[v] w fun e w' => e = .returned (.bool (isSetB l)) ∧ Below w.heap.size w w' := by
 have hn := h.len
 obtain ⟨o, c, rfl, hel⟩ := h.dotAt
 have HEL := Hd hel
 have HC := Hd (fun a b wz => dotCompare_any a b wz)
 unfold dotV at HC
 clear hel h
 go_enter Tryz.func86, Tryz.ntmps86
 go_wp2_with fail
 go_loopw [3] (fun i wr => ∃ k : Nat, k + 1 ≤ max 1 l.length ∧ i = .int .i64 ((k : Int) + 1) ∧ Below w.heap.size w wr ∧ isSetB l = isSetB (l.drop k)) (fun i _ => l.length - (intOf i).toNat)
 case atStart => exact ⟨0, by omega, rfl, Below.refl _ _, by rw [List.drop_zero]⟩
 case round =>
  obtain ⟨k, hk, rfl, hB, heq⟩ := hrel
  have HEQ := Hd heq
  have HB := Hd hB
  clear heq hB
  by_cases hlt : k + 1 < l.length
  ·obtain ⟨b, off, rfl, hbl, e0, e1⟩ := HEL.out k (by omega)
   obtain ⟨b2, off2, he, _, e2, e3⟩ := HEL.out (k + 1) hlt
   cases he
   have HD : Hid (isSetB (l.drop k) = (dlt l[k] l[k + 1] && isSetB (l.drop (k + 1)))) := Hd (by
    rw [List.drop_eq_getElem_cons (show k < l.length by omega), List.drop_eq_getElem_cons hlt]; rfl)
   have HDC : Hid (decide (dcmp l[k] l[k + 1] < 0) = dlt l[k] l[k + 1]) := Hd (dcmp_lt _ _)
   generalize l[k] = x at *
   generalize l[k + 1] = y at *
   have c0 : wr.cell? ⟨b, off + k * 2, none⟩ = some (.int .i64 x.rep) := by rw [HB.out.cell (p := ⟨_, _, _⟩) hbl]; exact e0
   have c1 : wr.cell? ⟨b, off + k * 2 + 1, none⟩ = some (.int .i64 x.ctr) := by rw [HB.out.cell (p := ⟨_, _, _⟩) hbl]; exact e1
   have c2 : wr.cell? ⟨b, off + (k + 1) * 2, none⟩ = some (.int .i64 y.rep) := by rw [HB.out.cell (p := ⟨_, _, _⟩) hbl]; exact e2
   have c3 : wr.cell? ⟨b, off + (k + 1) * 2 + 1, none⟩ = some (.int .i64 y.ctr) := by rw [HB.out.cell (p := ⟨_, _, _⟩) hbl]; exact e3
   have hbr : b < wr.heap.size := Nat.lt_of_lt_of_le hbl HB.out.size
   have a1 : (k : Int) + 1 < l.length := by omega
   have a0 : (0 : Int) ≤ (k : Int) + 1 := by omega
   have a2 : (0 : Int) ≤ k := by omega
   have a3 : (k : Int) < l.length := by omega
   have x1 : IntKind.i64.wrap ((k : Int) + 1 - 1) = (k : Int) := by rw [IntKind.wrap_i64]; omega
   have x2 : IntKind.i64.wrap ((k : Int) + 1 + 1) = (k : Int) + 1 + 1 := by rw [IntKind.wrap_i64]; omega
   have x3 : ((k : Int) + 1).toNat = k + 1 := by omega
   have x4 : IntKind.i64.wrap (k : Int) = (k : Int) := by rw [IntKind.wrap_i64]; omega
   have HCX := Hd (HC.out x y)
   obtain ⟨r, hr⟩ : ∃ r, r = dcmp x y := ⟨_, rfl⟩
   rw [← hr] at HDC HCX
   clear e0 e1 e2 e3 hr HC
   have HB2 := HB
   by_cases hneg : r < 0
   ·have t1 : decide (0 ≤ r) = false := decide_eq_false (by omega)
    have HF : Hid (isSetB l = isSetB (l.drop (k + 1))) := Hd (by rw [HEQ.out, HD.out, ← HDC.out, decide_eq_true hneg]; rfl)
    clear HD HDC HEQ
    go_upto_region 4 with fail
    go_region_held3 (fun w' => w'.cell? ⟨b, off + k * 2, none⟩ = some (.int .i64 x.rep) ∧ w'.cell? ⟨b, off + k * 2 + 1, none⟩ = some (.int .i64 x.ctr) ∧ w'.cell? ⟨b, off + (k + 1) * 2, none⟩ = some (.int .i64 y.rep) ∧ w'.cell? ⟨b, off + (k + 1) * 2 + 1, none⟩ = some (.int .i64 y.ctr)) (first | go_keep | go_simp) (first | (go_at_call 100; refine (HCX.out _).mono ?_; rintro e w2 ⟨rfl, hg2⟩; have hb2 : Below wr.heap.size wr w2 := brf.drew.trans hg2.below; have c0 : w2.cell? ⟨b, off + k * 2, none⟩ = some (.int .i64 x.rep) := (by rw [hb2.cell (p := ⟨b, off + k * 2, none⟩) hbr]; exact c0); have c1 : w2.cell? ⟨b, off + k * 2 + 1, none⟩ = some (.int .i64 x.ctr) := (by rw [hb2.cell (p := ⟨b, off + k * 2 + 1, none⟩) hbr]; exact c1); have c2 : w2.cell? ⟨b, off + (k + 1) * 2, none⟩ = some (.int .i64 y.rep) := (by rw [hb2.cell (p := ⟨b, off + (k + 1) * 2, none⟩) hbr]; exact c2); have c3 : w2.cell? ⟨b, off + (k + 1) * 2 + 1, none⟩ = some (.int .i64 y.ctr) := (by rw [hb2.cell (p := ⟨b, off + (k + 1) * 2 + 1, none⟩) hbr]; exact c3)))
    have hbf : Below w.heap.size w w2 := btr HB.out hb2
    go_wp2_with fail
    go_roundw
    case rel => exact ⟨k + 1, by omega, by go_num, hbf, HF.out⟩
    case measure => simp [intOf]; omega
   ·have t1 : decide (0 ≤ r) = true := decide_eq_true (by omega)
    have HF : Hid (isSetB l = false) := Hd (by rw [HEQ.out, HD.out, ← HDC.out, decide_eq_false hneg]; rfl)
    clear HD HDC HEQ
    go_upto_region 4 with fail
    go_region_held3 (fun w' => w'.cell? ⟨b, off + k * 2, none⟩ = some (.int .i64 x.rep) ∧ w'.cell? ⟨b, off + k * 2 + 1, none⟩ = some (.int .i64 x.ctr) ∧ w'.cell? ⟨b, off + (k + 1) * 2, none⟩ = some (.int .i64 y.rep) ∧ w'.cell? ⟨b, off + (k + 1) * 2 + 1, none⟩ = some (.int .i64 y.ctr)) (first | go_keep | go_simp) (first | (go_at_call 100; refine (HCX.out _).mono ?_; rintro e w2 ⟨rfl, hg2⟩; have hb2 : Below wr.heap.size wr w2 := brf.drew.trans hg2.below; have c0 : w2.cell? ⟨b, off + k * 2, none⟩ = some (.int .i64 x.rep) := (by rw [hb2.cell (p := ⟨b, off + k * 2, none⟩) hbr]; exact c0); have c1 : w2.cell? ⟨b, off + k * 2 + 1, none⟩ = some (.int .i64 x.ctr) := (by rw [hb2.cell (p := ⟨b, off + k * 2 + 1, none⟩) hbr]; exact c1); have c2 : w2.cell? ⟨b, off + (k + 1) * 2, none⟩ = some (.int .i64 y.rep) := (by rw [hb2.cell (p := ⟨b, off + (k + 1) * 2, none⟩) hbr]; exact c2); have c3 : w2.cell? ⟨b, off + (k + 1) * 2 + 1, none⟩ = some (.int .i64 y.ctr) := (by rw [hb2.cell (p := ⟨b, off + (k + 1) * 2 + 1, none⟩) hbr]; exact c3)))
    have hbf : Below w.heap.size w w2 := btr HB.out hb2
    go_wp2_with fail
    go_ret
    exact ⟨by rw [HF.out]; rfl, hbf⟩
  ·have HF : Hid (isSetB l = true) := Hd (by
    rw [HEQ.out]
    have : (l.drop k).length ≤ 1 := by rw [List.length_drop]; omega
    match e : l.drop k, this with
    | [], _ => rfl
    | [a], _ => rfl)
   have t1 : decide ((k : Int) + 1 < l.length) = false := decide_eq_false (by omega)
   go_wp2_with fail
   go_ret
   exact ⟨by rw [HF.out]; rfl, HB.out⟩

def flatD (l : List DotD) : List Value := l.flatMap encD
theorem flatD_len (l : List DotD) : (flatD l).length = l.length * 2 := by
 unfold flatD
 induction l with
 | nil => rfl
 | cons x l ih => rw [List.flatMap_cons, List.length_append, ih]; simp [encD]; omega
theorem flatD_get (l : List DotD) (k : Nat) (h : k < l.length) (j : Nat) (hj : j < 2) : (flatD l)[k * 2 + j]? = (encD l[k])[j]? := by
 unfold flatD
 induction l generalizing k with
 | nil => simp at h
 | cons x l ih =>
  rw [List.flatMap_cons]
  cases k with
  | zero =>
   rw [List.getElem?_append_left (by simp [encD]; omega)]
   simp
  | succ k =>
   rw [List.getElem?_append_right (by simp [encD]; omega), show (k + 1) * 2 + j - (encD x).length = k * 2 + j by simp [encD]; omega]
   exact ih k (by simpa using h)
theorem flatD_snoc (l : List DotD) (x : DotD) : flatD (l ++ [x]) = flatD l ++ encD x := by simp [flatD]
theorem encD_one (x : DotD) : ∀ u ∈ encD x, u.oneCell' = true := by
 intro u hu
 simp [encD] at hu
 rcases hu with rfl | rfl <;> rfl
theorem flatD_one (l : List DotD) : ∀ u ∈ flatD l, u.oneCell' = true := by
 intro u hu
 obtain ⟨x, _, hx⟩ := List.mem_flatMap.1 hu
 exact encD_one x u hx
def DI (d : DotD) : Prop := I64 d.rep ∧ I64 d.ctr
theorem Arr.of_dots {w : World} {base : Nat} {T : TypeId} {v : Value} {l : List DotD} (h : w.ownsRow base T 2 v l.length (flatD l)) (hI : ∀ d ∈ l, DI d) : Arr DotR 2 w v l := by
 have h0 := h
 obtain ⟨_, ⟨rfl, hn⟩ | ⟨g, cap, cur, rfl, hg, hb, h1, h2, h3, h4⟩⟩ := h
 ·exact ⟨none, 0, by rw [hn], by omega, Nat.zero_le _, fun i hi => by omega⟩
 ·refine ⟨_, cap, rfl, h1, h2, fun i hi => ⟨g, 0, encD l[i], rfl, lt_of_heap hb, rfl, ⟨rfl, hI _ (List.getElem_mem hi)⟩, fun j hj => ?_⟩⟩
  rw [Nat.zero_add, h0.cellAt (i * 2 + j) (by omega), flatD_get l i hi j hj]
theorem Arr.dotsI {w : World} {v : Value} {l : List DotD} (h : Arr DotR 2 w v l) : ∀ d ∈ l, DI d := by
 intro d hd
 obtain ⟨i, hi, rfl⟩ := List.getElem_of_mem hd
 obtain ⟨o, c, _, _, _, h4⟩ := h
 obtain ⟨b, off, cs, _, _, _, ⟨_, h5⟩, _⟩ := h4 i hi
 exact h5
/-- Element i of a slice of marks: where it lies. -/
theorem Arr.markAt {w : World} {v : Value} {l : List MarkD} (h : Arr MarkR 4 w v l) : ∃ (o : Option Addr) (c : Nat), v = .slice o l.length c ∧ ∀ i (hi : i < l.length), ∃ b off, o = some ⟨b, off, none⟩ ∧ b < w.heap.size ∧ w.cell? ⟨b, off + i * 4, none⟩ = some (.int .i64 l[i].dot.rep) ∧ w.cell? ⟨b, off + i * 4 + 1, none⟩ = some (.int .i64 l[i].dot.ctr) ∧ w.cell? ⟨b, off + i * 4 + 2, none⟩ = some (.int .i64 l[i].qty) ∧ w.cell? ⟨b, off + i * 4 + 3, none⟩ = some (.int .u64 l[i].time) ∧ DI l[i].dot ∧ I64 l[i].qty ∧ U64 l[i].time := by
 obtain ⟨o, c, rfl, _, _, h4⟩ := h
 refine ⟨o, c, rfl, fun i hi => ?_⟩
 obtain ⟨b, off, cs, rfl, hb, _, ⟨rfl, d1, d2, d3, d4⟩, hc⟩ := h4 i hi
 exact ⟨b, off, rfl, hb, hc 0 (by decide), hc 1 (by decide), hc 2 (by decide), hc 3 (by decide), ⟨d1, d2⟩, d3, d4⟩
theorem Arr.marksI {w : World} {v : Value} {l : List MarkD} (h : Arr MarkR 4 w v l) : ∀ m ∈ l, DI m.dot ∧ I64 m.qty ∧ U64 m.time := by
 intro m hm
 obtain ⟨i, hi, rfl⟩ := List.getElem_of_mem hm
 obtain ⟨o, c, _, h⟩ := h.markAt
 obtain ⟨b, off, _, _, _, _, _, _, h1, h2, h3⟩ := h i hi
 exact ⟨h1, h2, h3⟩

theorem info_parts {P : Program} {T : TypeId} {z : Value} {s b : Nat} (h : (P.info? T).map (fun i => (i.zero, i.size, i.bytes)) = some (some z, s, b)) : ∃ i, P.info? T = some i ∧ i.zero = some z ∧ i.size = s ∧ i.bytes = b := by
 cases e : P.info? T with
 | none => rw [e] at h; cases h
 | some i =>
  rw [e] at h
  simp only [Option.map_some, Option.some.injEq, Prod.mk.injEq] at h
  exact ⟨i, rfl, h.1, h.2.1, h.2.2⟩
theorem infoDot : (Tryz.prog.info? 39).map (fun i => (i.zero, i.size, i.bytes)) = some (some (.agg #[.int .i64 0, .int .i64 0]), 2, 16) := by kernel_rfl
theorem infoMark : (Tryz.prog.info? 85).map (fun i => (i.zero, i.size, i.bytes)) = some (some (.agg #[.int .i64 0, .int .i64 0, .int .i64 0, .int .u64 0]), 4, 32) := by kernel_rfl
theorem infoItem : (Tryz.prog.info? 55).map (fun i => (i.zero, i.size, i.bytes)) = some (some (.agg #[.string ⟨#[]⟩, .slice none 0 0]), 2, 40) := by kernel_rfl
/-- A slice literal of one element in a new block. -/
theorem src_lit (w : World) (T : TypeId) (cs : List Value) : SrcIs (w.alloc (.cells cs.toArray T)) (.slice (some ⟨w.heap.size, 0, none⟩) 1 1) 1 cs := Or.inr ⟨_, _, rfl, fun j u hj => by
 rw [show (⟨w.heap.size, 0, none⟩ : Addr).add j = ⟨w.heap.size, j, none⟩ by unfold Addr.add; split <;> simp_all]
 rw [cell0 (alloc_new _ _)]
 simpa using hj⟩

theorem qtyDots_any (l : List MarkD) (v : Value) (w : World) (h : Arr MarkR 4 w v l) (hl : l.length ≤ 100000) : Calls Tryz.prog 70 #[v] w fun e w' => ∃ v', e = .returned v' ∧ w'.ownsRow w.heap.size 39 2 v' l.length (flatD (dotsM l)) ∧ Below w.heap.size w w' := by
 obtain ⟨i0, hi0, hz0, hz1, hz2⟩ := info_parts infoDot
 have HI := Hd (And.intro hi0 (And.intro hz0 (And.intro hz1 hz2)))
 obtain ⟨o, c, rfl, hel⟩ := h.markAt
 have HEL := Hd hel
 clear hi0 hz0 hz1 hz2 hel h
 go_enter Tryz.func70, Tryz.ntmps70
 go_wp2_with fail
 go_loopw [3, 8] (fun v i wr => ∃ k : Nat, k ≤ l.length ∧ i = .int .i64 k ∧ wr.ownsRow w.heap.size 39 2 v k (flatD (dotsM (l.take k))) ∧ Below w.heap.size w wr) (fun _ i _ => l.length - (intOf i).toNat)
 case atStart => exact ⟨0, Nat.zero_le _, rfl, by rw [List.take_zero]; exact World.ownsRow_nil _ _ _ _, Below.refl _ _⟩
 case round =>
  obtain ⟨k, hk, rfl, hrow, hB⟩ := hrel
  obtain ⟨av, cv, rfl⟩ := owns_slice hrow
  by_cases hlt : k < l.length
  ·obtain ⟨b, off, rfl, hbl, e0, e1, e2, e3, -⟩ := HEL.out k hlt
   have HTK : Hid (flatD (dotsM (l.take (k + 1))) = flatD (dotsM (l.take k)) ++ encD l[k].dot) := Hd (by
    rw [List.take_succ_eq_append_getElem hlt]; unfold dotsM; rw [List.map_append]; exact flatD_snoc _ _)
   have hbr : b < wr.heap.size := Nat.lt_of_lt_of_le hbl hB.size
   have c0 : wr.cell? ⟨b, off + k * 4, none⟩ = some (.int .i64 l[k].dot.rep) := by rw [hB.cell (p := ⟨_, _, _⟩) hbl]; exact e0
   have c1 : wr.cell? ⟨b, off + k * 4 + 1, none⟩ = some (.int .i64 l[k].dot.ctr) := by rw [hB.cell (p := ⟨_, _, _⟩) hbl]; exact e1
   have c2 : wr.cell? ⟨b, off + k * 4 + 2, none⟩ = some (.int .i64 l[k].qty) := by rw [hB.cell (p := ⟨_, _, _⟩) hbl]; exact e2
   have c3 : wr.cell? ⟨b, off + k * 4 + 3, none⟩ = some (.int .u64 l[k].time) := by rw [hB.cell (p := ⟨_, _, _⟩) hbl]; exact e3
   generalize l[k] = m at *
   have a1 : (k : Int) < l.length := by omega
   have a0 : (0 : Int) ≤ k := by omega
   have hal : Below wr.heap.size wr ((wr.alloc (.cells #[.int .i64 m.dot.rep, .int .i64 m.dot.ctr, .int .i64 m.qty, .int .u64 m.time] 85)).alloc (.cells #[.int .i64 m.dot.rep, .int .i64 m.dot.ctr] 39)) := (bal).alloc (by simp) _
   have HROW2 := Hd (row_below hrow hal)
   have HB2 := Hd (btr hB hal)
   have HSRC : Hid (SrcIs ((wr.alloc (.cells #[.int .i64 m.dot.rep, .int .i64 m.dot.ctr, .int .i64 m.qty, .int .u64 m.time] 85)).alloc (.cells #[.int .i64 m.dot.rep, .int .i64 m.dot.ctr] 39)) (.slice (some ⟨wr.heap.size + 1, 0, none⟩) 1 1) 1 (encD m.dot)) := Hd (by
    have := src_lit (wr.alloc (.cells #[.int .i64 m.dot.rep, .int .i64 m.dot.ctr, .int .i64 m.qty, .int .u64 m.time] 85)) 39 (encD m.dot)
    rw [alloc_size] at this
    exact this)
   have hbw2 : w.heap.size ≤ ((wr.alloc (.cells #[.int .i64 m.dot.rep, .int .i64 m.dot.ctr, .int .i64 m.qty, .int .u64 m.time] 85)).alloc (.cells #[.int .i64 m.dot.rep, .int .i64 m.dot.ctr] 39)).heap.size := HB2.out.size
   clear hal hrow hB e0 e1 e2 e3
   go_wp2_with (at_builtin; refine wpList_append_src rfl _ _ 22 rfl w.heap.size 39 i0 (.agg #[.int .i64 0, .int .i64 0]) 2 16 Tryz.underlying22 HI.out.1 HI.out.2.1 HI.out.2.2.1 HI.out.2.2.2 rfl (by decide) (.slice av k cv) k _ rfl HROW2.out _ _ _ rfl HSRC.out rfl (encD_one m.dot) (by unfold maxLen; omega) (by omega) hbw2 ?_; intro v8 w8 hown8 hgr8 _)
   have hbf := HB2.out.grown hgr8 hbw2 (fun j hj => (HROW2.out.lt _ hj).1)
   go_roundw
   case rel => exact ⟨k + 1, by omega, by go_num, by rw [HTK.out]; exact hown8, hbf⟩
   case measure => simp [intOf]; omega
  ·have hke : k = l.length := by omega
   rw [hke, List.take_length] at hrow
   subst hke
   go_wp2_with fail
   go_ret
   exact ⟨_, rfl, hrow, hB⟩
theorem dotsM_len (l : List MarkD) : (dotsM l).length = l.length := by simp [dotsM]
theorem qtyIsList_any (l : List MarkD) (v : Value) (w : World) (h : Arr MarkR 4 w v l) (hl : l.length ≤ 100000) : Calls Tryz.prog 109 #[v] w fun e w' => e = .returned (.bool (isSetB (dotsM l))) ∧ Below w.heap.size w w' := by
 have HD := Hd (qtyDots_any l v w h hl)
 have HI : Hid (∀ d ∈ dotsM l, DI d) := Hd (fun d hd => by
  obtain ⟨m, hm, rfl⟩ := List.mem_map.1 hd
  exact (h.marksI m hm).1)
 clear h
 go_enter Tryz.func109, Tryz.ntmps109
 go_wp2_with fail
 refine HD.out.mono ?_
 rintro e w1 ⟨v1, rfl, hrow, hb1⟩
 rw [← dotsM_len l] at hrow
 have HS := Hd (dotIsSet_any (dotsM l) v1 w1 (Arr.of_dots hrow HI.out))
 have HB1 := Hd hb1
 clear hrow hb1
 go_wp2_with fail
 refine HS.out.mono ?_
 rintro e w2 ⟨rfl, hb2⟩
 go_wp2_with fail
 go_ret
 exact ⟨rfl, btr HB1.out hb2⟩
end Go.Proofs.YtjoljfnlkddfbaaGreatDoor
