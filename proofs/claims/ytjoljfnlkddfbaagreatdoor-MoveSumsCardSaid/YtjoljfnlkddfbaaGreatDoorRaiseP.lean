/- Raise as the reference reckons it. -/
import Derived.Test.YtjoljfnlkddfbaaGreatDoorItemsP
namespace Go.Proofs.YtjoljfnlkddfbaaGreatDoor

/-! ### Vectors -/
def getV : List DotD → Int → Int
 | [], _ => 0
 | d :: v, r => if d.rep = r then d.ctr else getV v r
def risR : List DotD → Bool
 | [] => true
 | [_] => true
 | a :: b :: l => decide (a.rep < b.rep) && risR (b :: l)
def RR (l : List DotD) : Prop := l.Pairwise (fun a b => a.rep < b.rep)
theorem risR_iff : ∀ {l : List DotD}, risR l = true ↔ RR l
 | [] => by simp [risR, RR]
 | [a] => by simp [risR, RR]
 | a :: b :: l => by
  unfold risR
  rw [Bool.and_eq_true, risR_iff (l := b :: l), decide_eq_true_iff]
  constructor
  ·rintro ⟨h1, h2⟩
   refine List.pairwise_cons.2 ⟨fun x hx => ?_, h2⟩
   rcases List.mem_cons.1 hx with e | e
   ·subst e; exact h1
   ·exact Int.lt_trans h1 ((List.pairwise_cons.1 h2).1 x e)
  ·intro h
   obtain ⟨h1, h2⟩ := List.pairwise_cons.1 h
   exact ⟨h1 b (.head _), h2⟩
def validV (v : List DotD) : Bool := v.all validDotD && risR v
def hasV (v : List DotD) (d : DotD) : Bool := validDotD d && decide (d.ctr ≤ getV v d.rep)
/-- A vector with a dot: its replica's counter is raised. -/
def raise1 : List DotD → DotD → List DotD
 | [], d => [d]
 | x :: v, d => if d.rep < x.rep then d :: x :: v else if d.rep = x.rep then ⟨x.rep, max x.ctr d.ctr⟩ :: v else x :: raise1 v d
def madeV (l : List DotD) : List DotD := l.foldl raise1 []

theorem validDot_iff (d : DotD) : validDotD d = true ↔ 1 ≤ d.rep ∧ d.rep ≤ 65535 ∧ 1 ≤ d.ctr ∧ d.ctr ≤ 4294967295 := by
 simp only [validDotD, Bool.and_eq_true, decide_eq_true_eq]
 constructor
 ·rintro ⟨⟨⟨a, b⟩, c⟩, d⟩; exact ⟨a, b, c, d⟩
 ·rintro ⟨a, b, c, d⟩; exact ⟨⟨⟨a, b⟩, c⟩, d⟩
theorem getV_mem : ∀ {v : List DotD} {r : Int}, getV v r ≠ 0 → ∃ d ∈ v, d.rep = r ∧ d.ctr = getV v r
 | [], r, h => absurd rfl h
 | x :: v, r, h => by
  unfold getV at h ⊢
  by_cases e : x.rep = r
  ·rw [if_pos e]; exact ⟨x, by simp, e, rfl⟩
  ·rw [if_neg e] at h ⊢
   obtain ⟨d, h1, h2, h3⟩ := getV_mem h
   exact ⟨d, by simp [h1], h2, h3⟩
theorem getV_none : ∀ {v : List DotD} {r : Int}, (∀ d ∈ v, d.rep ≠ r) → getV v r = 0
 | [], _, _ => rfl
 | x :: v, r, h => by
  unfold getV
  rw [if_neg (h x (by simp))]
  exact getV_none (fun d hd => h d (by simp [hd]))
theorem getV_of_mem : ∀ {v : List DotD} {d : DotD}, RR v → d ∈ v → getV v d.rep = d.ctr
 | [], _, _, h => by simp at h
 | x :: v, d, hv, h => by
  obtain ⟨h1, h2⟩ := List.pairwise_cons.1 hv
  unfold getV
  rcases List.mem_cons.1 h with rfl | h
  ·rw [if_pos rfl]
  ·have := h1 d h
   rw [if_neg (by omega)]
   exact getV_of_mem h2 h
theorem getV_nonneg {v : List DotD} (h : v.all validDotD = true) (r : Int) : 0 ≤ getV v r := by
 by_cases e : getV v r = 0
 ·omega
 ·obtain ⟨d, h1, h2, h3⟩ := getV_mem e
  have := (validDot_iff d).1 (List.all_eq_true.1 h d h1)
  omega
theorem getV_le {v : List DotD} (h : v.all validDotD = true) (r : Int) : getV v r ≤ 4294967295 := by
 by_cases e : getV v r = 0
 ·omega
 ·obtain ⟨d, h1, h2, h3⟩ := getV_mem e
  have := (validDot_iff d).1 (List.all_eq_true.1 h d h1)
  omega
theorem raise1_mem_rep : ∀ {v : List DotD} {d x : DotD}, x ∈ raise1 v d → x.rep = d.rep ∨ x ∈ v
 | [], d, x, h => by
  unfold raise1 at h
  rw [List.mem_singleton.1 h]; exact Or.inl rfl
 | y :: v, d, x, h => by
  unfold raise1 at h
  split at h
  ·rcases List.mem_cons.1 h with rfl | h
   ·exact Or.inl rfl
   ·exact Or.inr h
  ·split at h
   ·rename_i h1 h2
    rcases List.mem_cons.1 h with rfl | h
    ·exact Or.inl h2.symm
    ·exact Or.inr (by simp [h])
   ·rcases List.mem_cons.1 h with rfl | h
    ·exact Or.inr (by simp)
    ·rcases raise1_mem_rep h with h | h
     ·exact Or.inl h
     ·exact Or.inr (by simp [h])
theorem raise1_RR : ∀ {v : List DotD} (d : DotD), RR v → RR (raise1 v d)
 | [], d, _ => by unfold raise1; exact List.pairwise_singleton _ _
 | x :: v, d, hv => by
  obtain ⟨h1, h2⟩ := List.pairwise_cons.1 hv
  unfold raise1
  split
  ·rename_i hlt
   refine List.pairwise_cons.2 ⟨fun y hy => ?_, hv⟩
   rcases List.mem_cons.1 hy with rfl | hy
   ·exact hlt
   ·have := h1 y hy; omega
  ·split
   ·exact List.pairwise_cons.2 ⟨fun y hy => h1 y hy, h2⟩
   ·refine List.pairwise_cons.2 ⟨fun y hy => ?_, raise1_RR d h2⟩
    rcases raise1_mem_rep hy with h | h
    ·omega
    ·exact h1 y h
theorem getV_raise1 : ∀ {v : List DotD} (d : DotD) (r : Int), RR v → getV (raise1 v d) r = if r = d.rep then (if v.any (fun x => decide (x.rep = r)) then max (getV v r) d.ctr else d.ctr) else getV v r
 | [], d, r, _ => by
  unfold raise1 getV
  by_cases e : d.rep = r
  ·rw [if_pos e, if_pos e.symm]; rfl
  ·rw [if_neg e, if_neg (fun h => e h.symm)]; rfl
 | x :: v, d, r, hv => by
  obtain ⟨h1, h2⟩ := List.pairwise_cons.1 hv
  unfold raise1
  split
  ·rename_i hlt
   have hno : ∀ y ∈ x :: v, y.rep ≠ d.rep := fun y hy => by
    rcases List.mem_cons.1 hy with rfl | hy
    ·omega
    ·have := h1 y hy; omega
   by_cases e : d.rep = r
   ·rw [if_pos e.symm]
    have ha : (x :: v).any (fun x => decide (x.rep = r)) = false := List.any_eq_false.2 (fun y hy => by simpa [e] using hno y hy)
    rw [ha, if_neg (by simp)]
    show (if d.rep = r then d.ctr else _) = _
    rw [if_pos e]
   ·rw [if_neg (fun h => e h.symm)]
    show (if d.rep = r then d.ctr else _) = _
    rw [if_neg e]
  ·split
   ·rename_i hlt heq
    show (if x.rep = r then max x.ctr d.ctr else getV v r) = _
    by_cases e : x.rep = r
    ·rw [if_pos e, if_pos (by omega)]
     have ha : (x :: v).any (fun x => decide (x.rep = r)) = true := by simp [e]
     rw [ha, if_pos rfl]
     show _ = max (if x.rep = r then x.ctr else _) _
     rw [if_pos e]
    ·rw [if_neg e, if_neg (by omega)]
     show _ = (if x.rep = r then x.ctr else _)
     rw [if_neg e]
   ·rename_i hlt hne
    show (if x.rep = r then x.ctr else getV (raise1 v d) r) = _
    rw [getV_raise1 d r h2]
    by_cases e : x.rep = r
    ·rw [if_pos e, if_neg (by omega)]
     show _ = (if x.rep = r then x.ctr else _)
     rw [if_pos e]
    ·rw [if_neg e]
     have hg : getV (x :: v) r = getV v r := by
      show (if x.rep = r then x.ctr else _) = _
      rw [if_neg e]
     have ha : (x :: v).any (fun x => decide (x.rep = r)) = v.any (fun x => decide (x.rep = r)) := by simp [e]
     rw [hg, ha]
/-- At valid vectors the counter of a raised vector is the greater one. -/
theorem getV_raise {v : List DotD} (hv : RR v) {d : DotD} (hd : 0 ≤ d.ctr) (r : Int) : getV (raise1 v d) r = if r = d.rep then max (getV v r) d.ctr else getV v r := by
 rw [getV_raise1 d r hv]
 by_cases e : r = d.rep
 ·rw [if_pos e, if_pos e]
  rcases hh : v.any (fun x => decide (x.rep = r)) with _ | _
  ·rw [if_neg (by simp), getV_none (fun x hx => by have := List.any_eq_false.1 hh x hx; simpa using this)]
   omega
  ·rw [if_pos rfl]
 ·rw [if_neg e, if_neg e]
theorem raise1_valid : ∀ {v : List DotD} {d : DotD}, v.all validDotD = true → validDotD d = true → (raise1 v d).all validDotD = true
 | [], d, _, hd => by unfold raise1; simp [hd]
 | x :: v, d, hv, hd => by
  simp only [List.all_cons, Bool.and_eq_true] at hv
  unfold raise1
  split
  ·simp [hd, hv.1, hv.2]
  ·split
   ·rename_i h1 h2
    have a := (validDot_iff x).1 hv.1
    have b := (validDot_iff d).1 hd
    have : validDotD ⟨x.rep, max x.ctr d.ctr⟩ = true := (validDot_iff _).2 ⟨a.1, a.2.1, by show 1 ≤ max x.ctr d.ctr; omega, by show max x.ctr d.ctr ≤ 4294967295; omega⟩
    simp [this, hv.2]
   ·simp [hv.1, raise1_valid hv.2 hd]
theorem validV_parts {v : List DotD} (h : validV v = true) : v.all validDotD = true ∧ RR v := by
 unfold validV at h
 rw [Bool.and_eq_true] at h
 exact ⟨h.1, risR_iff.1 h.2⟩
theorem validV_of {v : List DotD} (h1 : v.all validDotD = true) (h2 : RR v) : validV v = true := by
 unfold validV
 rw [h1, risR_iff.2 h2]; rfl
theorem validV_raise {v : List DotD} {d : DotD} (h : validV v = true) (hd : validDotD d = true) : validV (raise1 v d) = true :=
 validV_of (raise1_valid (validV_parts h).1 hd) (raise1_RR d (validV_parts h).2)
theorem foldl_raise {l : List DotD} : ∀ {v : List DotD}, validV v = true → l.all validDotD = true → validV (l.foldl raise1 v) = true ∧ ∀ r, getV (l.foldl raise1 v) r = l.foldl (fun n d => if d.rep = r then max n d.ctr else n) (getV v r) := by
 induction l with
 | nil => exact fun h _ => ⟨h, fun r => rfl⟩
 | cons d l ih =>
  intro v hv hl
  simp only [List.all_cons, Bool.and_eq_true] at hl
  obtain ⟨i1, i2⟩ := ih (validV_raise hv hl.1) hl.2
  refine ⟨i1, fun r => ?_⟩
  rw [List.foldl_cons, i2, getV_raise (validV_parts hv).2 (by have := (validDot_iff d).1 hl.1; omega)]
  rw [List.foldl_cons]
  by_cases e : d.rep = r
  ·rw [if_pos e.symm, if_pos e]
  ·rw [if_neg (fun h => e h.symm), if_neg e]
/-- Two valid vectors with the same counters are the same. -/
theorem vec_ext {v u : List DotD} (hv : validV v = true) (hu : validV u = true) (h : ∀ r, getV v r = getV u r) : v = u := by
 obtain ⟨v1, v2⟩ := validV_parts hv
 obtain ⟨u1, u2⟩ := validV_parts hu
 have sub : ∀ {a b : List DotD}, a.all validDotD = true → RR a → (∀ r, getV a r = getV b r) → ∀ d ∈ a, d ∈ b := fun {a b} h1 h2 h3 d hd => by
  have hg := getV_of_mem h2 hd
  have hp := (validDot_iff d).1 (List.all_eq_true.1 h1 d hd)
  rw [h3] at hg
  obtain ⟨e, e1, e2, e3⟩ := getV_mem (v := b) (r := d.rep) (by omega)
  have : e = d := by
   rcases e with ⟨er, ec⟩
   rcases d with ⟨dr, dc⟩
   simp only at e2 e3 hg
   rw [e2, e3, hg]
  rw [← this]; exact e1
 have irr : ∀ {a b : List DotD}, RR a → RR b → (∀ d, d ∈ a ↔ d ∈ b) → a = b := by
  intro a
  induction a with
  | nil => intro b _ _ h; exact (List.eq_nil_iff_forall_not_mem.2 (fun x hx => by have := (h x).2 hx; simp at this)).symm
  | cons x a ih =>
   intro b ha hb h
   cases b with
   | nil => have := (h x).1 (by simp); simp at this
   | cons y b =>
    obtain ⟨a1, a2⟩ := List.pairwise_cons.1 ha
    obtain ⟨b1, b2⟩ := List.pairwise_cons.1 hb
    have exy : x = y := by
     rcases List.mem_cons.1 ((h x).1 (by simp)) with e | e
     ·exact e
     ·rcases List.mem_cons.1 ((h y).2 (by simp)) with e2 | e2
      ·exact e2.symm
      ·have := b1 x e
       have := a1 y e2
       omega
    subst exy
    congr 1
    refine ih a2 b2 (fun d => ⟨fun hd => ?_, fun hd => ?_⟩)
    ·rcases List.mem_cons.1 ((h d).1 (by simp [hd])) with e | e
     ·have := a1 d hd; rw [e] at this; omega
     ·exact e
    ·rcases List.mem_cons.1 ((h d).2 (by simp [hd])) with e | e
     ·have := b1 d hd; rw [e] at this; omega
     ·exact e
 exact irr v2 u2 (fun d => ⟨sub v1 v2 h d, sub u1 u2 (fun r => (h r).symm) d⟩)

/-! ### Contexts -/
def validX (v c : List DotD) : Bool := validV v && isSetB c && c.all validDotD
def nearX (v : List DotD) (d : DotD) : Bool := decide (d.ctr ≤ getV v d.rep + 1)
def compactB (v c : List DotD) : Bool := validX v c && !c.any (nearX v)
def hasX (v c : List DotD) (d : DotD) : Bool := hasV v d || (validDotD d && decide (d ∈ c))
def stepX (s : List DotD × List DotD) (d : DotD) : List DotD × List DotD :=
 if getV s.1 d.rep + 1 < d.ctr then (s.1, s.2 ++ [d]) else if d.ctr = getV s.1 d.rep + 1 then (raise1 s.1 d, s.2) else s
def compactX (v c : List DotD) : List DotD × List DotD := c.foldl stepX (v, [])
theorem validX_parts {v c : List DotD} (h : validX v c = true) : validV v = true ∧ SS c ∧ c.all validDotD = true := by
 unfold validX at h
 rw [Bool.and_eq_true, Bool.and_eq_true] at h
 exact ⟨h.1.1, isSetB_iff.1 h.1.2, h.2⟩
theorem validX_of {v c : List DotD} (h1 : validV v = true) (h2 : SS c) (h3 : c.all validDotD = true) : validX v c = true := by
 unfold validX
 rw [h1, isSetB_iff.2 h2, h3]; rfl
theorem hasX_iff (v c : List DotD) (d : DotD) : hasX v c d = true ↔ validDotD d = true ∧ (d.ctr ≤ getV v d.rep ∨ d ∈ c) := by
 unfold hasX hasV
 cases validDotD d <;> simp
/-- What compacting keeps: behind a part of the cloud. -/
def InvX (v P : List DotD) (s : List DotD × List DotD) : Prop :=
 validV s.1 = true ∧ SS s.2 ∧ (∀ d ∈ s.2, d ∈ P ∧ getV s.1 d.rep + 1 < d.ctr) ∧ ∀ d, validDotD d = true → ((d.ctr ≤ getV s.1 d.rep ∨ d ∈ s.2) ↔ (d.ctr ≤ getV v d.rep ∨ d ∈ P))
theorem dlt_ctr {a b : DotD} (h : dlt a b = true) : a.ctr ≤ b.ctr := by
 rcases (dlt_iff a b).1 h with h | h <;> omega
theorem stepX_inv {v P : List DotD} {s : List DotD × List DotD} {x : DotD} (h : InvX v P s) (hx : validDotD x = true) (hP : ∀ y ∈ P, dlt y x = true) : InvX v (P ++ [x]) (stepX s x) := by
 obtain ⟨h1, h2, h3, h4⟩ := h
 have hxv := (validDot_iff x).1 hx
 unfold stepX
 by_cases c1 : getV s.1 x.rep + 1 < x.ctr
 ·rw [if_pos c1]
  refine ⟨h1, List.pairwise_append.2 ⟨h2, List.pairwise_singleton _ _, fun a ha b hb => by rw [List.mem_singleton.1 hb]; exact hP a (h3 a ha).1⟩, fun d hd => ?_, fun d hd => ?_⟩
  ·rcases List.mem_append.1 hd with hd | hd
   ·exact ⟨List.mem_append.2 (Or.inl (h3 d hd).1), (h3 d hd).2⟩
   ·rw [List.mem_singleton.1 hd]; exact ⟨by simp, c1⟩
  ·have := h4 d hd
   simp only [List.mem_append, List.mem_singleton]
   constructor
   ·rintro (h | h | h)
    ·rcases this.1 (Or.inl h) with h | h
     ·exact Or.inl h
     ·exact Or.inr (Or.inl h)
    ·rcases this.1 (Or.inr h) with h | h
     ·exact Or.inl h
     ·exact Or.inr (Or.inl h)
    ·exact Or.inr (Or.inr h)
   ·rintro (h | h | h)
    ·rcases this.2 (Or.inl h) with h | h
     ·exact Or.inl h
     ·exact Or.inr (Or.inl h)
    ·rcases this.2 (Or.inr h) with h | h
     ·exact Or.inl h
     ·exact Or.inr (Or.inl h)
    ·exact Or.inr (Or.inr h)
 ·rw [if_neg c1]
  by_cases c2 : x.ctr = getV s.1 x.rep + 1
  ·rw [if_pos c2]
   have hg : ∀ r, getV (raise1 s.1 x) r = if r = x.rep then max (getV s.1 r) x.ctr else getV s.1 r := getV_raise (validV_parts h1).2 (by omega)
   refine ⟨validV_raise h1 hx, h2, fun d hd => ?_, fun d hd => ?_⟩
   ·refine ⟨List.mem_append.2 (Or.inl (h3 d hd).1), ?_⟩
    have k1 := (h3 d hd).2
    have k2 := dlt_ctr (hP d (h3 d hd).1)
    show getV (raise1 s.1 x) d.rep + 1 < d.ctr
    rw [hg]
    by_cases e : d.rep = x.rep
    ·rw [e] at k1; omega
    ·rw [if_neg e]; exact k1
   ·have := h4 d hd
    simp only [List.mem_append, List.mem_singleton]
    rw [hg]
    by_cases e : d.rep = x.rep
    ·rw [if_pos e]
     have e2 : d.ctr ≤ max (getV s.1 d.rep) x.ctr ↔ d.ctr ≤ getV s.1 d.rep ∨ d = x := by
      rw [e]
      constructor
      ·intro h
       by_cases h5 : d.ctr ≤ getV s.1 x.rep
       ·exact Or.inl h5
       ·right
        rcases d with ⟨dr, dc⟩
        rcases x with ⟨xr, xc⟩
        simp only at e h h5 c2
        congr 1
        omega
      ·rintro (h | h)
       ·omega
       ·rw [h]; omega
     rw [e2, or_right_comm, this, or_assoc]
    ·rw [if_neg e, this]
     have hne : d ≠ x := fun h => e (by rw [h])
     simp [hne]
  ·rw [if_neg c2]
   have c3 : x.ctr ≤ getV s.1 x.rep := by omega
   refine ⟨h1, h2, fun d hd => ⟨List.mem_append.2 (Or.inl (h3 d hd).1), (h3 d hd).2⟩, fun d hd => ?_⟩
   have := h4 d hd
   simp only [List.mem_append, List.mem_singleton]
   rw [← or_assoc, ← this]
   constructor
   ·exact fun h => Or.inl h
   ·rintro (h | h)
    ·exact h
    ·rw [h]; exact Or.inl c3
theorem foldX_inv {v : List DotD} : ∀ (Q P : List DotD) (s : List DotD × List DotD), InvX v P s → SS (P ++ Q) → Q.all validDotD = true → InvX v (P ++ Q) (Q.foldl stepX s)
 | [], P, s, h, _, _ => by rw [List.append_nil]; exact h
 | x :: Q, P, s, h, hS, hv => by
  simp only [List.all_cons, Bool.and_eq_true] at hv
  have hs2 := List.pairwise_append.1 hS
  have h1 := stepX_inv h hv.1 (fun y hy => hs2.2.2 y hy x (by simp))
  have e : P ++ x :: Q = P ++ [x] ++ Q := by simp
  rw [e] at hS ⊢
  exact foldX_inv Q (P ++ [x]) (stepX s x) h1 hS hv.2
/-- What Compact makes of a valid context: compact, with the same dots. -/
theorem compactX_spec {v c : List DotD} (h : validX v c = true) : compactB (compactX v c).1 (compactX v c).2 = true ∧ (∀ d ∈ (compactX v c).2, d ∈ c) ∧ ∀ d, hasX (compactX v c).1 (compactX v c).2 d = hasX v c d := by
 obtain ⟨h1, h2, h3⟩ := validX_parts h
 have hi : InvX v ([] ++ c) (c.foldl stepX (v, [])) := foldX_inv c [] (v, []) ⟨h1, List.Pairwise.nil, fun d hd => by simp at hd, fun d _ => Iff.rfl⟩ h2 h3
 rw [List.nil_append] at hi
 have hc : c.foldl stepX (v, []) = compactX v c := rfl
 rw [hc] at hi
 obtain ⟨i1, i2, i3, i4⟩ := hi
 refine ⟨?_, fun d hd => (i3 d hd).1, fun d => ?_⟩
 ·unfold compactB
  rw [validX_of i1 i2 (List.all_eq_true.2 (fun d hd => List.all_eq_true.1 h3 d (i3 d hd).1)), Bool.true_and]
  have : (compactX v c).2.any (nearX (compactX v c).1) = false := List.any_eq_false.2 (fun d hd => by
   have := (i3 d hd).2
   unfold nearX
   rw [decide_eq_true_iff]
   omega)
  rw [this]; rfl
 ·by_cases hv : validDotD d = true
  ·have := i4 d hv
   rw [Bool.eq_iff_iff, hasX_iff, hasX_iff]
   exact ⟨fun h => ⟨h.1, this.1 h.2⟩, fun h => ⟨h.1, this.2 h.2⟩⟩
  ·have e : validDotD d = false := by simpa using hv
   unfold hasX hasV
   rw [e]; rfl
theorem compactB_parts {v c : List DotD} (h : compactB v c = true) : validX v c = true ∧ ∀ d ∈ c, getV v d.rep + 1 < d.ctr := by
 unfold compactB at h
 rw [Bool.and_eq_true] at h
 refine ⟨h.1, fun d hd => ?_⟩
 have h2 := h.2
 rw [Bool.not_eq_true', List.any_eq_false] at h2
 have := h2 d hd
 unfold nearX at this
 rw [decide_eq_true_iff] at this
 omega
/-- A compact context is known by its dots. -/
theorem ctx_ext {v c v2 c2 : List DotD} (h : compactB v c = true) (h2 : compactB v2 c2 = true) (he : ∀ d, hasX v c d = hasX v2 c2 d) : v = v2 ∧ c = c2 := by
 have key : ∀ {v c v2 c2 : List DotD}, compactB v c = true → compactB v2 c2 = true → (∀ d, hasX v c d = hasX v2 c2 d) → ∀ r, getV v r ≤ getV v2 r := fun {v c v2 c2} h h2 he r => by
  obtain ⟨p1, p2⟩ := compactB_parts h
  obtain ⟨q1, q2⟩ := compactB_parts h2
  obtain ⟨v1, v3, v4⟩ := validX_parts p1
  obtain ⟨u1, u3, u4⟩ := validX_parts q1
  have hn := getV_nonneg (validV_parts u1).1 r
  have hn1 := getV_le (validV_parts v1).1 r
  rcases Int.lt_or_le (getV v2 r) (getV v r) with hlt | hge
  ·exfalso
   obtain ⟨d0, m1, m2, m3⟩ := getV_mem (v := v) (r := r) (by omega)
   have hd0 := (validDot_iff d0).1 (List.all_eq_true.1 (validV_parts v1).1 d0 m1)
   have hd : validDotD ⟨r, getV v2 r + 1⟩ = true := (validDot_iff _).2 ⟨by show 1 ≤ r; omega, by show r ≤ 65535; omega, by show 1 ≤ getV v2 r + 1; omega, by show getV v2 r + 1 ≤ 4294967295; omega⟩
   have t1 : hasX v c ⟨r, getV v2 r + 1⟩ = true := (hasX_iff _ _ _).2 ⟨hd, Or.inl (by show getV v2 r + 1 ≤ getV v r; omega)⟩
   rw [he] at t1
   rcases ((hasX_iff _ _ _).1 t1).2 with t | t
   ·have t' : getV v2 r + 1 ≤ getV v2 r := t
    omega
   ·have t' : getV v2 r + 1 < getV v2 r + 1 := q2 _ t
    omega
  ·exact hge
 obtain ⟨p1, p2⟩ := compactB_parts h
 obtain ⟨q1, q2⟩ := compactB_parts h2
 obtain ⟨v1, v3, v4⟩ := validX_parts p1
 obtain ⟨u1, u3, u4⟩ := validX_parts q1
 have ev : v = v2 := vec_ext v1 u1 (fun r => by
  have a := key h h2 he r
  have b := key h2 h (fun d => (he d).symm) r
  omega)
 subst ev
 refine ⟨rfl, ss_ext v3 u3 (fun d => ?_)⟩
 constructor
 ·intro hd
  have hv := List.all_eq_true.1 v4 d hd
  have t : hasX v c d = true := (hasX_iff _ _ _).2 ⟨hv, Or.inr hd⟩
  rw [he] at t
  rcases ((hasX_iff _ _ _).1 t).2 with t | t
  ·have := p2 d hd; omega
  ·exact t
 ·intro hd
  have hv := List.all_eq_true.1 u4 d hd
  have t : hasX v c2 d = true := (hasX_iff _ _ _).2 ⟨hv, Or.inr hd⟩
  rw [← he] at t
  rcases ((hasX_iff _ _ _).1 t).2 with t | t
  ·have := q2 d hd; omega
  ·exact t
/-- Union and Add. -/
def unionV (a b : List DotD) : List DotD := madeV (a ++ b)
def unionX (a b : List DotD × List DotD) : List DotD × List DotD := compactX (unionV a.1 b.1) (setD (a.2 ++ b.2))
def addX (a : List DotD × List DotD) (l : List DotD) : List DotD × List DotD := compactX a.1 (setD (a.2 ++ l))
end Go.Proofs.YtjoljfnlkddfbaaGreatDoor
namespace Go.Proofs.YtjoljfnlkddfbaaGreatDoor

theorem foldmax_none : ∀ {l : List DotD} {r : Int} (n : Int), (∀ d ∈ l, d.rep ≠ r) → l.foldl (fun n d => if d.rep = r then max n d.ctr else n) n = n
 | [], _, _, _ => rfl
 | d :: l, r, n, h => by
  rw [List.foldl_cons, if_neg (h d (by simp))]
  exact foldmax_none n (fun x hx => h x (by simp [hx]))
theorem foldmax_RR : ∀ {l : List DotD} {r : Int} (n : Int), RR l → 0 ≤ n → l.foldl (fun n d => if d.rep = r then max n d.ctr else n) n = max n (getV l r)
 | [], _, n, _, h => by
  show n = max n 0
  omega
 | d :: l, r, n, hl, h => by
  obtain ⟨h1, h2⟩ := List.pairwise_cons.1 hl
  rw [List.foldl_cons]
  by_cases e : d.rep = r
  ·rw [if_pos e, foldmax_none _ (fun x hx => by have := h1 x hx; omega)]
   show _ = max n (if d.rep = r then d.ctr else _)
   rw [if_pos e]
  ·rw [if_neg e, foldmax_RR n h2 h]
   show _ = max n (if d.rep = r then d.ctr else _)
   rw [if_neg e]
theorem validV_nil : validV [] = true := rfl
theorem madeV_valid {l : List DotD} (h : l.all validDotD = true) : validV (madeV l) = true := (foldl_raise validV_nil h).1
theorem getV_made {l : List DotD} (h : l.all validDotD = true) (r : Int) : getV (madeV l) r = l.foldl (fun n d => if d.rep = r then max n d.ctr else n) 0 := (foldl_raise validV_nil h).2 r
theorem getV_unionV {a b : List DotD} (ha : validV a = true) (hb : validV b = true) (r : Int) : getV (unionV a b) r = max (getV a r) (getV b r) := by
 obtain ⟨a1, a2⟩ := validV_parts ha
 obtain ⟨b1, b2⟩ := validV_parts hb
 have hn := getV_nonneg a1 r
 unfold unionV
 rw [getV_made (by rw [List.all_append, a1, b1]; rfl), List.foldl_append, foldmax_RR 0 a2 (Int.le_refl _), foldmax_RR _ b2 (by omega)]
 omega
theorem unionV_valid {a b : List DotD} (ha : validV a = true) (hb : validV b = true) : validV (unionV a b) = true :=
 madeV_valid (by rw [List.all_append, (validV_parts ha).1, (validV_parts hb).1]; rfl)
theorem madeV_self {a : List DotD} (ha : validV a = true) : madeV a = a := by
 obtain ⟨a1, a2⟩ := validV_parts ha
 refine vec_ext (madeV_valid a1) ha (fun r => ?_)
 rw [getV_made a1, foldmax_RR 0 a2 (Int.le_refl _)]
 have := getV_nonneg a1 r
 omega
theorem setD_all {l : List DotD} (h : l.all validDotD = true) : (setD l).all validDotD = true := List.all_eq_true.2 (fun d hd => List.all_eq_true.1 h d ((setD_mem l d).1 hd))
theorem unionX_valid {a b : List DotD × List DotD} (ha : validX a.1 a.2 = true) (hb : validX b.1 b.2 = true) : validX (unionV a.1 b.1) (setD (a.2 ++ b.2)) = true := by
 obtain ⟨a1, a2, a3⟩ := validX_parts ha
 obtain ⟨b1, b2, b3⟩ := validX_parts hb
 exact validX_of (unionV_valid a1 b1) (setD_ss _) (setD_all (by rw [List.all_append, a3, b3]; rfl))
theorem hasX_unionV {a b : List DotD × List DotD} (ha : validX a.1 a.2 = true) (hb : validX b.1 b.2 = true) (d : DotD) : hasX (unionV a.1 b.1) (setD (a.2 ++ b.2)) d = (hasX a.1 a.2 d || hasX b.1 b.2 d) := by
 obtain ⟨a1, a2, a3⟩ := validX_parts ha
 obtain ⟨b1, b2, b3⟩ := validX_parts hb
 rw [Bool.eq_iff_iff, Bool.or_eq_true, hasX_iff, hasX_iff, hasX_iff, getV_unionV a1 b1, setD_mem, List.mem_append]
 constructor
 ·rintro ⟨h1, h2 | h2 | h2⟩
  ·rcases Int.lt_or_le (getV a.1 d.rep) d.ctr with h | h
   ·exact Or.inr ⟨h1, Or.inl (by omega)⟩
   ·exact Or.inl ⟨h1, Or.inl h⟩
  ·exact Or.inl ⟨h1, Or.inr h2⟩
  ·exact Or.inr ⟨h1, Or.inr h2⟩
 ·rintro (⟨h1, h2 | h2⟩ | ⟨h1, h2 | h2⟩)
  ·exact ⟨h1, Or.inl (by omega)⟩
  ·exact ⟨h1, Or.inr (Or.inl h2)⟩
  ·exact ⟨h1, Or.inl (by omega)⟩
  ·exact ⟨h1, Or.inr (Or.inr h2)⟩
theorem unionX_spec {a b : List DotD × List DotD} (ha : validX a.1 a.2 = true) (hb : validX b.1 b.2 = true) : compactB (unionX a b).1 (unionX a b).2 = true ∧ ∀ d, hasX (unionX a b).1 (unionX a b).2 d = (hasX a.1 a.2 d || hasX b.1 b.2 d) := by
 obtain ⟨h1, -, h3⟩ := compactX_spec (unionX_valid ha hb)
 exact ⟨h1, fun d => (h3 d).trans (hasX_unionV ha hb d)⟩
theorem addX_valid {a : List DotD × List DotD} {l : List DotD} (ha : validX a.1 a.2 = true) (hl : l.all validDotD = true) : validX a.1 (setD (a.2 ++ l)) = true := by
 obtain ⟨a1, a2, a3⟩ := validX_parts ha
 exact validX_of a1 (setD_ss _) (setD_all (by rw [List.all_append, a3, hl]; rfl))
theorem addX_spec {a : List DotD × List DotD} {l : List DotD} (ha : validX a.1 a.2 = true) (hl : l.all validDotD = true) : compactB (addX a l).1 (addX a l).2 = true ∧ ∀ d, hasX (addX a l).1 (addX a l).2 d = (hasX a.1 a.2 d || decide (d ∈ l)) := by
 obtain ⟨h1, -, h3⟩ := compactX_spec (addX_valid ha hl)
 refine ⟨h1, fun d => (h3 d).trans ?_⟩
 rw [Bool.eq_iff_iff, Bool.or_eq_true, hasX_iff, hasX_iff, setD_mem, List.mem_append, decide_eq_true_iff]
 constructor
 ·rintro ⟨h1, h2 | h2 | h2⟩
  ·exact Or.inl ⟨h1, Or.inl h2⟩
  ·exact Or.inl ⟨h1, Or.inr h2⟩
  ·exact Or.inr h2
 ·rintro (⟨h1, h2 | h2⟩ | h2)
  ·exact ⟨h1, Or.inl h2⟩
  ·exact ⟨h1, Or.inr (Or.inl h2)⟩
  ·exact ⟨List.all_eq_true.1 hl d h2, Or.inr (Or.inr h2)⟩
end Go.Proofs.YtjoljfnlkddfbaaGreatDoor
namespace Go.Proofs.YtjoljfnlkddfbaaGreatDoor

def mergeD : List DotD → List DotD → List DotD
 | [], b => b
 | x :: a, [] => x :: a
 | x :: a, y :: b => if dlt x y then x :: mergeD a (y :: b) else if dlt y x then y :: mergeD (x :: a) b else x :: mergeD a b
termination_by a b => a.length + b.length
theorem mergeD_nil (a : List DotD) : mergeD a [] = a := by
 cases a <;> unfold mergeD <;> rfl
theorem mergeD_mem : ∀ (a b : List DotD) (z : DotD), z ∈ mergeD a b ↔ z ∈ a ∨ z ∈ b
 | [], b, z => by unfold mergeD; simp
 | x :: a, [], z => by unfold mergeD; simp
 | x :: a, y :: b, z => by
  unfold mergeD
  by_cases h1 : dlt x y = true
  ·rw [if_pos h1, List.mem_cons, mergeD_mem a (y :: b) z, List.mem_cons, List.mem_cons, or_assoc]
  ·rw [if_neg h1]
   by_cases h2 : dlt y x = true
   ·rw [if_pos h2, List.mem_cons, mergeD_mem (x :: a) b z, List.mem_cons, List.mem_cons]
    constructor
    ·rintro (h | h | h)
     ·exact Or.inr (Or.inl h)
     ·exact Or.inl h
     ·exact Or.inr (Or.inr h)
    ·rintro (h | h | h)
     ·exact Or.inr (Or.inl h)
     ·exact Or.inl h
     ·exact Or.inr (Or.inr h)
   ·rw [if_neg h2]
    have e : x = y := dlt_total (by simpa using h1) (by simpa using h2)
    subst e
    rw [List.mem_cons, mergeD_mem a b z, List.mem_cons, List.mem_cons]
    constructor
    ·rintro (h | h | h)
     ·exact Or.inl (Or.inl h)
     ·exact Or.inl (Or.inr h)
     ·exact Or.inr (Or.inr h)
    ·rintro ((h | h) | (h | h))
     ·exact Or.inl h
     ·exact Or.inr (Or.inl h)
     ·exact Or.inl h
     ·exact Or.inr (Or.inr h)
termination_by a b => a.length + b.length
theorem mergeD_ss : ∀ (a b : List DotD), SS a → SS b → SS (mergeD a b)
 | [], b, _, hb => by unfold mergeD; exact hb
 | x :: a, [], ha, _ => by unfold mergeD; exact ha
 | x :: a, y :: b, ha, hb => by
  obtain ⟨a1, a2⟩ := List.pairwise_cons.1 ha
  obtain ⟨b1, b2⟩ := List.pairwise_cons.1 hb
  unfold mergeD
  by_cases h1 : dlt x y = true
  ·rw [if_pos h1]
   refine List.pairwise_cons.2 ⟨fun z hz => ?_, mergeD_ss a (y :: b) a2 hb⟩
   rcases (mergeD_mem _ _ z).1 hz with h | h
   ·exact a1 z h
   ·rcases List.mem_cons.1 h with rfl | h
    ·exact h1
    ·exact dlt_trans h1 (b1 z h)
  ·rw [if_neg h1]
   by_cases h2 : dlt y x = true
   ·rw [if_pos h2]
    refine List.pairwise_cons.2 ⟨fun z hz => ?_, mergeD_ss (x :: a) b ha b2⟩
    rcases (mergeD_mem _ _ z).1 hz with h | h
    ·rcases List.mem_cons.1 h with rfl | h
     ·exact h2
     ·exact dlt_trans h2 (a1 z h)
    ·exact b1 z h
   ·rw [if_neg h2]
    have e : x = y := dlt_total (by simpa using h1) (by simpa using h2)
    subst e
    refine List.pairwise_cons.2 ⟨fun z hz => ?_, mergeD_ss a b a2 b2⟩
    rcases (mergeD_mem _ _ z).1 hz with h | h
    ·exact a1 z h
    ·exact b1 z h
termination_by a b => a.length + b.length
theorem mergeD_setD (a b : List DotD) : mergeD (setD a) (setD b) = setD (a ++ b) :=
 ss_ext (mergeD_ss _ _ (setD_ss a) (setD_ss b)) (setD_ss _) (fun z => by rw [mergeD_mem, setD_mem, setD_mem, setD_mem, List.mem_append])
theorem mergeD_len : ∀ (a b : List DotD), (mergeD a b).length ≤ a.length + b.length
 | [], b => by unfold mergeD; simp
 | x :: a, [] => by unfold mergeD; simp
 | x :: a, y :: b => by
  unfold mergeD
  split
  ·have := mergeD_len a (y :: b)
   simp only [List.length_cons] at this ⊢
   omega
  ·split
   ·have := mergeD_len (x :: a) b
    simp only [List.length_cons] at this ⊢
    omega
   ·have := mergeD_len a b
    simp only [List.length_cons] at this ⊢
    omega
termination_by a b => a.length + b.length
end Go.Proofs.YtjoljfnlkddfbaaGreatDoor
namespace Go.Proofs.YtjoljfnlkddfbaaGreatDoor

/-- What the map holds behind one more dot: its entries in order. -/
def mputD : List DotD → DotD → List DotD
 | [], d => [⟨d.rep, max 0 d.ctr⟩]
 | x :: M, d => if d.rep = x.rep then ⟨x.rep, max x.ctr d.ctr⟩ :: M else x :: mputD M d
def mostD (l : List DotD) : List DotD := l.foldl mputD []
theorem getV_cons (x : DotD) (v : List DotD) (r : Int) : getV (x :: v) r = if x.rep = r then x.ctr else getV v r := rfl
theorem mem_mputD : ∀ {M : List DotD} {d x : DotD}, (M.map (·.rep)).Nodup → (∀ y ∈ M, 0 ≤ y.ctr) → (x ∈ mputD M d ↔ (x ∈ M ∧ x.rep ≠ d.rep) ∨ x = ⟨d.rep, max (getV M d.rep) d.ctr⟩)
 | [], d, x, _, _ => by unfold mputD getV; simp
 | y :: M, d, x, hn, hp => by
  simp only [List.map_cons, List.nodup_cons, List.mem_map, not_exists, not_and] at hn
  unfold mputD
  by_cases e : d.rep = y.rep
  ·rw [if_pos e, List.mem_cons, getV_cons, if_pos e.symm, List.mem_cons]
   constructor
   ·rintro (rfl | h)
    ·exact Or.inr (by rw [e])
    ·exact Or.inl ⟨Or.inr h, fun e2 => hn.1 x h (by rw [e2, e])⟩
   ·rintro (⟨rfl | h, h2⟩ | rfl)
    ·exact absurd e.symm h2
    ·exact Or.inr h
    ·exact Or.inl (by rw [e])
  ·rw [if_neg e, List.mem_cons, getV_cons, if_neg (fun h => e h.symm), List.mem_cons, mem_mputD hn.2 (fun z hz => hp z (by simp [hz]))]
   constructor
   ·rintro (rfl | ⟨h, h2⟩ | h)
    ·exact Or.inl ⟨Or.inl rfl, fun h => e h.symm⟩
    ·exact Or.inl ⟨Or.inr h, h2⟩
    ·exact Or.inr h
   ·rintro (⟨rfl | h, h2⟩ | h)
    ·exact Or.inl rfl
    ·exact Or.inr (Or.inl ⟨h, h2⟩)
    ·exact Or.inr (Or.inr h)
theorem mputD_rep : ∀ {M : List DotD} {d x : DotD}, x ∈ mputD M d → x.rep = d.rep ∨ ∃ y ∈ M, y.rep = x.rep
 | [], d, x, h => by
  unfold mputD at h
  rw [List.mem_singleton.1 h]; exact Or.inl rfl
 | y :: M, d, x, h => by
  unfold mputD at h
  split at h
  ·rename_i e
   rcases List.mem_cons.1 h with rfl | h
   ·exact Or.inl e.symm
   ·exact Or.inr ⟨x, by simp [h], rfl⟩
  ·rcases List.mem_cons.1 h with rfl | h
   ·exact Or.inr ⟨x, by simp, rfl⟩
   ·rcases mputD_rep h with h | ⟨z, hz, e⟩
    ·exact Or.inl h
    ·exact Or.inr ⟨z, by simp [hz], e⟩
theorem mputD_nodup : ∀ {M : List DotD} (d : DotD), (M.map (·.rep)).Nodup → ((mputD M d).map (·.rep)).Nodup
 | [], d, _ => by unfold mputD; simp
 | y :: M, d, hn => by
  unfold mputD
  split
  ·exact hn
  ·rename_i e
   simp only [List.map_cons, List.nodup_cons, List.mem_map, not_exists, not_and] at hn ⊢
   refine ⟨fun x hx ex => ?_, mputD_nodup d hn.2⟩
   rcases mputD_rep hx with h | ⟨z, hz, h⟩
   ·exact e (by rw [← h, ex])
   ·exact hn.1 z hz (by rw [h, ex])
theorem mputD_nonneg : ∀ {M : List DotD} {d : DotD}, (∀ y ∈ M, 0 ≤ y.ctr) → ∀ y ∈ mputD M d, 0 ≤ y.ctr
 | [], d, _, y, hy => by
  unfold mputD at hy
  rw [List.mem_singleton.1 hy]
  show 0 ≤ max 0 d.ctr
  omega
 | x :: M, d, h, y, hy => by
  unfold mputD at hy
  split at hy
  ·rcases List.mem_cons.1 hy with rfl | hy
   ·have := h x (by simp)
    show 0 ≤ max x.ctr d.ctr
    omega
   ·exact h y (by simp [hy])
  ·rcases List.mem_cons.1 hy with rfl | hy
   ·exact h _ (by simp)
   ·exact mputD_nonneg (fun z hz => h z (by simp [hz])) y hy
theorem getV_nodup : ∀ {M : List DotD} {d : DotD}, (M.map (·.rep)).Nodup → d ∈ M → getV M d.rep = d.ctr
 | [], _, _, h => by simp at h
 | x :: M, d, hn, h => by
  simp only [List.map_cons, List.nodup_cons, List.mem_map, not_exists, not_and] at hn
  rw [getV_cons]
  rcases List.mem_cons.1 h with rfl | h
  ·rw [if_pos rfl]
  ·rw [if_neg (fun e => hn.1 d h e.symm)]
   exact getV_nodup hn.2 h
theorem getV_mput {M : List DotD} (hn : (M.map (·.rep)).Nodup) (hp : ∀ y ∈ M, 0 ≤ y.ctr) (d : DotD) (r : Int) : getV (mputD M d) r = if r = d.rep then max (getV M r) d.ctr else getV M r := by
 have hn2 := mputD_nodup d hn
 by_cases e : r = d.rep
 ·subst e
  rw [if_pos rfl]
  have hm : (⟨d.rep, max (getV M d.rep) d.ctr⟩ : DotD) ∈ mputD M d := (mem_mputD hn hp).2 (Or.inr rfl)
  exact getV_nodup hn2 hm
 ·rw [if_neg e]
  by_cases hx : ∃ y ∈ M, y.rep = r
  ·obtain ⟨y, hy, rfl⟩ := hx
   rw [getV_nodup hn hy]
   exact getV_nodup hn2 ((mem_mputD hn hp).2 (Or.inl ⟨hy, e⟩))
  ·rw [getV_none (fun y hy he => hx ⟨y, hy, he⟩)]
   exact getV_none (fun y hy he => by
    rcases mputD_rep hy with h | ⟨z, hz, h⟩
    ·exact e (by rw [← he, h])
    ·exact hx ⟨z, hz, by rw [h, he]⟩)
theorem mostD_inv {l : List DotD} (hl : l.all validDotD = true) : ((mostD l).map (·.rep)).Nodup ∧ (∀ y ∈ mostD l, 0 ≤ y.ctr) ∧ (∀ y ∈ mostD l, ∃ d ∈ l, d.rep = y.rep ∧ 1 ≤ y.ctr) ∧ ∀ r, getV (mostD l) r = l.foldl (fun n d => if d.rep = r then max n d.ctr else n) 0 := by
 have key : ∀ (Q : List DotD) (P M : List DotD), Q.all validDotD = true → (M.map (·.rep)).Nodup → (∀ y ∈ M, 0 ≤ y.ctr) → (∀ y ∈ M, ∃ d ∈ P, d.rep = y.rep ∧ 1 ≤ y.ctr) →
   ((Q.foldl mputD M).map (·.rep)).Nodup ∧ (∀ y ∈ Q.foldl mputD M, 0 ≤ y.ctr) ∧ (∀ y ∈ Q.foldl mputD M, ∃ d ∈ P ++ Q, d.rep = y.rep ∧ 1 ≤ y.ctr) ∧ ∀ r, getV (Q.foldl mputD M) r = Q.foldl (fun n d => if d.rep = r then max n d.ctr else n) (getV M r) := by
  intro Q
  induction Q with
  | nil => exact fun P M _ h1 h2 h3 => ⟨h1, h2, fun y hy => by rw [List.append_nil]; exact h3 y hy, fun r => rfl⟩
  | cons d Q ih =>
   intro P M hv h1 h2 h3
   simp only [List.all_cons, Bool.and_eq_true] at hv
   have hd := (validDot_iff d).1 hv.1
   obtain ⟨i1, i2, i3, i4⟩ := ih (P ++ [d]) (mputD M d) hv.2 (mputD_nodup d h1) (mputD_nonneg h2) (fun y hy => by
    rcases (mem_mputD h1 h2).1 hy with ⟨h, _⟩ | rfl
    ·obtain ⟨e, he, k⟩ := h3 y h
     exact ⟨e, by simp [he], k⟩
    ·exact ⟨d, by simp, rfl, by show 1 ≤ max _ d.ctr; omega⟩)
   refine ⟨i1, i2, fun y hy => ?_, fun r => ?_⟩
   ·have := i3 y hy
    rw [List.append_assoc] at this
    exact this
   ·rw [List.foldl_cons, i4, getV_mput h1 h2, List.foldl_cons]
    by_cases e : d.rep = r
    ·rw [if_pos e.symm, if_pos e]
    ·rw [if_neg (fun h => e h.symm), if_neg e]
 have := key l [] [] hl (by simp) (by simp) (by simp)
 exact this
theorem pairwise_perm_nodup {l : List DotD} (h : RR l) : (l.map (·.rep)).Nodup := by
 refine List.pairwise_map.2 (h.imp (fun {a b} h e => ?_))
 omega
/-- The map's entries, in the order of their replicas, are the vector. -/
theorem mostD_perm {l : List DotD} (hl : l.all validDotD = true) : (mostD l).Perm (madeV l) := by
 obtain ⟨h1, h2, h3, h4⟩ := mostD_inv hl
 obtain ⟨v1, v2⟩ := validV_parts (madeV_valid hl)
 have hg : ∀ r, getV (mostD l) r = getV (madeV l) r := fun r => by rw [h4, getV_made hl]
 have n1 : (mostD l).Nodup := (List.pairwise_map.1 h1).imp (fun {a b} h e => h (by rw [e]))
 have n2 : (madeV l).Nodup := (List.pairwise_map.1 (pairwise_perm_nodup v2)).imp (fun {a b} h e => h (by rw [e]))
 refine (List.perm_ext_iff_of_nodup n1 n2).2 (fun x => ⟨fun hx => ?_, fun hx => ?_⟩)
 ·have e1 := getV_nodup h1 hx
  obtain ⟨d, hd, hr, hc⟩ := h3 x hx
  rw [hg] at e1
  obtain ⟨y, hy, y1, y2⟩ := getV_mem (v := madeV l) (r := x.rep) (by omega)
  have : y = x := by
   rcases y with ⟨a, b⟩
   rcases x with ⟨a2, b2⟩
   simp only at y1 y2 e1
   rw [y1, y2, e1]
  rw [← this]; exact hy
 ·have e1 := getV_of_mem v2 hx
  have hp := (validDot_iff x).1 (List.all_eq_true.1 v1 x hx)
  rw [← hg] at e1
  obtain ⟨y, hy, y1, y2⟩ := getV_mem (v := mostD l) (r := x.rep) (by omega)
  have : y = x := by
   rcases y with ⟨a, b⟩
   rcases x with ⟨a2, b2⟩
   simp only at y1 y2 e1
   rw [y1, y2, e1]
  rw [← this]; exact hy
/-- Sorted by replica, it is the vector itself. -/
theorem made_sorted {l m : List DotD} (hl : l.all validDotD = true) (hp : m.Perm (mostD l)) (hs : m.Pairwise (fun a b => ¬ b.rep < a.rep)) : m = madeV l := by
 obtain ⟨v1, v2⟩ := validV_parts (madeV_valid hl)
 have hpm := hp.trans (mostD_perm hl)
 have hn : (m.map (·.rep)).Nodup := (hpm.map _).nodup_iff.2 (pairwise_perm_nodup v2)
 have hr : RR m := by
  have h1 := List.pairwise_map.1 hn
  exact (hs.and h1).imp (fun {a b} h => by omega)
 have key : ∀ {a b : List DotD}, RR a → RR b → a.Perm b → a = b := by
  intro a
  induction a with
  | nil => intro b _ _ h; exact h.nil_eq
  | cons x a ih =>
   intro b ha hb h
   cases b with
   | nil => exact absurd h.length_eq (by simp)
   | cons y b =>
    obtain ⟨a1, a2⟩ := List.pairwise_cons.1 ha
    obtain ⟨b1, b2⟩ := List.pairwise_cons.1 hb
    have e : x = y := by
     rcases List.mem_cons.1 (h.mem_iff.1 (List.mem_cons_self)) with e | e
     ·exact e
     ·rcases List.mem_cons.1 (h.mem_iff.2 (List.mem_cons_self)) with e2 | e2
      ·exact e2.symm
      ·have := b1 x e
       have := a1 y e2
       omega
    subst e
    rw [ih a2 b2 (List.perm_cons x |>.1 h)]
 exact key hr v2 hpm
end Go.Proofs.YtjoljfnlkddfbaaGreatDoor
namespace Go.Proofs.YtjoljfnlkddfbaaGreatDoor
/-! ### Raise as the reference's loop reckons it -/
end Go.Proofs.YtjoljfnlkddfbaaGreatDoor
