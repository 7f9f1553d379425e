/- Stage 22: what move computes, in plain Lean. -/
import Derived.Test.YtjoljfnlkddfbaaGreatDoorE7
set_option linter.unusedSimpArgs false
set_option linter.unusedVariables false
set_option maxRecDepth 100000
namespace Go.Proofs.YtjoljfnlkddfbaaGreatDoor

/-- qty.Sum. -/
def sumG : Int → List Int → Option Int
 | n, [] => some n
 | n, q :: l => if validQ q && validQ (n + q) then sumG (n + q) l else none
def sumE (l : List Int) : Int := if l = [] then 9 else match sumG 0 l with | some _ => 0 | none => 14
def sumV (l : List Int) : Int := if l = [] then 0 else (sumG 0 l).getD 0
/-- move.Sum. -/
def mSumE (c : CartD) (nm : ByteArray) (q : Int) : Int := if validC c && nameB nm then (if validQ q && validQ (qtyC c nm + q) then 0 else 14) else 2
def mSum (c : CartD) (nm : ByteArray) (q : Int) : Int := if mSumE c nm q = 0 then qtyC c nm + q else 0
theorem validQ_iff (q : Int) : validQ q = true ↔ 1 ≤ q ∧ q ≤ 2147483647 := by simp [validQ]
theorem qtyC_valid {c : CartD} {nm : ByteArray} (hc : validC c = true) (ht : thereB c.items nm = true) : 1 ≤ qtyC c nm ∧ qtyC c nm ≤ 2147483647 := by
 obtain ⟨h1, h2⟩ := thereB_find ht
 have := qtyI_pos ((validI_parts (validC_parts hc).2.1).1 _ h1)
 unfold qtyC
 rw [hc, ht]
 exact this
theorem qtyC_none {c : CartD} {nm : ByteArray} (ht : thereB c.items nm = false) : qtyC c nm = 0 := by unfold qtyC; rw [ht]; simp
theorem qtyC_zero {c : CartD} {nm : ByteArray} (hc : validC c = true) : qtyC c nm = 0 ↔ thereB c.items nm = false := by
 constructor
 ·intro h
  cases ht : thereB c.items nm with
  | false => rfl
  | true => have := qtyC_valid hc ht; omega
 ·exact qtyC_none
theorem qtyC_bound (c : CartD) (nm : ByteArray) : 0 ≤ qtyC c nm ∧ qtyC c nm ≤ 2147483647 := by
 by_cases h : (validC c && thereB c.items nm) = true
 ·simp only [Bool.and_eq_true] at h
  have := qtyC_valid h.1 h.2
  omega
 ·have : qtyC c nm = 0 := by unfold qtyC; rw [if_neg h]
  omega
/-- The sum as qty.Sum reckons it. -/
theorem mSum_list {c : CartD} {nm : ByteArray} {q : Int} (hc : validC c = true) (hn : nameB nm = true) :
  mSumE c nm q = sumE (if thereB c.items nm then [q, qtyC c nm] else [q]) ∧ mSum c nm q = sumV (if thereB c.items nm then [q, qtyC c nm] else [q]) := by
 have h1 : mSumE c nm q = sumE (if thereB c.items nm then [q, qtyC c nm] else [q]) := by
  unfold mSumE sumE
  rw [hc, hn]
  cases ht : thereB c.items nm with
  | false =>
   rw [qtyC_none ht]
   cases hq : validQ q <;> simp [sumG, hq]
  | true =>
   have hv := qtyC_valid hc ht
   have hv' : validQ (qtyC c nm) = true := (validQ_iff _).2 hv
   rw [Int.add_comm]
   cases hq : validQ q <;> cases hs : validQ (q + qtyC c nm) <;> simp [sumG, hq, hs, hv']
 refine ⟨h1, ?_⟩
 unfold mSum
 rw [h1]
 cases ht : thereB c.items nm with
 | false =>
  rw [qtyC_none ht]
  cases hq : validQ q <;> simp [sumE, sumV, sumG, hq]
 | true =>
  have hv := qtyC_valid hc ht
  have hv' : validQ (qtyC c nm) = true := (validQ_iff _).2 hv
  rw [Int.add_comm]
  cases hq : validQ q <;> cases hs : validQ (q + qtyC c nm) <;> simp [sumE, sumV, sumG, hq, hs, hv']
theorem mSumE_zero {c : CartD} {nm : ByteArray} {q : Int} (h : mSumE c nm q = 0) : validC c = true ∧ nameB nm = true ∧ validQ q = true ∧ validQ (qtyC c nm + q) = true ∧ mSum c nm q = qtyC c nm + q := by
 have h' := h
 unfold mSumE at h
 cases hv : validC c <;> cases hn : nameB nm <;> cases hq : validQ q <;> cases hs : validQ (qtyC c nm + q) <;> simp [hv, hn, hq, hs] at h ⊢
 unfold mSum
 rw [if_pos h']
/-! ### The names of two carts -/
def hasL (s : List ByteArray) (nm : ByteArray) : Bool := s.any (fun x => decide (x = nm))
theorem hasL_iff {s : List ByteArray} {nm : ByteArray} : hasL s nm = true ↔ nm ∈ s := by
 unfold hasL
 rw [List.any_eq_true]
 simp
def addN (s : List ByteArray) (nm : ByteArray) : List ByteArray := if hasL s nm then s else s ++ [nm]
def seenL (l : List ByteArray) : List ByteArray := l.foldl addN []
theorem addN_mem (s : List ByteArray) (nm x : ByteArray) : x ∈ addN s nm ↔ x ∈ s ∨ x = nm := by
 unfold addN
 split
 ·rename_i h
  constructor
  ·exact Or.inl
  ·rintro (h2 | rfl)
   ·exact h2
   ·exact hasL_iff.1 h
 ·simp
theorem addN_nodup {s : List ByteArray} (h : s.Nodup) (nm : ByteArray) : (addN s nm).Nodup := by
 unfold addN
 split
 ·exact h
 ·rename_i hn
  rw [List.nodup_append]
  refine ⟨h, by simp, fun a ha b hb => ?_⟩
  rw [List.mem_singleton.1 hb]
  exact fun e => hn (hasL_iff.2 (e ▸ ha))
theorem foldN : ∀ (l s : List ByteArray), s.Nodup → (l.foldl addN s).Nodup ∧ ∀ x, x ∈ l.foldl addN s ↔ x ∈ s ∨ x ∈ l
 | [], s, h => ⟨h, fun x => by simp⟩
 | a :: l, s, h => by
  obtain ⟨h1, h2⟩ := foldN l (addN s a) (addN_nodup h a)
  refine ⟨h1, fun x => ?_⟩
  rw [List.foldl_cons, h2, addN_mem, List.mem_cons, or_assoc]
/-- move.Many. -/
def manyN (a b : CartD) : Nat := b.items.length + (a.items.filter (fun x => !thereB b.items x.name)).length
theorem names_nodup {l : List ItemD} (h : validI l = true) : (l.map (·.name)).Nodup := rising_nodup (risB_iff.1 (validI_parts h).2.1)
theorem thereB_names {l : List ItemD} {nm : ByteArray} : thereB l nm = true ↔ nm ∈ l.map (·.name) := by
 rw [List.mem_map]
 unfold thereB
 rw [List.any_eq_true]
 simp
theorem thereB_not {l : List ItemD} {nm : ByteArray} : thereB l nm = false ↔ nm ∉ l.map (·.name) := by
 rw [← Bool.not_eq_true, thereB_names]
theorem seen_many {a b : CartD} (ha : validC a = true) (hb : validC b = true) : (seenL (a.items.map (·.name) ++ b.items.map (·.name))).length = manyN a b := by
 have na := names_nodup (validC_parts ha).2.1
 have nb := names_nodup (validC_parts hb).2.1
 obtain ⟨h1, h2⟩ := foldN (a.items.map (·.name) ++ b.items.map (·.name)) [] List.nodup_nil
 have hf : ((a.items.filter (fun x => !thereB b.items x.name)).map (·.name)).Nodup := na.sublist ((List.filter_sublist (p := fun x => !thereB b.items x.name) (l := a.items)).map _)
 have hm : ∀ x, x ∈ (a.items.filter (fun x => !thereB b.items x.name)).map (·.name) ↔ x ∈ a.items.map (·.name) ∧ x ∉ b.items.map (·.name) := fun x => by
  simp only [List.mem_map, List.mem_filter, Bool.not_eq_true']
  constructor
  ·rintro ⟨y, ⟨hy, hy2⟩, rfl⟩
   refine ⟨⟨y, hy, rfl⟩, ?_⟩
   exact fun hx => thereB_not.1 hy2 (List.mem_map.2 hx)
  ·rintro ⟨⟨y, hy, rfl⟩, h⟩
   refine ⟨y, ⟨hy, ?_⟩, rfl⟩
   exact thereB_not.2 (fun hx => h (List.mem_map.1 hx))
 have hg : (b.items.map (·.name) ++ (a.items.filter (fun x => !thereB b.items x.name)).map (·.name)).Nodup := by
  rw [List.nodup_append]
  exact ⟨nb, hf, fun x hx y hy e => ((hm y).1 hy).2 (e ▸ hx)⟩
 have hp := (List.perm_ext_iff_of_nodup h1 hg).2 (fun x => by
  rw [h2, List.mem_append, List.mem_append, hm]
  constructor
  ·rintro (h | h | h)
   ·cases h
   ·by_cases e : x ∈ b.items.map (·.name)
    ·exact Or.inl e
    ·exact Or.inr ⟨h, e⟩
   ·exact Or.inl h
  ·rintro (h | h)
   ·exact Or.inr (Or.inr h)
   ·exact Or.inr (Or.inl h.1))
 have := hp.length_eq
 unfold seenL manyN
 rw [this, List.length_append, List.length_map, List.length_map]
def mManyE (a b : CartD) : Int := if validC a && validC b then 0 else 2
def mMany (a b : CartD) : Int := if validC a && validC b then (manyN a b : Int) else 0
/-! ### come and Wish -/
def comeE (t : CartD) (d : DotD) (nm : ByteArray) (q : Int) : Int := if mSumE t nm q = 0 then putCE t d nm (mSum t nm q) false else mSumE t nm q
def comeX (t : CartD) (d : DotD) (nm : ByteArray) (q : Int) : CartD := if comeE t d nm q = 0 then putC t d nm (mSum t nm q) false else zeroC
def comeQ (t : CartD) (d : DotD) (nm : ByteArray) (q : Int) : Int := if comeE t d nm q = 0 then mSum t nm q else 0
theorem comeE_zero {t : CartD} {d : DotD} {nm : ByteArray} {q : Int} (h : comeE t d nm q = 0) : mSumE t nm q = 0 ∧ putCE t d nm (mSum t nm q) false = 0 := by
 unfold comeE at h
 by_cases e : mSumE t nm q = 0
 ·rw [if_pos e] at h; exact ⟨e, h⟩
 ·rw [if_neg e] at h; exact absurd h e
theorem comeX_eq {t : CartD} {d : DotD} {nm : ByteArray} {q : Int} (h : mSumE t nm q = 0) : comeX t d nm q = putC t d nm (mSum t nm q) false := by
 unfold comeX comeE
 rw [if_pos h]
 by_cases e : putCE t d nm (mSum t nm q) false = 0
 ·rw [if_pos e]
 ·rw [if_neg e, put_zero e]
def wishOk (f t : CartD) (nm : ByteArray) (d : DotD) : Bool := validC f && validC t && nameB nm && freshC t d
def wishE (f t : CartD) (nm : ByteArray) (d : DotD) : Int := if wishOk f t nm d then (if thereB f.items nm then comeE t d nm (qtyC f nm) else 9) else 2
def wishX (f t : CartD) (nm : ByteArray) (d : DotD) : CartD := if wishE f t nm d = 0 then remC f nm else zeroC
def wishY (f t : CartD) (nm : ByteArray) (d : DotD) : CartD := if wishE f t nm d = 0 then comeX t d nm (qtyC f nm) else zeroC
def wishQ (f t : CartD) (nm : ByteArray) (d : DotD) : Int := if wishE f t nm d = 0 then comeQ t d nm (qtyC f nm) else 0
theorem wishOk_parts {f t : CartD} {nm : ByteArray} {d : DotD} (h : wishOk f t nm d = true) : validC f = true ∧ validC t = true ∧ nameB nm = true ∧ freshC t d = true := by
 unfold wishOk at h
 simp only [Bool.and_eq_true] at h
 exact ⟨h.1.1.1, h.1.1.2, h.1.2, h.2⟩
theorem rem_there {c : CartD} {nm : ByteArray} (hc : validC c = true) (hn : nameB nm = true) (ht : thereB c.items nm = true) : remCE c nm = 0 := by
 unfold remCE
 rw [hc, hn, ht]
 rfl
/-- The error of a sum of quantities that are there. -/
theorem mSumE_there {f t : CartD} {nm : ByteArray} (hf : validC f = true) (ht : validC t = true) (hn : nameB nm = true) (hth : thereB f.items nm = true) : mSumE t nm (qtyC f nm) = if 2147483647 < qtyC f nm + qtyC t nm then 14 else 0 := by
 have h1 := qtyC_valid hf hth
 have h2 := qtyC_bound t nm
 unfold mSumE
 rw [ht, hn, (validQ_iff _).2 h1]
 by_cases h : 2147483647 < qtyC f nm + qtyC t nm
 ·have : validQ (qtyC t nm + qtyC f nm) = false := by
   rw [← Bool.not_eq_true, validQ_iff]; omega
  simp [this, h]
 ·have : validQ (qtyC t nm + qtyC f nm) = true := by
   rw [validQ_iff]; omega
  simp [this, h]
/-! ### Login -/
def loginOk (f t : CartD) (l : List DotD) : Bool := validC f && validC t && decide (l.length = f.items.length) && isSetB l && l.all (freshC t)
def loginMuch (f t : CartD) : Bool := f.items.any (fun x => !decide (mSumE t x.name (qtyC f x.name) = 0))
def loginE (f t : CartD) (l : List DotD) : Int := if loginOk f t l then (if loginMuch f t then 14 else if 256 < manyN f t ∧ t.items.length < manyN f t then 13 else 0) else 2
/-- The loop of Login: the other cart, the deltas, and the error. -/
def logL (f : CartD) : CartD → List (ItemD × DotD) → List CartD → CartD × List CartD × Int
 | t, [], ds => (t, ds, 0)
 | t, (x, d) :: l, ds => if comeE t d x.name (qtyC f x.name) = 0 then logL f (refJoin t (comeX t d x.name (qtyC f x.name))) l (ds ++ [comeX t d x.name (qtyC f x.name)]) else (t, ds, comeE t d x.name (qtyC f x.name))
def logF (f t : CartD) (l : List DotD) : CartD × List CartD × Int := logL f t (f.items.zip l) []
def logE (f t : CartD) (l : List DotD) : Int := if loginE f t l = 0 then (logF f t l).2.2 else loginE f t l
def logX (f t : CartD) (l : List DotD) : CartD := if logE f t l = 0 then clrC f else zeroC
def logY (f t : CartD) (l : List DotD) : CartD := if logE f t l = 0 then allC (logF f t l).2.1 else zeroC
theorem loginOk_parts {f t : CartD} {l : List DotD} (h : loginOk f t l = true) : validC f = true ∧ validC t = true ∧ l.length = f.items.length ∧ isSetB l = true ∧ ∀ d ∈ l, freshC t d = true := by
 unfold loginOk at h
 simp only [Bool.and_eq_true, decide_eq_true_iff, List.all_eq_true] at h
 exact ⟨h.1.1.1.1, h.1.1.1.2, h.1.1.2, h.1.2, h.2⟩
theorem item_named {c : CartD} (hc : validC c = true) {x : ItemD} (hx : x ∈ c.items) : nameB x.name = true := by
 have := (validI_parts (validC_parts hc).2.1).1 x hx
 unfold oneI at this
 simp only [Bool.and_eq_true] at this
 exact this.1.1.1
/-- What a delta of come changes. -/
theorem come_ok {t : CartD} {d : DotD} {nm : ByteArray} {q : Int} (h : comeE t d nm q = 0) :
  comeX t d nm q = putOf t d nm (qtyC t nm + q) ∧ comeQ t d nm q = qtyC t nm + q ∧ validC t = true ∧ validC (comeX t d nm q) = true ∧ validC (refJoin t (comeX t d nm q)) = true ∧
  (refJoin t (comeX t d nm q)).items = putI t.items ⟨nm, [newM t d (qtyC t nm + q)]⟩ ∧ qtyC (refJoin t (comeX t d nm q)) nm = qtyC t nm + q ∧ nameB nm = true ∧ freshC t d = true := by
 obtain ⟨h1, h2⟩ := comeE_zero h
 obtain ⟨-, -, -, -, e⟩ := mSumE_zero h1
 have hx := comeX_eq (d := d) h1
 obtain ⟨p1, p2, p3, p4, p5, p6, p7, p8, p9, -⟩ := put_holds h2
 rw [e] at p1 p4 p7 p8 p9 h2
 rw [hx, e, p1]
 refine ⟨rfl, by unfold comeQ; rw [if_pos h, e], p2, p4, join_valid p2 p4, by rw [p7], p9, p5, p3⟩
theorem find_ne {l m : List ItemD} {nm : ByteArray} (hl : validI l = true) (hm : validI m = true) (h : ∀ y, y.name = nm → (y ∈ l ↔ y ∈ m)) : thereB l nm = thereB m nm ∧ (thereB l nm = true → findX l nm = findX m nm) := by
 have ht : thereB l nm = thereB m nm := by
  rw [Bool.eq_iff_iff]
  unfold thereB
  simp only [List.any_eq_true, decide_eq_true_iff]
  exact ⟨fun ⟨y, hy, e⟩ => ⟨y, (h y e).1 hy, e⟩, fun ⟨y, hy, e⟩ => ⟨y, (h y e).2 hy, e⟩⟩
 refine ⟨ht, fun h1 => ?_⟩
 obtain ⟨f1, f2⟩ := thereB_find h1
 have := findX_mem hm ((h _ f2).1 f1)
 rw [f2] at this
 exact this.symm
/-- The quantities of the others stay. -/
theorem qty_putI {t c : CartD} {x : ItemD} {nm : ByteArray} (ht : validC t = true) (hc : validC c = true) (hi : c.items = putI t.items x) (hne : nm ≠ x.name) : qtyC c nm = qtyC t nm ∧ thereB c.items nm = thereB t.items nm := by
 have hv := (validC_parts hc).2.1
 have hm : ∀ y : ItemD, y.name = nm → (y ∈ c.items ↔ y ∈ t.items) := fun y hy => by
  rw [hi, mem_putI, mem_dropN]
  constructor
  ·rintro (h | rfl)
   ·exact h.1
   ·exact absurd hy.symm hne
  ·exact fun h => Or.inl ⟨h, fun e => hne (hy ▸ e)⟩
 obtain ⟨h1, h2⟩ := find_ne hv (validC_parts ht).2.1 hm
 refine ⟨?_, h1⟩
 unfold qtyC
 rw [hc, ht, h1]
 cases h : thereB t.items nm with
 | false => rfl
 | true => rw [h2 (h1.trans h)]
theorem qty_come {t : CartD} {d : DotD} {n1 nm : ByteArray} {q : Int} (h : comeE t d n1 q = 0) (hne : nm ≠ n1) : qtyC (refJoin t (comeX t d n1 q)) nm = qtyC t nm ∧ thereB (refJoin t (comeX t d n1 q)).items nm = thereB t.items nm := by
 obtain ⟨-, -, p1, p2, p3, p4, -⟩ := come_ok h
 exact qty_putI p1 p3 p4 hne
/-! ### The loop of Login -/
theorem logL_snoc (f : CartD) (x : ItemD) (d : DotD) : ∀ (P : List (ItemD × DotD)) (t : CartD) (ds : List CartD), logL f t (P ++ [(x, d)]) ds = if (logL f t P ds).2.2 = 0 then (if comeE (logL f t P ds).1 d x.name (qtyC f x.name) = 0 then (refJoin (logL f t P ds).1 (comeX (logL f t P ds).1 d x.name (qtyC f x.name)), (logL f t P ds).2.1 ++ [comeX (logL f t P ds).1 d x.name (qtyC f x.name)], 0) else ((logL f t P ds).1, (logL f t P ds).2.1, comeE (logL f t P ds).1 d x.name (qtyC f x.name))) else logL f t P ds
 | [], t, ds => by
  show logL f t [(x, d)] ds = _
  simp only [logL]
  rfl
 | (y, e) :: P, t, ds => by
  show logL f t ((y, e) :: (P ++ [(x, d)])) ds = _
  simp only [logL]
  by_cases h : comeE t e y.name (qtyC f y.name) = 0
  ·simp only [h, if_true]
   exact logL_snoc f x d P _ _
  ·simp only [h, if_false]
theorem logL_stop (f : CartD) : ∀ (P Q : List (ItemD × DotD)) (t : CartD) (ds : List CartD), (logL f t P ds).2.2 ≠ 0 → logL f t (P ++ Q) ds = logL f t P ds
 | [], Q, t, ds, h => absurd rfl h
 | (y, e) :: P, Q, t, ds, h => by
  show logL f t ((y, e) :: (P ++ Q)) ds = _
  simp only [logL] at h ⊢
  by_cases he : comeE t e y.name (qtyC f y.name) = 0
  ·simp only [he, if_true] at h ⊢
   exact logL_stop f P Q _ _ h
  ·simp only [he, if_false]
/-- How great the cart of the loop is at most. -/
def LogI (M n v : Nat) (t : CartD) : Prop := validC t = true ∧ t.items.length ≤ n ∧ (∀ x ∈ t.items, x.marks.length ≤ M) ∧ t.vec.length + t.cloud.length ≤ v
theorem addX_len (a : List DotD × List DotD) (l : List DotD) : (addX a l).1.length + (addX a l).2.length ≤ a.1.length + a.2.length + l.length := by
 have h1 := foldX_len (setD (a.2 ++ l)) (a.1, [])
 have h2 := setD_leL (a.2 ++ l)
 rw [List.length_append] at h2
 unfold addX compactX
 simp only [List.length_nil] at h1
 omega
theorem putI_len (l : List ItemD) (x : ItemD) : (putI l x).length ≤ l.length + 1 := by
 unfold putI
 rw [insI_len]
 have := List.length_filter_le (fun y : ItemD => !decide (y.name = x.name)) l
 unfold dropN
 omega
theorem log_step {M n v : Nat} {t : CartD} {d : DotD} {nm : ByteArray} {q : Int} (h : LogI M n v t) (hM : 1 ≤ M) (he : comeE t d nm q = 0) :
  LogI M (n + 1) (v + 1) (refJoin t (comeX t d nm q)) ∧ validC (comeX t d nm q) = true ∧ CL (M + 1) (comeX t d nm q) := by
 obtain ⟨h1, h2, h3, h4⟩ := h
 obtain ⟨e1, e2, e3, e4, e5, e6, e7, e8, e9⟩ := come_ok he
 obtain ⟨c1, c2⟩ := comeE_zero he
 obtain ⟨p1, p2, p3, p4, p5, p6, p7, p8, -⟩ := put_holds c2
 have hmm := (mSumE_zero c1).2.2.2.2
 rw [hmm] at p7
 rw [e1] at *
 have hdn : (dotsC t nm).length ≤ M := by
  rw [dotsC_named h1 e8]
  unfold dotsM
  rw [List.length_map]
  exact marksOf_len h3 nm
 refine ⟨⟨e5, ?_, ?_, ?_⟩, e4, putOf_CL (by omega)⟩
 ·rw [e6]
  have := putI_len t.items ⟨nm, [newM t d (qtyC t nm + q)]⟩
  omega
 ·intro x hx
  rw [e6] at hx
  rcases mem_putI.1 hx with hx | rfl
  ·exact h3 x (mem_dropN.1 hx).1
  ·simpa using hM
 ·rw [p7]
  have := addX_len (t.vec, t.cloud) [d]
  simp only [List.length_cons, List.length_nil] at this
  show (addX (t.vec, t.cloud) [d]).1.length + (addX (t.vec, t.cloud) [d]).2.length ≤ v + 1
  omega
theorem LogI.mono {M n v n2 v2 : Nat} {t : CartD} (h : LogI M n v t) (hn : n ≤ n2) (hv : v ≤ v2) : LogI M n2 v2 t := ⟨h.1, by have := h.2.1; omega, h.2.2.1, by have := h.2.2.2; omega⟩
theorem log_inv {M : Nat} (hM : 1 ≤ M) (f : CartD) : ∀ (P : List (ItemD × DotD)) (t : CartD) (ds : List CartD) (n v : Nat), LogI M n v t → (∀ c ∈ ds, validC c = true ∧ CL (M + 1) c) →
  LogI M (n + P.length) (v + P.length) (logL f t P ds).1 ∧ (∀ c ∈ (logL f t P ds).2.1, validC c = true ∧ CL (M + 1) c) ∧ (logL f t P ds).2.1.length ≤ ds.length + P.length ∧ ((logL f t P ds).2.2 = 0 → (logL f t P ds).2.1.length = ds.length + P.length ∧ (logL f t P ds).1 = ((logL f t P ds).2.1.drop ds.length).foldl refJoin t ∧ (logL f t P ds).2.1.take ds.length = ds)
 | [], t, ds, n, v, h, hd => ⟨h, hd, by simp [logL], fun _ => by simp [logL]⟩
 | (y, e) :: P, t, ds, n, v, h, hd => by
  simp only [logL, List.length_cons]
  by_cases he : comeE t e y.name (qtyC f y.name) = 0
  ·simp only [he, if_true]
   obtain ⟨s1, s2, s3⟩ := log_step h hM he
   obtain ⟨i1, i2, i3, i4⟩ := log_inv hM f P _ (ds ++ [comeX t e y.name (qtyC f y.name)]) (n + 1) (v + 1) s1 (fun c hc => by
    rcases List.mem_append.1 hc with hc | hc
    ·exact hd c hc
    ·rw [List.mem_singleton.1 hc]; exact ⟨s2, s3⟩)
   rw [List.length_append, List.length_singleton] at i3 i4
   refine ⟨i1.mono (by omega) (by omega), i2, by omega, fun h0 => ?_⟩
   obtain ⟨j1, j2, j3⟩ := i4 h0
   refine ⟨by omega, ?_, ?_⟩
   ·generalize (logL f (refJoin t (comeX t e y.name (qtyC f y.name))) P (ds ++ [comeX t e y.name (qtyC f y.name)])) = r at *
    have hdrop : r.2.1.drop ds.length = comeX t e y.name (qtyC f y.name) :: r.2.1.drop (ds.length + 1) := by
     conv => lhs; rw [← List.take_append_drop (ds.length + 1) r.2.1, j3]
     rw [List.drop_append, List.drop_append, List.drop_length]
     simp
    rw [hdrop, List.foldl_cons]
    exact j2
   ·have := congrArg (List.take ds.length) j3
    rw [List.take_take, List.take_append_of_le_length (Nat.le_refl _), List.take_length] at this
    rw [Nat.min_eq_left (by omega)] at this
    exact this
  ·simp only [he, if_false]
   exact ⟨h.mono (by omega) (by omega), hd, by omega, fun h0 => h0.elim⟩
theorem join_fold : ∀ (ds : List CartD) (t s : CartD), validC t = true → validC s = true → (∀ c ∈ ds, validC c = true) → ds.foldl refJoin (refJoin t s) = refJoin t (ds.foldl refJoin s)
 | [], t, s, ht, hs, h => rfl
 | c :: ds, t, s, ht, hs, h => by
  have hc := h c (by simp)
  rw [List.foldl_cons, List.foldl_cons, join_assoc ht hs hc, join_fold ds t _ ht (join_valid hs hc) (fun x hx => h x (by simp [hx]))]
theorem join_all {t : CartD} {ds : List CartD} (ht : validC t = true) (h : ∀ c ∈ ds, validC c = true) : ds.foldl refJoin t = refJoin t (allC ds) := by
 have := join_fold ds t zeroC ht zeroC_valid h
 rw [join_comm ht zeroC_valid, join_zero ht] at this
 exact this
theorem zip_mem {f : CartD} {l : List DotD} {p : ItemD × DotD} (h : p ∈ f.items.zip l) : p.1 ∈ f.items ∧ p.2 ∈ l := List.of_mem_zip h
theorem zip_names {f : CartD} {l : List DotD} (hf : validC f = true) (hl : l.length = f.items.length) : ((f.items.zip l).map (fun p => p.1.name)).Nodup := by
 have : (f.items.zip l).map (fun p => p.1.name) = f.items.map (·.name) := by
  rw [show (fun p : ItemD × DotD => p.1.name) = (fun x : ItemD => x.name) ∘ Prod.fst from rfl, ← List.map_map, List.map_fst_zip (by omega)]
 rw [this]
 exact names_nodup (validC_parts hf).2.1
end Go.Proofs.YtjoljfnlkddfbaaGreatDoor
