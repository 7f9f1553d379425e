/- Stage 22: units and names behind Wish and Login, in plain Lean. -/
import Derived.Test.YtjoljfnlkddfbaaGreatDoorMoveP
set_option linter.unusedSimpArgs false
set_option linter.unusedVariables false
set_option maxRecDepth 100000
namespace Go.Proofs.YtjoljfnlkddfbaaGreatDoor

theorem units_from : ∀ (l : List ItemD) (n : Int), l.foldl (fun n x => n + qtyI x) n = n + unitsI l
 | [], n => by simp [unitsI]
 | x :: l, n => by
  unfold unitsI
  rw [List.foldl_cons, List.foldl_cons, units_from l, units_from l (0 + qtyI x)]
  omega
theorem units_cons (x : ItemD) (l : List ItemD) : unitsI (x :: l) = qtyI x + unitsI l := by
 show (x :: l).foldl (fun n x => n + qtyI x) 0 = _
 rw [List.foldl_cons, units_from]
 omega
theorem units_append : ∀ (a b : List ItemD), unitsI (a ++ b) = unitsI a + unitsI b
 | [], b => by simp [unitsI]
 | x :: a, b => by rw [List.cons_append, units_cons, units_cons, units_append a b]; omega
theorem units_perm {a b : List ItemD} (h : a.Perm b) : unitsI a = unitsI b := by
 induction h with
 | nil => rfl
 | cons x _ ih => rw [units_cons, units_cons, ih]
 | swap x y l => rw [units_cons, units_cons, units_cons, units_cons]; omega
 | trans _ _ ih1 ih2 => rw [ih1, ih2]
/-- The quantity of a name in items, 0 if it is not there. -/
def qtyN (l : List ItemD) (nm : ByteArray) : Int := if thereB l nm then qtyI (findX l nm) else 0
theorem qtyC_qtyN {c : CartD} (h : validC c = true) (nm : ByteArray) : qtyC c nm = qtyN c.items nm := by
 unfold qtyC qtyN
 rw [h]
 rfl
theorem filter_ne : ∀ {l : List ItemD} {nm : ByteArray}, nm ∉ l.map (·.name) → dropN l nm = l
 | [], _, _ => rfl
 | x :: l, nm, h => by
  rw [List.map_cons, List.mem_cons, not_or] at h
  have h1 : x.name ≠ nm := fun e => h.1 e.symm
  unfold dropN
  rw [List.filter_cons_of_pos (by simp [h1])]
  exact congrArg _ (filter_ne h.2)
theorem drop_units : ∀ {l : List ItemD} {nm : ByteArray}, (l.map (·.name)).Nodup → unitsI (dropN l nm) = unitsI l - qtyN l nm ∧ (dropN l nm).length = if thereB l nm then l.length - 1 else l.length
 | [], nm, _ => by simp [dropN, qtyN, unitsI, thereB]
 | x :: l, nm, h => by
  rw [List.map_cons, List.nodup_cons] at h
  by_cases e : x.name = nm
  ·have hd : dropN (x :: l) nm = l := by
    unfold dropN
    rw [List.filter_cons_of_neg (by simp [e])]
    exact filter_ne (by rw [← e]; exact h.1)
   have ht : thereB (x :: l) nm = true := by simp [thereB, e]
   have hf : findX (x :: l) nm = x := by simp [findX, e]
   rw [hd, ht]
   refine ⟨?_, by simp⟩
   unfold qtyN
   rw [ht, hf, units_cons, if_pos rfl]
   omega
  ·obtain ⟨i1, i2⟩ := drop_units (l := l) (nm := nm) h.2
   have hd : dropN (x :: l) nm = x :: dropN l nm := by
    unfold dropN
    rw [List.filter_cons_of_pos (by simp [e])]
   have ht : thereB (x :: l) nm = thereB l nm := by simp [thereB, e]
   have hq : qtyN (x :: l) nm = qtyN l nm := by
    unfold qtyN
    rw [ht]
    have : findX (x :: l) nm = findX l nm := by simp [findX, e]
    rw [this]
   rw [hd, ht, hq, units_cons, units_cons, i1, List.length_cons, List.length_cons, i2]
   refine ⟨by omega, ?_⟩
   cases hb : thereB l nm with
   | false => simp
   | true =>
    have : l ≠ [] := fun e => by rw [e] at hb; simp [thereB] at hb
    have : 0 < l.length := List.length_pos_iff.2 this
    simp
    omega
theorem put_units {l : List ItemD} {x : ItemD} (h : (l.map (·.name)).Nodup) : unitsI (putI l x) = unitsI l - qtyN l x.name + qtyI x ∧ (putI l x).length = if thereB l x.name then l.length else l.length + 1 := by
 obtain ⟨h1, h2⟩ := drop_units (nm := x.name) h
 have hp := insI_perm (dropN l x.name) x
 unfold putI
 rw [← units_perm hp, insI_len, units_append, h1, h2]
 refine ⟨by rw [units_cons]; simp [unitsI], ?_⟩
 cases hb : thereB l x.name with
 | false => simp
 | true =>
  have : l ≠ [] := fun e => by rw [e] at hb; simp [thereB] at hb
  have : 0 < l.length := List.length_pos_iff.2 this
  simp
  omega
theorem come_units {t : CartD} {d : DotD} {nm : ByteArray} {q : Int} (h : comeE t d nm q = 0) :
  unitsC (refJoin t (comeX t d nm q)) = unitsC t + q ∧ (refJoin t (comeX t d nm q)).items.length = if thereB t.items nm then t.items.length else t.items.length + 1 := by
 obtain ⟨e1, e2, e3, e4, e5, e6, e7, e8, e9⟩ := come_ok h
 obtain ⟨c1, c2⟩ := comeE_zero h
 obtain ⟨-, -, -, -, -, p6, -⟩ := put_holds c2
 have hs := (mSumE_zero c1).2.2.2.2
 rw [hs] at p6
 have hone := oneI_new e8 p6
 obtain ⟨u1, u2⟩ := put_units (x := ⟨nm, [newM t d (qtyC t nm + q)]⟩) (names_nodup (validC_parts e3).2.1)
 rw [qtyI_one hone] at u1
 unfold unitsC
 rw [e3, e5, e6]
 refine ⟨?_, u2⟩
 rw [if_pos rfl, if_pos rfl, u1, ← qtyC_qtyN e3]
 show unitsI t.items - qtyC t nm + (qtyC t nm + q) = _
 omega
/-- Behind the loop: every quantity, the units, how many items. -/
theorem log_holds {f : CartD} (hf : validC f = true) : ∀ (l : List (ItemD × DotD)) (t : CartD) (ds : List CartD), validC t = true → (∀ p ∈ l, p.1 ∈ f.items) → (l.map (fun p => p.1.name)).Nodup → (logL f t l ds).2.2 = 0 →
  validC (logL f t l ds).1 = true ∧ unitsC (logL f t l ds).1 = unitsC t + unitsI (l.map (·.1)) ∧ (logL f t l ds).1.items.length = t.items.length + ((l.map (·.1)).filter (fun x => !thereB t.items x.name)).length ∧
  (∀ nm, qtyC (logL f t l ds).1 nm = if hasL (l.map (fun p => p.1.name)) nm then qtyC f nm + qtyC t nm else qtyC t nm)
 | [], t, ds, ht, h, hn, h0 => ⟨ht, by simp [logL, unitsI], by simp [logL], fun nm => by simp [logL, hasL]⟩
 | (x, d) :: l, t, ds, ht, h, hn, h0 => by
  simp only [logL] at h0 ⊢
  by_cases he : comeE t d x.name (qtyC f x.name) = 0
  ·simp only [he, if_true] at h0 ⊢
   rw [List.map_cons, List.nodup_cons] at hn
   obtain ⟨e1, e2, e3, e4, e5, e6, e7, e8, e9⟩ := come_ok he
   obtain ⟨u1, u2⟩ := come_units he
   obtain ⟨i1, i2, i3, i4⟩ := log_holds hf l _ (ds ++ [comeX t d x.name (qtyC f x.name)]) e5 (fun p hp => h p (by simp [hp])) hn.2 h0
   have hx := (qtyC_mem hf (h (x, d) (by simp))).1
   have hoth : ∀ nm, nm ≠ x.name → qtyC (refJoin t (comeX t d x.name (qtyC f x.name))) nm = qtyC t nm ∧ thereB (refJoin t (comeX t d x.name (qtyC f x.name))).items nm = thereB t.items nm := fun nm hne => qty_come he hne
   generalize refJoin t (comeX t d x.name (qtyC f x.name)) = J at *
   generalize logL f J l (ds ++ [comeX t d x.name (qtyC f x.name)]) = r at *
   refine ⟨i1, ?_, ?_, fun nm => ?_⟩
   ·rw [i2, u1, List.map_cons, units_cons]
    rw [show qtyC f x.name = qtyI x from hx]
    show unitsC t + qtyI x + _ = unitsC t + (qtyI x + _)
    omega
   ·rw [i3, u2, List.map_cons]
    have hfil : (l.map (·.1)).filter (fun x => !thereB J.items x.name) = (l.map (·.1)).filter (fun x => !thereB t.items x.name) := by
     refine List.filter_congr (fun y hy => ?_)
     obtain ⟨p, hp, rfl⟩ := List.mem_map.1 hy
     rw [(hoth p.1.name (fun e => hn.1 (by rw [← e]; exact List.mem_map.2 ⟨p, hp, rfl⟩))).2]
    rw [hfil]
    cases hb : thereB t.items x.name with
    | true => rw [List.filter_cons_of_neg (by simp [hb])]; simp
    | false => rw [List.filter_cons_of_pos (by simp [hb])]; simp; omega
   ·rw [i4, List.map_cons]
    by_cases e : nm = x.name
    ·subst e
     have hnin : ¬ hasL (l.map (fun p => p.1.name)) x.name = true := fun h => hn.1 (hasL_iff.1 h)
     rw [if_neg hnin, e7, if_pos (hasL_iff.2 (by simp))]
     omega
    ·rw [(hoth nm e).1]
     by_cases h2 : hasL (l.map (fun p => p.1.name)) nm = true
     ·rw [if_pos h2, if_pos (hasL_iff.2 (List.mem_cons_of_mem _ (hasL_iff.1 h2)))]
     ·rw [if_neg h2, if_neg (fun h => (List.mem_cons.1 (hasL_iff.1 h)).elim e (fun h3 => h2 (hasL_iff.2 h3)))]
  ·simp only [he, if_false] at h0
theorem logE_zero {f t : CartD} {l : List DotD} (h : logE f t l = 0) : loginOk f t l = true ∧ loginMuch f t = false ∧ (logF f t l).2.2 = 0 ∧ logX f t l = clrC f ∧ logY f t l = allC (logF f t l).2.1 := by
 have h' := h
 unfold logE at h
 by_cases e : loginE f t l = 0
 ·rw [if_pos e] at h
  unfold loginE at e
  cases hk : loginOk f t l with
  | false => rw [hk] at e; simp at e
  | true =>
   rw [hk] at e
   cases hm : loginMuch f t with
   | true => rw [hm] at e; simp at e
   | false => exact ⟨rfl, rfl, h, by unfold logX; rw [if_pos h'], by unfold logY; rw [if_pos h']⟩
 ·rw [if_neg e] at h
  exact absurd h e
theorem unitsC_eq {c : CartD} (h : validC c = true) : unitsC c = unitsI c.items := by unfold unitsC; rw [if_pos h]
/-- The theorem for Login. -/
theorem login_holds {f t : CartD} {l : List DotD} (h : logE f t l = 0) : validC f = true ∧ validC t = true ∧ validC (logX f t l) = true ∧ validC (logY f t l) = true ∧ (refJoin f (logX f t l)).items = [] ∧ (refJoin t (logY f t l)).items.length = manyN f t ∧ unitsC (refJoin t (logY f t l)) = unitsC f + unitsC t ∧
  validC (refJoin t (logY f t l)) = true ∧ (∀ x ∈ f.items, qtyC (refJoin t (logY f t l)) x.name = qtyC f x.name + qtyC t x.name) ∧ (l = [] → logX f t l = zeroC ∧ logY f t l = zeroC) := by
 obtain ⟨h1, h2, h3, h4, h5⟩ := logE_zero h
 obtain ⟨k1, k2, k3, k4, k5⟩ := loginOk_parts h1
 have hc0 : clrCE f = 0 := by unfold clrCE; rw [if_pos k1]
 obtain ⟨c1, c2, c3, c4⟩ := clr_holds hc0
 have hz : (f.items.zip l).map (·.1) = f.items := List.map_fst_zip (by omega)
 have hzn : (f.items.zip l).map (fun p => p.1.name) = f.items.map (·.name) := by
  rw [show (fun p : ItemD × DotD => p.1.name) = (fun x : ItemD => x.name) ∘ Prod.fst from rfl, ← List.map_map, hz]
 obtain ⟨j1, j2, j3, j4⟩ := log_holds k1 (f.items.zip l) t [] k2 (fun p hp => (zip_mem hp).1) (zip_names k1 k3) h3
 have hM : ∃ M, 1 ≤ M ∧ ∀ x ∈ t.items, x.marks.length ≤ M := ⟨(allDots t.items).length + 1, by omega, fun x hx => by
  have : (dotsM x.marks).length ≤ (allDots t.items).length := by
   obtain ⟨a, b, e⟩ := List.append_of_mem hx
   rw [e]
   unfold allDots
   rw [List.flatMap_append, List.flatMap_cons, List.length_append, List.length_append]
   omega
  unfold dotsM at this
  rw [List.length_map] at this
  omega⟩
 obtain ⟨M, hM1, hM2⟩ := hM
 obtain ⟨-, i2, -, i4⟩ := log_inv hM1 f (f.items.zip l) t [] _ _ ⟨k2, Nat.le_refl _, hM2, Nat.le_refl _⟩ (by simp)
 have i5 := (i4 h3).2.1
 rw [List.length_nil, List.drop_zero] at i5
 have hj : refJoin t (logY f t l) = (logL f t (f.items.zip l) []).1 := by
  rw [h5, i5]
  exact (join_all k2 (fun c hc => (i2 c hc).1)).symm
 rw [hz] at j2 j3
 rw [hzn] at j4
 rw [hj]
 refine ⟨k1, k2, by rw [h4, c1]; exact c3, by rw [h5]; exact allC_valid (fun c hc => (i2 c hc).1), by rw [h4, c1, c4], by rw [j3]; rfl, by rw [j2, unitsC_eq k1]; omega, j1, fun x hx => ?_, fun e => ?_⟩
 ·rw [j4, if_pos (hasL_iff.2 (List.mem_map.2 ⟨x, hx, rfl⟩))]
 ·subst e
  have hn : f.items = [] := List.length_eq_zero_iff.1 k3.symm
  refine ⟨by rw [h4, c1, hn]; exact dclr2, by rw [h5]; unfold logF; rw [List.zip_nil_right]; rfl⟩
/-- The theorem for Wish. -/
theorem wish_holds {f t : CartD} {nm : ByteArray} {d : DotD} (h : wishE f t nm d = 0) : validC f = true ∧ validC t = true ∧ nameB nm = true ∧ validC (wishX f t nm d) = true ∧ validC (wishY f t nm d) = true ∧ validC (refJoin f (wishX f t nm d)) = true ∧ validC (refJoin t (wishY f t nm d)) = true ∧
  qtyC (refJoin f (wishX f t nm d)) nm = 0 ∧ qtyC (refJoin t (wishY f t nm d)) nm = wishQ f t nm d ∧ unitsC (refJoin f (wishX f t nm d)) + unitsC (refJoin t (wishY f t nm d)) = unitsC f + unitsC t ∧
  (∀ n, n ≠ nm → qtyC (refJoin f (wishX f t nm d)) n = qtyC f n ∧ qtyC (refJoin t (wishY f t nm d)) n = qtyC t n) := by
 have h' := h
 unfold wishE at h
 cases hk : wishOk f t nm d with
 | false => rw [hk] at h; simp at h
 | true =>
  rw [hk] at h
  cases hth : thereB f.items nm with
  | false => rw [hth] at h; simp at h
  | true =>
   rw [hth] at h
   simp only [if_true] at h
   obtain ⟨k1, k2, k3, k4⟩ := wishOk_parts hk
   obtain ⟨r1, r2, r3, r4, r5, r6⟩ := rem_holds (rem_there k1 k3 hth)
   obtain ⟨e1, e2, e3, e4, e5, e6, e7, e8, e9⟩ := come_ok h
   obtain ⟨u1, -⟩ := come_units h
   have hX : wishX f t nm d = remC f nm := by unfold wishX; rw [if_pos h']
   have hY : wishY f t nm d = comeX t d nm (qtyC f nm) := by unfold wishY; rw [if_pos h']
   have hQ : wishQ f t nm d = comeQ t d nm (qtyC f nm) := by unfold wishQ; rw [if_pos h']
   have hva := join_valid k1 r4
   have hnd := names_nodup (validC_parts k1).2.1
   obtain ⟨d1, -⟩ := drop_units (nm := nm) hnd
   have hia : (refJoin f (goneC (dotsC f nm))).items = dropN f.items nm := by rw [r5]
   have hoth : ∀ n, n ≠ nm → qtyC (refJoin f (goneC (dotsC f nm))) n = qtyC f n := fun n hne => by
    obtain ⟨f1, f2⟩ := find_ne (nm := n) (validC_parts hva).2.1 (validC_parts k1).2.1 (fun y hy => by
     rw [hia, mem_dropN]
     exact ⟨fun h => h.1, fun h => ⟨h, fun e => hne (hy ▸ e)⟩⟩)
    unfold qtyC
    rw [hva, k1, f1]
    cases hb : thereB f.items n with
    | false => rfl
    | true => rw [f2 (f1.trans hb)]
   rw [hX, hY, hQ, r1, e2]
   refine ⟨k1, k2, k3, r4, e4, hva, e5, ?_, e7, ?_, fun n hne => ⟨hoth n hne, (qty_come h hne).1⟩⟩
   ·refine qtyC_none (thereB_not.2 ?_)
    rw [hia]
    intro hm
    obtain ⟨y, hy, rfl⟩ := List.mem_map.1 hm
    exact (mem_dropN.1 hy).2 rfl
   ·rw [u1, unitsC_eq hva, hia, d1, unitsC_eq k1, ← qtyC_qtyN k1]
    omega
end Go.Proofs.YtjoljfnlkddfbaaGreatDoor
