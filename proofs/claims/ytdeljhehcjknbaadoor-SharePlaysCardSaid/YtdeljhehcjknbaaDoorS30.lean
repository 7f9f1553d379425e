/- Model.allows walked to its end: for every model of the shape of S27 where the table of rows lies. -/
import Derived.Test.YtdeljhehcjknbaaDoorS29
namespace Go.Proofs.YtdeljhehcjknbaaDoor
open Go.RowKit Go.Maps Go.Sort Go.Lib

theorem findI_neg (A : List APg) (k : ByteArray) : decide (findI A k < 0) = (aFind A k).isNone := by
  rw [aFind_idx]
  cases h : idxA A k with
  | none => unfold findI; rw [h]; rfl
  | some i =>
    obtain ⟨hi, -, -⟩ := idxA_get h
    unfold findI; rw [h]
    simp only [Option.bind_some, List.getElem?_eq_getElem hi, Option.isNone_some, decide_eq_false_iff_not]
    omega
theorem lacks_eq (A : List APg) (who k : ByteArray) (n : Int) (h : (aFind A k).isNone = false) : lacks A who (k, n) = (bits .and .i64 (rightsA A who k) n != n) := by
  unfold lacks rightsA
  cases e : aFind A k with
  | none => rw [e] at h; cases h
  | some x => rfl
theorem alL1 (A : List APg) (who : ByteArray) (c : CallR) (n : Int) : alL A who c n 0 = allowsL A who [(c.key, n)] := by
  unfold alL allowsL
  simp only [List.any_cons, List.any_nil, Bool.or_false, isNo, findI_neg, show decide ((0 : Int) < 0) = false from rfl, Bool.false_and]
  cases h : (aFind A c.key).isNone
  · rw [lacks_eq A who c.key n h]
  · rfl
theorem alL2 (A : List APg) (who : ByteArray) (c : CallR) (n m : Int) (hm : 0 < m) : alL A who c n m = allowsL A who [(c.key, n), (c.other, m)] := by
  unfold alL allowsL
  simp only [List.any_cons, List.any_nil, Bool.or_false, isNo, findI_neg, decide_eq_true hm, Bool.true_and]
  cases h : (aFind A c.key).isNone
  · cases h2 : (aFind A c.other).isNone
    · rw [lacks_eq A who c.key n h, lacks_eq A who c.other m h2]
    · rfl
  · rfl
theorem alR1 (A : List APg) (who : ByteArray) (c : CallR) (n : Int) (h : needsR c.op c.key c.other = [(c.key, n)]) : alR A who c n 0 = allowsE A who c := by
  unfold alR allowsE
  rw [h, alL1]; simp
theorem alR2 (A : List APg) (who : ByteArray) (c : CallR) (n m : Int) (hm : 0 < m) (h : needsR c.op c.key c.other = [(c.key, n), (c.other, m)]) : alR A who c n m = allowsE A who c := by
  unfold alR allowsE
  rw [h, alL2 _ _ _ _ _ hm]; simp
theorem alR0 (A : List APg) (who : ByteArray) (c : CallR) (h : needsR c.op c.key c.other = []) : allowsE A who c = 2 := by
  unfold allowsE
  rw [h]; simp

set_option maxRecDepth 100000 in
set_option maxHeartbeats 4000000 in
theorem allows_m {G : Nat → Prop} {w : World} {b : Nat} {A : List APg} (who : ByteArray) (c : CallR) (hM : ModelIs G w b A) (hR : RowsLie w) (hc : c.fits) (hw : who.size ≤ maxLen) :
    Calls Tryd.prog 13 #[.pointer (some ⟨b, 0, none⟩), .string who, c.val] w fun e w' => e = .returned (.int .i64 (allowsE A who c)) ∧ Below w.heap.size w w' := by
  have H1 := Lib.hid (fun n h => alR1 A who c n h)
  have H2 := Lib.hid (fun n m hm h => alR2 A who c n m hm h)
  have H0 := Lib.hid (alR0 A who c)
  have HB : Hid (∀ o, Below w.heap.size w (w.alloc o)) := Lib.hid (fun o => (Below.refl _ _).alloc (Nat.le_refl _) _)
  have HM := Lib.hid hM
  have HRL : Hid (∀ wx, Below w.heap.size w wx → RowsLie wx) := Lib.hid (fun wx hb => by
    obtain ⟨C, tt, fz, h1, h2⟩ := hR
    exact ⟨C, tt, fz, by rw [hb.block 0 (lt_of_heap h1), h1], h2⟩)
  have HC := Lib.hid hc
  have HW := Lib.hid hw
  clear hM hR hc hw
  obtain ⟨op, key, other, item, qty, da, dl, dc⟩ := c
  unfold CallR.val
  simp only
  go_enter Tryd.func13, Tryd.ntmps13
  go_upto_region 1 with fail
  iterate 10 (first | go_values | go_skip | go_guarded | go_step | go_upon | go_back | go_simp)
  refine wp_seq_k ?_
  intro K hK
  have HK : Hid (∀ first second : Int, alR A who ⟨op, key, other, item, qty, da, dl, dc⟩ first second = allowsE A who ⟨op, key, other, item, qty, da, dl, dc⟩ → ∀ u9 u10 u11 u12 u13 u14 u15 u16 u17 u18 u19 u20 u21 u22 u23 : Value, K { tmps := #[.pointer (some ⟨b, 0, none⟩), .string who, .agg #[.int .i64 op, .string key, .string other, .string item, .int .i64 qty, .slice da dl dc], undef, undef, .pointer (some ⟨w.heap.size, 0, none⟩), .int .i64 0, .int .i64 first, .int .i64 second, u9, u10, u11, u12, u13, u14, u15, u16, u17, u18, u19, u20, u21, u22, u23, undef, undef, undef, undef, undef, undef, undef, undef, undef, undef, undef, undef, undef, undef, undef, undef, undef, undef, undef, undef, undef, undef, undef, undef, undef, undef, undef, undef, undef, undef, undef, undef, undef, undef, undef, undef, undef, undef, undef, undef, undef, undef, undef, undef, undef, undef, undef, undef], defers := [] } (w.alloc (.cells #[.int .i64 op, .string key, .string other, .string item, .int .i64 qty, .slice da dl dc] 25))) := Lib.hid (fun first second hal _ _ _ _ _ _ _ _ _ _ _ _ _ _ _ => hK _ _ (by
    refine allowsRest A b w.heap.size who ⟨op, key, other, item, qty, da, dl, dc⟩ first second _ (HM.out.below (HB.out _)) (fun wx hx => HRL.out _ ((HB.out _).trans (hx.mono (by simp)))) HC.out HW.out (fun wx hx => ?_) _ _ _ _ _ _ _ _ _ _ _ _ _ _ _ _ _ _ _ _ _ _ _ _ _ _ _ _ _ _ _ _ _ _ _ _ _ _ _ _ _ _ _ _ _ _ _ _ _ _ _ _ _ _ _ _ _ _ _ _ _ _ _ _ _ _ _ _ ?_
    · refine ⟨?_, ?_, ?_, ?_, ?_, ?_⟩ <;> (rw [hx.cell (p := ⟨w.heap.size, _, none⟩) (by simp)]; go_simp)
    · intros
      rename_i wx hx
      rw [hal]
      go_ret
      exact ⟨rfl, (HB.out _).trans (hx.mono (by simp))⟩))
  clear hK
  by_cases h4 : op = 4
  · subst h4
    have HH := Lib.hid (H1.out 1 rfl)
    go_wp2
    exact HK.out _ _ HH.out _ _ _ _ _ _ _ _ _ _ _ _ _ _ _
  have e4 : (op == 4) = false := by simpa using h4
  by_cases h1 : op = 1
  · subst h1
    have HH := Lib.hid (H1.out 2 rfl)
    go_wp2
    exact HK.out _ _ HH.out _ _ _ _ _ _ _ _ _ _ _ _ _ _ _
  have e1 : (op == 1) = false := by simpa using h1
  by_cases h3 : op = 3
  · subst h3
    have HH := Lib.hid (H1.out 4 rfl)
    go_wp2
    exact HK.out _ _ HH.out _ _ _ _ _ _ _ _ _ _ _ _ _ _ _
  have e3 : (op == 3) = false := by simpa using h3
  by_cases h5 : op = 5
  · subst h5
    have HH := Lib.hid (H1.out 4 rfl)
    go_wp2
    exact HK.out _ _ HH.out _ _ _ _ _ _ _ _ _ _ _ _ _ _ _
  have e5 : (op == 5) = false := by simpa using h5
  by_cases h2 : op = 2
  · subst h2
    have HH := Lib.hid (H1.out 6 rfl)
    go_wp2
    exact HK.out _ _ HH.out _ _ _ _ _ _ _ _ _ _ _ _ _ _ _
  have e2 : (op == 2) = false := by simpa using h2
  by_cases h6 : op = 6
  · subst h6
    have HH := Lib.hid (H2.out 4 2 (by decide) rfl)
    go_wp2
    exact HK.out _ _ HH.out _ _ _ _ _ _ _ _ _ _ _ _ _ _ _
  have e6 : (op == 6) = false := by simpa using h6
  by_cases h7 : op = 7
  · subst h7
    have HH := Lib.hid (H2.out 5 2 (by decide) rfl)
    go_wp2
    exact HK.out _ _ HH.out _ _ _ _ _ _ _ _ _ _ _ _ _ _ _
  have e7 : (op == 7) = false := by simpa using h7
  have HH := Lib.hid (H0.out (by unfold needsR; simp only [h4, h1, h3, h5, h2, h6, h7, or_self, if_false]))
  clear h4 h1 h3 h5 h2 h6 h7
  go_wp2
  go_ret
  exact ⟨by rw [HH.out]; rfl, HB.out _⟩
end Go.Proofs.YtdeljhehcjknbaaDoor
