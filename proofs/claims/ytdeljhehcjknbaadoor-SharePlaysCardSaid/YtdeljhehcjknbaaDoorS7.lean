/- Book.Grant walked: for every book of the shape of S4. -/
import Derived.Test.YtdeljhehcjknbaaDoorS6
namespace Go.Proofs.YtdeljhehcjknbaaDoor
open Go.RowKit Go.Maps

theorem PgR.is.drewN {x : PgR} {w : World} (h : x.is w) (n : Nat) : x.is (w.drewN n) := h
theorem BookIs.drewN {w : World} {b : Nat} {mr : Option Nat} {L : List PgR} (h : BookIs w b mr L) (n : Nat) : BookIs (w.drewN n) b mr L := ⟨h.hb, h.hm, h.hp, h.nd, h.wf, h.len⟩
theorem keepN_drewN {B : Nat} {F : Nat → Prop} {a w : World} (h : KeepN B F a w) (n : Nat) : KeepN B F a (w.drewN n) := h.trans ⟨rfl, rfl, rfl, Nat.le_refl _, fun _ _ _ => rfl⟩

theorem putA_len {α : Type} (m : List (ByteArray × α)) (k : ByteArray) (v : α) : (putA m k v).length = if (lkA m k).isSome then m.length else m.length + 1 := by
  induction m with
  | nil => rfl
  | cons p m ih => simp only [putA, lkA]; split
                   · simp
                   · simp only [List.length_cons, ih]; split <;> rfl
theorem putA_mem {α : Type} {m : List (ByteArray × α)} {k : ByteArray} {v : α} {p : ByteArray × α} (h : p ∈ putA m k v) : p ∈ m ∨ p = (k, v) := by
  induction m with
  | nil => simp [putA] at h; exact Or.inr h
  | cons q m ih =>
    simp only [putA] at h
    split at h
    · rename_i e
      rcases List.mem_cons.1 h with h | h
      · exact Or.inr (by rw [h, e])
      · exact Or.inl (.tail _ h)
    · rcases List.mem_cons.1 h with h | h
      · exact Or.inl (by rw [h]; exact .head _)
      · rcases ih h with h | h
        · exact Or.inl (.tail _ h)
        · exact Or.inr h
theorem delA_sub {α : Type} (m : List (ByteArray × α)) (k : ByteArray) : (delA m k).Sublist m := by
  induction m with
  | nil => exact .slnil
  | cons q m ih =>
    simp only [delA]
    split
    · exact .cons _ (List.Sublist.refl _)
    · exact ih.cons_cons _
theorem lkA_mem {α : Type} {m : List (ByteArray × α)} {k : ByteArray} {v : α} (h : lkA m k = some v) : (k, v) ∈ m := by
  induction m with
  | nil => cases h
  | cons q m ih =>
    simp only [lkA] at h
    split at h
    · rename_i e; cases h; rw [e]; exact .head _
    · exact .tail _ (ih h)
theorem old_none {m : List (ByteArray × Int)} (hm : ∀ p ∈ m, keyB p.1 = true ∧ 1 ≤ p.2 ∧ p.2 ≤ 15) {k : ByteArray} (h : (lkA m k).getD 0 = 0) : lkA m k = none := by
  cases e : lkA m k with
  | none => rfl
  | some v => rw [e] at h; have := (hm _ (lkA_mem e)).2.1; simp at h; simp at this; omega

/-- The page's members' block has turned, and nothing else. -/
theorem grant_done {w w2 w3 w4 : World} {b : Nat} {mr : Option Nat} {A : List APg} {L : List PgR} {F : Nat → Prop} {cart : ByteArray} {x : PgR} (hB : BookIs w b mr L) (hA : A = L.map PgR.abs) (hF : ∀ k ∈ foot b mr L, F k) (hFs : ∀ k, F k → k < w.heap.size) (hbl : Below w.heap.size w w2) (n : Nat) (h3 : w3 = w2.drewN n)
    (hp : pgA L cart = some x) (hg : w3.grownBy w4 (some x.mb)) (mem' : List (ByteArray × Int)) (hm4 : MapIs w4 x.mb (memV mem')) (hl : mem'.length ≤ 50) (hm' : ∀ m ∈ mem', keyB m.1 = true ∧ 1 ≤ m.2 ∧ m.2 ≤ 15) (A' : List APg) (hA' : A' = aSet A cart ⟨x.cart, x.owner, mem'⟩) :
    Book w4 b A' (Wider F w w4) ∧ Keep F w w4 := by
  subst h3 hA' hA
  have hx := (pgA_mem hp).1
  have hB2 := (hB.below hbl).drewN n
  have hne : x.p ≠ x.mb := by
    have hnd := hB.nd
    obtain ⟨L1, L2, rfl, _⟩ := pgA_split hp
    rw [foot_app] at hnd
    simp at hnd
    have := hnd.2
    intro e
    have h5 := (List.nodup_append.1 (List.nodup_append.1 this).2.1).2.1
    simp [e] at h5
  obtain ⟨L', g1, g2, g3⟩ := hB2.page hp x.owner mem' (fun k hk h1 h2 => hg.block k (hB2.foot_lt k hk) (by simpa using h2))
    (by rw [hg.block x.p (lt_of_heap (hB2.hp x hx).1) (by simpa using hne)]; exact (hB2.hp x hx).1) hm4 ((hB.wf x hx).2.1) hl hm'
  have hs4 := hg.size
  have hs2 := hbl.size
  have hs3 : (w2.drewN n).heap.size = w2.heap.size := rfl
  refine ⟨⟨mr, L', g1, g2.symm, fun k hk => Or.inl (hF k (by rw [← g3]; exact hk)), ?_⟩, ?_⟩
  · rintro k (h | h)
    · have := hFs k h; omega
    · exact h.2
  · exact ((keepN_drewN ((KeepN.refl _ _ _).below hbl (Nat.le_refl _)) n).grown hg (by omega) (fun _ => hF _ (mem_foot hx).2)).keep

theorem abs_rights (x : PgR) (who : ByteArray) : x.abs.rights who = rightsR x who := rfl

/-- What a refused grant answers: the page is there, and no right has changed. -/
theorem grant_same {w w2 : World} {b : Nat} {mr : Option Nat} {A : List APg} {L : List PgR} {F : Nat → Prop} (hB : BookIs w b mr L) (hA : A = L.map PgR.abs) (hF : ∀ k ∈ foot b mr L, F k) (hFs : ∀ k, F k → k < w.heap.size) (hbl : Below w.heap.size w w2) (A' : List APg) (hA' : A' = A) (n : Nat) :
    Book (w2.drewN n) b A' (Wider F w (w2.drewN n)) ∧ Keep F w (w2.drewN n) := by
  subst hA' hA
  refine ⟨⟨mr, L, (hB.below hbl).drewN n, rfl, fun k hk => Or.inl (hF k hk), ?_⟩, (keepN_drewN ((KeepN.refl _ _ _).below hbl (Nat.le_refl _)) n).keep⟩
  rintro k (h | h)
  · exact Nat.lt_of_lt_of_le (hFs k h) hbl.size
  · exact h.2

set_option maxRecDepth 100000 in
set_option maxHeartbeats 2000000 in
theorem grant_any (b : Nat) (A : List APg) (F : Nat → Prop) (who cart who2 : ByteArray) (r : Int) (w : World) (hK : Book w b A F) (hw : who.size ≤ maxLen) (hc : cart.size ≤ maxLen) (hw2 : who2.size ≤ maxLen) :
    Calls Tryd.prog 17 #[.pointer (some ⟨b, 0, none⟩), .string who, .string cart, .string who2, .int .i64 r] w fun e w' =>
      e = .returned (.int .i64 (grantE A who cart who2 r)) ∧ Book w' b (grantA A who cart who2 r) (Wider F w w') ∧ Keep F w w' := by
  obtain ⟨mr, L, hB, hA, hF, hFs⟩ := hK
  have HSAME := Lib.hid (fun w2 h1 h2 h3 n => grant_same hB hA hF hFs (w2 := w2) h1 h2 h3 n)
  have hFs' := Lib.hid hFs
  have HF := Lib.hid hF
  have HB := Lib.hid hB
  have hB1 := hB.below ((Below.refl w.heap.size w).alloc (Nat.le_refl _) (.cells #[.string who, .string who2] 9))
  have HC := Lib.hid (check_any b w.heap.size 2 mr L cart [who, who2] (w.alloc (.cells #[.string who, .string who2] 9)) hB1 hc (by simp) (by simp) (strsAt2 w 9 who who2) (mem2 hw hw2))
  have HWlt : Hid (∀ w', w.heap.size ≤ w'.heap.size → ∀ k, Wider F w w' k → k < w'.heap.size) := Lib.hid (fun w' hs k h => by
    rcases h with h | h
    · have := hFs k h; omega
    · exact h.2)
  have HAL := Lib.hid hA
  clear hB hB1 hF hFs hA
  have hkk : (keyB cart && [who, who2].all keyB) = (keyB cart && (keyB who && keyB who2)) := by simp
  by_cases hr : r < 0 ∨ 15 < r
  · have HE : Hid (grantE A who cart who2 r = 2) := Lib.hid (by unfold grantE; rw [if_pos hr])
    have HA : Hid (grantA A who cart who2 r = A) := Lib.hid (by unfold grantA; rw [HE.out]; rfl)
    have hf := HSAME.out w (Below.refl _ _) _ HA.out 0
    have HH := Lib.hid hf
    clear hf hkk HC
    rcases hr with hr | hr
    · go_enter Tryd.func17, Tryd.ntmps17
      go_wp2_with fail
      go_ret
      exact ⟨by rw [HE.out]; rfl, HH.out⟩
    · have hr' : ¬ r < 0 := by omega
      go_enter Tryd.func17, Tryd.ntmps17
      go_wp2_with fail
      go_ret
      exact ⟨by rw [HE.out]; rfl, HH.out⟩
  · have hr0 : 0 ≤ r := by omega
    have hr1 : r ≤ 15 := by omega
    have HE0 : Hid (grantE A who cart who2 r = if keyB cart && (keyB who && keyB who2) then match aFind A cart with
      | none => 9
      | some x => if denied x who who2 r then 18 else if r = 0 then 0 else if (lkA x.mem who2).getD 0 = 0 ∧ 50 ≤ x.mem.length then 7 else 0
      else 2) := Lib.hid (by unfold grantE; rw [if_neg hr]; rfl)
    clear hr
    cases hk : keyB cart && (keyB who && keyB who2)
    · have HE : Hid (grantE A who cart who2 r = 2) := Lib.hid (by rw [HE0.out, hk]; rfl)
      have HA : Hid (grantA A who cart who2 r = A) := Lib.hid (by unfold grantA; rw [HE.out]; rfl)
      rw [checkR_bad (hkk.trans hk)] at HC
      clear hk hkk HE0
      go_enter Tryd.func17, Tryd.ntmps17
      go_wp2_with (go_at_call 37; refine HC.out.mono ?_; rintro e w2 ⟨rfl, hb2⟩)
      go_ret
      have hbl : Below w.heap.size w w2 := ((Below.refl _ _).alloc (Nat.le_refl _) _).trans (hb2.mono (by simp))
      exact ⟨by rw [HE.out]; rfl, HSAME.out w2 hbl _ HA.out 0⟩
    · cases hp : pgA L cart with
      | none =>
        have HE : Hid (grantE A who cart who2 r = 9) := Lib.hid (by rw [HE0.out, hk, HAL.out, aFind_abs, hp]; rfl)
        have HA : Hid (grantA A who cart who2 r = A) := Lib.hid (by unfold grantA; rw [HE.out]; rfl)
        rw [checkR_none (hkk.trans hk) hp] at HC
        clear hk hkk HE0 hp
        go_enter Tryd.func17, Tryd.ntmps17
        go_wp2_with (go_at_call 37; refine HC.out.mono ?_; rintro e w2 ⟨rfl, hb2⟩)
        go_ret
        have hbl : Below w.heap.size w w2 := ((Below.refl _ _).alloc (Nat.le_refl _) _).trans (hb2.mono (by simp))
        exact ⟨by rw [HE.out]; rfl, HSAME.out w2 hbl _ HA.out 0⟩
      | some x =>
        have hpx := (pgA_mem hp).1
        rw [checkR_some (hkk.trans hk) hp] at HC
        have HP := Lib.hid hp
        have HE1 : Hid (grantE A who cart who2 r = if denied x.abs who who2 r then 18 else if r = 0 then 0 else if (lkA x.mem who2).getD 0 = 0 ∧ 50 ≤ x.mem.length then 7 else 0) := Lib.hid (by rw [HE0.out, hk, HAL.out, aFind_abs, hp]; rfl)
        have HD : Hid (denied x.abs who who2 r = (bits .and .i64 (rightsR x who) 8 == 0 || decide (who2 = x.owner) || decide (who2 = who) || bits .andNot .i64 (bits .xor .i64 r ((lkA x.mem who2).getD 0)) (rightsR x who) != 0)) := Lib.hid rfl
        have HKK := Lib.hid hk
        clear hk hkk HE0 hp
        obtain ⟨mine, hmine⟩ : ∃ m, m = rightsR x who := ⟨_, rfl⟩
        obtain ⟨old, hold⟩ : ∃ m, m = (lkA x.mem who2).getD 0 := ⟨_, rfl⟩
        have HM := Lib.hid hmine
        have HO := Lib.hid hold
        rw [← hmine, ← hold] at HD
        rw [← hold] at HE1
        clear hmine hold
        cases h1 : (bits .and .i64 mine 8 == 0)
        · by_cases h2 : who2 = x.owner
          · have h2s := str_eq h2
            have HE : Hid (grantE A who cart who2 r = 18) := Lib.hid (by rw [HE1.out, HD.out, h1]; simp [h2])
            have HA : Hid (grantA A who cart who2 r = A) := Lib.hid (by unfold grantA; rw [HE.out]; rfl)
            clear HE1 HD
            clear h2
            go_enter Tryd.func17, Tryd.ntmps17
            go_wp2_with (go_at_call 37; refine HC.out.mono ?_; rintro e w2 ⟨rfl, hb2⟩; have hbl : Below w.heap.size w w2 := ((Below.refl _ _).alloc (Nat.le_refl _) _).trans (hb2.mono (by simp)); have hB2 := HB.out.below hbl; have hx2 := hB2.hp x hpx; have c1 := cell0 hx2.1 0; have c2 := cell0 hx2.1 1; have HPR : Hid (∀ n, Calls Tryd.prog 33 #[.pointer (some ⟨x.p, 0, none⟩), .string who] (w2.drewN n) fun e w' => e = .returned (.int .i64 mine) ∧ w' = w2.drewN n) := Lib.hid (fun n => by rw [HM.out]; exact (prights_any x who (w2.drewN n) (hx2.drewN n)).mono fun _ _ ⟨h, h'⟩ => ⟨h, h'.symm⟩); have hlk : ∀ n, (Instr.lookup 78 (.map (some x.mb)) (.string who2) false).run Tryd.prog (w2.drewN n) = .ok (.int .i64 old) (w2.drewN n) := (fun n => by rw [(hx2.drewN n).look who2, lkA_memV_getD, HO.out]); clear hB2 hx2)
            go_quiet ((go_at_call 33; exact Calls.quiet_of_same (HPR.out _)))
            go_wp2
            go_ret
            exact ⟨by rw [HE.out]; rfl, HSAME.out w2 hbl _ HA.out _⟩
          · have h2s := str_ne h2
            by_cases h3 : who2 = who
            · have h3s := str_eq h3
              have HE : Hid (grantE A who cart who2 r = 18) := Lib.hid (by rw [HE1.out, HD.out, h1]; simp [h3])
              have HA : Hid (grantA A who cart who2 r = A) := Lib.hid (by unfold grantA; rw [HE.out]; rfl)
              clear HE1 HD
              clear h2 h3
              go_enter Tryd.func17, Tryd.ntmps17
              go_wp2_with (go_at_call 37; refine HC.out.mono ?_; rintro e w2 ⟨rfl, hb2⟩; have hbl : Below w.heap.size w w2 := ((Below.refl _ _).alloc (Nat.le_refl _) _).trans (hb2.mono (by simp)); have hB2 := HB.out.below hbl; have hx2 := hB2.hp x hpx; have c1 := cell0 hx2.1 0; have c2 := cell0 hx2.1 1; have HPR : Hid (∀ n, Calls Tryd.prog 33 #[.pointer (some ⟨x.p, 0, none⟩), .string who] (w2.drewN n) fun e w' => e = .returned (.int .i64 mine) ∧ w' = w2.drewN n) := Lib.hid (fun n => by rw [HM.out]; exact (prights_any x who (w2.drewN n) (hx2.drewN n)).mono fun _ _ ⟨h, h'⟩ => ⟨h, h'.symm⟩); have hlk : ∀ n, (Instr.lookup 78 (.map (some x.mb)) (.string who2) false).run Tryd.prog (w2.drewN n) = .ok (.int .i64 old) (w2.drewN n) := (fun n => by rw [(hx2.drewN n).look who2, lkA_memV_getD, HO.out]); clear hB2 hx2)
              go_quiet ((go_at_call 33; exact Calls.quiet_of_same (HPR.out _)))
              go_wp2
              go_ret
              exact ⟨by rw [HE.out]; rfl, HSAME.out w2 hbl _ HA.out _⟩
            · have h3s := str_ne h3
              cases h4 : (bits .andNot .i64 (bits .xor .i64 r old) mine != 0)
              · have HDF : Hid (denied x.abs who who2 r = false) := Lib.hid (by rw [HD.out, h1, h4]; simp [h2, h3])
                rw [HDF.out] at HE1
                have HE2 : Hid (grantE A who cart who2 r = if r = 0 then 0 else if old = 0 ∧ 50 ≤ x.mem.length then 7 else 0) := Lib.hid (by rw [HE1.out]; rfl)
                have HW := Lib.hid (HB.out.wf x hpx)
                have HDONE := Lib.hid (fun w2 w3 w4 h1 n h2 h3 mem' h4 h5 h6 A' h7 => grant_done (w2 := w2) (w3 := w3) (w4 := w4) HB.out HAL.out HF.out hFs'.out h1 n h2 HP.out h3 mem' h4 h5 h6 A' h7)
                by_cases hr2 : r = 0
                · subst hr2
                  have HE : Hid (grantE A who cart who2 0 = 0) := Lib.hid (by rw [HE2.out, if_pos rfl])
                  have HA : Hid (grantA A who cart who2 0 = aSet A cart ⟨x.cart, x.owner, delA x.mem who2⟩) := Lib.hid (by unfold grantA; rw [HE.out, HAL.out, aFind_abs, HP.out]; rfl)
                  clear HE1 HE2 HD h2 h3
                  go_enter Tryd.func17, Tryd.ntmps17
                  go_wp2_with (go_at_call 37; refine HC.out.mono ?_; rintro e w2 ⟨rfl, hb2⟩; have hbl : Below w.heap.size w w2 := ((Below.refl _ _).alloc (Nat.le_refl _) _).trans (hb2.mono (by simp)); have hB2 := HB.out.below hbl; have hx2 := hB2.hp x hpx; have c1 := cell0 hx2.1 0; have c2 := cell0 hx2.1 1; have HPR : Hid (∀ n, Calls Tryd.prog 33 #[.pointer (some ⟨x.p, 0, none⟩), .string who] (w2.drewN n) fun e w' => e = .returned (.int .i64 mine) ∧ w' = w2.drewN n) := Lib.hid (fun n => by rw [HM.out]; exact (prights_any x who (w2.drewN n) (hx2.drewN n)).mono fun _ _ ⟨h, h'⟩ => ⟨h, h'.symm⟩); have hlk : ∀ n, (Instr.lookup 78 (.map (some x.mb)) (.string who2) false).run Tryd.prog (w2.drewN n) = .ok (.int .i64 old) (w2.drewN n) := (fun n => by rw [(hx2.drewN n).look who2, lkA_memV_getD, HO.out]); have HXM : Hid (MapIs w2 x.mb (memV x.mem)) := Lib.hid hx2.2; clear hB2 hx2)
                  go_quiet ((go_at_call 33; exact Calls.quiet_of_same (HPR.out _)))
                  go_wp2_with (at_delete; refine wpList_delS rfl _ _ rfl Tryd.underlying78 Tryd.underlying9 rfl HXM.out who2 rfl ?_; intro w4 hm4 hg4)
                  go_ret
                  refine ⟨by rw [HE.out]; rfl, ?_⟩
                  rw [memV_del] at hm4
                  have hs := delA_sub x.mem who2
                  exact HDONE.out w2 _ w4 hbl _ rfl hg4 _ hm4 (Nat.le_trans hs.length_le HW.out.2.2.1) (fun m hm => HW.out.2.2.2 m (hs.subset hm)) _ HA.out
                · have hr3 : (r == 0) = false := by simpa using hr2
                  have HR12 : Hid (1 ≤ r) := Lib.hid (by omega)
                  by_cases hfull : old = 0 ∧ 50 ≤ x.mem.length
                  · have HE : Hid (grantE A who cart who2 r = 7) := Lib.hid (by rw [HE2.out, if_neg hr2, if_pos hfull])
                    have HA : Hid (grantA A who cart who2 r = A) := Lib.hid (by unfold grantA; rw [HE.out]; rfl)
                    obtain ⟨hf1, hf2⟩ := hfull
                    have ho1 : (old == 0) = true := by simpa using hf1
                    clear hf1
                    clear HE1 HE2 HD h2 h3 hr2
                    have hf3 : (50 : Int) ≤ x.mem.length := by omega
                    go_enter Tryd.func17, Tryd.ntmps17
                    go_wp2_with (go_at_call 37; refine HC.out.mono ?_; rintro e w2 ⟨rfl, hb2⟩; have hbl : Below w.heap.size w w2 := ((Below.refl _ _).alloc (Nat.le_refl _) _).trans (hb2.mono (by simp)); have hB2 := HB.out.below hbl; have hx2 := hB2.hp x hpx; have c1 := cell0 hx2.1 0; have c2 := cell0 hx2.1 1; have HPR : Hid (∀ n, Calls Tryd.prog 33 #[.pointer (some ⟨x.p, 0, none⟩), .string who] (w2.drewN n) fun e w' => e = .returned (.int .i64 mine) ∧ w' = w2.drewN n) := Lib.hid (fun n => by rw [HM.out]; exact (prights_any x who (w2.drewN n) (hx2.drewN n)).mono fun _ _ ⟨h, h'⟩ => ⟨h, h'.symm⟩); have hlk : ∀ n, (Instr.lookup 78 (.map (some x.mb)) (.string who2) false).run Tryd.prog (w2.drewN n) = .ok (.int .i64 old) (w2.drewN n) := (fun n => by rw [(hx2.drewN n).look who2, lkA_memV_getD, HO.out]); have HXM : Hid (MapIs w2 x.mb (memV x.mem)) := Lib.hid hx2.2; have hln : ∀ n ty, _ := (fun n ty => MapIs.len (P := Tryd.prog) (hx2.drewN n).2 Tryd.underlying78 ty); rw [memV_len] at hln; clear hB2 hx2)
                    go_quiet ((go_at_call 33; exact Calls.quiet_of_same (HPR.out _)))
                    go_wp2
                    go_ret
                    exact ⟨by rw [HE.out]; rfl, HSAME.out w2 hbl _ HA.out _⟩
                  · have HE : Hid (grantE A who cart who2 r = 0) := Lib.hid (by rw [HE2.out, if_neg hr2, if_neg hfull])
                    have HA : Hid (grantA A who cart who2 r = aSet A cart ⟨x.cart, x.owner, putA x.mem who2 r⟩) := Lib.hid (by unfold grantA; rw [HE.out, HAL.out, aFind_abs, HP.out]; simp [hr2, PgR.abs])
                    have HLEN : Hid ((putA x.mem who2 r).length ≤ 50) := Lib.hid (by
                      rw [putA_len]
                      have h50 := HW.out.2.2.1
                      split
                      · exact h50
                      · rename_i hs
                        have : lkA x.mem who2 = none := by simpa using hs
                        have h0 : old = 0 := by rw [HO.out, this]; rfl
                        have : ¬ 50 ≤ x.mem.length := fun h => hfull ⟨h0, h⟩
                        omega)
                    have hlt : old = 0 → ¬ ((50 : Int) ≤ x.mem.length) := fun h h5 => hfull ⟨h, by omega⟩
                    clear HE1 HE2 HD h2 h3 hr2 hfull
                    by_cases ho : old = 0
                    all_goals
                      first
                      | (have ho1 : (old == 0) = true := by simpa using ho
                         have ho2 := hlt ho
                         clear ho hlt
                         have tok : True := trivial)
                      | (have ho1 : (old == 0) = false := by simpa using ho
                         clear ho hlt)
                      go_enter Tryd.func17, Tryd.ntmps17
                      go_wp2_with (go_at_call 37; refine HC.out.mono ?_; rintro e w2 ⟨rfl, hb2⟩; have hbl : Below w.heap.size w w2 := ((Below.refl _ _).alloc (Nat.le_refl _) _).trans (hb2.mono (by simp)); have hB2 := HB.out.below hbl; have hx2 := hB2.hp x hpx; have c1 := cell0 hx2.1 0; have c2 := cell0 hx2.1 1; have HPR : Hid (∀ n, Calls Tryd.prog 33 #[.pointer (some ⟨x.p, 0, none⟩), .string who] (w2.drewN n) fun e w' => e = .returned (.int .i64 mine) ∧ w' = w2.drewN n) := Lib.hid (fun n => by rw [HM.out]; exact (prights_any x who (w2.drewN n) (hx2.drewN n)).mono fun _ _ ⟨h, h'⟩ => ⟨h, h'.symm⟩); have hlk : ∀ n, (Instr.lookup 78 (.map (some x.mb)) (.string who2) false).run Tryd.prog (w2.drewN n) = .ok (.int .i64 old) (w2.drewN n) := (fun n => by rw [(hx2.drewN n).look who2, lkA_memV_getD, HO.out]); have HXM : Hid (MapIs w2 x.mb (memV x.mem)) := Lib.hid hx2.2; have hln : ∀ n ty, _ := (fun n ty => MapIs.len (P := Tryd.prog) (hx2.drewN n).2 Tryd.underlying78 ty); rw [memV_len] at hln; clear hB2 hx2)
                      go_quiet ((go_at_call 33; exact Calls.quiet_of_same (HPR.out _)))
                      go_wp2_with (at_mapUpdate; refine wpList_updS rfl _ _ _ rfl Tryd.underlying78 Tryd.underlying9 rfl HXM.out who2 rfl (.int .i64 r) rfl ?_; intro w4 hm4 hg4)
                      go_ret
                      refine ⟨by rw [HE.out]; rfl, ?_⟩
                      rw [memV_put] at hm4
                      refine HDONE.out w2 _ w4 hbl _ rfl hg4 _ hm4 HLEN.out (fun m hm => ?_) _ HA.out
                      rcases putA_mem hm with hm | rfl
                      · exact HW.out.2.2.2 m hm
                      · have := HKK.out
                        simp only [Bool.and_eq_true] at this
                        exact ⟨this.2.2, by have := HR12.out; omega, hr1⟩
              · have HE : Hid (grantE A who cart who2 r = 18) := Lib.hid (by rw [HE1.out, HD.out, h4]; simp)
                have HA : Hid (grantA A who cart who2 r = A) := Lib.hid (by unfold grantA; rw [HE.out]; rfl)
                clear HE1 HD
                clear h2 h3
                go_enter Tryd.func17, Tryd.ntmps17
                go_wp2_with (go_at_call 37; refine HC.out.mono ?_; rintro e w2 ⟨rfl, hb2⟩; have hbl : Below w.heap.size w w2 := ((Below.refl _ _).alloc (Nat.le_refl _) _).trans (hb2.mono (by simp)); have hB2 := HB.out.below hbl; have hx2 := hB2.hp x hpx; have c1 := cell0 hx2.1 0; have c2 := cell0 hx2.1 1; have HPR : Hid (∀ n, Calls Tryd.prog 33 #[.pointer (some ⟨x.p, 0, none⟩), .string who] (w2.drewN n) fun e w' => e = .returned (.int .i64 mine) ∧ w' = w2.drewN n) := Lib.hid (fun n => by rw [HM.out]; exact (prights_any x who (w2.drewN n) (hx2.drewN n)).mono fun _ _ ⟨h, h'⟩ => ⟨h, h'.symm⟩); have hlk : ∀ n, (Instr.lookup 78 (.map (some x.mb)) (.string who2) false).run Tryd.prog (w2.drewN n) = .ok (.int .i64 old) (w2.drewN n) := (fun n => by rw [(hx2.drewN n).look who2, lkA_memV_getD, HO.out]); clear hB2 hx2)
                go_quiet ((go_at_call 33; exact Calls.quiet_of_same (HPR.out _)))
                go_wp2
                go_ret
                exact ⟨by rw [HE.out]; rfl, HSAME.out w2 hbl _ HA.out _⟩
        · have HE : Hid (grantE A who cart who2 r = 18) := Lib.hid (by rw [HE1.out, HD.out, h1]; simp)
          have HA : Hid (grantA A who cart who2 r = A) := Lib.hid (by unfold grantA; rw [HE.out]; rfl)
          clear HE1 HD
          go_enter Tryd.func17, Tryd.ntmps17
          go_wp2_with (go_at_call 37; refine HC.out.mono ?_; rintro e w2 ⟨rfl, hb2⟩; have hbl : Below w.heap.size w w2 := ((Below.refl _ _).alloc (Nat.le_refl _) _).trans (hb2.mono (by simp)); have hB2 := HB.out.below hbl; have hx2 := hB2.hp x hpx; have c1 := cell0 hx2.1 0; have c2 := cell0 hx2.1 1; have HPR : Hid (∀ n, Calls Tryd.prog 33 #[.pointer (some ⟨x.p, 0, none⟩), .string who] (w2.drewN n) fun e w' => e = .returned (.int .i64 mine) ∧ w' = w2.drewN n) := Lib.hid (fun n => by rw [HM.out]; exact (prights_any x who (w2.drewN n) (hx2.drewN n)).mono fun _ _ ⟨h, h'⟩ => ⟨h, h'.symm⟩); have hlk : ∀ n, (Instr.lookup 78 (.map (some x.mb)) (.string who2) false).run Tryd.prog (w2.drewN n) = .ok (.int .i64 old) (w2.drewN n) := (fun n => by rw [(hx2.drewN n).look who2, lkA_memV_getD, HO.out]); clear hB2 hx2)
          go_quiet ((go_at_call 33; exact Calls.quiet_of_same (HPR.out _)))
          go_wp2
          go_ret
          exact ⟨by rw [HE.out]; rfl, HSAME.out w2 hbl _ HA.out _⟩
end Go.Proofs.YtdeljhehcjknbaaDoor
