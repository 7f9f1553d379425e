/- Book.Pass walked: for every book of the shape of S4. -/
import Derived.Test.YtdeljhehcjknbaaDoorS7
namespace Go.Proofs.YtdeljhehcjknbaaDoor
open Go.RowKit Go.Maps

theorem page_ne {b : Nat} {mr : Option Nat} {L : List PgR} {w : World} {cart : ByteArray} {x : PgR} (hB : BookIs w b mr L) (hp : pgA L cart = some x) : x.p ≠ x.mb := by
  have hnd := hB.nd
  obtain ⟨L1, L2, rfl, _⟩ := pgA_split hp
  rw [foot_app] at hnd
  simp at hnd
  have := hnd.2
  intro e
  have h5 := (List.nodup_append.1 (List.nodup_append.1 this).2.1).2.1
  simp [e] at h5

theorem delA_not {α : Type} {m : List (ByteArray × α)} {k : ByteArray} (hn : (m.map (·.1)).Nodup) : ∀ p ∈ delA m k, p.1 ≠ k := by
  induction m with
  | nil => simp [delA]
  | cons q m ih =>
    simp only [List.map_cons, List.nodup_cons] at hn
    simp only [delA]
    split
    · rename_i e
      intro p hp e2
      exact hn.1 (by rw [← e, ← e2]; exact List.mem_map.2 ⟨p, hp, rfl⟩)
    · rename_i e
      intro p hp
      rcases List.mem_cons.1 hp with rfl | hp
      · exact fun e2 => e e2.symm
      · exact ih hn.2 p hp

theorem del_len : ∀ (m : List (ByteArray × Int)) (k : ByteArray), (lkA m k).getD 0 ≠ 0 → (delA m k).length + 1 = m.length
  | [], _, h => by simp [lkA] at h
  | q :: m, k, h => by
    simp only [lkA, delA] at h ⊢
    split
    · rfl
    · rename_i e
      rw [if_neg e] at h
      simp only [List.length_cons]
      rw [del_len m k h]

theorem pass_len {m : List (ByteArray × Int)} {k k2 : ByteArray} (hl : m.length ≤ 50) (h : ¬ ((lkA m k).getD 0 = 0 ∧ 50 ≤ m.length)) : (putA (delA m k) k2 15).length ≤ 50 := by
  rw [putA_len]
  have h1 := (delA_sub m k).length_le
  split
  · omega
  · by_cases h50 : 50 ≤ m.length
    · have hne : (lkA m k).getD 0 ≠ 0 := fun e => h ⟨e, h50⟩
      have := del_len m k hne
      omega
    · omega

/-- A page's owner and members have turned, and nothing else. -/
theorem pass_done {w w2 w4 w5 : World} {b : Nat} {mr : Option Nat} {A : List APg} {L : List PgR} {F : Nat → Prop} {cart : ByteArray} {x : PgR} (hB : BookIs w b mr L) (hA : A = L.map PgR.abs) (hF : ∀ k ∈ foot b mr L, F k) (hFs : ∀ k, F k → k < w.heap.size) (hbl : Below w.heap.size w w2)
    (hp : pgA L cart = some x) (hg : w2.grownBy w4 (some x.mb)) (owner' : ByteArray) (h5 : w5 = w4.setCell ⟨x.p, 0, none⟩ (.string owner')) (mem' : List (ByteArray × Int)) (hm4 : MapIs w4 x.mb (memV mem')) (ho : keyB owner' = true) (hl : mem'.length ≤ 50) (hm' : ∀ m ∈ mem', keyB m.1 = true ∧ 1 ≤ m.2 ∧ m.2 ≤ 15) (A' : List APg) (hA' : A' = aSet A cart ⟨x.cart, owner', mem'⟩) :
    Book w5 b A' (Wider F w w5) ∧ Keep F w w5 := by
  subst h5 hA' hA
  have hx := (pgA_mem hp).1
  have hB2 := hB.below hbl
  have hne := page_ne hB hp
  have hs4 := hg.size
  have hs2 := hbl.size
  have hs5 := setCell_size w4 ⟨x.p, 0, none⟩ (.string owner')
  have hp4 : w4.heap[x.p]? = some (.cells #[.string x.owner, .map (some x.mb)] 80) := by
    rw [hg.block x.p (lt_of_heap (hB2.hp x hx).1) (by simpa using hne)]; exact (hB2.hp x hx).1
  obtain ⟨L', g1, g2, g3⟩ := hB2.page (w4 := w4.setCell ⟨x.p, 0, none⟩ (.string owner')) hp owner' mem'
    (fun k hk h1 h2 => by rw [Below.heap_setCell _ _ _ _ h1]; exact hg.block k (hB2.foot_lt k hk) (by simpa using h2))
    (setCell_same hp4 0 _) (hm4.setCell hne.symm _) ho hl hm'
  refine ⟨⟨mr, L', g1, g2.symm, fun k hk => Or.inl (hF k (by rw [← g3]; exact hk)), ?_⟩, ?_⟩
  · rintro k (h | h)
    · have := hFs k h; omega
    · exact h.2
  · exact ((((KeepN.refl _ _ _).below hbl (Nat.le_refl _)).grown hg (by omega) (fun _ => hF _ (mem_foot hx).2)).setCell _ _ (fun _ => hF _ (mem_foot hx).1)).keep

theorem grownBy_trans {a b c : World} {r : Nat} (h : a.grownBy b (some r)) (k : b.grownBy c (some r)) : a.grownBy c (some r) :=
  ⟨k.os.trans h.os, k.tape.trans h.tape, k.output.trans h.output, Nat.le_trans h.size k.size, fun i hi hn => (k.block i (Nat.lt_of_lt_of_le hi h.size) hn).trans (h.block i hi hn)⟩

set_option maxRecDepth 100000 in
set_option maxHeartbeats 2000000 in
theorem pass_any (b : Nat) (A : List APg) (F : Nat → Prop) (who cart who2 : ByteArray) (w : World) (hK : Book w b A F) (hw : who.size ≤ maxLen) (hc : cart.size ≤ maxLen) (hw2 : who2.size ≤ maxLen) :
    Calls Tryd.prog 16 #[.pointer (some ⟨b, 0, none⟩), .string who, .string cart, .string who2] w fun e w' =>
      e = .returned (.int .i64 (passE A who cart who2)) ∧ Book w' b (passA A who cart who2) (Wider F w w') ∧ Keep F w w' := by
  obtain ⟨mr, L, hB, hA, hF, hFs⟩ := hK
  have HSAME := Lib.hid (fun w2 h1 h2 h3 n => grant_same hB hA hF hFs (w2 := w2) h1 h2 h3 n)
  have hFs' := Lib.hid hFs
  have HF := Lib.hid hF
  have HB := Lib.hid hB
  have hB1 := hB.below ((Below.refl w.heap.size w).alloc (Nat.le_refl _) (.cells #[.string who, .string who2] 9))
  have HC := Lib.hid (check_any b w.heap.size 2 mr L cart [who, who2] (w.alloc (.cells #[.string who, .string who2] 9)) hB1 hc (by simp) (by simp) (strsAt2 w 9 who who2) (mem2 hw hw2))
  have HAL := Lib.hid hA
  clear hB hB1 hF hFs hA
  have hkk : (keyB cart && [who, who2].all keyB) = (keyB cart && (keyB who && keyB who2)) := by simp
  have same : ∀ n, n ≠ 0 → passE A who cart who2 = n → passA A who cart who2 = A := fun n hn h => by unfold passA; rw [h, if_neg (fun e => hn e.1)]
  have HSE := Lib.hid same
  clear same
  cases hk : keyB cart && (keyB who && keyB who2)
  · have HE : Hid (passE A who cart who2 = 2) := Lib.hid (by unfold passE; rw [hk]; rfl)
    rw [checkR_bad (hkk.trans hk)] at HC
    clear hk hkk
    go_enter Tryd.func16, Tryd.ntmps16
    go_wp2_with (go_at_call 37; refine HC.out.mono ?_; rintro e w2 ⟨rfl, hb2⟩)
    go_ret
    have hbl : Below w.heap.size w w2 := ((Below.refl _ _).alloc (Nat.le_refl _) _).trans (hb2.mono (by simp))
    exact ⟨by rw [HE.out]; rfl, HSAME.out w2 hbl _ (HSE.out _ (by decide) HE.out) 0⟩
  · cases hp : pgA L cart with
    | none =>
      have HE : Hid (passE A who cart who2 = 9) := Lib.hid (by unfold passE; rw [hk, HAL.out, aFind_abs, hp]; rfl)
      rw [checkR_none (hkk.trans hk) hp] at HC
      clear hk hkk hp
      go_enter Tryd.func16, Tryd.ntmps16
      go_wp2_with (go_at_call 37; refine HC.out.mono ?_; rintro e w2 ⟨rfl, hb2⟩)
      go_ret
      have hbl : Below w.heap.size w w2 := ((Below.refl _ _).alloc (Nat.le_refl _) _).trans (hb2.mono (by simp))
      exact ⟨by rw [HE.out]; rfl, HSAME.out w2 hbl _ (HSE.out _ (by decide) HE.out) 0⟩
    | some x =>
      have hpx := (pgA_mem hp).1
      rw [checkR_some (hkk.trans hk) hp] at HC
      have HP := Lib.hid hp
      have HE1 : Hid (passE A who cart who2 = if x.owner = who then (if who = who2 then 0 else if (lkA x.mem who2).getD 0 = 0 ∧ 50 ≤ x.mem.length then 7 else 0) else 18) := Lib.hid (by unfold passE; rw [hk, HAL.out, aFind_abs, hp]; rfl)
      have HKK := Lib.hid hk
      have HW := Lib.hid (HB.out.wf x hpx)
      have HDONE := Lib.hid (fun w2 w4 w5 h1 h2 ow h3 mem' h4 h5 h6 h7 A' h8 => pass_done (w2 := w2) (w4 := w4) (w5 := w5) HB.out HAL.out HF.out hFs'.out h1 HP.out h2 ow h3 mem' h4 h5 h6 h7 A' h8)
      obtain ⟨old, hold⟩ : ∃ m, m = (lkA x.mem who2).getD 0 := ⟨_, rfl⟩
      have HO := Lib.hid hold
      rw [← hold] at HE1
      clear hk hkk hp hold
      by_cases ho : x.owner = who
      · have ho1 := str_eq ho
        have ho2 : (x.owner.toList != who.toList) = false := by simp [ho]
        by_cases hs : who = who2
        · have hs1 := str_eq hs
          have HE : Hid (passE A who cart who2 = 0) := Lib.hid (by rw [HE1.out, if_pos ho, if_pos hs])
          have HA : Hid (passA A who cart who2 = A) := Lib.hid (by unfold passA; rw [if_neg (fun e => e.2 hs)])
          clear ho hs HE1
          go_enter Tryd.func16, Tryd.ntmps16
          go_wp2_with (go_at_call 37; refine HC.out.mono ?_; rintro e w2 ⟨rfl, hb2⟩; have hbl : Below w.heap.size w w2 := ((Below.refl _ _).alloc (Nat.le_refl _) _).trans (hb2.mono (by simp)); have hB2 := HB.out.below hbl; have hx2 := Lib.hid (hB2.hp x hpx); have hne := page_ne HB.out HP.out; have c1 := cell0 hx2.out.1 0; have c2 := cell0 hx2.out.1 1; have hlk := hx2.out.look who2; rw [lkA_memV_getD, ← HO.out] at hlk; have hln : ∀ ty, _ := (fun ty => MapIs.len (P := Tryd.prog) hx2.out.2 Tryd.underlying78 ty); rw [memV_len] at hln; have HXM : Hid (MapIs w2 x.mb (memV x.mem)) := Lib.hid hx2.out.2; clear hB2)
          go_ret
          exact ⟨by rw [HE.out]; rfl, HSAME.out w2 hbl _ HA.out 0⟩
        · have hs1 := str_ne hs
          by_cases hfull : old = 0 ∧ 50 ≤ x.mem.length
          · have HE : Hid (passE A who cart who2 = 7) := Lib.hid (by rw [HE1.out, if_pos ho, if_neg hs, if_pos hfull])
            have hf1 : (old == 0) = true := by simpa using hfull.1
            have hf2 : (50 : Int) ≤ x.mem.length := by omega
            clear ho hs HE1 hfull
            go_enter Tryd.func16, Tryd.ntmps16
            go_wp2_with (go_at_call 37; refine HC.out.mono ?_; rintro e w2 ⟨rfl, hb2⟩; have hbl : Below w.heap.size w w2 := ((Below.refl _ _).alloc (Nat.le_refl _) _).trans (hb2.mono (by simp)); have hB2 := HB.out.below hbl; have hx2 := Lib.hid (hB2.hp x hpx); have hne := page_ne HB.out HP.out; have c1 := cell0 hx2.out.1 0; have c2 := cell0 hx2.out.1 1; have hlk := hx2.out.look who2; rw [lkA_memV_getD, ← HO.out] at hlk; have hln : ∀ ty, _ := (fun ty => MapIs.len (P := Tryd.prog) hx2.out.2 Tryd.underlying78 ty); rw [memV_len] at hln; have HXM : Hid (MapIs w2 x.mb (memV x.mem)) := Lib.hid hx2.out.2; clear hB2)
            go_ret
            exact ⟨by rw [HE.out]; rfl, HSAME.out w2 hbl _ (HSE.out _ (by decide) HE.out) 0⟩
          · have HE : Hid (passE A who cart who2 = 0) := Lib.hid (by rw [HE1.out, if_pos ho, if_neg hs, if_neg hfull])
            have HA : Hid (passA A who cart who2 = aSet A cart ⟨x.cart, who2, putA (delA x.mem who2) who 15⟩) := Lib.hid (by unfold passA; rw [if_pos ⟨HE.out, hs⟩, HAL.out, aFind_abs, HP.out]; rfl)
            have HLEN : Hid ((putA (delA x.mem who2) who 15).length ≤ 50) := Lib.hid (pass_len HW.out.2.2.1 (by rw [← HO.out]; exact hfull))
            have hlt : old = 0 → ¬ ((50 : Int) ≤ x.mem.length) := fun h h5 => hfull ⟨h, by omega⟩
            clear ho hs HE1 hfull
            by_cases hz : old = 0
            all_goals
              first
              | (have hz1 : (old == 0) = true := by simpa using hz
                 have hz2 := hlt hz
                 clear hz hlt
                 have tok : True := trivial)
              | (have hz1 : (old == 0) = false := by simpa using hz
                 clear hz hlt)
              go_enter Tryd.func16, Tryd.ntmps16
              go_wp2_with (first
                | (go_at_call 37; refine HC.out.mono ?_; rintro e w2 ⟨rfl, hb2⟩; have hbl : Below w.heap.size w w2 := ((Below.refl _ _).alloc (Nat.le_refl _) _).trans (hb2.mono (by simp)); have hB2 := HB.out.below hbl; have hx2 := Lib.hid (hB2.hp x hpx); have hne := page_ne HB.out HP.out; have c1 := cell0 hx2.out.1 0; have c2 := cell0 hx2.out.1 1; have hlk := hx2.out.look who2; rw [lkA_memV_getD, ← HO.out] at hlk; have hln : ∀ ty, _ := (fun ty => MapIs.len (P := Tryd.prog) hx2.out.2 Tryd.underlying78 ty); rw [memV_len] at hln; have HXM : Hid (MapIs w2 x.mb (memV x.mem)) := Lib.hid hx2.out.2; clear hB2)
                | (at_delete; refine wpList_delS rfl _ _ rfl Tryd.underlying78 Tryd.underlying9 rfl HXM.out who2 rfl ?_; intro w3 hm3 hg3; rw [memV_del] at hm3; have hb3 := hg3.block x.p (lt_of_heap hx2.out.1) (by simpa using hne); have hx3 := hb3.trans hx2.out.1; clear hb3; have c1 := cell0 hx3 0; have c2 := cell0 hx3 1; have HM3 := Lib.hid hm3; have HX3 := Lib.hid hx3; clear hm3 hx3)
                | (refine wpList_entryS rfl _ _ rfl Tryd.underlying78 Tryd.underlying9 zero27 rfl HM3.out who rfl ?_; intro w4 st hg4 hst; have HST := Lib.hid hst; clear hst)
                | (refine wpList_estoreS rfl _ _ _ rfl _ _ (.int .i64 15) rfl rfl rfl (fun w5 => MapIs w5 x.mb (putA (memV (delA x.mem who2)) who (.int .i64 15)) ∧ w4.grownBy w5 (some x.mb)) (HST.out w4 rfl _) ?_; rintro w5 ⟨hm5, hg5⟩; have hb5 := (hg5.block x.p (Nat.lt_of_lt_of_le (lt_of_heap HX3.out) hg4.size) (by simpa using hne)).trans ((hg4.block x.p (lt_of_heap HX3.out) (by simpa using hne)).trans HX3.out); have c1 := cell0 hb5 0; have f1 := froz0 hb5 0; have HM5 := Lib.hid hm5; clear hm5 hb5))
              go_ret
              refine ⟨by rw [HE.out]; rfl, ?_⟩
              have hm5 := HM5.out
              rw [memV_put] at hm5
              have hkk := HKK.out
              simp only [Bool.and_eq_true] at hkk
              refine HDONE.out w2 w5 _ hbl (grownBy_trans (grownBy_trans hg3 hg4) hg5) who2 rfl _ hm5 hkk.2.2 HLEN.out (fun m hm => ?_) _ HA.out
              rcases putA_mem hm with hm | rfl
              · exact HW.out.2.2.2 m ((delA_sub _ _).subset hm)
              · exact ⟨hkk.2.1, by show (1 : Int) ≤ 15; decide, by show (15 : Int) ≤ 15; decide⟩
      · have ho1 := str_ne ho
        have ho2 : (x.owner.toList != who.toList) = true := by rw [bne, ho1]; rfl
        have HE : Hid (passE A who cart who2 = 18) := Lib.hid (by rw [HE1.out, if_neg ho])
        clear ho HE1
        go_enter Tryd.func16, Tryd.ntmps16
        go_wp2_with (go_at_call 37; refine HC.out.mono ?_; rintro e w2 ⟨rfl, hb2⟩; have hbl : Below w.heap.size w w2 := ((Below.refl _ _).alloc (Nat.le_refl _) _).trans (hb2.mono (by simp)); have hB2 := HB.out.below hbl; have hx2 := Lib.hid (hB2.hp x hpx); have hne := page_ne HB.out HP.out; have c1 := cell0 hx2.out.1 0; have c2 := cell0 hx2.out.1 1; have hlk := hx2.out.look who2; rw [lkA_memV_getD, ← HO.out] at hlk; have hln : ∀ ty, _ := (fun ty => MapIs.len (P := Tryd.prog) hx2.out.2 Tryd.underlying78 ty); rw [memV_len] at hln; have HXM : Hid (MapIs w2 x.mb (memV x.mem)) := Lib.hid hx2.out.2; clear hB2)
        go_ret
        exact ⟨by rw [HE.out]; rfl, HSAME.out w2 hbl _ (HSE.out _ (by decide) HE.out) 0⟩
end Go.Proofs.YtdeljhehcjknbaaDoor
