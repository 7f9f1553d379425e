/- Book.Close walked: for every book of the shape of S4. -/
import Derived.Test.YtdeljhehcjknbaaDoorS5
namespace Go.Proofs.YtdeljhehcjknbaaDoor
open Go.RowKit Go.Maps

theorem foot_app (b : Nat) (mr : Option Nat) (L1 L2 : List PgR) (x : PgR) : foot b mr (L1 ++ x :: L2) = b :: (mr.toList ++ ((L1.flatMap fun x => [x.p, x.mb]) ++ ([x.p, x.mb] ++ L2.flatMap fun x => [x.p, x.mb]))) := by simp [foot]
theorem foot_app' (b : Nat) (mr : Option Nat) (L1 L2 : List PgR) : foot b mr (L1 ++ L2) = b :: (mr.toList ++ ((L1.flatMap fun x => [x.p, x.mb]) ++ L2.flatMap fun x => [x.p, x.mb])) := by simp [foot]

theorem mem_foot {b : Nat} {mr : Option Nat} {L : List PgR} {y : PgR} (hy : y ∈ L) : y.p ∈ foot b mr L ∧ y.mb ∈ foot b mr L := by
  constructor
  · simp only [foot, List.mem_cons, List.mem_append, List.mem_flatMap]; right; right; exact ⟨y, hy, by simp⟩
  · simp only [foot, List.mem_cons, List.mem_append, List.mem_flatMap]; right; right; exact ⟨y, hy, by simp⟩

theorem foot_sub (b : Nat) (mr : Option Nat) (L1 L2 : List PgR) (x : PgR) : (foot b mr (L1 ++ L2)).Sublist (foot b mr (L1 ++ x :: L2)) := by
  rw [foot_app, foot_app']
  exact ((List.Sublist.refl _).append ((List.Sublist.refl _).append (List.sublist_append_right _ _))).cons_cons _

theorem BookIs.close {w w4 : World} {b r : Nat} {L : List PgR} {cart : ByteArray} {x : PgR} (hB : BookIs w b (some r) L) (hp : pgA L cart = some x) (hg : w.grownBy w4 (some r)) (hm4 : MapIs w4 r (delA (ptrs L) cart)) :
    ∃ L', BookIs w4 b (some r) L' ∧ L'.map PgR.abs = aDel (L.map PgR.abs) cart ∧ ∀ k ∈ foot b (some r) L', k ∈ foot b (some r) L := by
  obtain ⟨L1, L2, rfl, _, h3, h4, _⟩ := pgA_split hp
  have hsub := foot_sub b (some r) L1 L2 x
  have hnd := hB.nd.sublist hsub
  have hr : ∀ k ∈ foot b (some r) (L1 ++ L2), k ≠ r → w4.heap[k]? = w.heap[k]? := fun k hk hne => hg.block k (hB.foot_lt k (hsub.subset hk)) (by simpa using hne)
  have hbr : b ≠ r := by have := hnd; simp [foot] at this; exact fun e => this.1.1 e
  refine ⟨L1 ++ L2, ⟨?_, ?_, ?_, hnd, ?_, ?_⟩, ?_, fun k hk => hsub.subset hk⟩
  · rw [hr b (by simp [foot]) hbr]; exact hB.hb
  · show MapIs w4 r _
    rw [← h4]; exact hm4
  · intro y hy
    have hy' : y ∈ L1 ++ x :: L2 := by simp only [List.mem_append, List.mem_cons] at hy ⊢; rcases hy with h | h <;> simp [h]
    have hx1 : y.p ≠ r ∧ y.mb ≠ r := by
      have := hnd
      simp only [foot, List.nodup_cons, Option.toList_some, List.singleton_append, List.mem_cons, List.mem_flatMap] at this
      refine ⟨fun e => this.2.1 ⟨y, hy, by simp [e]⟩, fun e => this.2.1 ⟨y, hy, by simp [e]⟩⟩
    obtain ⟨g1, g2⟩ := hB.hp y hy'
    exact ⟨by rw [hr _ (mem_foot hy).1 hx1.1]; exact g1, g2.of_block (hr _ (mem_foot hy).2 hx1.2)⟩
  · intro y hy
    exact hB.wf y (by simp only [List.mem_append, List.mem_cons] at hy ⊢; rcases hy with h | h <;> simp [h])
  · have := hB.len; simp at this ⊢; omega
  · rw [h3]; simp

theorem BookIs.page {w w4 : World} {b : Nat} {mr : Option Nat} {L : List PgR} {cart : ByteArray} {x : PgR} (hB : BookIs w b mr L) (hp : pgA L cart = some x) (owner' : ByteArray) (mem' : List (ByteArray × Int))
    (hbl : ∀ k ∈ foot b mr L, k ≠ x.p → k ≠ x.mb → w4.heap[k]? = w.heap[k]?) (hpx : w4.heap[x.p]? = some (.cells #[.string owner', .map (some x.mb)] 80)) (hmx : MapIs w4 x.mb (memV mem'))
    (ho : keyB owner' = true) (hl : mem'.length ≤ 50) (hm' : ∀ m ∈ mem', keyB m.1 = true ∧ 1 ≤ m.2 ∧ m.2 ≤ 15) :
    ∃ L', BookIs w4 b mr L' ∧ L'.map PgR.abs = aSet (L.map PgR.abs) cart ⟨x.cart, owner', mem'⟩ ∧ foot b mr L' = foot b mr L := by
  obtain ⟨L1, L2, rfl, h2, _, _, hc⟩ := pgA_split hp
  have hf : foot b mr (L1 ++ ⟨x.cart, x.p, x.mb, owner', mem'⟩ :: L2) = foot b mr (L1 ++ x :: L2) := by rw [foot_app, foot_app]
  have hnd := hB.nd
  have hin : ∀ y ∈ L1 ++ x :: L2, y.p ∈ foot b mr (L1 ++ x :: L2) ∧ y.mb ∈ foot b mr (L1 ++ x :: L2) := fun y hy => mem_foot hy
  -- the page's two blocks stand in the book's list once each
  have hone : ∀ k, (k = b ∨ k ∈ mr.toList ∨ (∃ y ∈ L1 ++ L2, k = y.p ∨ k = y.mb)) → k ≠ x.p ∧ k ≠ x.mb := by
    intro k hk
    rw [foot_app] at hnd
    have hperm : (b :: (mr.toList ++ ((L1.flatMap fun x => [x.p, x.mb]) ++ ([x.p, x.mb] ++ L2.flatMap fun x => [x.p, x.mb])))).Perm ([x.p, x.mb] ++ (b :: (mr.toList ++ ((L1.flatMap fun x => [x.p, x.mb]) ++ L2.flatMap fun x => [x.p, x.mb])))) := by
      rw [List.perm_iff_count]
      intro a
      simp only [List.count_append, List.count_cons, List.count_nil]
      omega
    have hnd2 := (hperm.nodup_iff).1 hnd
    have h3 := List.nodup_append.1 hnd2
    have hkm : k ∈ b :: (mr.toList ++ ((L1.flatMap fun x => [x.p, x.mb]) ++ L2.flatMap fun x => [x.p, x.mb])) := by
      rcases hk with rfl | h | ⟨y, hy, h⟩
      · simp
      · simp [h]
      · simp only [List.mem_cons, List.mem_append, List.mem_flatMap]
        rcases List.mem_append.1 hy with hy | hy
        · right; right; left; exact ⟨y, hy, by rcases h with rfl | rfl <;> simp⟩
        · right; right; right; exact ⟨y, hy, by rcases h with rfl | rfl <;> simp⟩
    exact ⟨fun e => h3.2.2 x.p (by simp) k hkm e.symm, fun e => h3.2.2 x.mb (by simp) k hkm e.symm⟩
  refine ⟨L1 ++ ⟨x.cart, x.p, x.mb, owner', mem'⟩ :: L2, ⟨?_, ?_, ?_, by rw [hf]; exact hnd, ?_, ?_⟩, ?_, hf⟩
  · have := hone b (Or.inl rfl)
    rw [hbl b (by simp [foot]) this.1 this.2]; exact hB.hb
  · have e : ptrs (L1 ++ ⟨x.cart, x.p, x.mb, owner', mem'⟩ :: L2) = ptrs (L1 ++ x :: L2) := by simp [ptrs, PgR.ptr]
    rw [e]
    have hm := hB.hm
    cases mr with
    | none => exact hm
    | some r =>
      have := hone r (Or.inr (Or.inl (by simp)))
      exact MapIs.of_block hm (hbl r (by simp [foot]) this.1 this.2)
  · intro y hy
    have hy' : y ∈ L1 ++ L2 ∨ y = ⟨x.cart, x.p, x.mb, owner', mem'⟩ := by
      simp only [List.mem_append, List.mem_cons] at hy ⊢; rcases hy with h | h | h <;> simp [h]
    rcases hy' with hy' | rfl
    · have hy2 : y ∈ L1 ++ x :: L2 := by simp only [List.mem_append, List.mem_cons] at hy' ⊢; rcases hy' with h | h <;> simp [h]
      obtain ⟨g1, g2⟩ := hB.hp y hy2
      have n1 := hone y.p (Or.inr (Or.inr ⟨y, hy', Or.inl rfl⟩))
      have n2 := hone y.mb (Or.inr (Or.inr ⟨y, hy', Or.inr rfl⟩))
      exact ⟨by rw [hbl _ (hin y hy2).1 n1.1 n1.2]; exact g1, g2.of_block (hbl _ (hin y hy2).2 n2.1 n2.2)⟩
    · exact ⟨hpx, hmx⟩
  · intro y hy
    have hy' : y ∈ L1 ++ L2 ∨ y = ⟨x.cart, x.p, x.mb, owner', mem'⟩ := by
      simp only [List.mem_append, List.mem_cons] at hy ⊢; rcases hy with h | h | h <;> simp [h]
    rcases hy' with hy' | rfl
    · exact hB.wf y (by simp only [List.mem_append, List.mem_cons] at hy' ⊢; rcases hy' with h | h <;> simp [h])
    · exact ⟨(hB.wf x (by simp)).1, ho, hl, hm'⟩
  · have := hB.len; simp at this ⊢; omega
  · rw [h2]; simp [PgR.abs]

theorem checkR_bad {L : List PgR} {cart : ByteArray} {ss : List ByteArray} (h : (keyB cart && ss.all keyB) = false) : checkR L cart ss = (.pointer none, 2) := by unfold checkR; rw [h]; rfl
theorem checkR_none {L : List PgR} {cart : ByteArray} {ss : List ByteArray} (h : (keyB cart && ss.all keyB) = true) (hp : pgA L cart = none) : checkR L cart ss = (.pointer none, 9) := by unfold checkR; rw [h, hp]; rfl
theorem checkR_some {L : List PgR} {cart : ByteArray} {ss : List ByteArray} {x : PgR} (h : (keyB cart && ss.all keyB) = true) (hp : pgA L cart = some x) : checkR L cart ss = (.pointer (some ⟨x.p, 0, none⟩), 0) := by unfold checkR; rw [h, hp]; rfl

theorem memV_len (l : List (ByteArray × Int)) : (memV l).length = l.length := by simp [memV]
theorem memV_del (l : List (ByteArray × Int)) (k : ByteArray) : delA (memV l) k = memV (delA l k) := by
  induction l with
  | nil => rfl
  | cons x l ih => simp only [memV, List.map_cons, delA] at ih ⊢; split <;> simp_all
theorem memV_put (l : List (ByteArray × Int)) (k : ByteArray) (r : Int) : putA (memV l) k (.int .i64 r) = memV (putA l k r) := by
  induction l with
  | nil => rfl
  | cons x l ih => simp only [memV, List.map_cons, putA] at ih ⊢; split <;> simp_all

set_option maxRecDepth 100000 in
set_option maxHeartbeats 1000000 in
theorem close_any (b : Nat) (A : List APg) (F : Nat → Prop) (who cart : ByteArray) (w : World) (hK : Book w b A F) (hw : who.size ≤ maxLen) (hc : cart.size ≤ maxLen) :
    Calls Tryd.prog 23 #[.pointer (some ⟨b, 0, none⟩), .string who, .string cart] w fun e w' =>
      e = .returned (.int .i64 (closeE A who cart)) ∧ Book w' b (closeA A who cart) (Wider F w w') ∧ Keep F w w' := by
  obtain ⟨mr, L, hB, hA, hF, hFs⟩ := hK
  have HF := Lib.hid hF
  have HB := Lib.hid hB
  have hB1 := hB.below ((Below.refl w.heap.size w).alloc (Nat.le_refl _) (.cells #[.string who] 9))
  have HC := Lib.hid (check_any b w.heap.size 1 mr L cart [who] (w.alloc (.cells #[.string who] 9)) hB1 hc (by simp) (by simp) (strsAt1 w 9 who) (by simpa using hw))
  have HWlt : Hid (∀ w', w.heap.size ≤ w'.heap.size → ∀ k, Wider F w w' k → k < w'.heap.size) := Lib.hid (fun w' hs k h => by
    rcases h with h | h
    · have := hFs k h; omega
    · exact h.2)
  clear hB hB1 hF hFs
  have hkk : (keyB cart && [who].all keyB) = (keyB cart && keyB who) := by simp
  cases hk : keyB cart && keyB who
  · have HE : Hid (closeE A who cart = 2) := Lib.hid (by unfold closeE; rw [hk]; rfl)
    have HA : Hid (closeA A who cart = A) := Lib.hid (by unfold closeA; rw [HE.out]; rfl)
    rw [checkR_bad (hkk.trans hk)] at HC
    clear hk hkk
    go_enter Tryd.func23, Tryd.ntmps23
    go_wp2_with (go_at_call 37; refine HC.out.mono ?_; rintro e w2 ⟨rfl, hb2⟩)
    go_ret
    have hbl : Below w.heap.size w w2 := ((Below.refl _ _).alloc (Nat.le_refl _) _).trans (hb2.mono (by simp))
    refine ⟨by rw [HE.out]; rfl, ?_, Keep.of_below hbl⟩
    rw [HA.out, hA]
    exact ⟨mr, L, HB.out.below hbl, rfl, fun k hk => Or.inl (HF.out k hk), HWlt.out _ hbl.size⟩
  · cases hp : pgA L cart with
    | none =>
      have HE : Hid (closeE A who cart = 9) := Lib.hid (by unfold closeE; rw [hk, hA, aFind_abs, hp]; rfl)
      have HA : Hid (closeA A who cart = A) := Lib.hid (by unfold closeA; rw [HE.out]; rfl)
      rw [checkR_none (hkk.trans hk) hp] at HC
      clear hk hkk hp
      go_enter Tryd.func23, Tryd.ntmps23
      go_wp2_with (go_at_call 37; refine HC.out.mono ?_; rintro e w2 ⟨rfl, hb2⟩)
      go_ret
      have hbl : Below w.heap.size w w2 := ((Below.refl _ _).alloc (Nat.le_refl _) _).trans (hb2.mono (by simp))
      refine ⟨by rw [HE.out]; rfl, ?_, Keep.of_below hbl⟩
      rw [HA.out, hA]
      exact ⟨mr, L, HB.out.below hbl, rfl, fun k hk => Or.inl (HF.out k hk), HWlt.out _ hbl.size⟩
    | some x =>
      have hpx := (pgA_mem hp).1
      cases mr with
      | none => exfalso; have e : ptrs L = [] := HB.out.hm; have := lenPtrs L; rw [e] at this; have : L = [] := List.eq_nil_of_length_eq_zero (by simpa using this.symm); rw [this] at hpx; cases hpx
      | some r =>
        have HP := Lib.hid hp
        by_cases ho : x.owner = who
        · have HE : Hid (closeE A who cart = 0) := Lib.hid (by unfold closeE; rw [hk, hA, aFind_abs, hp]; simp [PgR.abs, ho])
          have HA : Hid (closeA A who cart = aDel A cart) := Lib.hid (by unfold closeA; rw [HE.out]; rfl)
          rw [checkR_some (hkk.trans hk) hp] at HC
          have ho' : (!(x.owner.toList == who.toList)) = false := by rw [str_eq ho]; rfl
          have ho2 : (x.owner.toList != who.toList) = false := ho'
          have ho3 := str_eq ho
          clear hk hkk hp ho
          go_enter Tryd.func23, Tryd.ntmps23
          go_wp2_with (first
            | (go_at_call 37; refine HC.out.mono ?_; rintro e w2 ⟨rfl, hb2⟩; have hbl : Below w.heap.size w w2 := ((Below.refl _ _).alloc (Nat.le_refl _) _).trans (hb2.mono (by simp)); have hB2 := HB.out.below hbl; have c0 := cell0 hB2.hb 0; have c1 := cell0 (hB2.hp x hpx).1 0; have HM : Hid (MapIs w2 r (ptrs L)) := Lib.hid hB2.hm; clear hB2)
            | (at_delete; refine wpList_delS rfl _ _ rfl Tryd.underlying32 Tryd.underlying9 rfl HM.out cart rfl ?_; intro w4 hm4 hg4))
          go_ret
          have hB2 := HB.out.below hbl
          obtain ⟨L', g1, g2, g3⟩ := hB2.close HP.out hg4 hm4
          have hs4 := hg4.size
          have hs2 := hbl.size
          refine ⟨by rw [HE.out]; rfl, ?_, ?_⟩
          · rw [HA.out, hA, ← g2]
            exact ⟨some r, L', g1, rfl, fun k hk => Or.inl (HF.out k (g3 k hk)), HWlt.out _ (by omega)⟩
          · exact (((KeepN.refl _ _ _).below hbl (Nat.le_refl _)).grown hg4 hs2 (fun _ => HF.out r (by simp [foot]))).keep
        · have HE : Hid (closeE A who cart = 18) := Lib.hid (by unfold closeE; rw [hk, hA, aFind_abs, hp]; simp [PgR.abs, ho])
          have HA : Hid (closeA A who cart = A) := Lib.hid (by unfold closeA; rw [HE.out]; rfl)
          rw [checkR_some (hkk.trans hk) hp] at HC
          have ho' : (!(x.owner.toList == who.toList)) = true := by rw [str_ne ho]; rfl
          have ho2 : (x.owner.toList != who.toList) = true := ho'
          have ho3 := str_ne ho
          clear hk hkk hp ho
          go_enter Tryd.func23, Tryd.ntmps23
          go_wp2_with (go_at_call 37; refine HC.out.mono ?_; rintro e w2 ⟨rfl, hb2⟩; have hbl : Below w.heap.size w w2 := ((Below.refl _ _).alloc (Nat.le_refl _) _).trans (hb2.mono (by simp)); have hB2 := HB.out.below hbl; have c0 := cell0 hB2.hb 0; have c1 := cell0 (hB2.hp x hpx).1 0; clear hB2)
          go_ret
          refine ⟨by rw [HE.out]; rfl, ?_, Keep.of_below hbl⟩
          rw [HA.out, hA]
          exact ⟨some r, L, HB.out.below hbl, rfl, fun k hk => Or.inl (HF.out k hk), HWlt.out _ hbl.size⟩
end Go.Proofs.YtdeljhehcjknbaaDoor
