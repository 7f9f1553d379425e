/- Book.Open walked: for every book of the shape of S4 and texts of at most maxLen bytes. -/
import Derived.Test.YtdeljhehcjknbaaDoorS4
namespace Go.Proofs.YtdeljhehcjknbaaDoor
open Go.RowKit Go.Maps

theorem strsAt1 (w : World) (T : TypeId) (x : ByteArray) : StrsAt (w.alloc (.cells #[.string x] T)) w.heap.size [x] := by
  intro k hk
  have : k = 0 := by simp at hk; omega
  subst this; simp
theorem strsAt2 (w : World) (T : TypeId) (x y : ByteArray) : StrsAt (w.alloc (.cells #[.string x, .string y] T)) w.heap.size [x, y] := by
  intro k hk
  have : k = 0 ∨ k = 1 := by simp at hk; omega
  rcases this with rfl | rfl <;> simp

theorem mem2 {P : ByteArray → Prop} {x y : ByteArray} (hx : P x) (hy : P y) : ∀ s ∈ [x, y], P s := by
  intro s hs
  simp at hs
  rcases hs with rfl | rfl
  · exact hx
  · exact hy

theorem len_nilmap (t k e : TypeId) (ht : Tryd.prog.underlying t = some (.map k e)) (ty : TypeId) (w : World) : (Builtin.len_ #[t] ty #[.map none]).run Tryd.prog w = .ok (.int .i64 0) w := by
  simp [Builtin.len_, run_underlying ht, Result.andThen, goInt]

theorem lenPtrs (L : List PgR) : (ptrs L).length = L.length := by simp [ptrs]

theorem MapIs.alloc {w : World} {r : Nat} {m : List (ByteArray × Value)} (h : MapIs w r m) (o : Obj) : MapIs (w.alloc o) r m := h.of_block (Below.heap_alloc _ _ _ h.lt)
theorem MapIs.setCell {w : World} {r : Nat} {m : List (ByteArray × Value)} (h : MapIs w r m) {a : Addr} (hne : r ≠ a.block) (v : Value) : MapIs (w.setCell a v) r m := h.of_block (Below.heap_setCell _ _ _ _ hne)

theorem setCell_size (w : World) (a : Addr) (v : Value) : (w.setCell a v).heap.size = w.heap.size := by simp [World.setCell]
theorem setCell_same {w : World} {b : Nat} {C : Array Value} {T : TypeId} {fz : Nat × Nat} (h : w.heap[b]? = some (.cells C T fz)) (i : Nat) (v : Value) : (w.setCell ⟨b, i, none⟩ v).heap[b]? = some (.cells (C.setIfInBounds i v) T fz) := by
  simp only [World.setCell, Array.getElem?_modify, if_true, h, Option.map_some]
  rfl
theorem alloc_new (w : World) (o : Obj) : (w.alloc o).heap[w.heap.size]? = some o := by show (w.heap.push o)[w.heap.size]? = _; simp
theorem alloc_size (w : World) (o : Obj) : (w.alloc o).heap.size = w.heap.size + 1 := by simp
theorem alloc_old (w : World) (o : Obj) {k : Nat} (h : k < w.heap.size) : (w.alloc o).heap[k]? = w.heap[k]? := Below.heap_alloc _ _ _ h

theorem newMap (w2 : World) (b : Nat) (o : Obj) : MapIs ((((w2.setCell ⟨b, 0, none⟩ (.map (some w2.heap.size))).alloc (.map #[] 0)).alloc (.map #[] 0)).alloc o) w2.heap.size [] := by
  have h := ((mapIs_new (w2.setCell ⟨b, 0, none⟩ (.map (some w2.heap.size)))).alloc (.map #[] 0)).alloc o
  rw [setCell_size] at h
  exact h

theorem foot_push (b r p mb : Nat) (L : List PgR) (c o : ByteArray) (l : List (ByteArray × Int)) : foot b (some r) (L ++ [⟨c, p, mb, o, l⟩]) = foot b (some r) L ++ [p, mb] := by simp [foot]

theorem BookIs.open_new {w4 : World} {b r p mb N : Nat} {L : List PgR} {cart who : ByteArray} (hb4 : w4.heap[b]? = some (.cells #[.map (some r)] 34)) (hm4 : MapIs w4 r (ptrs L ++ [(cart, .pointer (some ⟨p, 0, none⟩))])) (hold : ∀ x ∈ L, x.is w4)
    (hp4 : w4.heap[p]? = some (.cells #[.string who, .map (some mb)] 80)) (hmb : MapIs w4 mb []) (nd : (foot b (some r) L).Nodup) (hN : ∀ k ∈ foot b (some r) L, k < N) (hpN : N ≤ p) (hmN : N ≤ mb) (hpm : p ≠ mb) (wf : ∀ x ∈ L, x.wf) (len : L.length < 500)
    (hk : (keyB who && keyB cart) = true) : BookIs w4 b (some r) (L ++ [⟨cart, p, mb, who, []⟩]) := by
  rw [Bool.and_eq_true] at hk
  refine ⟨hb4, ?_, ?_, ?_, ?_, ?_⟩
  · show MapIs w4 r _
    simpa [ptrs, PgR.ptr] using hm4
  · intro x hx
    rcases List.mem_append.1 hx with hx | hx
    · exact hold x hx
    · simp at hx; subst hx; exact ⟨hp4, hmb⟩
  · rw [foot_push]
    refine List.nodup_append.2 ⟨nd, by simp [hpm], ?_⟩
    intro x hx y hy e
    have := hN x hx
    simp at hy
    rcases hy with rfl | rfl <;> omega
  · intro x hx
    rcases List.mem_append.1 hx with hx | hx
    · exact wf x hx
    · simp at hx; subst hx; exact ⟨hk.2, hk.1, by simp, by simp⟩
  · simp; omega

set_option maxRecDepth 100000 in
set_option maxHeartbeats 1000000 in
theorem open_any (b : Nat) (A : List APg) (F : Nat → Prop) (who cart : ByteArray) (w : World) (hK : Book w b A F) (hw : who.size ≤ maxLen) (hc : cart.size ≤ maxLen) :
    Calls Tryd.prog 14 #[.pointer (some ⟨b, 0, none⟩), .string who, .string cart] w fun e w' =>
      e = .returned (.int .i64 (openE A who cart)) ∧ Book w' b (openA A who cart) (Wider F w w') ∧ Keep F w w' := by
  obtain ⟨mr, L, hB, hA, hF, hFs⟩ := hK
  have HF := Lib.hid hF
  have HFs := Lib.hid hFs
  have HB := Lib.hid hB
  have hbw := lt_of_heap hB.hb
  have HKeys := Lib.hid (fun w0 h1 h2 => keys_any w.heap.size 2 [who, cart] w0 (by simp) h1 h2 (mem2 hw hc))
  have HS := Lib.hid (strsAt2 w 9 who cart)
  have HWid : Hid (∀ w', w.heap.size ≤ w'.heap.size → ∀ k, F k → Wider F w w' k) := Lib.hid (fun w' _ k h => Or.inl h)
  have HWlt : Hid (∀ w', w.heap.size ≤ w'.heap.size → ∀ k, Wider F w w' k → k < w'.heap.size) := Lib.hid (fun w' hs k h => by
    rcases h with h | h
    · have := hFs k h; omega
    · exact h.2)
  clear hB hF hFs
  cases hk : keyB who && keyB cart
  · have HE : Hid (openE A who cart = 2) := Lib.hid (by unfold openE; rw [hk]; rfl)
    have HA : Hid (openA A who cart = A) := Lib.hid (by unfold openA; rw [HE.out]; rfl)
    have hall : [who, cart].all keyB = false := by simp only [List.all_cons, List.all_nil, Bool.and_true]; exact hk
    rw [hall] at HKeys
    clear hall hk
    go_enter Tryd.func14, Tryd.ntmps14
    go_wp2_with (go_at_call 34; refine (HKeys.out _ (by simp) HS.out).mono ?_; rintro e w2 ⟨rfl, hb2⟩)
    go_ret
    have hbl : Below w.heap.size w w2 := ((Below.refl _ _).alloc (Nat.le_refl _) _).trans (hb2.mono (by simp))
    refine ⟨by rw [HE.out]; rfl, ?_, Keep.of_below hbl⟩
    rw [HA.out, hA]
    exact ⟨mr, L, HB.out.below hbl, rfl, fun k hk => Or.inl (HF.out k hk), HWlt.out _ hbl.size⟩
  · have hall : [who, cart].all keyB = true := by simp only [List.all_cons, List.all_nil, Bool.and_true]; exact hk
    rw [hall] at HKeys
    cases hp : pgA L cart with
    | some x =>
      have HE : Hid (openE A who cart = 11) := Lib.hid (by unfold openE; rw [hk, hA, aFind_abs, hp]; rfl)
      have HA : Hid (openA A who cart = A) := Lib.hid (by unfold openA; rw [HE.out]; rfl)
      have HP := Lib.hid hp
      clear hall hk hp
      go_enter Tryd.func14, Tryd.ntmps14
      go_wp2_with (go_at_call 34; refine (HKeys.out _ (by simp) HS.out).mono ?_; rintro e w2 ⟨rfl, hb2⟩; have hbl : Below w.heap.size w w2 := ((Below.refl _ _).alloc (Nat.le_refl _) _).trans (hb2.mono (by simp)); have hB2 := HB.out.below hbl; have c0 := cell0 hB2.hb 0; have hlk := hB2.look cart; rw [HP.out] at hlk; simp only [Option.map_some, Option.getD_some, PgR.ptr] at hlk; clear hB2)
      go_ret
      refine ⟨by rw [HE.out]; rfl, ?_, Keep.of_below hbl⟩
      rw [HA.out, hA]
      exact ⟨mr, L, HB.out.below hbl, rfl, fun k hk => Or.inl (HF.out k hk), HWlt.out _ hbl.size⟩
    | none =>
      have HP := Lib.hid hp
      by_cases hlen : 500 ≤ L.length
      · have HE : Hid (openE A who cart = 7) := Lib.hid (by unfold openE; rw [hk, hA, aFind_abs, hp]; simp [hlen])
        have HA : Hid (openA A who cart = A) := Lib.hid (by unfold openA; rw [HE.out]; rfl)
        clear hall hk hp
        cases mr with
        | none => exfalso; have := HB.out.hm; have e : ptrs L = [] := this; have := lenPtrs L; rw [e] at this; simp at this; omega
        | some r =>
          go_enter Tryd.func14, Tryd.ntmps14
          go_wp2_with (first | (go_at_call 34; refine (HKeys.out _ (by simp) HS.out).mono ?_; rintro e w2 ⟨rfl, hb2⟩; have hbl : Below w.heap.size w w2 := ((Below.refl _ _).alloc (Nat.le_refl _) _).trans (hb2.mono (by simp)); have hB2 := HB.out.below hbl; have c0 := cell0 hB2.hb 0; have hlk := hB2.look cart; rw [HP.out] at hlk; simp only [Option.map_none, Option.getD_none] at hlk; have hln : ∀ ty, _ := fun ty => MapIs.len (P := Tryd.prog) hB2.hm Tryd.underlying32 ty; rw [lenPtrs] at hln; clear hB2))
          go_ret
          refine ⟨by rw [HE.out]; rfl, ?_, Keep.of_below hbl⟩
          rw [HA.out, hA]
          exact ⟨some r, L, HB.out.below hbl, rfl, fun k hk => Or.inl (HF.out k hk), HWlt.out _ hbl.size⟩
      · have HE : Hid (openE A who cart = 0) := Lib.hid (by unfold openE; rw [hk, hA, aFind_abs, hp]; simp [hlen])
        have HA : Hid (openA A who cart = A ++ [⟨cart, who, []⟩]) := Lib.hid (by unfold openA; rw [HE.out]; rfl)
        have HKK := Lib.hid hk
        clear hall hk hp
        cases mr with
        | none =>
          have e : ptrs L = [] := HB.out.hm
          have e2 : L = [] := List.eq_nil_of_length_eq_zero (by rw [← lenPtrs, e]; rfl)
          subst e2
          clear e hlen
          have hmm := @run_makeMap Tryd.prog
          have hln := len_nilmap 32 9 75 Tryd.underlying32
          have heq : ∀ w0, (binOp .eql 32 (.map none) (.map none)).run Tryd.prog w0 = .ok (.bool true) w0 := fun w0 => run_eql_map_nil w0 32 9 75 none Tryd.underlying32
          go_enter Tryd.func14, Tryd.ntmps14
          go_wp2_with (first
            | (go_at_call 34; refine (HKeys.out _ (by simp) HS.out).mono ?_; rintro e w2 ⟨rfl, hb2⟩; have hbl : Below w.heap.size w w2 := ((Below.refl _ _).alloc (Nat.le_refl _) _).trans (hb2.mono (by simp)); have hB2 := HB.out.below hbl; have c0 := cell0 hB2.hb 0; have f0 := froz0 hB2.hb 0; have hlk := hB2.look cart; rw [HP.out] at hlk; simp only [Option.map_none, Option.getD_none] at hlk; have hbw2 := lt_of_heap hB2.hb; clear hB2)
            | (at_mapUpdate; refine wpList_updS rfl _ _ _ rfl Tryd.underlying32 Tryd.underlying9 rfl (newMap w2 b _) cart rfl _ rfl ?_; intro w4 hm4 hg4))
          go_ret
          have hss := setCell_size w2 ⟨b, 0, none⟩ (.map (some w2.heap.size))
          have hB2 := HB.out.below hbl
          have hbne : b ≠ w2.heap.size := by omega
          have hsz4 := hg4.size
          simp only [alloc_size, hss] at hsz4
          have g : ∀ k, k ≠ w2.heap.size → k < w2.heap.size + 3 → w4.heap[k]? = _ := fun k h1 h2 => hg4.block k (by simp only [alloc_size, hss]; omega) (by simpa using h1)
          have gb : w4.heap[b]? = some (.cells #[.map (some w2.heap.size)] 34) := by
            rw [g b hbne (by omega), alloc_old _ _ (by simp only [alloc_size, hss]; omega), alloc_old _ _ (by simp only [alloc_size, hss]; omega), alloc_old _ _ (by rw [hss]; omega), setCell_same hB2.hb]
            rfl
          have gm : MapIs w4 (w2.heap.size + 1) [] := by
            refine MapIs.of_block (w := (((w2.setCell ⟨b, 0, none⟩ (.map (some w2.heap.size))).alloc (.map #[] 0)).alloc (.map #[] 0))) ?_ ?_
            · have := mapIs_new ((w2.setCell ⟨b, 0, none⟩ (.map (some w2.heap.size))).alloc (.map #[] 0))
              simpa only [alloc_size, hss] using this
            · rw [g _ (by omega) (by omega), alloc_old _ _ (by simp only [alloc_size, hss]; omega)]
          have gp : w4.heap[w2.heap.size + 2]? = some (.cells #[.string who, .map (some (w2.heap.size + 1))] 80) := by
            rw [g _ (by omega) (by omega)]
            have := alloc_new (((w2.setCell ⟨b, 0, none⟩ (.map (some w2.heap.size))).alloc (.map #[] 0)).alloc (.map #[] 0)) (.cells #[.string who, .map (some (w2.heap.size + 1))] 80)
            simpa only [alloc_size, hss] using this
          have hBk : BookIs w4 b (some w2.heap.size) ([] ++ [⟨cart, w2.heap.size + 2, w2.heap.size + 1, who, []⟩]) :=
            BookIs.open_new (N := w2.heap.size + 1) gb hm4 (by simp) gp gm (by simp [foot]; omega) (by simp [foot]; omega) (by omega) (by omega) (by omega) (by simp) (by simp) HKK.out
          refine ⟨by rw [HE.out]; rfl, ?_, ?_⟩
          · rw [HA.out, hA]
            refine ⟨_, _, hBk, rfl, ?_, HWlt.out _ (by have := hbl.size; omega)⟩
            intro k hk
            have := hbl.size
            simp [foot] at hk
            rcases hk with rfl | rfl | rfl | rfl
            · exact Or.inl (HF.out _ (by simp [foot]))
            · exact Or.inr ⟨by omega, by omega⟩
            · exact Or.inr ⟨by omega, by omega⟩
            · exact Or.inr ⟨by omega, by omega⟩
          · exact (((((KeepN.refl _ _ _).below hbl (Nat.le_refl _)).setCell _ _ (fun _ => HF.out _ (by simp [foot]))).alloc (by rw [hss]; exact hbl.size) _ |>.alloc (by have := hbl.size; simp only [alloc_size, hss]; omega) _ |>.alloc (by have := hbl.size; simp only [alloc_size, hss]; omega) _).grown hg4 (by have := hbl.size; simp only [alloc_size, hss]; omega) (fun h => by have := hbl.size; omega)).keep
        | some r =>
          have hmm := @run_makeMap Tryd.prog
          have heq : ∀ w0, (binOp .eql 32 (.map (some r)) (.map none)).run Tryd.prog w0 = .ok (.bool false) w0 := fun w0 => run_eql_map_nil w0 32 9 75 (some r) Tryd.underlying32
          go_enter Tryd.func14, Tryd.ntmps14
          go_wp2_with (first
            | (go_at_call 34; refine (HKeys.out _ (by simp) HS.out).mono ?_; rintro e w2 ⟨rfl, hb2⟩; have hbl : Below w.heap.size w w2 := ((Below.refl _ _).alloc (Nat.le_refl _) _).trans (hb2.mono (by simp)); have hB2 := HB.out.below hbl; have c0 := cell0 hB2.hb 0; have hlk := hB2.look cart; rw [HP.out] at hlk; simp only [Option.map_none, Option.getD_none] at hlk; have hln : ∀ ty, _ := fun ty => MapIs.len (P := Tryd.prog) hB2.hm Tryd.underlying32 ty; rw [lenPtrs] at hln; have HM : Hid (MapIs w2 r (ptrs L)) := Lib.hid hB2.hm; clear hB2)
            | (at_mapUpdate; refine wpList_updS rfl _ _ _ rfl Tryd.underlying32 Tryd.underlying9 rfl ((HM.out.alloc _).alloc _) cart rfl _ rfl ?_; intro w4 hm4 hg4))
          go_ret
          have hB2 := HB.out.below hbl
          have hwf := hB2.wf
          have hnd := hB2.nd
          have hflt := hB2.foot_lt
          have hsz4 := hg4.size
          simp only [alloc_size] at hsz4
          have hrlt : r < w2.heap.size := HM.out.lt
          rw [putA_ptrs_none _ HP.out] at hm4
          have g : ∀ k, k ≠ r → k < w2.heap.size + 2 → w4.heap[k]? = _ := fun k h1 h2 => hg4.block k (by simp only [alloc_size]; omega) (by simpa using h1)
          have gold : ∀ k, k ≠ r → k < w2.heap.size → w4.heap[k]? = w2.heap[k]? := fun k h1 h2 => by
            rw [g k h1 (by omega), alloc_old _ _ (by simp only [alloc_size]; omega), alloc_old _ _ h2]
          have hbr : b ≠ r := by have := hnd; simp [foot] at this; exact fun e => this.1.1 e
          have gb : w4.heap[b]? = some (.cells #[.map (some r)] 34) := by rw [gold b hbr (lt_of_heap hB2.hb)]; exact hB2.hb
          have gold2 : ∀ x ∈ L, x.is w4 := by
            intro x hx
            have hx1 : x.p ≠ r ∧ x.mb ≠ r := by
              have := hnd
              simp [foot] at this
              have h2 := this.2.1 x hx
              exact ⟨fun e => h2.1 e.symm, fun e => h2.2 e.symm⟩
            obtain ⟨h1, h2⟩ := hB2.hp x hx
            exact ⟨by rw [gold _ hx1.1 (lt_of_heap h1)]; exact h1, h2.of_block (gold _ hx1.2 h2.lt)⟩
          have gm : MapIs w4 w2.heap.size [] := by
            refine MapIs.of_block (mapIs_new w2) ?_
            rw [g _ (by omega) (by omega), alloc_old _ _ (by simp only [alloc_size]; omega)]
          have gp : w4.heap[w2.heap.size + 1]? = some (.cells #[.string who, .map (some w2.heap.size)] 80) := by
            rw [g _ (by omega) (by omega)]
            have := alloc_new (w2.alloc (.map #[] 0)) (.cells #[.string who, .map (some w2.heap.size)] 80)
            simpa only [alloc_size] using this
          have hBk := BookIs.open_new (N := w2.heap.size) gb hm4 gold2 gp gm hnd hflt (by omega) (by omega) (by omega) hwf (by omega) HKK.out
          refine ⟨by rw [HE.out]; rfl, ?_, ?_⟩
          · rw [HA.out, hA]
            refine ⟨_, _, hBk, by simp [PgR.abs], ?_, HWlt.out _ (by have := hbl.size; omega)⟩
            intro k hk
            have := hbl.size
            rw [foot_push] at hk
            rcases List.mem_append.1 hk with hk | hk
            · exact Or.inl (HF.out _ hk)
            · simp at hk
              rcases hk with rfl | rfl
              · exact Or.inr ⟨by omega, by omega⟩
              · exact Or.inr ⟨by omega, by omega⟩
          · have hrF : F r := HF.out r (by simp [foot])
            exact (((((KeepN.refl _ _ _).below hbl (Nat.le_refl _)).alloc hbl.size _).alloc (by have := hbl.size; simp only [alloc_size]; omega) _).grown hg4 (by have := hbl.size; simp only [alloc_size]; omega) (fun _ => hrF)).keep
end Go.Proofs.YtdeljhehcjknbaaDoor
