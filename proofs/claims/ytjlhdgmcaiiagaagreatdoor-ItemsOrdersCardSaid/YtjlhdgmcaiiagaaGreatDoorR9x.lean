/- The reference's With. -/
import Derived.Test.YtjlhdgmcaiiagaaGreatDoorR9w
namespace Go.Proofs.YtjlhdgmcaiiagaaGreatDoor
open Go.RowKit Go.Maps

theorem takeWhile_at {α : Type} (q : α → Bool) : ∀ (l : List α) (k : Nat), k ≤ l.length → (l.take k).all q = true → (∀ h : k < l.length, q l[k] = false) → l.takeWhile q = l.take k ∧ l.dropWhile q = l.drop k
  | [], k, _, _, _ => by simp
  | a :: l, 0, _, _, h2 => by
    have := h2 (by simp)
    simp only [List.getElem_cons_zero] at this
    simp [this]
  | a :: l, k + 1, hk, h1, h2 => by
    simp only [List.take_succ_cons, List.all_cons, Bool.and_eq_true] at h1
    obtain ⟨i1, i2⟩ := takeWhile_at q l k (by simpa using hk) h1.2 (fun h => by have := h2 (by simpa using h); simpa using this)
    simp [h1.1, i1, i2]
theorem add_cell (ad : Addr) (a b : Nat) : (ad.add a).add b = ad.add (a + b) := by
  unfold Addr.add
  by_cases ha : a = 0
  · simp [ha]
  · by_cases hb : b = 0
    · simp [ha, hb]
    · rw [if_neg ha, if_neg hb, if_neg (by omega)]
      simp [Nat.add_assoc]
theorem sliced_zero (o : Option Addr) (k c s : Nat) : Go.sliced o 0 k c s = .slice o k c := by
  have e : o.map (·.add (0 * s)) = o := by
    cases o with
    | none => rfl
    | some a => simp [Addr.add]
  unfold Go.sliced
  rw [e]
  simp
theorem flat_drop {α : Type} (E : Enc α) (l : List α) (i t : Nat) : (E.flat (l.drop i))[t]? = (E.flat l)[i * E.k + t]? ∨ l.length < i := by
  rcases Nat.lt_or_ge l.length i with h | h
  · exact Or.inr h
  · left
    have e : E.flat l = E.flat (l.take i) ++ E.flat (l.drop i) := by rw [← E.flat_append, List.take_append_drop]
    have hl : (E.flat (l.take i)).length = i * E.k := by rw [E.flat_len, List.length_take]; congr 1; omega
    rw [e, List.getElem?_append_right (by omega), hl, Nat.add_sub_cancel_left]
theorem Enc.Src.sliced {α : Type} {E : Enc α} {w : World} {o : Option Addr} {n c : Nat} {l : List α} (h : E.Src w (.slice o n c) l) (hc : l.length ≤ c) (i j : Nat) (hij : i ≤ j) (hj : j ≤ l.length) (s : Nat) (hs : s = E.k) : E.Src w (Go.sliced o i j c s) ((l.take j).drop i) := by
  subst hs
  obtain ⟨o', c', he, h1, h2⟩ := h
  cases he
  have hl : ((l.take j).drop i).length = j - i := by simp; omega
  unfold Go.sliced
  by_cases hci : c = i
  · have e0 : (l.take j).drop i = [] := List.length_eq_zero_iff.1 (by omega)
    refine ⟨o, c - i, by rw [if_pos hci, hl], fun _ => e0, fun ad he t u ht => ?_⟩
    rw [e0] at ht
    simp [Enc.flat] at ht
  · rw [if_neg hci]
    refine ⟨o.map (·.add (i * E.k)), c - i, by rw [hl], fun ho => ?_, fun ad he t u ht => ?_⟩
    · cases o with
      | none => rw [h1 rfl]; simp
      | some a => cases ho
    · cases o with
      | none => cases he
      | some a =>
        cases he
        rw [add_cell]
        refine h2 a rfl _ u ?_
        rcases flat_drop E (l.take j) i t with h3 | h3
        · rw [h3] at ht
          have hlt : i * E.k + t < j * E.k := by
            rcases Nat.lt_or_ge (i * E.k + t) (j * E.k) with h | h
            · exact h
            · rw [List.getElem?_eq_none (by rw [E.flat_len, List.length_take]; exact Nat.le_trans (Nat.mul_le_mul_right _ (Nat.min_le_left _ _)) h)] at ht; cases ht
          rw [E.flat_take l j _ hlt] at ht
          exact ht
        · rw [List.length_take] at h3; omega
set_option linter.unusedSimpArgs false in
set_option maxRecDepth 100000 in
set_option maxHeartbeats 8000000 in
theorem r9With_any (l : List ItemD) (x : ItemD) (v mv : Value) (w : World) (h : Arr ItemR 2 w v l) (hm : Arr MarkR 4 w mv x.marks) (hs : x.name.size ≤ maxLen) (hl : l.length ≤ 100000) : Calls Tryz.prog 51 #[v, .agg #[.string x.name, mv]] w fun e w' => ∃ v', e = .returned v' ∧ Arr ItemR 2 w' v' (insI l x) ∧ Below w.heap.size w w' := by
  have hn := h.len
  obtain ⟨mo, mc, rfl, -⟩ := id hm
  obtain ⟨ps, rfl, hps⟩ := h.itw
  rw [List.length_map] at hl hn
  obtain ⟨p, hp⟩ : ∃ p : ItW, p = ⟨x, mo, mc⟩ := ⟨_, rfl⟩
  have HP := Lib.hid hp
  have HLE := Lib.hid hl
  have HEND : Hid (∀ (k : Nat) (v' : Value) (w' : World) (_ : k ≤ ps.length) (base : Nat), EItem.Row base w' v' (ps.take k ++ [p] ++ ps.drop k) → Below w.heap.size w w' → (ps.take k).all (fun q => decide (ltK q.x.name x.name)) = true → (∀ h : k < ps.length, decide (ltK ps[k].x.name x.name) = false) → Arr ItemR 2 w' v' (insI (ps.map (·.x)) x)) := Lib.hid (fun k v' w' hk base hrow hB h1 h2 => by
    have h3 : Arr ItwR 2 w' v' (ps.take k ++ [p] ++ ps.drop k) := Arr.of_row (E := EItem) hrow (fun a ha => by
      have hap : a ∈ ps ∨ a = p := by
        simp only [List.mem_append, List.mem_singleton] at ha
        rcases ha with (ha | ha) | ha
        · exact Or.inl (List.mem_of_mem_take ha)
        · exact Or.inr ha
        · exact Or.inl (List.mem_of_mem_drop ha)
      rcases hap with ha | rfl
      · obtain ⟨i, hi, rfl⟩ := List.mem_iff_getElem.1 ha
        obtain ⟨o, c, -, -, hel⟩ := hps.itwAt
        obtain ⟨b, off, -, -, -, -, h7, h8⟩ := hel i hi
        exact ⟨rfl, h7, h8.marks hB⟩
      · rw [hp]; exact ⟨rfl, hs, hm.marks hB⟩)
    have h4 := h3.of_itw
    have e : (ps.take k ++ [p] ++ ps.drop k).map (·.x) = insI (ps.map (·.x)) x := by
      obtain ⟨t1, t2⟩ := takeWhile_at (fun q : ItemD => decide (ltK q.name x.name)) (ps.map (·.x)) k (by simpa using hk) (by rw [← List.map_take, List.all_map]; exact h1) (fun h => by have := h2 (by simpa using h); simpa using this)
      unfold insI
      rw [t1, t2, hp]
      simp
    rw [e] at h4
    exact h4)
  obtain ⟨o, c, rfl, -, hel⟩ := hps.itwAt
  have HEL := Lib.hid hel
  have hlc : ps.length ≤ c := by
    obtain ⟨o', c', he, h2, -⟩ := hps
    cases he
    exact h2
  have HLC := Lib.hid hlc
  have HSRC := Lib.hid (hps.toSrc (E := EItem) (fun _ _ h => h.1))
  obtain ⟨W1, hW1⟩ : ∃ W1, W1 = w.alloc (.cells #[.string x.name, .slice mo x.marks.length mc] 31) := ⟨_, rfl⟩
  have hb1 : Below w.heap.size w W1 := by rw [hW1]; exact (Below.refl _ _).alloc (Nat.le_refl _) _
  have hg1 : W1.heap[w.heap.size]? = some (.cells #[.string x.name, .slice mo x.marks.length mc] 31) := by rw [hW1]; exact alloc_new _ _
  have HC : Hid (∀ wz, Below W1.heap.size W1 wz → (wz.cell? ⟨w.heap.size, 0, none⟩ = some (.string x.name) ∧ wz.cell? ⟨w.heap.size, 1, none⟩ = some (.slice mo x.marks.length mc))) := Lib.hid (fun wz hz => ⟨by rw [hz.cell (p := ⟨w.heap.size, 0, none⟩) (lt_of_heap hg1), cell0 hg1 0]; rfl, by rw [hz.cell (p := ⟨w.heap.size, 1, none⟩) (lt_of_heap hg1), cell0 hg1 1]; rfl⟩)
  have HB1 := Lib.hid hb1
  have HW := Lib.hid hW1
  clear hel hps h hm hs hg1 hb1 hW1 hp
  go_enter Tryz.func51, Tryz.ntmps51
  go_wp2_with fail
  rw [← HW.out]
  go_loopw [5] (fun i wr => ∃ k : Nat, k ≤ ps.length ∧ i = .int .i64 k ∧ (ps.take k).all (fun q => decide (ltK q.x.name x.name)) = true ∧ Below W1.heap.size W1 wr) (fun i _ => ps.length - (intOf i).toNat)
  case atStart => exact ⟨0, Nat.zero_le _, rfl, rfl, Below.refl _ _⟩
  case round =>
    obtain ⟨k, hk, rfl, hall, hB⟩ := hrel
    have HALL := Lib.hid hall
    have HB := Lib.hid hB
    clear hall hB
    have a0 : (0 : Int) ≤ k := by omega
    have a3 : (k : Int) ≤ ps.length := by omega
    have a4 : (k : Int) ≤ c := by omega
    by_cases hlt : k < ps.length
    · obtain ⟨b, off, rfl, hbl, e0, e1, hnl, -⟩ := HEL.out k hlt
      have HS : Hid (∀ wz, Below wr.heap.size wr wz → wz.cell? ⟨b, off + k * 2, none⟩ = some (.string ps[k].x.name) ∧ wz.cell? ⟨w.heap.size, 0, none⟩ = some (.string x.name)) := Lib.hid (fun wz hz => by
        have h3 := HB.out.trans (hz.mono HB.out.size)
        have h5 := HB1.out.trans (h3.mono HB1.out.size)
        exact ⟨by rw [h5.cell (p := ⟨_, _, _⟩) hbl]; exact e0, (HC.out wz h3).1⟩)
      have HBF : Hid (Calls Tryz.prog 49 #[.string ps[k].x.name, .string x.name] wr.drew fun e w' => e = .returned (.bool (decide (ltK ps[k].x.name x.name))) ∧ Below wr.heap.size wr w') := Lib.hid ((r9before_any ps[k].x.name x.name wr.drew hnl).mono (fun _ _ ⟨a1, a2⟩ => ⟨a1, (below_drew1 (Below.refl _ _)).trans a2⟩))
      have HTK := Lib.hid (all_take_snoc (fun q : ItW => decide (ltK q.x.name x.name)) ps k hlt)
      have HSTOP0 : Hid (decide (ltK ps[k].x.name x.name) = false → ∀ h : k < ps.length, decide (ltK ps[k].x.name x.name) = false) := Lib.hid (fun h _ => h)
      obtain ⟨r, hr⟩ : ∃ r, r = decide (ltK ps[k].x.name x.name) := ⟨_, rfl⟩
      have HR := Lib.hid hr
      rw [← hr] at HBF HTK HSTOP0
      clear hr e0 e1
      obtain ⟨nm, hnm⟩ : ∃ nm, nm = ps[k].x.name := ⟨_, rfl⟩
      rw [← hnm] at HS HBF
      clear hnm
      have a1 : (k : Int) < ps.length := by omega
      have hkw : IntKind.i64.wrap ((k : Int) + 1) = (k : Int) + 1 := by rw [IntKind.wrap_i64]; omega
      cases r with
      | true =>
        have HF : Hid ((ps.take (k + 1)).all (fun q => decide (ltK q.x.name x.name)) = true) := Lib.hid (by rw [HTK.out, HALL.out]; rfl)
        clear HTK HSTOP0 HR
        go_upto_region 2 with fail
        refine NQ.to ?_
        refine wp_region_held_drew (S := (fun wz => wz.cell? ⟨b, off + k * 2, none⟩ = some (.string nm) ∧ wz.cell? ⟨w.heap.size, 0, none⟩ = some (.string x.name))) (by kernel_rfl) (HS.out _ (below_drew1 (Below.refl _ _))) (fun hS => ?_)
        try simp only [Act.put, List.setIfInBounds_toArray, List.set_cons_succ, List.set_cons_zero, List.getElem_toArray, List.getElem_cons_succ, List.getElem_cons_zero]
        refine wpAnyH_take (i := 0) (v := ?v1) rfl (by decide +kernel) (by decide +kernel) (by decide +kernel) (fun _ _ _ h => h) (Or.inl ⟨by kernel_rfl, fun w hSw => ?h1⟩) hS ?_; (case h1 => (refine ok_of (fun z hz => ?_); go_simp; exact hz))
        try simp only [Act.put, List.setIfInBounds_toArray, List.set_cons_succ, List.set_cons_zero, List.getElem_toArray, List.getElem_cons_succ, List.getElem_cons_zero]
        refine wpAnyH_take (i := 1) (v := ?v2) rfl (by decide +kernel) (by decide +kernel) (by decide +kernel) (fun _ _ _ h => h) (Or.inl ⟨by kernel_rfl, fun w hSw => ?h2⟩) hS ?_; (case h2 => (refine ok_of (fun z hz => ?_); go_simp; exact hz))
        try simp only [Act.put, List.setIfInBounds_toArray, List.set_cons_succ, List.set_cons_zero, List.getElem_toArray, List.getElem_cons_succ, List.getElem_cons_zero]
        refine wpAnyH_take (i := 2) (v := ?v3) rfl (by decide +kernel) (by decide +kernel) (by decide +kernel) (fun _ _ _ h => h) (Or.inl ⟨by kernel_rfl, fun w hSw => ?h3⟩) hS ?_; (case h3 => (refine ok_of (fun z hz => ?_); go_simp; exact hz))
        try simp only [Act.put, List.setIfInBounds_toArray, List.set_cons_succ, List.set_cons_zero, List.getElem_toArray, List.getElem_cons_succ, List.getElem_cons_zero]
        refine wpAnyH_take (i := 3) (v := ?v4) rfl (by decide +kernel) (by decide +kernel) (by decide +kernel) (fun _ _ _ h => h) (Or.inl ⟨by kernel_rfl, fun w hSw => ?h4⟩) hS ?_; (case h4 => (refine ok_of (fun z hz => ?_); go_simp; exact hz))
        try simp only [Act.put, List.setIfInBounds_toArray, List.set_cons_succ, List.set_cons_zero, List.getElem_toArray, List.getElem_cons_succ, List.getElem_cons_zero]
        refine wpAnyH_take (i := 4) (v := ?v5) rfl (by decide +kernel) (by decide +kernel) (by decide +kernel) (fun _ _ _ h => h) (Or.inl ⟨by kernel_rfl, fun w hSw => ?h5⟩) hS ?_; (case h5 => (refine ok_of (fun z hz => ?_); go_simp; exact hz))
        try simp only [Act.put, List.setIfInBounds_toArray, List.set_cons_succ, List.set_cons_zero, List.getElem_toArray, List.getElem_cons_succ, List.getElem_cons_zero]
        refine wpAnyH_take (i := 5) (v := ?v6) rfl (by decide +kernel) (by decide +kernel) (by decide +kernel) (fun _ _ _ h => h) (Or.inl ⟨by kernel_rfl, fun w hSw => ?h6⟩) hS ?_; (case h6 => (refine ok_of (fun z hz => ?_); go_simp; exact hz))
        try simp only [Act.put, List.setIfInBounds_toArray, List.set_cons_succ, List.set_cons_zero, List.getElem_toArray, List.getElem_cons_succ, List.getElem_cons_zero]
        refine wpAnyH_take (i := 6) (v := ?v7) rfl (by decide +kernel) (by decide +kernel) (by decide +kernel) (fun _ _ _ h => h) (Or.inl ⟨by kernel_rfl, fun w hSw => ?h7⟩) hS ?_; (case h7 => (refine ok_of (fun z hz => ?_); go_simp; exact hz))
        try simp only [Act.put, List.setIfInBounds_toArray, List.set_cons_succ, List.set_cons_zero, List.getElem_toArray, List.getElem_cons_succ, List.getElem_cons_zero]
        refine wpAnyH_take (i := 7) (v := ?v8) rfl (by decide +kernel) (by decide +kernel) (by decide +kernel) (fun _ _ _ h => h) (Or.inl ⟨by kernel_rfl, fun w hSw => ?h8⟩) hS ?_; (case h8 => (refine ok_of (fun z hz => ?_); go_simp; exact hz))
        try simp only [Act.put, List.setIfInBounds_toArray, List.set_cons_succ, List.set_cons_zero, List.getElem_toArray, List.getElem_cons_succ, List.getElem_cons_zero]
        refine wpAnyH_take (i := 8) (v := ?v9) rfl (by decide +kernel) (by decide +kernel) (by decide +kernel) (fun _ _ _ h => h) (Or.inl ⟨by kernel_rfl, fun w hSw => ?h9⟩) hS ?_; (case h9 => (refine ok_of (fun z hz => ?_); go_simp; exact hz))
        try simp only [Act.put, List.setIfInBounds_toArray, List.set_cons_succ, List.set_cons_zero, List.getElem_toArray, List.getElem_cons_succ, List.getElem_cons_zero]
        refine wpAnyH_take (i := 9) (v := ?v10) rfl (by decide +kernel) (by decide +kernel) (by decide +kernel) (fun _ _ _ h => h) (Or.inl ⟨by kernel_rfl, fun w hSw => ?h10⟩) hS ?_; (case h10 => (refine ok_of (fun z hz => ?_); obtain ⟨f1, f2⟩ := hSw; go_simp; exact hz))
        try simp only [Act.put, List.setIfInBounds_toArray, List.set_cons_succ, List.set_cons_zero, List.getElem_toArray, List.getElem_cons_succ, List.getElem_cons_zero]
        refine wpAnyH_take (i := 10) (v := ?v11) rfl (by decide +kernel) (by decide +kernel) (by decide +kernel) (fun _ _ _ h => h) (Or.inl ⟨by kernel_rfl, fun w hSw => ?h11⟩) hS ?_; (case h11 => (refine ok_of (fun z hz => ?_); go_simp; exact hz))
        try simp only [Act.put, List.setIfInBounds_toArray, List.set_cons_succ, List.set_cons_zero, List.getElem_toArray, List.getElem_cons_succ, List.getElem_cons_zero]
        refine wpAnyH_take (i := 11) (v := ?v12) rfl (by decide +kernel) (by decide +kernel) (by decide +kernel) (fun _ _ _ h => h) (Or.inl ⟨by kernel_rfl, fun w hSw => ?h12⟩) hS ?_; (case h12 => (refine ok_of (fun z hz => ?_); obtain ⟨f1, f2⟩ := hSw; go_simp; exact hz))
        try simp only [Act.put, List.setIfInBounds_toArray, List.set_cons_succ, List.set_cons_zero, List.getElem_toArray, List.getElem_cons_succ, List.getElem_cons_zero]
        refine wpAnyH_ready (rs := [12]) (by decide +kernel) (by simp) ?_
        refine (AllReadyH.cons rfl (fun K hK => ?_) AllReadyH.nil)
        go_simp
        go_at_call 49
        refine HBF.out.mono ?_
        rintro e w2 ⟨rfl, hb2⟩
        go_simp
        refine Shut.out hK _ _ (HS.out w2 hb2) (fun hS2 => ?_)
        clear hK K hS
        have hS := hS2
        clear hS2
        try simp only [Act.put, List.setIfInBounds_toArray, List.set_cons_succ, List.set_cons_zero, List.getElem_toArray, List.getElem_cons_succ, List.getElem_cons_zero]
        refine wpAnyH_take (i := 13) (v := ?v13) rfl (by decide +kernel) (by decide +kernel) (by decide +kernel) (fun _ _ _ h => h) (Or.inl ⟨by kernel_rfl, fun w hSw => ?h13⟩) hS ?_; (case h13 => (refine ok_of (fun z hz => ?_); go_simp; exact hz))
        try simp only [Act.put, List.setIfInBounds_toArray, List.set_cons_succ, List.set_cons_zero, List.getElem_toArray, List.getElem_cons_succ, List.getElem_cons_zero]
        refine wpAnyH_done (by kernel_rfl) ?_ _
        try simp only [Act.put, List.setIfInBounds_toArray, List.set_cons_succ, List.set_cons_zero, List.getElem_toArray, List.getElem_cons_succ, List.getElem_cons_zero]
        simp only [NQ]
        have hbf := HB.out.trans (hb2.mono HB.out.size)
        clear hb2 hS
        go_wp2_with fail
        go_roundw
        case rel => exact ⟨k + 1, by omega, by go_num, HF.out, hbf⟩
        case measure => simp [intOf]; omega
      | false =>
        have HSTOP : Hid (∀ h : k < ps.length, decide (ltK ps[k].x.name x.name) = false) := Lib.hid (fun _ => HR.out.symm)
        clear HTK HSTOP0 HR
        go_upto_region 2 with fail
        refine NQ.to ?_
        refine wp_region_held_drew (S := (fun wz => wz.cell? ⟨b, off + k * 2, none⟩ = some (.string nm) ∧ wz.cell? ⟨w.heap.size, 0, none⟩ = some (.string x.name))) (by kernel_rfl) (HS.out _ (below_drew1 (Below.refl _ _))) (fun hS => ?_)
        try simp only [Act.put, List.setIfInBounds_toArray, List.set_cons_succ, List.set_cons_zero, List.getElem_toArray, List.getElem_cons_succ, List.getElem_cons_zero]
        refine wpAnyH_take (i := 0) (v := ?v14) rfl (by decide +kernel) (by decide +kernel) (by decide +kernel) (fun _ _ _ h => h) (Or.inl ⟨by kernel_rfl, fun w hSw => ?h14⟩) hS ?_; (case h14 => (refine ok_of (fun z hz => ?_); go_simp; exact hz))
        try simp only [Act.put, List.setIfInBounds_toArray, List.set_cons_succ, List.set_cons_zero, List.getElem_toArray, List.getElem_cons_succ, List.getElem_cons_zero]
        refine wpAnyH_take (i := 1) (v := ?v15) rfl (by decide +kernel) (by decide +kernel) (by decide +kernel) (fun _ _ _ h => h) (Or.inl ⟨by kernel_rfl, fun w hSw => ?h15⟩) hS ?_; (case h15 => (refine ok_of (fun z hz => ?_); go_simp; exact hz))
        try simp only [Act.put, List.setIfInBounds_toArray, List.set_cons_succ, List.set_cons_zero, List.getElem_toArray, List.getElem_cons_succ, List.getElem_cons_zero]
        refine wpAnyH_take (i := 2) (v := ?v16) rfl (by decide +kernel) (by decide +kernel) (by decide +kernel) (fun _ _ _ h => h) (Or.inl ⟨by kernel_rfl, fun w hSw => ?h16⟩) hS ?_; (case h16 => (refine ok_of (fun z hz => ?_); go_simp; exact hz))
        try simp only [Act.put, List.setIfInBounds_toArray, List.set_cons_succ, List.set_cons_zero, List.getElem_toArray, List.getElem_cons_succ, List.getElem_cons_zero]
        refine wpAnyH_take (i := 3) (v := ?v17) rfl (by decide +kernel) (by decide +kernel) (by decide +kernel) (fun _ _ _ h => h) (Or.inl ⟨by kernel_rfl, fun w hSw => ?h17⟩) hS ?_; (case h17 => (refine ok_of (fun z hz => ?_); go_simp; exact hz))
        try simp only [Act.put, List.setIfInBounds_toArray, List.set_cons_succ, List.set_cons_zero, List.getElem_toArray, List.getElem_cons_succ, List.getElem_cons_zero]
        refine wpAnyH_take (i := 4) (v := ?v18) rfl (by decide +kernel) (by decide +kernel) (by decide +kernel) (fun _ _ _ h => h) (Or.inl ⟨by kernel_rfl, fun w hSw => ?h18⟩) hS ?_; (case h18 => (refine ok_of (fun z hz => ?_); go_simp; exact hz))
        try simp only [Act.put, List.setIfInBounds_toArray, List.set_cons_succ, List.set_cons_zero, List.getElem_toArray, List.getElem_cons_succ, List.getElem_cons_zero]
        refine wpAnyH_take (i := 5) (v := ?v19) rfl (by decide +kernel) (by decide +kernel) (by decide +kernel) (fun _ _ _ h => h) (Or.inl ⟨by kernel_rfl, fun w hSw => ?h19⟩) hS ?_; (case h19 => (refine ok_of (fun z hz => ?_); go_simp; exact hz))
        try simp only [Act.put, List.setIfInBounds_toArray, List.set_cons_succ, List.set_cons_zero, List.getElem_toArray, List.getElem_cons_succ, List.getElem_cons_zero]
        refine wpAnyH_take (i := 6) (v := ?v20) rfl (by decide +kernel) (by decide +kernel) (by decide +kernel) (fun _ _ _ h => h) (Or.inl ⟨by kernel_rfl, fun w hSw => ?h20⟩) hS ?_; (case h20 => (refine ok_of (fun z hz => ?_); go_simp; exact hz))
        try simp only [Act.put, List.setIfInBounds_toArray, List.set_cons_succ, List.set_cons_zero, List.getElem_toArray, List.getElem_cons_succ, List.getElem_cons_zero]
        refine wpAnyH_take (i := 7) (v := ?v21) rfl (by decide +kernel) (by decide +kernel) (by decide +kernel) (fun _ _ _ h => h) (Or.inl ⟨by kernel_rfl, fun w hSw => ?h21⟩) hS ?_; (case h21 => (refine ok_of (fun z hz => ?_); go_simp; exact hz))
        try simp only [Act.put, List.setIfInBounds_toArray, List.set_cons_succ, List.set_cons_zero, List.getElem_toArray, List.getElem_cons_succ, List.getElem_cons_zero]
        refine wpAnyH_take (i := 8) (v := ?v22) rfl (by decide +kernel) (by decide +kernel) (by decide +kernel) (fun _ _ _ h => h) (Or.inl ⟨by kernel_rfl, fun w hSw => ?h22⟩) hS ?_; (case h22 => (refine ok_of (fun z hz => ?_); go_simp; exact hz))
        try simp only [Act.put, List.setIfInBounds_toArray, List.set_cons_succ, List.set_cons_zero, List.getElem_toArray, List.getElem_cons_succ, List.getElem_cons_zero]
        refine wpAnyH_take (i := 9) (v := ?v23) rfl (by decide +kernel) (by decide +kernel) (by decide +kernel) (fun _ _ _ h => h) (Or.inl ⟨by kernel_rfl, fun w hSw => ?h23⟩) hS ?_; (case h23 => (refine ok_of (fun z hz => ?_); obtain ⟨f1, f2⟩ := hSw; go_simp; exact hz))
        try simp only [Act.put, List.setIfInBounds_toArray, List.set_cons_succ, List.set_cons_zero, List.getElem_toArray, List.getElem_cons_succ, List.getElem_cons_zero]
        refine wpAnyH_take (i := 10) (v := ?v24) rfl (by decide +kernel) (by decide +kernel) (by decide +kernel) (fun _ _ _ h => h) (Or.inl ⟨by kernel_rfl, fun w hSw => ?h24⟩) hS ?_; (case h24 => (refine ok_of (fun z hz => ?_); go_simp; exact hz))
        try simp only [Act.put, List.setIfInBounds_toArray, List.set_cons_succ, List.set_cons_zero, List.getElem_toArray, List.getElem_cons_succ, List.getElem_cons_zero]
        refine wpAnyH_take (i := 11) (v := ?v25) rfl (by decide +kernel) (by decide +kernel) (by decide +kernel) (fun _ _ _ h => h) (Or.inl ⟨by kernel_rfl, fun w hSw => ?h25⟩) hS ?_; (case h25 => (refine ok_of (fun z hz => ?_); obtain ⟨f1, f2⟩ := hSw; go_simp; exact hz))
        try simp only [Act.put, List.setIfInBounds_toArray, List.set_cons_succ, List.set_cons_zero, List.getElem_toArray, List.getElem_cons_succ, List.getElem_cons_zero]
        refine wpAnyH_ready (rs := [12]) (by decide +kernel) (by simp) ?_
        refine (AllReadyH.cons rfl (fun K hK => ?_) AllReadyH.nil)
        go_simp
        go_at_call 49
        refine HBF.out.mono ?_
        rintro e w2 ⟨rfl, hb2⟩
        go_simp
        refine Shut.out hK _ _ (HS.out w2 hb2) (fun hS2 => ?_)
        clear hK K hS
        have hS := hS2
        clear hS2
        try simp only [Act.put, List.setIfInBounds_toArray, List.set_cons_succ, List.set_cons_zero, List.getElem_toArray, List.getElem_cons_succ, List.getElem_cons_zero]
        refine wpAnyH_take (i := 13) (v := ?v26) rfl (by decide +kernel) (by decide +kernel) (by decide +kernel) (fun _ _ _ h => h) (Or.inl ⟨by kernel_rfl, fun w hSw => ?h26⟩) hS ?_; (case h26 => (refine ok_of (fun z hz => ?_); go_simp; exact hz))
        try simp only [Act.put, List.setIfInBounds_toArray, List.set_cons_succ, List.set_cons_zero, List.getElem_toArray, List.getElem_cons_succ, List.getElem_cons_zero]
        refine wpAnyH_done (by kernel_rfl) ?_ _
        try simp only [Act.put, List.setIfInBounds_toArray, List.set_cons_succ, List.set_cons_zero, List.getElem_toArray, List.getElem_cons_succ, List.getElem_cons_zero]
        simp only [NQ]
        have HBQ := Lib.hid (HB.out.trans (hb2.mono HB.out.size))
        clear hb2 hS HS HBF
        obtain ⟨wq, hwq⟩ : ∃ wq, wq = w2 := ⟨_, rfl⟩
        rw [← hwq] at HBQ ⊢
        generalize hoe : (some (⟨b, off, none⟩ : Addr)) = o at HSRC ⊢
        clear hwq HB hoe
        have HXC : Hid (∀ wz, Below wq.heap.size wq wz → (wz.cell? ⟨w.heap.size, 0, none⟩ = some (.string x.name) ∧ wz.cell? ⟨w.heap.size, 1, none⟩ = some (.slice mo x.marks.length mc))) := Lib.hid (fun wz hz => HC.out wz (HBQ.out.trans (hz.mono HBQ.out.size)))
        have HBW := Lib.hid (HB1.out.trans (HBQ.out.mono HB1.out.size))
        have HSA : Hid (∀ wz, Below wq.heap.size wq wz → EItem.Src wz (.slice o k c) (ps.take k)) := Lib.hid (fun wz hz => by
          have := ((HSRC.out.below HBW.out).below hz).sliced HLC.out 0 k (Nat.zero_le _) hk 2 rfl
          rw [List.drop_zero, sliced_zero] at this
          exact this)
        have HSB : Hid (∀ wz, Below wq.heap.size wq wz → EItem.Src wz (.slice (if c = k then o else Option.map (fun x => x.add (k * 2)) o) (ps.length - k) (c - k)) (ps.drop k)) := Lib.hid (fun wz hz => by
          have := ((HSRC.out.below HBW.out).below hz).sliced HLC.out k ps.length hk (Nat.le_refl _) 2 rfl
          rw [List.take_length] at this
          exact this)
        have HFIN : Hid (∀ (v' : Value) (w' : World), EItem.Row wq.heap.size w' v' (ps.take k ++ [p] ++ ps.drop k) → Below wq.heap.size wq w' → Arr ItemR 2 w' v' (insI (ps.map (·.x)) x) ∧ Below w.heap.size w w') := Lib.hid (fun v' w' h1 h2 => by
          have h3 := HBW.out.trans (h2.mono HBW.out.size)
          exact ⟨HEND.out k v' w' hk _ h1 h3 HALL.out HSTOP.out, h3⟩)
        clear HEND HALL HSTOP HSRC
        go_upto_region 4 with fail
        refine NQ.to ?_
        refine wp_region_held_drew (S := (fun wz => (wz.cell? ⟨w.heap.size, 0, none⟩ = some (.string x.name) ∧ wz.cell? ⟨w.heap.size, 1, none⟩ = some (.slice mo x.marks.length mc)))) (by kernel_rfl) (HXC.out _ (below_drew1 (Below.refl _ _))) (fun hS => ?_)
        try simp only [Act.put, List.setIfInBounds_toArray, List.set_cons_succ, List.set_cons_zero, List.getElem_toArray, List.getElem_cons_succ, List.getElem_cons_zero]
        refine wpAnyH_take (i := 0) (v := ?v27) rfl (by decide +kernel) (by decide +kernel) (by decide +kernel) (fun _ _ _ h => h) (Or.inl ⟨by kernel_rfl, fun w hSw => ?h27⟩) hS ?_; (case h27 => (refine ok_of (fun z hz => ?_); go_simp; exact hz))
        try simp only [Act.put, List.setIfInBounds_toArray, List.set_cons_succ, List.set_cons_zero, List.getElem_toArray, List.getElem_cons_succ, List.getElem_cons_zero]
        refine wpAnyH_take (i := 1) (v := ?v28) rfl (by decide +kernel) (by decide +kernel) (by decide +kernel) (fun _ _ _ h => h) (Or.inl ⟨by kernel_rfl, fun w hSw => ?h28⟩) hS ?_; (case h28 => (refine ok_of (fun z hz => ?_); go_simp; exact hz))
        try simp only [Act.put, List.setIfInBounds_toArray, List.set_cons_succ, List.set_cons_zero, List.getElem_toArray, List.getElem_cons_succ, List.getElem_cons_zero]
        refine wpAnyH_take (i := 2) (v := ?v29) rfl (by decide +kernel) (by decide +kernel) (by decide +kernel) (fun _ _ _ h => h) (Or.inl ⟨by kernel_rfl, fun w hSw => ?h29⟩) hS ?_; (case h29 => (refine ok_of (fun z hz => ?_); go_simp; exact hz))
        try simp only [Act.put, List.setIfInBounds_toArray, List.set_cons_succ, List.set_cons_zero, List.getElem_toArray, List.getElem_cons_succ, List.getElem_cons_zero]
        refine wpAnyH_take (i := 4) (v := ?v30) rfl (by decide +kernel) (by decide +kernel) (by decide +kernel) (fun _ _ _ h => h) (Or.inl ⟨by kernel_rfl, fun w hSw => ?h30⟩) hS ?_; (case h30 => (refine ok_of (fun z hz => ?_); obtain ⟨f1, f2⟩ := hSw; go_simp; exact hz))
        try simp only [Act.put, List.setIfInBounds_toArray, List.set_cons_succ, List.set_cons_zero, List.getElem_toArray, List.getElem_cons_succ, List.getElem_cons_zero]
        refine wpAnyH_take (i := 7) (v := ?v31) rfl (by decide +kernel) (by decide +kernel) (by decide +kernel) (fun _ _ _ h => h) (Or.inl ⟨by kernel_rfl, fun w hSw => ?h31⟩) hS ?_; (case h31 => (refine ok_of (fun z hz => ?_); go_simp; exact hz))
        try simp only [Act.put, List.setIfInBounds_toArray, List.set_cons_succ, List.set_cons_zero, List.getElem_toArray, List.getElem_cons_succ, List.getElem_cons_zero]
        refine wpAnyH_take (i := 8) (v := ?v32) rfl (by decide +kernel) (by decide +kernel) (by decide +kernel) (fun _ _ _ h => h) (Or.inl ⟨by kernel_rfl, fun w hSw => ?h32⟩) hS ?_; (case h32 => (refine ok_of (fun z hz => ?_); go_simp; exact hz))
        try simp only [Act.put, List.setIfInBounds_toArray, List.set_cons_succ, List.set_cons_zero, List.getElem_toArray, List.getElem_cons_succ, List.getElem_cons_zero]
        refine wpAnyH_take (i := 9) (v := ?v33) rfl (by decide +kernel) (by decide +kernel) (by decide +kernel) (fun _ _ _ h => h) (Or.inl ⟨by kernel_rfl, fun w hSw => ?h33⟩) hS ?_; (case h33 => (refine ok_of (fun z hz => ?_); go_simp; exact hz))
        try simp only [Act.put, List.setIfInBounds_toArray, List.set_cons_succ, List.set_cons_zero, List.getElem_toArray, List.getElem_cons_succ, List.getElem_cons_zero]
        refine wpAnyH_ready (rs := [3, 5]) (by decide +kernel) (by simp) ?_
        refine (AllReadyH.cons rfl (fun K hK => ?_) (AllReadyH.cons rfl (fun K hK => ?_) AllReadyH.nil))
        · refine step_append_row rfl _ _ 22 rfl EItem wq.heap.size (.agg #[.string ⟨#[]⟩, .slice none 0 0]) 40 Tryz.underlying22 infoItem (by decide) (by decide) _ [] rfl (Enc.Row.nil _ _) _ (ps.take k) rfl (HSA.out _ (below_drew1 (Below.refl _ _))) (by have := HLE.out; simp; omega) (by simp) ?_
          intro v3 w3 hrow3 hgr3
          have hb3 := (below_drew1 (Below.refl wq.heap.size wq)).grown hgr3 (by simp) (fun j hj => by cases hj)
          refine Shut.out hK _ _ (HXC.out w3 hb3) (fun hS2 => ?_)
          clear hK K hS
          have hS := hS2
          clear hS2
          try simp only [Act.put, List.setIfInBounds_toArray, List.set_cons_succ, List.set_cons_zero, List.getElem_toArray, List.getElem_cons_succ, List.getElem_cons_zero]
          refine wpAnyH_ready (rs := [5]) (by decide +kernel) (by simp) ?_
          refine (AllReadyH.cons rfl (fun K hK => ?_) AllReadyH.nil)
          go_simp
          have hal5 : Below w3.heap.size w3 (w3.alloc (.cells #[.string x.name, .slice mo x.marks.length mc] 31)) := (Below.refl _ _).alloc (Nat.le_refl _) _
          have hb5 := hb3.trans (hal5.mono hb3.size)
          have hrow5 := hrow3.below hal5
          have hsrc5 : EItem.Src (w3.alloc (.cells #[.string x.name, .slice mo x.marks.length mc] 31)) (.slice (some ⟨w3.heap.size, 0, none⟩) 1 1) [p] := by rw [HP.out]; exact Enc.Src.one_lit (E := EItem) w3 31 _
          refine Shut.out hK _ _ (HXC.out _ hb5) (fun hS2 => ?_)
          clear hK K hS
          have hS := hS2
          clear hS2
          try simp only [Act.put, List.setIfInBounds_toArray, List.set_cons_succ, List.set_cons_zero, List.getElem_toArray, List.getElem_cons_succ, List.getElem_cons_zero]
          refine wpAnyH_ready (rs := [6]) (by decide +kernel) (by simp) ?_
          refine (AllReadyH.cons rfl (fun K hK => ?_) AllReadyH.nil)
          refine step_append_row rfl _ _ 22 rfl EItem wq.heap.size (.agg #[.string ⟨#[]⟩, .slice none 0 0]) 40 Tryz.underlying22 infoItem (by decide) (by decide) _ ([] ++ ps.take k) rfl (hrow5) _ [p] rfl (hsrc5) (by have := HLE.out; simp; omega) (hb5.size) ?_
          intro v6 w6 hrow6 hgr6
          have hb6 := hb5.grown hgr6 hb5.size (fun j hj => (hrow5.lt _ hj).1)
          refine Shut.out hK _ _ (HXC.out w6 hb6) (fun hS2 => ?_)
          clear hK K hS
          have hS := hS2
          clear hS2
          try simp only [Act.put, List.setIfInBounds_toArray, List.set_cons_succ, List.set_cons_zero, List.getElem_toArray, List.getElem_cons_succ, List.getElem_cons_zero]
          refine wpAnyH_ready (rs := [10]) (by decide +kernel) (by simp) ?_
          refine (AllReadyH.cons rfl (fun K hK => ?_) AllReadyH.nil)
          refine step_append_row rfl _ _ 22 rfl EItem wq.heap.size (.agg #[.string ⟨#[]⟩, .slice none 0 0]) 40 Tryz.underlying22 infoItem (by decide) (by decide) _ ([] ++ ps.take k ++ [p]) rfl (hrow6) _ (ps.drop k) rfl (HSB.out _ hb6) (by have := HLE.out; simp; omega) (hb6.size) ?_
          intro v10 w10 hrow10 hgr10
          have hb10 := hb6.grown hgr10 hb6.size (fun j hj => (hrow6.lt _ hj).1)
          refine Shut.out hK _ _ (HXC.out w10 hb10) (fun hS2 => ?_)
          clear hK K hS
          have hS := hS2
          clear hS2
          try simp only [Act.put, List.setIfInBounds_toArray, List.set_cons_succ, List.set_cons_zero, List.getElem_toArray, List.getElem_cons_succ, List.getElem_cons_zero]
          refine wpAnyH_take (i := 11) (v := ?v34) rfl (by decide +kernel) (by decide +kernel) (by decide +kernel) (fun _ _ _ h => h) (Or.inl ⟨by kernel_rfl, fun w hSw => ?h34⟩) hS ?_; (case h34 => (refine ok_of (fun z hz => ?_); go_simp; exact hz))
          try simp only [Act.put, List.setIfInBounds_toArray, List.set_cons_succ, List.set_cons_zero, List.getElem_toArray, List.getElem_cons_succ, List.getElem_cons_zero]
          refine wpAnyH_done (by kernel_rfl) ?_ _
          try simp only [Act.put, List.setIfInBounds_toArray, List.set_cons_succ, List.set_cons_zero, List.getElem_toArray, List.getElem_cons_succ, List.getElem_cons_zero]
          simp only [NQ]
          rw [List.nil_append] at hrow10
          have hf := HFIN.out _ _ hrow10 hb10
          clear hS
          go_wp2_with fail
          all_goals go_ret
          all_goals exact ⟨_, rfl, hf.1, hf.2⟩
        · go_simp
          have hb5 : Below wq.heap.size wq (wq.drew.alloc (.cells #[.string x.name, .slice mo x.marks.length mc] 31)) := (below_drew1 (Below.refl _ _)).alloc (by simp) _
          have hsrc5 : EItem.Src (wq.drew.alloc (.cells #[.string x.name, .slice mo x.marks.length mc] 31)) (.slice (some ⟨wq.drew.heap.size, 0, none⟩) 1 1) [p] := by rw [HP.out]; exact Enc.Src.one_lit (E := EItem) wq.drew 31 _
          refine Shut.out hK _ _ (HXC.out _ hb5) (fun hS2 => ?_)
          clear hK K hS
          have hS := hS2
          clear hS2
          try simp only [Act.put, List.setIfInBounds_toArray, List.set_cons_succ, List.set_cons_zero, List.getElem_toArray, List.getElem_cons_succ, List.getElem_cons_zero]
          refine wpAnyH_ready (rs := [3]) (by decide +kernel) (by simp) ?_
          refine (AllReadyH.cons rfl (fun K hK => ?_) AllReadyH.nil)
          refine step_append_row rfl _ _ 22 rfl EItem wq.heap.size (.agg #[.string ⟨#[]⟩, .slice none 0 0]) 40 Tryz.underlying22 infoItem (by decide) (by decide) _ [] rfl (Enc.Row.nil _ _) _ (ps.take k) rfl (HSA.out _ hb5) (by have := HLE.out; simp; omega) (hb5.size) ?_
          intro v3 w3 hrow3 hgr3
          have hl3 := (Below.refl _ _).grown hgr3 (Nat.le_refl _) (fun j hj => by cases hj)
          have hb3 := hb5.trans (hl3.mono hb5.size)
          have hsrc3 := hsrc5.below hl3
          refine Shut.out hK _ _ (HXC.out w3 hb3) (fun hS2 => ?_)
          clear hK K hS
          have hS := hS2
          clear hS2
          try simp only [Act.put, List.setIfInBounds_toArray, List.set_cons_succ, List.set_cons_zero, List.getElem_toArray, List.getElem_cons_succ, List.getElem_cons_zero]
          refine wpAnyH_ready (rs := [6]) (by decide +kernel) (by simp) ?_
          refine (AllReadyH.cons rfl (fun K hK => ?_) AllReadyH.nil)
          refine step_append_row rfl _ _ 22 rfl EItem wq.heap.size (.agg #[.string ⟨#[]⟩, .slice none 0 0]) 40 Tryz.underlying22 infoItem (by decide) (by decide) _ ([] ++ ps.take k) rfl (hrow3) _ [p] rfl (hsrc3) (by have := HLE.out; simp; omega) (hb3.size) ?_
          intro v6 w6 hrow6 hgr6
          have hb6 := hb3.grown hgr6 hb3.size (fun j hj => (hrow3.lt _ hj).1)
          refine Shut.out hK _ _ (HXC.out w6 hb6) (fun hS2 => ?_)
          clear hK K hS
          have hS := hS2
          clear hS2
          try simp only [Act.put, List.setIfInBounds_toArray, List.set_cons_succ, List.set_cons_zero, List.getElem_toArray, List.getElem_cons_succ, List.getElem_cons_zero]
          refine wpAnyH_ready (rs := [10]) (by decide +kernel) (by simp) ?_
          refine (AllReadyH.cons rfl (fun K hK => ?_) AllReadyH.nil)
          refine step_append_row rfl _ _ 22 rfl EItem wq.heap.size (.agg #[.string ⟨#[]⟩, .slice none 0 0]) 40 Tryz.underlying22 infoItem (by decide) (by decide) _ ([] ++ ps.take k ++ [p]) rfl (hrow6) _ (ps.drop k) rfl (HSB.out _ hb6) (by have := HLE.out; simp; omega) (hb6.size) ?_
          intro v10 w10 hrow10 hgr10
          have hb10 := hb6.grown hgr10 hb6.size (fun j hj => (hrow6.lt _ hj).1)
          refine Shut.out hK _ _ (HXC.out w10 hb10) (fun hS2 => ?_)
          clear hK K hS
          have hS := hS2
          clear hS2
          try simp only [Act.put, List.setIfInBounds_toArray, List.set_cons_succ, List.set_cons_zero, List.getElem_toArray, List.getElem_cons_succ, List.getElem_cons_zero]
          refine wpAnyH_take (i := 11) (v := ?v35) rfl (by decide +kernel) (by decide +kernel) (by decide +kernel) (fun _ _ _ h => h) (Or.inl ⟨by kernel_rfl, fun w hSw => ?h35⟩) hS ?_; (case h35 => (refine ok_of (fun z hz => ?_); go_simp; exact hz))
          try simp only [Act.put, List.setIfInBounds_toArray, List.set_cons_succ, List.set_cons_zero, List.getElem_toArray, List.getElem_cons_succ, List.getElem_cons_zero]
          refine wpAnyH_done (by kernel_rfl) ?_ _
          try simp only [Act.put, List.setIfInBounds_toArray, List.set_cons_succ, List.set_cons_zero, List.getElem_toArray, List.getElem_cons_succ, List.getElem_cons_zero]
          simp only [NQ]
          rw [List.nil_append] at hrow10
          have hf := HFIN.out _ _ hrow10 hb10
          clear hS
          go_wp2_with fail
          all_goals go_ret
          all_goals exact ⟨_, rfl, hf.1, hf.2⟩
    · have hke : k = ps.length := by omega
      have HSTOP : Hid (∀ h : k < ps.length, decide (ltK ps[k].x.name x.name) = false) := Lib.hid (fun h => absurd h hlt)
      have a1 : decide ((k : Int) < ps.length) = false := decide_eq_false (by omega)
      clear hke
      go_upto_region 2 with fail
      refine NQ.to ?_
      refine wp_region_held_drew (S := (fun _ => True)) (by kernel_rfl) (trivial) (fun hS => ?_)
      try simp only [Act.put, List.setIfInBounds_toArray, List.set_cons_succ, List.set_cons_zero, List.getElem_toArray, List.getElem_cons_succ, List.getElem_cons_zero]
      refine wpAnyH_take (i := 0) (v := ?v36) rfl (by decide +kernel) (by decide +kernel) (by decide +kernel) (fun _ _ _ h => h) (Or.inl ⟨by kernel_rfl, fun w hSw => ?h36⟩) hS ?_; (case h36 => (refine ok_of (fun z hz => ?_); go_simp; exact hz))
      try simp only [Act.put, List.setIfInBounds_toArray, List.set_cons_succ, List.set_cons_zero, List.getElem_toArray, List.getElem_cons_succ, List.getElem_cons_zero]
      refine wpAnyH_take (i := 1) (v := ?v37) rfl (by decide +kernel) (by decide +kernel) (by decide +kernel) (fun _ _ _ h => h) (Or.inl ⟨by kernel_rfl, fun w hSw => ?h37⟩) hS ?_; (case h37 => (refine ok_of (fun z hz => ?_); go_simp; exact hz))
      try simp only [Act.put, List.setIfInBounds_toArray, List.set_cons_succ, List.set_cons_zero, List.getElem_toArray, List.getElem_cons_succ, List.getElem_cons_zero]
      refine wpAnyH_take (i := 2) (v := ?v38) rfl (by decide +kernel) (by decide +kernel) (by decide +kernel) (fun _ _ _ h => h) (Or.inl ⟨by kernel_rfl, fun w hSw => ?h38⟩) hS ?_; (case h38 => (refine ok_of (fun z hz => ?_); go_simp; exact hz))
      try simp only [Act.put, List.setIfInBounds_toArray, List.set_cons_succ, List.set_cons_zero, List.getElem_toArray, List.getElem_cons_succ, List.getElem_cons_zero]
      refine wpAnyH_take (i := 3) (v := ?v39) rfl (by decide +kernel) (by decide +kernel) (by decide +kernel) (fun _ _ _ h => h) (Or.inl ⟨by kernel_rfl, fun w hSw => ?h39⟩) hS ?_; (case h39 => (refine ok_of (fun z hz => ?_); go_simp; exact hz))
      try simp only [Act.put, List.setIfInBounds_toArray, List.set_cons_succ, List.set_cons_zero, List.getElem_toArray, List.getElem_cons_succ, List.getElem_cons_zero]
      refine wpAnyH_take (i := 4) (v := ?v40) rfl (by decide +kernel) (by decide +kernel) (by decide +kernel) (fun _ _ _ h => h) (Or.inl ⟨by kernel_rfl, fun w hSw => ?h40⟩) hS ?_; (case h40 => (refine ok_of (fun z hz => ?_); go_simp; exact hz))
      try simp only [Act.put, List.setIfInBounds_toArray, List.set_cons_succ, List.set_cons_zero, List.getElem_toArray, List.getElem_cons_succ, List.getElem_cons_zero]
      refine wpAnyH_take (i := 5) (v := undef) rfl (by decide +kernel) (by decide +kernel) (by decide +kernel) (fun _ _ _ h => h) (Or.inr ⟨by kernel_rfl, rfl⟩) hS ?_
      try simp only [Act.put, List.setIfInBounds_toArray, List.set_cons_succ, List.set_cons_zero, List.getElem_toArray, List.getElem_cons_succ, List.getElem_cons_zero]
      refine wpAnyH_take (i := 6) (v := undef) rfl (by decide +kernel) (by decide +kernel) (by decide +kernel) (fun _ _ _ h => h) (Or.inr ⟨by kernel_rfl, rfl⟩) hS ?_
      try simp only [Act.put, List.setIfInBounds_toArray, List.set_cons_succ, List.set_cons_zero, List.getElem_toArray, List.getElem_cons_succ, List.getElem_cons_zero]
      refine wpAnyH_take (i := 7) (v := undef) rfl (by decide +kernel) (by decide +kernel) (by decide +kernel) (fun _ _ _ h => h) (Or.inr ⟨by kernel_rfl, rfl⟩) hS ?_
      try simp only [Act.put, List.setIfInBounds_toArray, List.set_cons_succ, List.set_cons_zero, List.getElem_toArray, List.getElem_cons_succ, List.getElem_cons_zero]
      refine wpAnyH_take (i := 8) (v := undef) rfl (by decide +kernel) (by decide +kernel) (by decide +kernel) (fun _ _ _ h => h) (Or.inr ⟨by kernel_rfl, rfl⟩) hS ?_
      try simp only [Act.put, List.setIfInBounds_toArray, List.set_cons_succ, List.set_cons_zero, List.getElem_toArray, List.getElem_cons_succ, List.getElem_cons_zero]
      refine wpAnyH_take (i := 9) (v := undef) rfl (by decide +kernel) (by decide +kernel) (by decide +kernel) (fun _ _ _ h => h) (Or.inr ⟨by kernel_rfl, rfl⟩) hS ?_
      try simp only [Act.put, List.setIfInBounds_toArray, List.set_cons_succ, List.set_cons_zero, List.getElem_toArray, List.getElem_cons_succ, List.getElem_cons_zero]
      refine wpAnyH_take (i := 10) (v := undef) rfl (by decide +kernel) (by decide +kernel) (by decide +kernel) (fun _ _ _ h => h) (Or.inr ⟨by kernel_rfl, rfl⟩) hS ?_
      try simp only [Act.put, List.setIfInBounds_toArray, List.set_cons_succ, List.set_cons_zero, List.getElem_toArray, List.getElem_cons_succ, List.getElem_cons_zero]
      refine wpAnyH_take (i := 11) (v := undef) rfl (by decide +kernel) (by decide +kernel) (by decide +kernel) (fun _ _ _ h => h) (Or.inr ⟨by kernel_rfl, rfl⟩) hS ?_
      try simp only [Act.put, List.setIfInBounds_toArray, List.set_cons_succ, List.set_cons_zero, List.getElem_toArray, List.getElem_cons_succ, List.getElem_cons_zero]
      refine wpAnyH_take (i := 12) (v := undef) rfl (by decide +kernel) (by decide +kernel) (by decide +kernel) (fun _ _ _ h => h) (Or.inr ⟨by kernel_rfl, rfl⟩) hS ?_
      try simp only [Act.put, List.setIfInBounds_toArray, List.set_cons_succ, List.set_cons_zero, List.getElem_toArray, List.getElem_cons_succ, List.getElem_cons_zero]
      refine wpAnyH_take (i := 13) (v := ?v41) rfl (by decide +kernel) (by decide +kernel) (by decide +kernel) (fun _ _ _ h => h) (Or.inl ⟨by kernel_rfl, fun w hSw => ?h41⟩) hS ?_; (case h41 => (refine ok_of (fun z hz => ?_); go_simp; exact hz))
      try simp only [Act.put, List.setIfInBounds_toArray, List.set_cons_succ, List.set_cons_zero, List.getElem_toArray, List.getElem_cons_succ, List.getElem_cons_zero]
      refine wpAnyH_done (by kernel_rfl) ?_ _
      try simp only [Act.put, List.setIfInBounds_toArray, List.set_cons_succ, List.set_cons_zero, List.getElem_toArray, List.getElem_cons_succ, List.getElem_cons_zero]
      simp only [NQ]
      have HBQ := Lib.hid (below_drew1 HB.out)
      obtain ⟨wq, hwq⟩ : ∃ wq, wq = wr.drew := ⟨_, rfl⟩
      rw [← hwq] at HBQ ⊢
      clear hwq HB hS
      have HXC : Hid (∀ wz, Below wq.heap.size wq wz → (wz.cell? ⟨w.heap.size, 0, none⟩ = some (.string x.name) ∧ wz.cell? ⟨w.heap.size, 1, none⟩ = some (.slice mo x.marks.length mc))) := Lib.hid (fun wz hz => HC.out wz (HBQ.out.trans (hz.mono HBQ.out.size)))
      have HBW := Lib.hid (HB1.out.trans (HBQ.out.mono HB1.out.size))
      have HSA : Hid (∀ wz, Below wq.heap.size wq wz → EItem.Src wz (.slice o k c) (ps.take k)) := Lib.hid (fun wz hz => by
        have := ((HSRC.out.below HBW.out).below hz).sliced HLC.out 0 k (Nat.zero_le _) hk 2 rfl
        rw [List.drop_zero, sliced_zero] at this
        exact this)
      have HSB : Hid (∀ wz, Below wq.heap.size wq wz → EItem.Src wz (.slice (if c = k then o else Option.map (fun x => x.add (k * 2)) o) (ps.length - k) (c - k)) (ps.drop k)) := Lib.hid (fun wz hz => by
        have := ((HSRC.out.below HBW.out).below hz).sliced HLC.out k ps.length hk (Nat.le_refl _) 2 rfl
        rw [List.take_length] at this
        exact this)
      have HFIN : Hid (∀ (v' : Value) (w' : World), EItem.Row wq.heap.size w' v' (ps.take k ++ [p] ++ ps.drop k) → Below wq.heap.size wq w' → Arr ItemR 2 w' v' (insI (ps.map (·.x)) x) ∧ Below w.heap.size w w') := Lib.hid (fun v' w' h1 h2 => by
        have h3 := HBW.out.trans (h2.mono HBW.out.size)
        exact ⟨HEND.out k v' w' hk _ h1 h3 HALL.out HSTOP.out, h3⟩)
      clear HEND HALL HSTOP HSRC
      go_upto_region 4 with fail
      refine NQ.to ?_
      refine wp_region_held_drew (S := (fun wz => (wz.cell? ⟨w.heap.size, 0, none⟩ = some (.string x.name) ∧ wz.cell? ⟨w.heap.size, 1, none⟩ = some (.slice mo x.marks.length mc)))) (by kernel_rfl) (HXC.out _ (below_drew1 (Below.refl _ _))) (fun hS => ?_)
      try simp only [Act.put, List.setIfInBounds_toArray, List.set_cons_succ, List.set_cons_zero, List.getElem_toArray, List.getElem_cons_succ, List.getElem_cons_zero]
      refine wpAnyH_take (i := 0) (v := ?v42) rfl (by decide +kernel) (by decide +kernel) (by decide +kernel) (fun _ _ _ h => h) (Or.inl ⟨by kernel_rfl, fun w hSw => ?h42⟩) hS ?_; (case h42 => (refine ok_of (fun z hz => ?_); go_simp; exact hz))
      try simp only [Act.put, List.setIfInBounds_toArray, List.set_cons_succ, List.set_cons_zero, List.getElem_toArray, List.getElem_cons_succ, List.getElem_cons_zero]
      refine wpAnyH_take (i := 1) (v := ?v43) rfl (by decide +kernel) (by decide +kernel) (by decide +kernel) (fun _ _ _ h => h) (Or.inl ⟨by kernel_rfl, fun w hSw => ?h43⟩) hS ?_; (case h43 => (refine ok_of (fun z hz => ?_); go_simp; exact hz))
      try simp only [Act.put, List.setIfInBounds_toArray, List.set_cons_succ, List.set_cons_zero, List.getElem_toArray, List.getElem_cons_succ, List.getElem_cons_zero]
      refine wpAnyH_take (i := 2) (v := ?v44) rfl (by decide +kernel) (by decide +kernel) (by decide +kernel) (fun _ _ _ h => h) (Or.inl ⟨by kernel_rfl, fun w hSw => ?h44⟩) hS ?_; (case h44 => (refine ok_of (fun z hz => ?_); go_simp; exact hz))
      try simp only [Act.put, List.setIfInBounds_toArray, List.set_cons_succ, List.set_cons_zero, List.getElem_toArray, List.getElem_cons_succ, List.getElem_cons_zero]
      refine wpAnyH_take (i := 4) (v := ?v45) rfl (by decide +kernel) (by decide +kernel) (by decide +kernel) (fun _ _ _ h => h) (Or.inl ⟨by kernel_rfl, fun w hSw => ?h45⟩) hS ?_; (case h45 => (refine ok_of (fun z hz => ?_); obtain ⟨f1, f2⟩ := hSw; go_simp; exact hz))
      try simp only [Act.put, List.setIfInBounds_toArray, List.set_cons_succ, List.set_cons_zero, List.getElem_toArray, List.getElem_cons_succ, List.getElem_cons_zero]
      refine wpAnyH_take (i := 7) (v := ?v46) rfl (by decide +kernel) (by decide +kernel) (by decide +kernel) (fun _ _ _ h => h) (Or.inl ⟨by kernel_rfl, fun w hSw => ?h46⟩) hS ?_; (case h46 => (refine ok_of (fun z hz => ?_); go_simp; exact hz))
      try simp only [Act.put, List.setIfInBounds_toArray, List.set_cons_succ, List.set_cons_zero, List.getElem_toArray, List.getElem_cons_succ, List.getElem_cons_zero]
      refine wpAnyH_take (i := 8) (v := ?v47) rfl (by decide +kernel) (by decide +kernel) (by decide +kernel) (fun _ _ _ h => h) (Or.inl ⟨by kernel_rfl, fun w hSw => ?h47⟩) hS ?_; (case h47 => (refine ok_of (fun z hz => ?_); go_simp; exact hz))
      try simp only [Act.put, List.setIfInBounds_toArray, List.set_cons_succ, List.set_cons_zero, List.getElem_toArray, List.getElem_cons_succ, List.getElem_cons_zero]
      refine wpAnyH_take (i := 9) (v := ?v48) rfl (by decide +kernel) (by decide +kernel) (by decide +kernel) (fun _ _ _ h => h) (Or.inl ⟨by kernel_rfl, fun w hSw => ?h48⟩) hS ?_; (case h48 => (refine ok_of (fun z hz => ?_); go_simp; exact hz))
      try simp only [Act.put, List.setIfInBounds_toArray, List.set_cons_succ, List.set_cons_zero, List.getElem_toArray, List.getElem_cons_succ, List.getElem_cons_zero]
      refine wpAnyH_ready (rs := [3, 5]) (by decide +kernel) (by simp) ?_
      refine (AllReadyH.cons rfl (fun K hK => ?_) (AllReadyH.cons rfl (fun K hK => ?_) AllReadyH.nil))
      · refine step_append_row rfl _ _ 22 rfl EItem wq.heap.size (.agg #[.string ⟨#[]⟩, .slice none 0 0]) 40 Tryz.underlying22 infoItem (by decide) (by decide) _ [] rfl (Enc.Row.nil _ _) _ (ps.take k) rfl (HSA.out _ (below_drew1 (Below.refl _ _))) (by have := HLE.out; simp; omega) (by simp) ?_
        intro v3 w3 hrow3 hgr3
        have hb3 := (below_drew1 (Below.refl wq.heap.size wq)).grown hgr3 (by simp) (fun j hj => by cases hj)
        refine Shut.out hK _ _ (HXC.out w3 hb3) (fun hS2 => ?_)
        clear hK K hS
        have hS := hS2
        clear hS2
        try simp only [Act.put, List.setIfInBounds_toArray, List.set_cons_succ, List.set_cons_zero, List.getElem_toArray, List.getElem_cons_succ, List.getElem_cons_zero]
        refine wpAnyH_ready (rs := [5]) (by decide +kernel) (by simp) ?_
        refine (AllReadyH.cons rfl (fun K hK => ?_) AllReadyH.nil)
        go_simp
        have hal5 : Below w3.heap.size w3 (w3.alloc (.cells #[.string x.name, .slice mo x.marks.length mc] 31)) := (Below.refl _ _).alloc (Nat.le_refl _) _
        have hb5 := hb3.trans (hal5.mono hb3.size)
        have hrow5 := hrow3.below hal5
        have hsrc5 : EItem.Src (w3.alloc (.cells #[.string x.name, .slice mo x.marks.length mc] 31)) (.slice (some ⟨w3.heap.size, 0, none⟩) 1 1) [p] := by rw [HP.out]; exact Enc.Src.one_lit (E := EItem) w3 31 _
        refine Shut.out hK _ _ (HXC.out _ hb5) (fun hS2 => ?_)
        clear hK K hS
        have hS := hS2
        clear hS2
        try simp only [Act.put, List.setIfInBounds_toArray, List.set_cons_succ, List.set_cons_zero, List.getElem_toArray, List.getElem_cons_succ, List.getElem_cons_zero]
        refine wpAnyH_ready (rs := [6]) (by decide +kernel) (by simp) ?_
        refine (AllReadyH.cons rfl (fun K hK => ?_) AllReadyH.nil)
        refine step_append_row rfl _ _ 22 rfl EItem wq.heap.size (.agg #[.string ⟨#[]⟩, .slice none 0 0]) 40 Tryz.underlying22 infoItem (by decide) (by decide) _ ([] ++ ps.take k) rfl (hrow5) _ [p] rfl (hsrc5) (by have := HLE.out; simp; omega) (hb5.size) ?_
        intro v6 w6 hrow6 hgr6
        have hb6 := hb5.grown hgr6 hb5.size (fun j hj => (hrow5.lt _ hj).1)
        refine Shut.out hK _ _ (HXC.out w6 hb6) (fun hS2 => ?_)
        clear hK K hS
        have hS := hS2
        clear hS2
        try simp only [Act.put, List.setIfInBounds_toArray, List.set_cons_succ, List.set_cons_zero, List.getElem_toArray, List.getElem_cons_succ, List.getElem_cons_zero]
        refine wpAnyH_ready (rs := [10]) (by decide +kernel) (by simp) ?_
        refine (AllReadyH.cons rfl (fun K hK => ?_) AllReadyH.nil)
        refine step_append_row rfl _ _ 22 rfl EItem wq.heap.size (.agg #[.string ⟨#[]⟩, .slice none 0 0]) 40 Tryz.underlying22 infoItem (by decide) (by decide) _ ([] ++ ps.take k ++ [p]) rfl (hrow6) _ (ps.drop k) rfl (HSB.out _ hb6) (by have := HLE.out; simp; omega) (hb6.size) ?_
        intro v10 w10 hrow10 hgr10
        have hb10 := hb6.grown hgr10 hb6.size (fun j hj => (hrow6.lt _ hj).1)
        refine Shut.out hK _ _ (HXC.out w10 hb10) (fun hS2 => ?_)
        clear hK K hS
        have hS := hS2
        clear hS2
        try simp only [Act.put, List.setIfInBounds_toArray, List.set_cons_succ, List.set_cons_zero, List.getElem_toArray, List.getElem_cons_succ, List.getElem_cons_zero]
        refine wpAnyH_take (i := 11) (v := ?v49) rfl (by decide +kernel) (by decide +kernel) (by decide +kernel) (fun _ _ _ h => h) (Or.inl ⟨by kernel_rfl, fun w hSw => ?h49⟩) hS ?_; (case h49 => (refine ok_of (fun z hz => ?_); go_simp; exact hz))
        try simp only [Act.put, List.setIfInBounds_toArray, List.set_cons_succ, List.set_cons_zero, List.getElem_toArray, List.getElem_cons_succ, List.getElem_cons_zero]
        refine wpAnyH_done (by kernel_rfl) ?_ _
        try simp only [Act.put, List.setIfInBounds_toArray, List.set_cons_succ, List.set_cons_zero, List.getElem_toArray, List.getElem_cons_succ, List.getElem_cons_zero]
        simp only [NQ]
        rw [List.nil_append] at hrow10
        have hf := HFIN.out _ _ hrow10 hb10
        clear hS
        go_wp2_with fail
        all_goals go_ret
        all_goals exact ⟨_, rfl, hf.1, hf.2⟩
      · go_simp
        have hb5 : Below wq.heap.size wq (wq.drew.alloc (.cells #[.string x.name, .slice mo x.marks.length mc] 31)) := (below_drew1 (Below.refl _ _)).alloc (by simp) _
        have hsrc5 : EItem.Src (wq.drew.alloc (.cells #[.string x.name, .slice mo x.marks.length mc] 31)) (.slice (some ⟨wq.drew.heap.size, 0, none⟩) 1 1) [p] := by rw [HP.out]; exact Enc.Src.one_lit (E := EItem) wq.drew 31 _
        refine Shut.out hK _ _ (HXC.out _ hb5) (fun hS2 => ?_)
        clear hK K hS
        have hS := hS2
        clear hS2
        try simp only [Act.put, List.setIfInBounds_toArray, List.set_cons_succ, List.set_cons_zero, List.getElem_toArray, List.getElem_cons_succ, List.getElem_cons_zero]
        refine wpAnyH_ready (rs := [3]) (by decide +kernel) (by simp) ?_
        refine (AllReadyH.cons rfl (fun K hK => ?_) AllReadyH.nil)
        refine step_append_row rfl _ _ 22 rfl EItem wq.heap.size (.agg #[.string ⟨#[]⟩, .slice none 0 0]) 40 Tryz.underlying22 infoItem (by decide) (by decide) _ [] rfl (Enc.Row.nil _ _) _ (ps.take k) rfl (HSA.out _ hb5) (by have := HLE.out; simp; omega) (hb5.size) ?_
        intro v3 w3 hrow3 hgr3
        have hl3 := (Below.refl _ _).grown hgr3 (Nat.le_refl _) (fun j hj => by cases hj)
        have hb3 := hb5.trans (hl3.mono hb5.size)
        have hsrc3 := hsrc5.below hl3
        refine Shut.out hK _ _ (HXC.out w3 hb3) (fun hS2 => ?_)
        clear hK K hS
        have hS := hS2
        clear hS2
        try simp only [Act.put, List.setIfInBounds_toArray, List.set_cons_succ, List.set_cons_zero, List.getElem_toArray, List.getElem_cons_succ, List.getElem_cons_zero]
        refine wpAnyH_ready (rs := [6]) (by decide +kernel) (by simp) ?_
        refine (AllReadyH.cons rfl (fun K hK => ?_) AllReadyH.nil)
        refine step_append_row rfl _ _ 22 rfl EItem wq.heap.size (.agg #[.string ⟨#[]⟩, .slice none 0 0]) 40 Tryz.underlying22 infoItem (by decide) (by decide) _ ([] ++ ps.take k) rfl (hrow3) _ [p] rfl (hsrc3) (by have := HLE.out; simp; omega) (hb3.size) ?_
        intro v6 w6 hrow6 hgr6
        have hb6 := hb3.grown hgr6 hb3.size (fun j hj => (hrow3.lt _ hj).1)
        refine Shut.out hK _ _ (HXC.out w6 hb6) (fun hS2 => ?_)
        clear hK K hS
        have hS := hS2
        clear hS2
        try simp only [Act.put, List.setIfInBounds_toArray, List.set_cons_succ, List.set_cons_zero, List.getElem_toArray, List.getElem_cons_succ, List.getElem_cons_zero]
        refine wpAnyH_ready (rs := [10]) (by decide +kernel) (by simp) ?_
        refine (AllReadyH.cons rfl (fun K hK => ?_) AllReadyH.nil)
        refine step_append_row rfl _ _ 22 rfl EItem wq.heap.size (.agg #[.string ⟨#[]⟩, .slice none 0 0]) 40 Tryz.underlying22 infoItem (by decide) (by decide) _ ([] ++ ps.take k ++ [p]) rfl (hrow6) _ (ps.drop k) rfl (HSB.out _ hb6) (by have := HLE.out; simp; omega) (hb6.size) ?_
        intro v10 w10 hrow10 hgr10
        have hb10 := hb6.grown hgr10 hb6.size (fun j hj => (hrow6.lt _ hj).1)
        refine Shut.out hK _ _ (HXC.out w10 hb10) (fun hS2 => ?_)
        clear hK K hS
        have hS := hS2
        clear hS2
        try simp only [Act.put, List.setIfInBounds_toArray, List.set_cons_succ, List.set_cons_zero, List.getElem_toArray, List.getElem_cons_succ, List.getElem_cons_zero]
        refine wpAnyH_take (i := 11) (v := ?v50) rfl (by decide +kernel) (by decide +kernel) (by decide +kernel) (fun _ _ _ h => h) (Or.inl ⟨by kernel_rfl, fun w hSw => ?h50⟩) hS ?_; (case h50 => (refine ok_of (fun z hz => ?_); go_simp; exact hz))
        try simp only [Act.put, List.setIfInBounds_toArray, List.set_cons_succ, List.set_cons_zero, List.getElem_toArray, List.getElem_cons_succ, List.getElem_cons_zero]
        refine wpAnyH_done (by kernel_rfl) ?_ _
        try simp only [Act.put, List.setIfInBounds_toArray, List.set_cons_succ, List.set_cons_zero, List.getElem_toArray, List.getElem_cons_succ, List.getElem_cons_zero]
        simp only [NQ]
        rw [List.nil_append] at hrow10
        have hf := HFIN.out _ _ hrow10 hb10
        clear hS
        go_wp2_with fail
        all_goals go_ret
        all_goals exact ⟨_, rfl, hf.1, hf.2⟩
end Go.Proofs.YtjlhdgmcaiiagaaGreatDoor

