/- finds, light. -/
import Derived.Test.YtjlhdgmcaiiagaaGreatDoorL9a
namespace Go.Proofs.YtjlhdgmcaiiagaaGreatDoor
open Go.RowKit Go.Maps

def findX (l : List ItemD) (nm : ByteArray) : ItemD := (l.find? (fun x => decide (x.name = nm))).getD ⟨⟨#[]⟩, []⟩
def findN (l : List ItemD) (nm : ByteArray) : Int := if l.any (fun x => decide (x.name = nm)) then 0 else 9
theorem Arr.nameLe {w : World} {v : Value} {l : List ItemD} (h : Arr ItemR 2 w v l) : ∀ x ∈ l, x.name.size ≤ maxLen := by
  intro x hx
  obtain ⟨i, hi, rfl⟩ := List.getElem_of_mem hx
  obtain ⟨o, c, _, hel⟩ := h.itemAt
  obtain ⟨b, off, mv, _, _, _, _, hn, _⟩ := hel i hi
  exact hn
theorem Arr.itemMI {w : World} {v : Value} {l : List ItemD} (h : Arr ItemR 2 w v l) : ∀ x ∈ l, ∀ m ∈ x.marks, MI m := by
  intro x hx
  obtain ⟨i, hi, rfl⟩ := List.getElem_of_mem hx
  obtain ⟨o, c, _, hel⟩ := h.itemAt
  obtain ⟨b, off, mv, _, _, _, _, _, hm⟩ := hel i hi
  exact hm.marksMI
theorem FindPost.arr {nm : ByteArray} {l : List ItemD} {v : Value} {w w' : World} {e : Ending} (h : FindPost nm l w e w') (ha : Arr ItemR 2 w v l) :
    ∃ o c, e = .returned (.tuple #[.agg #[.string (findX l nm).name, .slice o (findX l nm).marks.length c], .int .i64 (findN l nm)]) ∧ Arr MarkR 4 w' (.slice o (findX l nm).marks.length c) (findX l nm).marks ∧ (findX l nm).name.size ≤ maxLen ∧ Below w.heap.size w w' := by
  obtain ⟨hb, ⟨h1, h2⟩ | ⟨k, hk, h1, h2, mo, mc, h3, h4⟩⟩ := h
  · have e1 : findX l nm = ⟨⟨#[]⟩, []⟩ := by unfold findX; rw [find_none _ _ h1]; rfl
    have e2 : findN l nm = 9 := by unfold findN; rw [h1]; rfl
    rw [e1, e2]
    exact ⟨none, 0, h2, arr_nil, by simp [ByteArray.size], hb⟩
  · have hp : decide (l[k].name = nm) = true := decide_eq_true h1
    have e1 : findX l nm = l[k] := by unfold findX; rw [find_at (fun x : ItemD => decide (x.name = nm)) l k hk h2 hp]; rfl
    have e2 : findN l nm = 0 := by unfold findN; rw [if_pos (List.any_eq_true.2 ⟨_, List.getElem_mem hk, hp⟩)]
    rw [e1, e2]
    exact ⟨mo, mc, h3, Arr.of_marks h4 (ha.itemMI _ (List.getElem_mem hk)), ha.nameLe _ (List.getElem_mem hk), hb⟩
theorem two_lits {W : World} {x y : ItemD} {mx my : Value} (T : TypeId) (hx : x.name.size ≤ maxLen) (hy : y.name.size ≤ maxLen) (h : Arr MarkR 4 W mx x.marks) (h2 : Arr MarkR 4 W my y.marks) :
    Arr ItemR 2 ((W.alloc (.cells #[.string x.name, mx] T)).alloc (.cells #[.string y.name, my] T)) (.slice (some ⟨W.heap.size, 0, none⟩) 1 1) [x] ∧ Arr ItemR 2 ((W.alloc (.cells #[.string x.name, mx] T)).alloc (.cells #[.string y.name, my] T)) (.slice (some ⟨W.heap.size + 1, 0, none⟩) 1 1) [y] := by
  have b1 : Below W.heap.size W (W.alloc (.cells #[.string x.name, mx] T)) := (Below.refl _ _).alloc (Nat.le_refl _) _
  have b2 : Below (W.alloc (.cells #[.string x.name, mx] T)).heap.size (W.alloc (.cells #[.string x.name, mx] T)) ((W.alloc (.cells #[.string x.name, mx] T)).alloc (.cells #[.string y.name, my] T)) := (Below.refl _ _).alloc (Nat.le_refl _) _
  refine ⟨(arr_lit T hx (h.marks b1)).items b2, ?_⟩
  have := arr_lit (w := W.alloc (.cells #[.string x.name, mx] T)) T hy ((h2.marks b1).marks b2)
  rw [alloc_size] at this
  exact this

set_option linter.unusedSimpArgs false in
set_option maxRecDepth 100000 in
set_option maxHeartbeats 4000000 in
theorem l9finds_any (l : List ItemD) (nm : ByteArray) (want : ItemD) (no : Int) (v wv : Value) (w : World) (h : Arr ItemR 2 w v l) (hw : Arr MarkR 4 w wv want.marks) (hws : want.name.size ≤ maxLen) (hl : Lt l) :
    Calls Tryz.prog 12 #[v, .string nm, .agg #[.string want.name, wv], .int .i64 no] w fun e w' => e = .returned (.bool (decide (findX l nm = want) && decide (findN l nm = no))) ∧ Below w.heap.size w w' := by
  obtain ⟨wo, wc, rfl, -⟩ := id hw
  obtain ⟨W1, hW1⟩ : ∃ W1, W1 = w.alloc (.cells #[.string want.name, .slice wo want.marks.length wc] 31) := ⟨_, rfl⟩
  have hb1 : Below w.heap.size w W1 := by rw [hW1]; exact (Below.refl _ _).alloc (Nat.le_refl _) _
  have hg1 : W1.heap[w.heap.size]? = some (.cells #[.string want.name, .slice wo want.marks.length wc] 31) := by rw [hW1]; exact alloc_new _ _
  have hgl1 := lt_of_heap hg1
  have HP := Lib.hid (itemsFind_any nm l v W1 (h.items hb1) hl)
  have HA := Lib.hid (h.items hb1)
  have HWM := Lib.hid (hw.marks hb1)
  have HG1 := Lib.hid hg1
  have HB1 := Lib.hid hb1
  have HW := Lib.hid hW1
  have HOF := Lib.hid (fun v w => l9of_any v w)
  clear h hw hl hg1 hb1 hW1
  go_enter Tryz.func12, Tryz.ntmps12
  go_wp2_with fail
  rw [← HW.out]
  refine HP.out.mono ?_
  intro e w2 hp2
  obtain ⟨fo, fc, rfl, hm2, hfs, hb2⟩ := hp2.arr HA.out
  have hg2 : w2.heap[w.heap.size]? = some (.cells #[.string want.name, .slice wo want.marks.length wc] 31) := by rw [hb2.block _ hgl1]; exact HG1.out
  have hgl2 := lt_of_heap hg2
  have HB2 := Lib.hid (HB1.out.trans (hb2.mono HB1.out.size))
  have HWM2 := Lib.hid (HWM.out.marks hb2)
  have HM2 := Lib.hid hm2
  have HG2 := Lib.hid hg2
  have hnie := int_eq (findN l nm) no
  obtain ⟨fx, hfx⟩ : ∃ fx, fx = findX l nm := ⟨_, rfl⟩
  obtain ⟨fn, hfn⟩ : ∃ fn, fn = findN l nm := ⟨_, rfl⟩
  rw [← hfx] at HM2 hfs
  rw [← hfx, ← hfn]
  obtain ⟨W3, hW3⟩ : ∃ W3, W3 = w2.alloc (.cells #[.string fx.name, .slice fo fx.marks.length fc] 31) := ⟨_, rfl⟩
  have hb3 : Below w2.heap.size w2 W3 := by rw [hW3]; exact (Below.refl _ _).alloc (Nat.le_refl _) _
  have hg3 : W3.heap[w2.heap.size]? = some (.cells #[.string fx.name, .slice fo fx.marks.length fc] 31) := by rw [hW3]; exact alloc_new _ _
  have hgl3 := lt_of_heap hg3
  have hg23 : W3.heap[w.heap.size]? = some (.cells #[.string want.name, .slice wo want.marks.length wc] 31) := by rw [hb3.block _ hgl2]; exact HG2.out
  have hgl23 := lt_of_heap hg23
  have HS : Hid (∀ wz, Below W3.heap.size W3 wz → wz.cell? ⟨w2.heap.size, 0, none⟩ = some (.string fx.name) ∧ wz.cell? ⟨w2.heap.size, 1, none⟩ = some (.slice fo fx.marks.length fc) ∧ wz.cell? ⟨w.heap.size, 0, none⟩ = some (.string want.name) ∧ wz.cell? ⟨w.heap.size, 1, none⟩ = some (.slice wo want.marks.length wc)) := Lib.hid (fun wz hz => ⟨by rw [hz.cell (p := ⟨w2.heap.size, 0, none⟩) hgl3, cell0 hg3 0]; rfl, by rw [hz.cell (p := ⟨w2.heap.size, 1, none⟩) hgl3, cell0 hg3 1]; rfl, by rw [hz.cell (p := ⟨w.heap.size, 0, none⟩) hgl23, cell0 hg23 0]; rfl, by rw [hz.cell (p := ⟨w.heap.size, 1, none⟩) hgl23, cell0 hg23 1]; rfl⟩)
  have h1 : Arr MarkR 4 W3.drew (.slice fo fx.marks.length fc) fx.marks := (HM2.out.marks hb3).marks (below_drew1 (Below.refl _ _))
  have h2 : Arr MarkR 4 W3.drew (.slice wo want.marks.length wc) want.marks := (HWM2.out.marks hb3).marks (below_drew1 (Below.refl _ _))
  have hab := two_lits (W := W3.drew) 31 hfs hws h1 h2
  have hba := two_lits (W := W3.drew) 31 hws hfs h2 h1
  have HEab := Lib.hid (r9Equal_any [fx] [want] _ _ _ hab.1 hab.2)
  have HEba := Lib.hid (r9Equal_any [fx] [want] _ _ _ hba.2 hba.1)
  have HBX := Lib.hid (HB2.out.trans (hb3.mono HB2.out.size))
  have HW3 := Lib.hid hW3
  obtain ⟨r, hr⟩ : ∃ r, r = decide ([fx] = [want]) := ⟨_, rfl⟩
  obtain ⟨rn, hrn⟩ : ∃ rn, rn = decide (fn = no) := ⟨_, rfl⟩
  have hne : (fn == no) = rn := by rw [hrn]; rfl
  rw [← hr] at HEab HEba
  have HD : Hid ((decide (findX l nm = want) && decide (findN l nm = no)) = (r && rn)) := Lib.hid (by rw [hr, hrn, ← hfx, ← hfn]; congr 1; simp)
  clear hp2 hm2 hb2 hg2 hfx hfn hW3 hb3 hg3 hg23 h1 h2 hab hba HP HA hr hrn hnie HWM HM2 HWM2 HG1 HG2 HB1 HB2
  cases r with
  | true =>
    go_upto_region 2 with fail
    rw [← HW3.out]
    clear HW3 HW
    refine NQ.to ?_
    refine wp_region_held_drew (S := (fun w' => w'.cell? ⟨w2.heap.size, 0, none⟩ = some (.string fx.name) ∧ w'.cell? ⟨w2.heap.size, 1, none⟩ = some (.slice fo fx.marks.length fc) ∧ w'.cell? ⟨w.heap.size, 0, none⟩ = some (.string want.name) ∧ w'.cell? ⟨w.heap.size, 1, none⟩ = some (.slice wo want.marks.length wc))) (by kernel_rfl) (HS.out _ (below_drew1 (Below.refl _ _))) (fun hS => ?_)
    try simp only [Act.put, List.setIfInBounds_toArray, List.set_cons_succ, List.set_cons_zero, List.getElem_toArray, List.getElem_cons_succ, List.getElem_cons_zero]
    refine wpAnyH_take (i := 0) (v := .agg #[.string fx.name, .slice fo fx.marks.length fc]) rfl (by decide +kernel) (by decide +kernel) (by decide +kernel) (fun _ _ _ h => h) (Or.inl ⟨by kernel_rfl, fun w hSw => by obtain ⟨f1, f2, f3, f4⟩ := hSw; go_simp⟩) hS ?_
    try simp only [Act.put, List.setIfInBounds_toArray, List.set_cons_succ, List.set_cons_zero, List.getElem_toArray, List.getElem_cons_succ, List.getElem_cons_zero]
    refine wpAnyH_take (i := 3) (v := .agg #[.string want.name, .slice wo want.marks.length wc]) rfl (by decide +kernel) (by decide +kernel) (by decide +kernel) (fun _ _ _ h => h) (Or.inl ⟨by kernel_rfl, fun w hSw => by obtain ⟨f1, f2, f3, f4⟩ := hSw; go_simp⟩) hS ?_
    try simp only [Act.put, List.setIfInBounds_toArray, List.set_cons_succ, List.set_cons_zero, List.getElem_toArray, List.getElem_cons_succ, List.getElem_cons_zero]
    refine wpAnyH_ready (rs := [1, 4]) (by decide +kernel) (by simp) ?_
    refine (AllReadyH.cons rfl (fun K hK => ?_) (AllReadyH.cons rfl (fun K hK => ?_) AllReadyH.nil))
    · go_simp
      refine Shut.out hK _ _ (HS.out _ ((below_drew1 (Below.refl _ _)).alloc (by simp <;> omega) _)) (fun hS2 => ?_)
      clear hK K hS
      have hS := hS2
      clear hS2
      try simp only [Act.put, List.setIfInBounds_toArray, List.set_cons_succ, List.set_cons_zero, List.getElem_toArray, List.getElem_cons_succ, List.getElem_cons_zero]
      refine wpAnyH_ready (rs := [2, 4]) (by decide +kernel) (by simp) ?_
      refine (AllReadyH.cons rfl (fun K hK => ?_) (AllReadyH.cons rfl (fun K hK => ?_) AllReadyH.nil))
      · go_simp
        go_at_call 21
        refine (HOF.out _ _).mono ?_
        rintro e wq ⟨rfl, rfl⟩
        go_simp
        refine Shut.out hK _ _ (HS.out _ ((below_drew1 (Below.refl _ _)).alloc (by simp <;> omega) _)) (fun hS2 => ?_)
        clear hK K hS
        have hS := hS2
        clear hS2
        try simp only [Act.put, List.setIfInBounds_toArray, List.set_cons_succ, List.set_cons_zero, List.getElem_toArray, List.getElem_cons_succ, List.getElem_cons_zero]
        refine wpAnyH_ready (rs := [4]) (by decide +kernel) (by simp) ?_
        refine (AllReadyH.cons rfl (fun K hK => ?_) AllReadyH.nil)
        go_simp
        refine Shut.out hK _ _ (HS.out _ (((below_drew1 (Below.refl _ _)).alloc (by simp <;> omega) _).alloc (by simp <;> omega) _)) (fun hS2 => ?_)
        clear hK K hS
        have hS := hS2
        clear hS2
        try simp only [Act.put, List.setIfInBounds_toArray, List.set_cons_succ, List.set_cons_zero, List.getElem_toArray, List.getElem_cons_succ, List.getElem_cons_zero]
        refine wpAnyH_ready (rs := [5]) (by decide +kernel) (by simp) ?_
        refine (AllReadyH.cons rfl (fun K hK => ?_) AllReadyH.nil)
        go_simp
        go_at_call 21
        refine (HOF.out _ _).mono ?_
        rintro e wq ⟨rfl, rfl⟩
        go_simp
        refine Shut.out hK _ _ (HS.out _ (((below_drew1 (Below.refl _ _)).alloc (by simp <;> omega) _).alloc (by simp <;> omega) _)) (fun hS2 => ?_)
        clear hK K hS
        have hS := hS2
        clear hS2
        try simp only [Act.put, List.setIfInBounds_toArray, List.set_cons_succ, List.set_cons_zero, List.getElem_toArray, List.getElem_cons_succ, List.getElem_cons_zero]
        refine wpAnyH_ready (rs := [6]) (by decide +kernel) (by simp) ?_
        refine (AllReadyH.cons rfl (fun K hK => ?_) AllReadyH.nil)
        go_simp
        go_at_call 27
        refine HEab.out.mono ?_
        rintro e w5 ⟨rfl, hb5⟩
        go_simp
        have hb6 : Below W3.heap.size W3 w5 := (((below_drew1 (Below.refl _ _)).alloc (by simp <;> omega) _).alloc (by simp <;> omega) _).trans (hb5.mono (by simp <;> omega))
        refine Shut.out hK _ _ (HS.out w5 hb6) (fun hS2 => ?_)
        clear hK K hS
        have hS := hS2
        clear hS2
        try simp only [Act.put, List.setIfInBounds_toArray, List.set_cons_succ, List.set_cons_zero, List.getElem_toArray, List.getElem_cons_succ, List.getElem_cons_zero]
        refine wpAnyH_take (i := 7) (v := .bool true) rfl (by decide +kernel) (by decide +kernel) (by decide +kernel) (fun _ _ _ h => h) (Or.inl ⟨by kernel_rfl, fun w hSw => by go_simp⟩) hS ?_
        try simp only [Act.put, List.setIfInBounds_toArray, List.set_cons_succ, List.set_cons_zero, List.getElem_toArray, List.getElem_cons_succ, List.getElem_cons_zero]
        refine wpAnyH_take (i := 8) (v := .int .i64 fn) rfl (by decide +kernel) (by decide +kernel) (by decide +kernel) (fun _ _ _ h => h) (Or.inl ⟨by kernel_rfl, fun w hSw => by go_simp⟩) hS ?_
        try simp only [Act.put, List.setIfInBounds_toArray, List.set_cons_succ, List.set_cons_zero, List.getElem_toArray, List.getElem_cons_succ, List.getElem_cons_zero]
        refine wpAnyH_take (i := 9) (v := .int .i64 no) rfl (by decide +kernel) (by decide +kernel) (by decide +kernel) (fun _ _ _ h => h) (Or.inl ⟨by kernel_rfl, fun w hSw => by go_simp⟩) hS ?_
        try simp only [Act.put, List.setIfInBounds_toArray, List.set_cons_succ, List.set_cons_zero, List.getElem_toArray, List.getElem_cons_succ, List.getElem_cons_zero]
        refine wpAnyH_take (i := 10) (v := .bool rn) rfl (by decide +kernel) (by decide +kernel) (by decide +kernel) (fun _ _ _ h => h) (Or.inl ⟨by kernel_rfl, fun w hSw => by go_simp⟩) hS ?_
        try simp only [Act.put, List.setIfInBounds_toArray, List.set_cons_succ, List.set_cons_zero, List.getElem_toArray, List.getElem_cons_succ, List.getElem_cons_zero]
        refine wpAnyH_take (i := 11) (v := .bool rn) rfl (by decide +kernel) (by decide +kernel) (by decide +kernel) (fun _ _ _ h => h) (Or.inl ⟨by kernel_rfl, fun w hSw => by go_simp⟩) hS ?_
        try simp only [Act.put, List.setIfInBounds_toArray, List.set_cons_succ, List.set_cons_zero, List.getElem_toArray, List.getElem_cons_succ, List.getElem_cons_zero]
        refine wpAnyH_take (i := 12) (v := .bool rn) rfl (by decide +kernel) (by decide +kernel) (by decide +kernel) (fun _ _ _ h => h) (Or.inl ⟨by kernel_rfl, fun w hSw => by go_simp⟩) hS ?_
        try simp only [Act.put, List.setIfInBounds_toArray, List.set_cons_succ, List.set_cons_zero, List.getElem_toArray, List.getElem_cons_succ, List.getElem_cons_zero]
        refine wpAnyH_done (by kernel_rfl) ?_ _
        try simp only [Act.put, List.setIfInBounds_toArray, List.set_cons_succ, List.set_cons_zero, List.getElem_toArray, List.getElem_cons_succ, List.getElem_cons_zero]
        simp only [NQ]
        clear HS HEab HEba HOF
        go_wp2_with fail
        go_ret
        exact ⟨by rw [HD.out]; rfl, HBX.out.trans (hb6.mono HBX.out.size)⟩
      · go_simp
        refine Shut.out hK _ _ (HS.out _ (((below_drew1 (Below.refl _ _)).alloc (by simp <;> omega) _).alloc (by simp <;> omega) _)) (fun hS2 => ?_)
        clear hK K hS
        have hS := hS2
        clear hS2
        try simp only [Act.put, List.setIfInBounds_toArray, List.set_cons_succ, List.set_cons_zero, List.getElem_toArray, List.getElem_cons_succ, List.getElem_cons_zero]
        refine wpAnyH_ready (rs := [2]) (by decide +kernel) (by simp) ?_
        refine (AllReadyH.cons rfl (fun K hK => ?_) AllReadyH.nil)
        go_simp
        go_at_call 21
        refine (HOF.out _ _).mono ?_
        rintro e wq ⟨rfl, rfl⟩
        go_simp
        refine Shut.out hK _ _ (HS.out _ (((below_drew1 (Below.refl _ _)).alloc (by simp <;> omega) _).alloc (by simp <;> omega) _)) (fun hS2 => ?_)
        clear hK K hS
        have hS := hS2
        clear hS2
        try simp only [Act.put, List.setIfInBounds_toArray, List.set_cons_succ, List.set_cons_zero, List.getElem_toArray, List.getElem_cons_succ, List.getElem_cons_zero]
        refine wpAnyH_ready (rs := [5]) (by decide +kernel) (by simp) ?_
        refine (AllReadyH.cons rfl (fun K hK => ?_) AllReadyH.nil)
        go_simp
        go_at_call 21
        refine (HOF.out _ _).mono ?_
        rintro e wq ⟨rfl, rfl⟩
        go_simp
        refine Shut.out hK _ _ (HS.out _ (((below_drew1 (Below.refl _ _)).alloc (by simp <;> omega) _).alloc (by simp <;> omega) _)) (fun hS2 => ?_)
        clear hK K hS
        have hS := hS2
        clear hS2
        try simp only [Act.put, List.setIfInBounds_toArray, List.set_cons_succ, List.set_cons_zero, List.getElem_toArray, List.getElem_cons_succ, List.getElem_cons_zero]
        refine wpAnyH_ready (rs := [6]) (by decide +kernel) (by simp) ?_
        refine (AllReadyH.cons rfl (fun K hK => ?_) AllReadyH.nil)
        go_simp
        go_at_call 27
        refine HEab.out.mono ?_
        rintro e w5 ⟨rfl, hb5⟩
        go_simp
        have hb6 : Below W3.heap.size W3 w5 := (((below_drew1 (Below.refl _ _)).alloc (by simp <;> omega) _).alloc (by simp <;> omega) _).trans (hb5.mono (by simp <;> omega))
        refine Shut.out hK _ _ (HS.out w5 hb6) (fun hS2 => ?_)
        clear hK K hS
        have hS := hS2
        clear hS2
        try simp only [Act.put, List.setIfInBounds_toArray, List.set_cons_succ, List.set_cons_zero, List.getElem_toArray, List.getElem_cons_succ, List.getElem_cons_zero]
        refine wpAnyH_take (i := 7) (v := .bool true) rfl (by decide +kernel) (by decide +kernel) (by decide +kernel) (fun _ _ _ h => h) (Or.inl ⟨by kernel_rfl, fun w hSw => by go_simp⟩) hS ?_
        try simp only [Act.put, List.setIfInBounds_toArray, List.set_cons_succ, List.set_cons_zero, List.getElem_toArray, List.getElem_cons_succ, List.getElem_cons_zero]
        refine wpAnyH_take (i := 8) (v := .int .i64 fn) rfl (by decide +kernel) (by decide +kernel) (by decide +kernel) (fun _ _ _ h => h) (Or.inl ⟨by kernel_rfl, fun w hSw => by go_simp⟩) hS ?_
        try simp only [Act.put, List.setIfInBounds_toArray, List.set_cons_succ, List.set_cons_zero, List.getElem_toArray, List.getElem_cons_succ, List.getElem_cons_zero]
        refine wpAnyH_take (i := 9) (v := .int .i64 no) rfl (by decide +kernel) (by decide +kernel) (by decide +kernel) (fun _ _ _ h => h) (Or.inl ⟨by kernel_rfl, fun w hSw => by go_simp⟩) hS ?_
        try simp only [Act.put, List.setIfInBounds_toArray, List.set_cons_succ, List.set_cons_zero, List.getElem_toArray, List.getElem_cons_succ, List.getElem_cons_zero]
        refine wpAnyH_take (i := 10) (v := .bool rn) rfl (by decide +kernel) (by decide +kernel) (by decide +kernel) (fun _ _ _ h => h) (Or.inl ⟨by kernel_rfl, fun w hSw => by go_simp⟩) hS ?_
        try simp only [Act.put, List.setIfInBounds_toArray, List.set_cons_succ, List.set_cons_zero, List.getElem_toArray, List.getElem_cons_succ, List.getElem_cons_zero]
        refine wpAnyH_take (i := 11) (v := .bool rn) rfl (by decide +kernel) (by decide +kernel) (by decide +kernel) (fun _ _ _ h => h) (Or.inl ⟨by kernel_rfl, fun w hSw => by go_simp⟩) hS ?_
        try simp only [Act.put, List.setIfInBounds_toArray, List.set_cons_succ, List.set_cons_zero, List.getElem_toArray, List.getElem_cons_succ, List.getElem_cons_zero]
        refine wpAnyH_take (i := 12) (v := .bool rn) rfl (by decide +kernel) (by decide +kernel) (by decide +kernel) (fun _ _ _ h => h) (Or.inl ⟨by kernel_rfl, fun w hSw => by go_simp⟩) hS ?_
        try simp only [Act.put, List.setIfInBounds_toArray, List.set_cons_succ, List.set_cons_zero, List.getElem_toArray, List.getElem_cons_succ, List.getElem_cons_zero]
        refine wpAnyH_done (by kernel_rfl) ?_ _
        try simp only [Act.put, List.setIfInBounds_toArray, List.set_cons_succ, List.set_cons_zero, List.getElem_toArray, List.getElem_cons_succ, List.getElem_cons_zero]
        simp only [NQ]
        clear HS HEab HEba HOF
        go_wp2_with fail
        go_ret
        exact ⟨by rw [HD.out]; rfl, HBX.out.trans (hb6.mono HBX.out.size)⟩
    · go_simp
      refine Shut.out hK _ _ (HS.out _ ((below_drew1 (Below.refl _ _)).alloc (by simp <;> omega) _)) (fun hS2 => ?_)
      clear hK K hS
      have hS := hS2
      clear hS2
      try simp only [Act.put, List.setIfInBounds_toArray, List.set_cons_succ, List.set_cons_zero, List.getElem_toArray, List.getElem_cons_succ, List.getElem_cons_zero]
      refine wpAnyH_ready (rs := [1]) (by decide +kernel) (by simp) ?_
      refine (AllReadyH.cons rfl (fun K hK => ?_) AllReadyH.nil)
      go_simp
      refine Shut.out hK _ _ (HS.out _ (((below_drew1 (Below.refl _ _)).alloc (by simp <;> omega) _).alloc (by simp <;> omega) _)) (fun hS2 => ?_)
      clear hK K hS
      have hS := hS2
      clear hS2
      try simp only [Act.put, List.setIfInBounds_toArray, List.set_cons_succ, List.set_cons_zero, List.getElem_toArray, List.getElem_cons_succ, List.getElem_cons_zero]
      refine wpAnyH_ready (rs := [2]) (by decide +kernel) (by simp) ?_
      refine (AllReadyH.cons rfl (fun K hK => ?_) AllReadyH.nil)
      go_simp
      go_at_call 21
      refine (HOF.out _ _).mono ?_
      rintro e wq ⟨rfl, rfl⟩
      go_simp
      refine Shut.out hK _ _ (HS.out _ (((below_drew1 (Below.refl _ _)).alloc (by simp <;> omega) _).alloc (by simp <;> omega) _)) (fun hS2 => ?_)
      clear hK K hS
      have hS := hS2
      clear hS2
      try simp only [Act.put, List.setIfInBounds_toArray, List.set_cons_succ, List.set_cons_zero, List.getElem_toArray, List.getElem_cons_succ, List.getElem_cons_zero]
      refine wpAnyH_ready (rs := [5]) (by decide +kernel) (by simp) ?_
      refine (AllReadyH.cons rfl (fun K hK => ?_) AllReadyH.nil)
      go_simp
      go_at_call 21
      refine (HOF.out _ _).mono ?_
      rintro e wq ⟨rfl, rfl⟩
      go_simp
      refine Shut.out hK _ _ (HS.out _ (((below_drew1 (Below.refl _ _)).alloc (by simp <;> omega) _).alloc (by simp <;> omega) _)) (fun hS2 => ?_)
      clear hK K hS
      have hS := hS2
      clear hS2
      try simp only [Act.put, List.setIfInBounds_toArray, List.set_cons_succ, List.set_cons_zero, List.getElem_toArray, List.getElem_cons_succ, List.getElem_cons_zero]
      refine wpAnyH_ready (rs := [6]) (by decide +kernel) (by simp) ?_
      refine (AllReadyH.cons rfl (fun K hK => ?_) AllReadyH.nil)
      go_simp
      go_at_call 27
      refine HEba.out.mono ?_
      rintro e w5 ⟨rfl, hb5⟩
      go_simp
      have hb6 : Below W3.heap.size W3 w5 := (((below_drew1 (Below.refl _ _)).alloc (by simp <;> omega) _).alloc (by simp <;> omega) _).trans (hb5.mono (by simp <;> omega))
      refine Shut.out hK _ _ (HS.out w5 hb6) (fun hS2 => ?_)
      clear hK K hS
      have hS := hS2
      clear hS2
      try simp only [Act.put, List.setIfInBounds_toArray, List.set_cons_succ, List.set_cons_zero, List.getElem_toArray, List.getElem_cons_succ, List.getElem_cons_zero]
      refine wpAnyH_take (i := 7) (v := .bool true) rfl (by decide +kernel) (by decide +kernel) (by decide +kernel) (fun _ _ _ h => h) (Or.inl ⟨by kernel_rfl, fun w hSw => by go_simp⟩) hS ?_
      try simp only [Act.put, List.setIfInBounds_toArray, List.set_cons_succ, List.set_cons_zero, List.getElem_toArray, List.getElem_cons_succ, List.getElem_cons_zero]
      refine wpAnyH_take (i := 8) (v := .int .i64 fn) rfl (by decide +kernel) (by decide +kernel) (by decide +kernel) (fun _ _ _ h => h) (Or.inl ⟨by kernel_rfl, fun w hSw => by go_simp⟩) hS ?_
      try simp only [Act.put, List.setIfInBounds_toArray, List.set_cons_succ, List.set_cons_zero, List.getElem_toArray, List.getElem_cons_succ, List.getElem_cons_zero]
      refine wpAnyH_take (i := 9) (v := .int .i64 no) rfl (by decide +kernel) (by decide +kernel) (by decide +kernel) (fun _ _ _ h => h) (Or.inl ⟨by kernel_rfl, fun w hSw => by go_simp⟩) hS ?_
      try simp only [Act.put, List.setIfInBounds_toArray, List.set_cons_succ, List.set_cons_zero, List.getElem_toArray, List.getElem_cons_succ, List.getElem_cons_zero]
      refine wpAnyH_take (i := 10) (v := .bool rn) rfl (by decide +kernel) (by decide +kernel) (by decide +kernel) (fun _ _ _ h => h) (Or.inl ⟨by kernel_rfl, fun w hSw => by go_simp⟩) hS ?_
      try simp only [Act.put, List.setIfInBounds_toArray, List.set_cons_succ, List.set_cons_zero, List.getElem_toArray, List.getElem_cons_succ, List.getElem_cons_zero]
      refine wpAnyH_take (i := 11) (v := .bool rn) rfl (by decide +kernel) (by decide +kernel) (by decide +kernel) (fun _ _ _ h => h) (Or.inl ⟨by kernel_rfl, fun w hSw => by go_simp⟩) hS ?_
      try simp only [Act.put, List.setIfInBounds_toArray, List.set_cons_succ, List.set_cons_zero, List.getElem_toArray, List.getElem_cons_succ, List.getElem_cons_zero]
      refine wpAnyH_take (i := 12) (v := .bool rn) rfl (by decide +kernel) (by decide +kernel) (by decide +kernel) (fun _ _ _ h => h) (Or.inl ⟨by kernel_rfl, fun w hSw => by go_simp⟩) hS ?_
      try simp only [Act.put, List.setIfInBounds_toArray, List.set_cons_succ, List.set_cons_zero, List.getElem_toArray, List.getElem_cons_succ, List.getElem_cons_zero]
      refine wpAnyH_done (by kernel_rfl) ?_ _
      try simp only [Act.put, List.setIfInBounds_toArray, List.set_cons_succ, List.set_cons_zero, List.getElem_toArray, List.getElem_cons_succ, List.getElem_cons_zero]
      simp only [NQ]
      clear HS HEab HEba HOF
      go_wp2_with fail
      go_ret
      exact ⟨by rw [HD.out]; rfl, HBX.out.trans (hb6.mono HBX.out.size)⟩
  | false =>
    go_upto_region 2 with fail
    rw [← HW3.out]
    clear HW3 HW
    refine NQ.to ?_
    refine wp_region_held_drew (S := (fun w' => w'.cell? ⟨w2.heap.size, 0, none⟩ = some (.string fx.name) ∧ w'.cell? ⟨w2.heap.size, 1, none⟩ = some (.slice fo fx.marks.length fc) ∧ w'.cell? ⟨w.heap.size, 0, none⟩ = some (.string want.name) ∧ w'.cell? ⟨w.heap.size, 1, none⟩ = some (.slice wo want.marks.length wc))) (by kernel_rfl) (HS.out _ (below_drew1 (Below.refl _ _))) (fun hS => ?_)
    try simp only [Act.put, List.setIfInBounds_toArray, List.set_cons_succ, List.set_cons_zero, List.getElem_toArray, List.getElem_cons_succ, List.getElem_cons_zero]
    refine wpAnyH_take (i := 0) (v := .agg #[.string fx.name, .slice fo fx.marks.length fc]) rfl (by decide +kernel) (by decide +kernel) (by decide +kernel) (fun _ _ _ h => h) (Or.inl ⟨by kernel_rfl, fun w hSw => by obtain ⟨f1, f2, f3, f4⟩ := hSw; go_simp⟩) hS ?_
    try simp only [Act.put, List.setIfInBounds_toArray, List.set_cons_succ, List.set_cons_zero, List.getElem_toArray, List.getElem_cons_succ, List.getElem_cons_zero]
    refine wpAnyH_take (i := 3) (v := .agg #[.string want.name, .slice wo want.marks.length wc]) rfl (by decide +kernel) (by decide +kernel) (by decide +kernel) (fun _ _ _ h => h) (Or.inl ⟨by kernel_rfl, fun w hSw => by obtain ⟨f1, f2, f3, f4⟩ := hSw; go_simp⟩) hS ?_
    try simp only [Act.put, List.setIfInBounds_toArray, List.set_cons_succ, List.set_cons_zero, List.getElem_toArray, List.getElem_cons_succ, List.getElem_cons_zero]
    refine wpAnyH_ready (rs := [1, 4]) (by decide +kernel) (by simp) ?_
    refine (AllReadyH.cons rfl (fun K hK => ?_) (AllReadyH.cons rfl (fun K hK => ?_) AllReadyH.nil))
    · go_simp
      refine Shut.out hK _ _ (HS.out _ ((below_drew1 (Below.refl _ _)).alloc (by simp <;> omega) _)) (fun hS2 => ?_)
      clear hK K hS
      have hS := hS2
      clear hS2
      try simp only [Act.put, List.setIfInBounds_toArray, List.set_cons_succ, List.set_cons_zero, List.getElem_toArray, List.getElem_cons_succ, List.getElem_cons_zero]
      refine wpAnyH_ready (rs := [2, 4]) (by decide +kernel) (by simp) ?_
      refine (AllReadyH.cons rfl (fun K hK => ?_) (AllReadyH.cons rfl (fun K hK => ?_) AllReadyH.nil))
      · go_simp
        go_at_call 21
        refine (HOF.out _ _).mono ?_
        rintro e wq ⟨rfl, rfl⟩
        go_simp
        refine Shut.out hK _ _ (HS.out _ ((below_drew1 (Below.refl _ _)).alloc (by simp <;> omega) _)) (fun hS2 => ?_)
        clear hK K hS
        have hS := hS2
        clear hS2
        try simp only [Act.put, List.setIfInBounds_toArray, List.set_cons_succ, List.set_cons_zero, List.getElem_toArray, List.getElem_cons_succ, List.getElem_cons_zero]
        refine wpAnyH_ready (rs := [4]) (by decide +kernel) (by simp) ?_
        refine (AllReadyH.cons rfl (fun K hK => ?_) AllReadyH.nil)
        go_simp
        refine Shut.out hK _ _ (HS.out _ (((below_drew1 (Below.refl _ _)).alloc (by simp <;> omega) _).alloc (by simp <;> omega) _)) (fun hS2 => ?_)
        clear hK K hS
        have hS := hS2
        clear hS2
        try simp only [Act.put, List.setIfInBounds_toArray, List.set_cons_succ, List.set_cons_zero, List.getElem_toArray, List.getElem_cons_succ, List.getElem_cons_zero]
        refine wpAnyH_ready (rs := [5]) (by decide +kernel) (by simp) ?_
        refine (AllReadyH.cons rfl (fun K hK => ?_) AllReadyH.nil)
        go_simp
        go_at_call 21
        refine (HOF.out _ _).mono ?_
        rintro e wq ⟨rfl, rfl⟩
        go_simp
        refine Shut.out hK _ _ (HS.out _ (((below_drew1 (Below.refl _ _)).alloc (by simp <;> omega) _).alloc (by simp <;> omega) _)) (fun hS2 => ?_)
        clear hK K hS
        have hS := hS2
        clear hS2
        try simp only [Act.put, List.setIfInBounds_toArray, List.set_cons_succ, List.set_cons_zero, List.getElem_toArray, List.getElem_cons_succ, List.getElem_cons_zero]
        refine wpAnyH_ready (rs := [6]) (by decide +kernel) (by simp) ?_
        refine (AllReadyH.cons rfl (fun K hK => ?_) AllReadyH.nil)
        go_simp
        go_at_call 27
        refine HEab.out.mono ?_
        rintro e w5 ⟨rfl, hb5⟩
        go_simp
        have hb6 : Below W3.heap.size W3 w5 := (((below_drew1 (Below.refl _ _)).alloc (by simp <;> omega) _).alloc (by simp <;> omega) _).trans (hb5.mono (by simp <;> omega))
        refine Shut.out hK _ _ (HS.out w5 hb6) (fun hS2 => ?_)
        clear hK K hS
        have hS := hS2
        clear hS2
        try simp only [Act.put, List.setIfInBounds_toArray, List.set_cons_succ, List.set_cons_zero, List.getElem_toArray, List.getElem_cons_succ, List.getElem_cons_zero]
        refine wpAnyH_take (i := 7) (v := .bool false) rfl (by decide +kernel) (by decide +kernel) (by decide +kernel) (fun _ _ _ h => h) (Or.inl ⟨by kernel_rfl, fun w hSw => by go_simp⟩) hS ?_
        try simp only [Act.put, List.setIfInBounds_toArray, List.set_cons_succ, List.set_cons_zero, List.getElem_toArray, List.getElem_cons_succ, List.getElem_cons_zero]
        refine wpAnyH_take (i := 8) (v := undef) rfl (by decide +kernel) (by decide +kernel) (by decide +kernel) (fun _ _ _ h => h) (Or.inr ⟨by kernel_rfl, rfl⟩) hS ?_
        try simp only [Act.put, List.setIfInBounds_toArray, List.set_cons_succ, List.set_cons_zero, List.getElem_toArray, List.getElem_cons_succ, List.getElem_cons_zero]
        refine wpAnyH_take (i := 9) (v := undef) rfl (by decide +kernel) (by decide +kernel) (by decide +kernel) (fun _ _ _ h => h) (Or.inr ⟨by kernel_rfl, rfl⟩) hS ?_
        try simp only [Act.put, List.setIfInBounds_toArray, List.set_cons_succ, List.set_cons_zero, List.getElem_toArray, List.getElem_cons_succ, List.getElem_cons_zero]
        refine wpAnyH_take (i := 10) (v := undef) rfl (by decide +kernel) (by decide +kernel) (by decide +kernel) (fun _ _ _ h => h) (Or.inr ⟨by kernel_rfl, rfl⟩) hS ?_
        try simp only [Act.put, List.setIfInBounds_toArray, List.set_cons_succ, List.set_cons_zero, List.getElem_toArray, List.getElem_cons_succ, List.getElem_cons_zero]
        refine wpAnyH_take (i := 11) (v := .bool false) rfl (by decide +kernel) (by decide +kernel) (by decide +kernel) (fun _ _ _ h => h) (Or.inl ⟨by kernel_rfl, fun w hSw => by go_simp⟩) hS ?_
        try simp only [Act.put, List.setIfInBounds_toArray, List.set_cons_succ, List.set_cons_zero, List.getElem_toArray, List.getElem_cons_succ, List.getElem_cons_zero]
        refine wpAnyH_take (i := 12) (v := .bool false) rfl (by decide +kernel) (by decide +kernel) (by decide +kernel) (fun _ _ _ h => h) (Or.inl ⟨by kernel_rfl, fun w hSw => by go_simp⟩) hS ?_
        try simp only [Act.put, List.setIfInBounds_toArray, List.set_cons_succ, List.set_cons_zero, List.getElem_toArray, List.getElem_cons_succ, List.getElem_cons_zero]
        refine wpAnyH_done (by kernel_rfl) ?_ _
        try simp only [Act.put, List.setIfInBounds_toArray, List.set_cons_succ, List.set_cons_zero, List.getElem_toArray, List.getElem_cons_succ, List.getElem_cons_zero]
        simp only [NQ]
        clear HS HEab HEba HOF
        go_wp2_with fail
        go_ret
        exact ⟨by rw [HD.out]; rfl, HBX.out.trans (hb6.mono HBX.out.size)⟩
      · go_simp
        refine Shut.out hK _ _ (HS.out _ (((below_drew1 (Below.refl _ _)).alloc (by simp <;> omega) _).alloc (by simp <;> omega) _)) (fun hS2 => ?_)
        clear hK K hS
        have hS := hS2
        clear hS2
        try simp only [Act.put, List.setIfInBounds_toArray, List.set_cons_succ, List.set_cons_zero, List.getElem_toArray, List.getElem_cons_succ, List.getElem_cons_zero]
        refine wpAnyH_ready (rs := [2]) (by decide +kernel) (by simp) ?_
        refine (AllReadyH.cons rfl (fun K hK => ?_) AllReadyH.nil)
        go_simp
        go_at_call 21
        refine (HOF.out _ _).mono ?_
        rintro e wq ⟨rfl, rfl⟩
        go_simp
        refine Shut.out hK _ _ (HS.out _ (((below_drew1 (Below.refl _ _)).alloc (by simp <;> omega) _).alloc (by simp <;> omega) _)) (fun hS2 => ?_)
        clear hK K hS
        have hS := hS2
        clear hS2
        try simp only [Act.put, List.setIfInBounds_toArray, List.set_cons_succ, List.set_cons_zero, List.getElem_toArray, List.getElem_cons_succ, List.getElem_cons_zero]
        refine wpAnyH_ready (rs := [5]) (by decide +kernel) (by simp) ?_
        refine (AllReadyH.cons rfl (fun K hK => ?_) AllReadyH.nil)
        go_simp
        go_at_call 21
        refine (HOF.out _ _).mono ?_
        rintro e wq ⟨rfl, rfl⟩
        go_simp
        refine Shut.out hK _ _ (HS.out _ (((below_drew1 (Below.refl _ _)).alloc (by simp <;> omega) _).alloc (by simp <;> omega) _)) (fun hS2 => ?_)
        clear hK K hS
        have hS := hS2
        clear hS2
        try simp only [Act.put, List.setIfInBounds_toArray, List.set_cons_succ, List.set_cons_zero, List.getElem_toArray, List.getElem_cons_succ, List.getElem_cons_zero]
        refine wpAnyH_ready (rs := [6]) (by decide +kernel) (by simp) ?_
        refine (AllReadyH.cons rfl (fun K hK => ?_) AllReadyH.nil)
        go_simp
        go_at_call 27
        refine HEab.out.mono ?_
        rintro e w5 ⟨rfl, hb5⟩
        go_simp
        have hb6 : Below W3.heap.size W3 w5 := (((below_drew1 (Below.refl _ _)).alloc (by simp <;> omega) _).alloc (by simp <;> omega) _).trans (hb5.mono (by simp <;> omega))
        refine Shut.out hK _ _ (HS.out w5 hb6) (fun hS2 => ?_)
        clear hK K hS
        have hS := hS2
        clear hS2
        try simp only [Act.put, List.setIfInBounds_toArray, List.set_cons_succ, List.set_cons_zero, List.getElem_toArray, List.getElem_cons_succ, List.getElem_cons_zero]
        refine wpAnyH_take (i := 7) (v := .bool false) rfl (by decide +kernel) (by decide +kernel) (by decide +kernel) (fun _ _ _ h => h) (Or.inl ⟨by kernel_rfl, fun w hSw => by go_simp⟩) hS ?_
        try simp only [Act.put, List.setIfInBounds_toArray, List.set_cons_succ, List.set_cons_zero, List.getElem_toArray, List.getElem_cons_succ, List.getElem_cons_zero]
        refine wpAnyH_take (i := 8) (v := undef) rfl (by decide +kernel) (by decide +kernel) (by decide +kernel) (fun _ _ _ h => h) (Or.inr ⟨by kernel_rfl, rfl⟩) hS ?_
        try simp only [Act.put, List.setIfInBounds_toArray, List.set_cons_succ, List.set_cons_zero, List.getElem_toArray, List.getElem_cons_succ, List.getElem_cons_zero]
        refine wpAnyH_take (i := 9) (v := undef) rfl (by decide +kernel) (by decide +kernel) (by decide +kernel) (fun _ _ _ h => h) (Or.inr ⟨by kernel_rfl, rfl⟩) hS ?_
        try simp only [Act.put, List.setIfInBounds_toArray, List.set_cons_succ, List.set_cons_zero, List.getElem_toArray, List.getElem_cons_succ, List.getElem_cons_zero]
        refine wpAnyH_take (i := 10) (v := undef) rfl (by decide +kernel) (by decide +kernel) (by decide +kernel) (fun _ _ _ h => h) (Or.inr ⟨by kernel_rfl, rfl⟩) hS ?_
        try simp only [Act.put, List.setIfInBounds_toArray, List.set_cons_succ, List.set_cons_zero, List.getElem_toArray, List.getElem_cons_succ, List.getElem_cons_zero]
        refine wpAnyH_take (i := 11) (v := .bool false) rfl (by decide +kernel) (by decide +kernel) (by decide +kernel) (fun _ _ _ h => h) (Or.inl ⟨by kernel_rfl, fun w hSw => by go_simp⟩) hS ?_
        try simp only [Act.put, List.setIfInBounds_toArray, List.set_cons_succ, List.set_cons_zero, List.getElem_toArray, List.getElem_cons_succ, List.getElem_cons_zero]
        refine wpAnyH_take (i := 12) (v := .bool false) rfl (by decide +kernel) (by decide +kernel) (by decide +kernel) (fun _ _ _ h => h) (Or.inl ⟨by kernel_rfl, fun w hSw => by go_simp⟩) hS ?_
        try simp only [Act.put, List.setIfInBounds_toArray, List.set_cons_succ, List.set_cons_zero, List.getElem_toArray, List.getElem_cons_succ, List.getElem_cons_zero]
        refine wpAnyH_done (by kernel_rfl) ?_ _
        try simp only [Act.put, List.setIfInBounds_toArray, List.set_cons_succ, List.set_cons_zero, List.getElem_toArray, List.getElem_cons_succ, List.getElem_cons_zero]
        simp only [NQ]
        clear HS HEab HEba HOF
        go_wp2_with fail
        go_ret
        exact ⟨by rw [HD.out]; rfl, HBX.out.trans (hb6.mono HBX.out.size)⟩
    · go_simp
      refine Shut.out hK _ _ (HS.out _ ((below_drew1 (Below.refl _ _)).alloc (by simp <;> omega) _)) (fun hS2 => ?_)
      clear hK K hS
      have hS := hS2
      clear hS2
      try simp only [Act.put, List.setIfInBounds_toArray, List.set_cons_succ, List.set_cons_zero, List.getElem_toArray, List.getElem_cons_succ, List.getElem_cons_zero]
      refine wpAnyH_ready (rs := [1]) (by decide +kernel) (by simp) ?_
      refine (AllReadyH.cons rfl (fun K hK => ?_) AllReadyH.nil)
      go_simp
      refine Shut.out hK _ _ (HS.out _ (((below_drew1 (Below.refl _ _)).alloc (by simp <;> omega) _).alloc (by simp <;> omega) _)) (fun hS2 => ?_)
      clear hK K hS
      have hS := hS2
      clear hS2
      try simp only [Act.put, List.setIfInBounds_toArray, List.set_cons_succ, List.set_cons_zero, List.getElem_toArray, List.getElem_cons_succ, List.getElem_cons_zero]
      refine wpAnyH_ready (rs := [2]) (by decide +kernel) (by simp) ?_
      refine (AllReadyH.cons rfl (fun K hK => ?_) AllReadyH.nil)
      go_simp
      go_at_call 21
      refine (HOF.out _ _).mono ?_
      rintro e wq ⟨rfl, rfl⟩
      go_simp
      refine Shut.out hK _ _ (HS.out _ (((below_drew1 (Below.refl _ _)).alloc (by simp <;> omega) _).alloc (by simp <;> omega) _)) (fun hS2 => ?_)
      clear hK K hS
      have hS := hS2
      clear hS2
      try simp only [Act.put, List.setIfInBounds_toArray, List.set_cons_succ, List.set_cons_zero, List.getElem_toArray, List.getElem_cons_succ, List.getElem_cons_zero]
      refine wpAnyH_ready (rs := [5]) (by decide +kernel) (by simp) ?_
      refine (AllReadyH.cons rfl (fun K hK => ?_) AllReadyH.nil)
      go_simp
      go_at_call 21
      refine (HOF.out _ _).mono ?_
      rintro e wq ⟨rfl, rfl⟩
      go_simp
      refine Shut.out hK _ _ (HS.out _ (((below_drew1 (Below.refl _ _)).alloc (by simp <;> omega) _).alloc (by simp <;> omega) _)) (fun hS2 => ?_)
      clear hK K hS
      have hS := hS2
      clear hS2
      try simp only [Act.put, List.setIfInBounds_toArray, List.set_cons_succ, List.set_cons_zero, List.getElem_toArray, List.getElem_cons_succ, List.getElem_cons_zero]
      refine wpAnyH_ready (rs := [6]) (by decide +kernel) (by simp) ?_
      refine (AllReadyH.cons rfl (fun K hK => ?_) AllReadyH.nil)
      go_simp
      go_at_call 27
      refine HEba.out.mono ?_
      rintro e w5 ⟨rfl, hb5⟩
      go_simp
      have hb6 : Below W3.heap.size W3 w5 := (((below_drew1 (Below.refl _ _)).alloc (by simp <;> omega) _).alloc (by simp <;> omega) _).trans (hb5.mono (by simp <;> omega))
      refine Shut.out hK _ _ (HS.out w5 hb6) (fun hS2 => ?_)
      clear hK K hS
      have hS := hS2
      clear hS2
      try simp only [Act.put, List.setIfInBounds_toArray, List.set_cons_succ, List.set_cons_zero, List.getElem_toArray, List.getElem_cons_succ, List.getElem_cons_zero]
      refine wpAnyH_take (i := 7) (v := .bool false) rfl (by decide +kernel) (by decide +kernel) (by decide +kernel) (fun _ _ _ h => h) (Or.inl ⟨by kernel_rfl, fun w hSw => by go_simp⟩) hS ?_
      try simp only [Act.put, List.setIfInBounds_toArray, List.set_cons_succ, List.set_cons_zero, List.getElem_toArray, List.getElem_cons_succ, List.getElem_cons_zero]
      refine wpAnyH_take (i := 8) (v := undef) rfl (by decide +kernel) (by decide +kernel) (by decide +kernel) (fun _ _ _ h => h) (Or.inr ⟨by kernel_rfl, rfl⟩) hS ?_
      try simp only [Act.put, List.setIfInBounds_toArray, List.set_cons_succ, List.set_cons_zero, List.getElem_toArray, List.getElem_cons_succ, List.getElem_cons_zero]
      refine wpAnyH_take (i := 9) (v := undef) rfl (by decide +kernel) (by decide +kernel) (by decide +kernel) (fun _ _ _ h => h) (Or.inr ⟨by kernel_rfl, rfl⟩) hS ?_
      try simp only [Act.put, List.setIfInBounds_toArray, List.set_cons_succ, List.set_cons_zero, List.getElem_toArray, List.getElem_cons_succ, List.getElem_cons_zero]
      refine wpAnyH_take (i := 10) (v := undef) rfl (by decide +kernel) (by decide +kernel) (by decide +kernel) (fun _ _ _ h => h) (Or.inr ⟨by kernel_rfl, rfl⟩) hS ?_
      try simp only [Act.put, List.setIfInBounds_toArray, List.set_cons_succ, List.set_cons_zero, List.getElem_toArray, List.getElem_cons_succ, List.getElem_cons_zero]
      refine wpAnyH_take (i := 11) (v := .bool false) rfl (by decide +kernel) (by decide +kernel) (by decide +kernel) (fun _ _ _ h => h) (Or.inl ⟨by kernel_rfl, fun w hSw => by go_simp⟩) hS ?_
      try simp only [Act.put, List.setIfInBounds_toArray, List.set_cons_succ, List.set_cons_zero, List.getElem_toArray, List.getElem_cons_succ, List.getElem_cons_zero]
      refine wpAnyH_take (i := 12) (v := .bool false) rfl (by decide +kernel) (by decide +kernel) (by decide +kernel) (fun _ _ _ h => h) (Or.inl ⟨by kernel_rfl, fun w hSw => by go_simp⟩) hS ?_
      try simp only [Act.put, List.setIfInBounds_toArray, List.set_cons_succ, List.set_cons_zero, List.getElem_toArray, List.getElem_cons_succ, List.getElem_cons_zero]
      refine wpAnyH_done (by kernel_rfl) ?_ _
      try simp only [Act.put, List.setIfInBounds_toArray, List.set_cons_succ, List.set_cons_zero, List.getElem_toArray, List.getElem_cons_succ, List.getElem_cons_zero]
      simp only [NQ]
      clear HS HEab HEba HOF
      go_wp2_with fail
      go_ret
      exact ⟨by rw [HD.out]; rfl, HBX.out.trans (hb6.mono HBX.out.size)⟩

def lightB (l : List ItemD) : Bool := decide (l.length ≤ 20) && l.all (fun x => decide (x.name.size ≤ 100) && decide (x.marks.length ≤ 10))
end Go.Proofs.YtjlhdgmcaiiagaaGreatDoor

