/- finds, light. -/
import Derived.Test.YtjlhdgmcaiiagaaGreatDoorR9
import Derived.Test.YtjlhdgmcaiiagaaGreatDoorIt12
namespace Go.Proofs.YtjlhdgmcaiiagaaGreatDoor
open Go.RowKit Go.Maps

set_option maxRecDepth 100000 in
theorem l9of_any (v : Value) (w : World) : Calls Tryz.prog 21 #[v] w fun e w' => e = .returned v ∧ w' = w := by
  go_enter Tryz.func21, Tryz.ntmps21
  go_wp2
  go_ret
  exact ⟨rfl, rfl⟩
set_option maxRecDepth 100000 in
theorem l9mark_any (a b q t : Int) (w : World) : Calls Tryz.prog 38 #[.int .i64 a, .int .i64 b, .int .i64 q, .int .u64 t] w fun e w' => e = .returned (.agg #[.int .i64 a, .int .i64 b, .int .i64 q, .int .u64 t]) ∧ Below w.heap.size w w' := by
  go_enter Tryz.func38, Tryz.ntmps38
  go_wp2
  (try simp only [Exit.inBlock, Exit.then])
  refine bodyPost_ret (v := .agg #[.int .i64 a, .int .i64 b, .int .i64 q, .int .u64 t]) ?_ rfl ⟨rfl, (Below.refl _ _).alloc (Nat.le_refl _) _⟩
  rw [results_cell_one rfl]
  go_simp
set_option maxRecDepth 100000 in
theorem l9item_any (s : ByteArray) (o : Option Addr) (n c : Nat) (w : World) : Calls Tryz.prog 37 #[.string s, .slice o n c] w fun e w' => e = .returned (.agg #[.string s, .slice o n c]) ∧ Below w.heap.size w w' := by
  go_enter Tryz.func37, Tryz.ntmps37
  go_wp2
  (try simp only [Exit.inBlock, Exit.then])
  refine bodyPost_ret (v := .agg #[.string s, .slice o n c]) ?_ rfl ⟨rfl, (Below.refl _ _).alloc (Nat.le_refl _) _⟩
  rw [results_cell_one rfl]
  go_simp
theorem arr_nil {α : Type} {R : World → α → List Value → Prop} {sz : Nat} {w : World} : Arr R sz w (.slice none 0 0) [] := ⟨none, 0, rfl, Nat.le_refl _, Nat.zero_le _, fun i hi => absurd hi (Nat.not_lt_zero i)⟩
def putR (l : List ItemD) (x : ItemD) : List ItemD := if putE l x = 0 then putI l x else []
def remR (l : List ItemD) (nm : ByteArray) : List ItemD := if remE l nm = 0 then dropN l nm else []
theorem PutPost.arr {l : List ItemD} {x : ItemD} {w w' : World} {e : Ending} (h : PutPost l x w e w') : ∃ v', e = .returned (.tuple #[v', .int .i64 (putE l x)]) ∧ Arr ItemR 2 w' v' (putR l x) ∧ Below w.heap.size w w' := by
  obtain ⟨v', h1, h2, h3, h4⟩ := h
  refine ⟨v', h1, ?_, h2⟩
  unfold putR
  split
  · rename_i h0
    obtain ⟨ps, hp, hf⟩ := h4 h0
    rw [← hp]
    exact hf.arr
  · rename_i h0
    rw [h3 h0]
    exact arr_nil
theorem RemPost.arr {l : List ItemD} {nm : ByteArray} {w w' : World} {e : Ending} (h : RemPost l nm w e w') : ∃ v', e = .returned (.tuple #[v', .int .i64 (remE l nm)]) ∧ Arr ItemR 2 w' v' (remR l nm) ∧ Below w.heap.size w w' := by
  obtain ⟨v', h1, h2, h3, h4⟩ := h
  refine ⟨v', h1, ?_, h2⟩
  unfold remR
  split
  · rename_i h0
    obtain ⟨ps, hp, hf⟩ := h4 h0
    rw [← hp]
    exact hf.arr
  · rename_i h0
    rw [h3 h0]
    exact arr_nil
theorem int_eq (a b : Int) : (a == b) = decide (a = b) := rfl
set_option maxRecDepth 100000 in
set_option maxHeartbeats 2000000 in
theorem l9puts_any (l want : List ItemD) (x : ItemD) (no : Int) (v mv wv : Value) (w : World) (h : Arr ItemR 2 w v l) (hm : Arr MarkR 4 w mv x.marks) (hw : Arr ItemR 2 w wv want) (hs : x.name.size ≤ maxLen) (hl : Lt l) (hl2 : l.length ≤ 900 ∧ x.marks.length ≤ 1000) (hG : GlobIs w) :
    Calls Tryz.prog 23 #[v, .agg #[.string x.name, mv], wv, .int .i64 no] w fun e w' => e = .returned (.bool (decide (putR l x = want) && decide (putE l x = no))) ∧ Below w.heap.size w w' := by
  obtain ⟨mo, mc, rfl, -⟩ := id hm
  have hb1 : Below w.heap.size w (w.alloc (.cells #[.string x.name, .slice mo x.marks.length mc] 31)) := (Below.refl _ _).alloc (Nat.le_refl _) _
  have HP := Lib.hid (itemsPut_any l x v _ _ (h.items hb1) (hm.marks hb1) hs hl hl2 (hG.below hb1))
  have HB1 := Lib.hid hb1
  have HW := Lib.hid hw
  clear h hm hw hs hl hl2 hG hb1
  go_enter Tryz.func23, Tryz.ntmps23
  go_wp2_with fail
  refine HP.out.mono ?_
  intro e w2 hp2
  obtain ⟨v2, rfl, ha2, hb2⟩ := hp2.arr
  have HB2 := Lib.hid (HB1.out.trans (hb2.mono HB1.out.size))
  have HE := Lib.hid (r9Equal_any (putR l x) want v2 wv w2 ha2 (HW.out.items HB2.out))
  clear hp2 ha2 hb2 HP
  obtain ⟨r, hr⟩ : ∃ r, r = decide (putR l x = want) := ⟨_, rfl⟩
  rw [← hr] at HE
  have HD := Lib.hid hr
  clear hr
  cases r with
  | true =>
    go_wp2_with fail
    refine HE.out.mono ?_
    rintro e w3 ⟨rfl, hb3⟩
    go_wp2_with fail
    go_ret
    exact ⟨by rw [← HD.out]; rfl, HB2.out.trans (hb3.mono HB2.out.size)⟩
  | false =>
    go_wp2_with fail
    refine HE.out.mono ?_
    rintro e w3 ⟨rfl, hb3⟩
    go_wp2_with fail
    go_ret
    exact ⟨by rw [← HD.out]; rfl, HB2.out.trans (hb3.mono HB2.out.size)⟩
set_option maxRecDepth 100000 in
set_option maxHeartbeats 2000000 in
theorem l9removes_any (l want : List ItemD) (nm : ByteArray) (no : Int) (v wv : Value) (w : World) (h : Arr ItemR 2 w v l) (hw : Arr ItemR 2 w wv want) (hl : Lt l) (hG : GlobIs w) :
    Calls Tryz.prog 29 #[v, .string nm, wv, .int .i64 no] w fun e w' => e = .returned (.bool (decide (remR l nm = want) && decide (remE l nm = no))) ∧ Below w.heap.size w w' := by
  have HP := Lib.hid (itemsRemove_any l nm v w h hl hG)
  have HW := Lib.hid hw
  clear h hw hl hG
  go_enter Tryz.func29, Tryz.ntmps29
  go_wp2_with fail
  refine HP.out.mono ?_
  intro e w2 hp2
  obtain ⟨v2, rfl, ha2, hb2⟩ := hp2.arr
  have HB2 := Lib.hid hb2
  have HE := Lib.hid (r9Equal_any (remR l nm) want v2 wv w2 ha2 (HW.out.items HB2.out))
  clear hp2 ha2 hb2 HP
  obtain ⟨r, hr⟩ : ∃ r, r = decide (remR l nm = want) := ⟨_, rfl⟩
  rw [← hr] at HE
  have HD := Lib.hid hr
  clear hr
  cases r with
  | true =>
    go_wp2_with fail
    refine HE.out.mono ?_
    rintro e w3 ⟨rfl, hb3⟩
    go_wp2_with fail
    go_ret
    exact ⟨by rw [← HD.out]; rfl, HB2.out.trans (hb3.mono HB2.out.size)⟩
  | false =>
    go_wp2_with fail
    refine HE.out.mono ?_
    rintro e w3 ⟨rfl, hb3⟩
    go_wp2_with fail
    go_ret
    exact ⟨by rw [← HD.out]; rfl, HB2.out.trans (hb3.mono HB2.out.size)⟩
def ownerS (o : Option ByteArray) : ByteArray := o.getD ⟨#[]⟩
def ownerN (o : Option ByteArray) : Int := if o.isSome then 0 else 9
theorem ownerV_eq (o : Option ByteArray) : ownerV o = .tuple #[.string (ownerS o), .int .i64 (ownerN o)] := by cases o <;> rfl
set_option maxRecDepth 100000 in
set_option maxHeartbeats 2000000 in
theorem l9owns_any (l : List ItemD) (d : DotD) (want : ByteArray) (no : Int) (v : Value) (w : World) (h : Arr ItemR 2 w v l) (hl : Lt l) :
    Calls Tryz.prog 14 #[v, dotV d, .string want, .int .i64 no] w fun e w' => e = .returned (.bool (decide (ownerS (ownerI l d) = want) && decide (ownerN (ownerI l d) = no))) ∧ Below w.heap.size w w' := by
  have hb1 : Below w.heap.size w (w.alloc (.cells #[.int .i64 d.rep, .int .i64 d.ctr] 24)) := (Below.refl _ _).alloc (Nat.le_refl _) _
  have HP := Lib.hid (itemsOwner_any l d v _ (h.items hb1) hl)
  have HB1 := Lib.hid hb1
  rw [ownerV_eq] at HP
  generalize ownerS (ownerI l d) = s at *
  generalize ownerN (ownerI l d) = n at *
  have hse := strDec s want
  clear h hl hb1
  unfold dotV at *
  obtain ⟨r, hr⟩ : ∃ r, r = decide (s = want) := ⟨_, rfl⟩
  rw [← hr] at hse ⊢
  clear hr
  cases r with
  | true =>
    go_enter Tryz.func14, Tryz.ntmps14
    go_wp2_with fail
    refine HP.out.mono ?_
    rintro e w2 ⟨rfl, hb2⟩
    go_wp2_with fail
    go_ret
    exact ⟨rfl, HB1.out.trans (hb2.mono HB1.out.size)⟩
  | false =>
    go_enter Tryz.func14, Tryz.ntmps14
    go_wp2_with fail
    refine HP.out.mono ?_
    rintro e w2 ⟨rfl, hb2⟩
    go_wp2_with fail
    go_ret
    exact ⟨rfl, HB1.out.trans (hb2.mono HB1.out.size)⟩
set_option maxRecDepth 100000 in
set_option maxHeartbeats 2000000 in
theorem l9has_any (x : ItemD) (want no : Int) (mv : Value) (w : World) (h : Arr MarkR 4 w mv x.marks) (hs : x.name.size ≤ maxLen) (hl : x.marks.length ≤ 100000) (hG : GlobIs w) :
    Calls Tryz.prog 19 #[.agg #[.string x.name, mv], .int .i64 want, .int .i64 no] w fun e w' => e = .returned (.bool (decide (qtyI x = want) && decide (qtyIE x = no))) ∧ Below w.heap.size w w' := by
  obtain ⟨mo, mc, rfl, -⟩ := id h
  have hb1 : Below w.heap.size w (w.alloc (.cells #[.string x.name, .slice mo x.marks.length mc] 31)) := (Below.refl _ _).alloc (Nat.le_refl _) _
  have HP := Lib.hid (itemsQty_any x _ _ (h.marks hb1) hs hl (hG.below hb1))
  have HB1 := Lib.hid hb1
  generalize qtyI x = q at *
  generalize qtyIE x = n at *
  clear h hs hl hG hb1
  by_cases hq : q = want
  · have t1 : (q == want) = true := by simpa using hq
    have hd : Hid (decide (q = want) = true) := Lib.hid (decide_eq_true hq)
    clear hq
    go_enter Tryz.func19, Tryz.ntmps19
    go_wp2_with fail
    refine HP.out.mono ?_
    rintro e w2 ⟨rfl, hb2⟩
    go_wp2_with fail
    go_ret
    exact ⟨by rw [hd.out]; rfl, HB1.out.trans (hb2.mono HB1.out.size)⟩
  · have t1 : (q == want) = false := by simpa using hq
    have hd : Hid (decide (q = want) = false) := Lib.hid (decide_eq_false hq)
    clear hq
    go_enter Tryz.func19, Tryz.ntmps19
    go_wp2_with fail
    refine HP.out.mono ?_
    rintro e w2 ⟨rfl, hb2⟩
    go_wp2_with fail
    go_ret
    exact ⟨by rw [hd.out]; rfl, HB1.out.trans (hb2.mono HB1.out.size)⟩
end Go.Proofs.YtjlhdgmcaiiagaaGreatDoor
namespace Go.Proofs.YtjlhdgmcaiiagaaGreatDoor
open Go.RowKit Go.Maps

def findX (l : List ItemD) (nm : ByteArray) : ItemD := (l.find? (fun x => decide (x.name = nm))).getD ⟨⟨#[]⟩, []⟩
def findN (l : List ItemD) (nm : ByteArray) : Int := if l.any (fun x => decide (x.name = nm)) then 0 else 9
theorem Arr.nameLe {w : World} {v : Value} {l : List ItemD} (h : Arr ItemR 2 w v l) : ∀ x ∈ l, x.name.size ≤ maxLen := by
  intro x hx
  obtain ⟨i, hi, rfl⟩ := List.getElem_of_mem hx
  obtain ⟨o, c, _, hel⟩ := h.itemAt
  obtain ⟨b, off, mv, _, _, _, _, hn, _⟩ := hel i hi
  exact hn
theorem Arr.itemMI {w : World} {v : Value} {l : List ItemD} (h : Arr ItemR 2 w v l) : ∀ x ∈ l, ∀ m ∈ x.marks, MI m := by
  intro x hx
  obtain ⟨i, hi, rfl⟩ := List.getElem_of_mem hx
  obtain ⟨o, c, _, hel⟩ := h.itemAt
  obtain ⟨b, off, mv, _, _, _, _, _, hm⟩ := hel i hi
  exact hm.marksMI
theorem FindPost.arr {nm : ByteArray} {l : List ItemD} {v : Value} {w w' : World} {e : Ending} (h : FindPost nm l w e w') (ha : Arr ItemR 2 w v l) :
    ∃ o c, e = .returned (.tuple #[.agg #[.string (findX l nm).name, .slice o (findX l nm).marks.length c], .int .i64 (findN l nm)]) ∧ Arr MarkR 4 w' (.slice o (findX l nm).marks.length c) (findX l nm).marks ∧ (findX l nm).name.size ≤ maxLen ∧ Below w.heap.size w w' := by
  obtain ⟨hb, ⟨h1, h2⟩ | ⟨k, hk, h1, h2, mo, mc, h3, h4⟩⟩ := h
  · have e1 : findX l nm = ⟨⟨#[]⟩, []⟩ := by unfold findX; rw [find_none _ _ h1]; rfl
    have e2 : findN l nm = 9 := by unfold findN; rw [h1]; rfl
    rw [e1, e2]
    exact ⟨none, 0, h2, arr_nil, by simp [ByteArray.size], hb⟩
  · have hp : decide (l[k].name = nm) = true := decide_eq_true h1
    have e1 : findX l nm = l[k] := by unfold findX; rw [find_at (fun x : ItemD => decide (x.name = nm)) l k hk h2 hp]; rfl
    have e2 : findN l nm = 0 := by unfold findN; rw [if_pos (List.any_eq_true.2 ⟨_, List.getElem_mem hk, hp⟩)]
    rw [e1, e2]
    exact ⟨mo, mc, h3, Arr.of_marks h4 (ha.itemMI _ (List.getElem_mem hk)), ha.nameLe _ (List.getElem_mem hk), hb⟩
theorem two_lits {W : World} {x y : ItemD} {mx my : Value} (T : TypeId) (hx : x.name.size ≤ maxLen) (hy : y.name.size ≤ maxLen) (h : Arr MarkR 4 W mx x.marks) (h2 : Arr MarkR 4 W my y.marks) :
    Arr ItemR 2 ((W.alloc (.cells #[.string x.name, mx] T)).alloc (.cells #[.string y.name, my] T)) (.slice (some ⟨W.heap.size, 0, none⟩) 1 1) [x] ∧ Arr ItemR 2 ((W.alloc (.cells #[.string x.name, mx] T)).alloc (.cells #[.string y.name, my] T)) (.slice (some ⟨W.heap.size + 1, 0, none⟩) 1 1) [y] := by
  have b1 : Below W.heap.size W (W.alloc (.cells #[.string x.name, mx] T)) := (Below.refl _ _).alloc (Nat.le_refl _) _
  have b2 : Below (W.alloc (.cells #[.string x.name, mx] T)).heap.size (W.alloc (.cells #[.string x.name, mx] T)) ((W.alloc (.cells #[.string x.name, mx] T)).alloc (.cells #[.string y.name, my] T)) := (Below.refl _ _).alloc (Nat.le_refl _) _
  refine ⟨(arr_lit T hx (h.marks b1)).items b2, ?_⟩
  have := arr_lit (w := W.alloc (.cells #[.string x.name, mx] T)) T hy ((h2.marks b1).marks b2)
  rw [alloc_size] at this
  exact this

set_option linter.unusedSimpArgs false in
set_option maxRecDepth 100000 in
set_option maxHeartbeats 4000000 in
theorem l9finds_any (l : List ItemD) (nm : ByteArray) (want : ItemD) (no : Int) (v wv : Value) (w : World) (h : Arr ItemR 2 w v l) (hw : Arr MarkR 4 w wv want.marks) (hws : want.name.size ≤ maxLen) (hl : Lt l) :
    Calls Tryz.prog 12 #[v, .string nm, .agg #[.string want.name, wv], .int .i64 no] w fun e w' => e = .returned (.bool (decide (findX l nm = want) && decide (findN l nm = no))) ∧ Below w.heap.size w w' := by
  obtain ⟨wo, wc, rfl, -⟩ := id hw
  obtain ⟨W1, hW1⟩ : ∃ W1, W1 = w.alloc (.cells #[.string want.name, .slice wo want.marks.length wc] 31) := ⟨_, rfl⟩
  have hb1 : Below w.heap.size w W1 := by rw [hW1]; exact (Below.refl _ _).alloc (Nat.le_refl _) _
  have hg1 : W1.heap[w.heap.size]? = some (.cells #[.string want.name, .slice wo want.marks.length wc] 31) := by rw [hW1]; exact alloc_new _ _
  have hgl1 := lt_of_heap hg1
  have HP := Lib.hid (itemsFind_any nm l v W1 (h.items hb1) hl)
  have HA := Lib.hid (h.items hb1)
  have HWM := Lib.hid (hw.marks hb1)
  have HG1 := Lib.hid hg1
  have HB1 := Lib.hid hb1
  have HW := Lib.hid hW1
  have HOF := Lib.hid (fun v w => l9of_any v w)
  clear h hw hl hg1 hb1 hW1
  go_enter Tryz.func12, Tryz.ntmps12
  go_wp2_with fail
  rw [← HW.out]
  refine HP.out.mono ?_
  intro e w2 hp2
  obtain ⟨fo, fc, rfl, hm2, hfs, hb2⟩ := hp2.arr HA.out
  have hg2 : w2.heap[w.heap.size]? = some (.cells #[.string want.name, .slice wo want.marks.length wc] 31) := by rw [hb2.block _ hgl1]; exact HG1.out
  have hgl2 := lt_of_heap hg2
  have HB2 := Lib.hid (HB1.out.trans (hb2.mono HB1.out.size))
  have HWM2 := Lib.hid (HWM.out.marks hb2)
  have HM2 := Lib.hid hm2
  have HG2 := Lib.hid hg2
  have hnie := int_eq (findN l nm) no
  obtain ⟨fx, hfx⟩ : ∃ fx, fx = findX l nm := ⟨_, rfl⟩
  obtain ⟨fn, hfn⟩ : ∃ fn, fn = findN l nm := ⟨_, rfl⟩
  rw [← hfx] at HM2 hfs
  rw [← hfx, ← hfn]
  obtain ⟨W3, hW3⟩ : ∃ W3, W3 = w2.alloc (.cells #[.string fx.name, .slice fo fx.marks.length fc] 31) := ⟨_, rfl⟩
  have hb3 : Below w2.heap.size w2 W3 := by rw [hW3]; exact (Below.refl _ _).alloc (Nat.le_refl _) _
  have hg3 : W3.heap[w2.heap.size]? = some (.cells #[.string fx.name, .slice fo fx.marks.length fc] 31) := by rw [hW3]; exact alloc_new _ _
  have hgl3 := lt_of_heap hg3
  have hg23 : W3.heap[w.heap.size]? = some (.cells #[.string want.name, .slice wo want.marks.length wc] 31) := by rw [hb3.block _ hgl2]; exact HG2.out
  have hgl23 := lt_of_heap hg23
  have HS : Hid (∀ wz, Below W3.heap.size W3 wz → wz.cell? ⟨w2.heap.size, 0, none⟩ = some (.string fx.name) ∧ wz.cell? ⟨w2.heap.size, 1, none⟩ = some (.slice fo fx.marks.length fc) ∧ wz.cell? ⟨w.heap.size, 0, none⟩ = some (.string want.name) ∧ wz.cell? ⟨w.heap.size, 1, none⟩ = some (.slice wo want.marks.length wc)) := Lib.hid (fun wz hz => ⟨by rw [hz.cell (p := ⟨w2.heap.size, 0, none⟩) hgl3, cell0 hg3 0]; rfl, by rw [hz.cell (p := ⟨w2.heap.size, 1, none⟩) hgl3, cell0 hg3 1]; rfl, by rw [hz.cell (p := ⟨w.heap.size, 0, none⟩) hgl23, cell0 hg23 0]; rfl, by rw [hz.cell (p := ⟨w.heap.size, 1, none⟩) hgl23, cell0 hg23 1]; rfl⟩)
  have h1 : Arr MarkR 4 W3.drew (.slice fo fx.marks.length fc) fx.marks := (HM2.out.marks hb3).marks (below_drew1 (Below.refl _ _))
  have h2 : Arr MarkR 4 W3.drew (.slice wo want.marks.length wc) want.marks := (HWM2.out.marks hb3).marks (below_drew1 (Below.refl _ _))
  have hab := two_lits (W := W3.drew) 31 hfs hws h1 h2
  have hba := two_lits (W := W3.drew) 31 hws hfs h2 h1
  have HEab := Lib.hid (r9Equal_any [fx] [want] _ _ _ hab.1 hab.2)
  have HEba := Lib.hid (r9Equal_any [fx] [want] _ _ _ hba.2 hba.1)
  have HBX := Lib.hid (HB2.out.trans (hb3.mono HB2.out.size))
  have HW3 := Lib.hid hW3
  obtain ⟨r, hr⟩ : ∃ r, r = decide ([fx] = [want]) := ⟨_, rfl⟩
  obtain ⟨rn, hrn⟩ : ∃ rn, rn = decide (fn = no) := ⟨_, rfl⟩
  have hne : (fn == no) = rn := by rw [hrn]; rfl
  rw [← hr] at HEab HEba
  have HD : Hid ((decide (findX l nm = want) && decide (findN l nm = no)) = (r && rn)) := Lib.hid (by rw [hr, hrn, ← hfx, ← hfn]; congr 1; simp)
  clear hp2 hm2 hb2 hg2 hfx hfn hW3 hb3 hg3 hg23 h1 h2 hab hba HP HA hr hrn hnie HWM HM2 HWM2 HG1 HG2 HB1 HB2
  cases r with
  | true =>
    go_upto_region 2 with fail
    rw [← HW3.out]
    clear HW3 HW
    refine NQ.to ?_
    refine wp_region_held_drew (S := (fun w' => w'.cell? ⟨w2.heap.size, 0, none⟩ = some (.string fx.name) ∧ w'.cell? ⟨w2.heap.size, 1, none⟩ = some (.slice fo fx.marks.length fc) ∧ w'.cell? ⟨w.heap.size, 0, none⟩ = some (.string want.name) ∧ w'.cell? ⟨w.heap.size, 1, none⟩ = some (.slice wo want.marks.length wc))) (by kernel_rfl) (HS.out _ (below_drew1 (Below.refl _ _))) (fun hS => ?_)
    try simp only [Act.put, List.setIfInBounds_toArray, List.set_cons_succ, List.set_cons_zero, List.getElem_toArray, List.getElem_cons_succ, List.getElem_cons_zero]
    refine wpAnyH_take (i := 0) (v := .agg #[.string fx.name, .slice fo fx.marks.length fc]) rfl (by decide +kernel) (by decide +kernel) (by decide +kernel) (fun _ _ _ h => h) (Or.inl ⟨by kernel_rfl, fun w hSw => by obtain ⟨f1, f2, f3, f4⟩ := hSw; go_simp⟩) hS ?_
    try simp only [Act.put, List.setIfInBounds_toArray, List.set_cons_succ, List.set_cons_zero, List.getElem_toArray, List.getElem_cons_succ, List.getElem_cons_zero]
    refine wpAnyH_take (i := 3) (v := .agg #[.string want.name, .slice wo want.marks.length wc]) rfl (by decide +kernel) (by decide +kernel) (by decide +kernel) (fun _ _ _ h => h) (Or.inl ⟨by kernel_rfl, fun w hSw => by obtain ⟨f1, f2, f3, f4⟩ := hSw; go_simp⟩) hS ?_
    try simp only [Act.put, List.setIfInBounds_toArray, List.set_cons_succ, List.set_cons_zero, List.getElem_toArray, List.getElem_cons_succ, List.getElem_cons_zero]
    refine wpAnyH_ready (rs := [1, 4]) (by decide +kernel) (by simp) ?_
    refine (AllReadyH.cons rfl (fun K hK => ?_) (AllReadyH.cons rfl (fun K hK => ?_) AllReadyH.nil))
    · go_simp
      refine Shut.out hK _ _ (HS.out _ ((below_drew1 (Below.refl _ _)).alloc (by simp <;> omega) _)) (fun hS2 => ?_)
      clear hK K hS
      have hS := hS2
      clear hS2
      try simp only [Act.put, List.setIfInBounds_toArray, List.set_cons_succ, List.set_cons_zero, List.getElem_toArray, List.getElem_cons_succ, List.getElem_cons_zero]
      refine wpAnyH_ready (rs := [2, 4]) (by decide +kernel) (by simp) ?_
      refine (AllReadyH.cons rfl (fun K hK => ?_) (AllReadyH.cons rfl (fun K hK => ?_) AllReadyH.nil))
      · go_simp
        go_at_call 21
        refine (HOF.out _ _).mono ?_
        rintro e wq ⟨rfl, rfl⟩
        go_simp
        refine Shut.out hK _ _ (HS.out _ ((below_drew1 (Below.refl _ _)).alloc (by simp <;> omega) _)) (fun hS2 => ?_)
        clear hK K hS
        have hS := hS2
        clear hS2
        try simp only [Act.put, List.setIfInBounds_toArray, List.set_cons_succ, List.set_cons_zero, List.getElem_toArray, List.getElem_cons_succ, List.getElem_cons_zero]
        refine wpAnyH_ready (rs := [4]) (by decide +kernel) (by simp) ?_
        refine (AllReadyH.cons rfl (fun K hK => ?_) AllReadyH.nil)
        go_simp
        refine Shut.out hK _ _ (HS.out _ (((below_drew1 (Below.refl _ _)).alloc (by simp <;> omega) _).alloc (by simp <;> omega) _)) (fun hS2 => ?_)
        clear hK K hS
        have hS := hS2
        clear hS2
        try simp only [Act.put, List.setIfInBounds_toArray, List.set_cons_succ, List.set_cons_zero, List.getElem_toArray, List.getElem_cons_succ, List.getElem_cons_zero]
        refine wpAnyH_ready (rs := [5]) (by decide +kernel) (by simp) ?_
        refine (AllReadyH.cons rfl (fun K hK => ?_) AllReadyH.nil)
        go_simp
        go_at_call 21
        refine (HOF.out _ _).mono ?_
        rintro e wq ⟨rfl, rfl⟩
        go_simp
        refine Shut.out hK _ _ (HS.out _ (((below_drew1 (Below.refl _ _)).alloc (by simp <;> omega) _).alloc (by simp <;> omega) _)) (fun hS2 => ?_)
        clear hK K hS
        have hS := hS2
        clear hS2
        try simp only [Act.put, List.setIfInBounds_toArray, List.set_cons_succ, List.set_cons_zero, List.getElem_toArray, List.getElem_cons_succ, List.getElem_cons_zero]
        refine wpAnyH_ready (rs := [6]) (by decide +kernel) (by simp) ?_
        refine (AllReadyH.cons rfl (fun K hK => ?_) AllReadyH.nil)
        go_simp
        go_at_call 27
        refine HEab.out.mono ?_
        rintro e w5 ⟨rfl, hb5⟩
        go_simp
        have hb6 : Below W3.heap.size W3 w5 := (((below_drew1 (Below.refl _ _)).alloc (by simp <;> omega) _).alloc (by simp <;> omega) _).trans (hb5.mono (by simp <;> omega))
        refine Shut.out hK _ _ (HS.out w5 hb6) (fun hS2 => ?_)
        clear hK K hS
        have hS := hS2
        clear hS2
        try simp only [Act.put, List.setIfInBounds_toArray, List.set_cons_succ, List.set_cons_zero, List.getElem_toArray, List.getElem_cons_succ, List.getElem_cons_zero]
        refine wpAnyH_take (i := 7) (v := .bool true) rfl (by decide +kernel) (by decide +kernel) (by decide +kernel) (fun _ _ _ h => h) (Or.inl ⟨by kernel_rfl, fun w hSw => by go_simp⟩) hS ?_
        try simp only [Act.put, List.setIfInBounds_toArray, List.set_cons_succ, List.set_cons_zero, List.getElem_toArray, List.getElem_cons_succ, List.getElem_cons_zero]
        refine wpAnyH_take (i := 8) (v := .int .i64 fn) rfl (by decide +kernel) (by decide +kernel) (by decide +kernel) (fun _ _ _ h => h) (Or.inl ⟨by kernel_rfl, fun w hSw => by go_simp⟩) hS ?_
        try simp only [Act.put, List.setIfInBounds_toArray, List.set_cons_succ, List.set_cons_zero, List.getElem_toArray, List.getElem_cons_succ, List.getElem_cons_zero]
        refine wpAnyH_take (i := 9) (v := .int .i64 no) rfl (by decide +kernel) (by decide +kernel) (by decide +kernel) (fun _ _ _ h => h) (Or.inl ⟨by kernel_rfl, fun w hSw => by go_simp⟩) hS ?_
        try simp only [Act.put, List.setIfInBounds_toArray, List.set_cons_succ, List.set_cons_zero, List.getElem_toArray, List.getElem_cons_succ, List.getElem_cons_zero]
        refine wpAnyH_take (i := 10) (v := .bool rn) rfl (by decide +kernel) (by decide +kernel) (by decide +kernel) (fun _ _ _ h => h) (Or.inl ⟨by kernel_rfl, fun w hSw => by go_simp⟩) hS ?_
        try simp only [Act.put, List.setIfInBounds_toArray, List.set_cons_succ, List.set_cons_zero, List.getElem_toArray, List.getElem_cons_succ, List.getElem_cons_zero]
        refine wpAnyH_take (i := 11) (v := .bool rn) rfl (by decide +kernel) (by decide +kernel) (by decide +kernel) (fun _ _ _ h => h) (Or.inl ⟨by kernel_rfl, fun w hSw => by go_simp⟩) hS ?_
        try simp only [Act.put, List.setIfInBounds_toArray, List.set_cons_succ, List.set_cons_zero, List.getElem_toArray, List.getElem_cons_succ, List.getElem_cons_zero]
        refine wpAnyH_take (i := 12) (v := .bool rn) rfl (by decide +kernel) (by decide +kernel) (by decide +kernel) (fun _ _ _ h => h) (Or.inl ⟨by kernel_rfl, fun w hSw => by go_simp⟩) hS ?_
        try simp only [Act.put, List.setIfInBounds_toArray, List.set_cons_succ, List.set_cons_zero, List.getElem_toArray, List.getElem_cons_succ, List.getElem_cons_zero]
        refine wpAnyH_done (by kernel_rfl) ?_ _
        try simp only [Act.put, List.setIfInBounds_toArray, List.set_cons_succ, List.set_cons_zero, List.getElem_toArray, List.getElem_cons_succ, List.getElem_cons_zero]
        simp only [NQ]
        clear HS HEab HEba HOF
        go_wp2_with fail
        go_ret
        exact ⟨by rw [HD.out]; rfl, HBX.out.trans (hb6.mono HBX.out.size)⟩
      · go_simp
        refine Shut.out hK _ _ (HS.out _ (((below_drew1 (Below.refl _ _)).alloc (by simp <;> omega) _).alloc (by simp <;> omega) _)) (fun hS2 => ?_)
        clear hK K hS
        have hS := hS2
        clear hS2
        try simp only [Act.put, List.setIfInBounds_toArray, List.set_cons_succ, List.set_cons_zero, List.getElem_toArray, List.getElem_cons_succ, List.getElem_cons_zero]
        refine wpAnyH_ready (rs := [2]) (by decide +kernel) (by simp) ?_
        refine (AllReadyH.cons rfl (fun K hK => ?_) AllReadyH.nil)
        go_simp
        go_at_call 21
        refine (HOF.out _ _).mono ?_
        rintro e wq ⟨rfl, rfl⟩
        go_simp
        refine Shut.out hK _ _ (HS.out _ (((below_drew1 (Below.refl _ _)).alloc (by simp <;> omega) _).alloc (by simp <;> omega) _)) (fun hS2 => ?_)
        clear hK K hS
        have hS := hS2
        clear hS2
        try simp only [Act.put, List.setIfInBounds_toArray, List.set_cons_succ, List.set_cons_zero, List.getElem_toArray, List.getElem_cons_succ, List.getElem_cons_zero]
        refine wpAnyH_ready (rs := [5]) (by decide +kernel) (by simp) ?_
        refine (AllReadyH.cons rfl (fun K hK => ?_) AllReadyH.nil)
        go_simp
        go_at_call 21
        refine (HOF.out _ _).mono ?_
        rintro e wq ⟨rfl, rfl⟩
        go_simp
        refine Shut.out hK _ _ (HS.out _ (((below_drew1 (Below.refl _ _)).alloc (by simp <;> omega) _).alloc (by simp <;> omega) _)) (fun hS2 => ?_)
        clear hK K hS
        have hS := hS2
        clear hS2
        try simp only [Act.put, List.setIfInBounds_toArray, List.set_cons_succ, List.set_cons_zero, List.getElem_toArray, List.getElem_cons_succ, List.getElem_cons_zero]
        refine wpAnyH_ready (rs := [6]) (by decide +kernel) (by simp) ?_
        refine (AllReadyH.cons rfl (fun K hK => ?_) AllReadyH.nil)
        go_simp
        go_at_call 27
        refine HEab.out.mono ?_
        rintro e w5 ⟨rfl, hb5⟩
        go_simp
        have hb6 : Below W3.heap.size W3 w5 := (((below_drew1 (Below.refl _ _)).alloc (by simp <;> omega) _).alloc (by simp <;> omega) _).trans (hb5.mono (by simp <;> omega))
        refine Shut.out hK _ _ (HS.out w5 hb6) (fun hS2 => ?_)
        clear hK K hS
        have hS := hS2
        clear hS2
        try simp only [Act.put, List.setIfInBounds_toArray, List.set_cons_succ, List.set_cons_zero, List.getElem_toArray, List.getElem_cons_succ, List.getElem_cons_zero]
        refine wpAnyH_take (i := 7) (v := .bool true) rfl (by decide +kernel) (by decide +kernel) (by decide +kernel) (fun _ _ _ h => h) (Or.inl ⟨by kernel_rfl, fun w hSw => by go_simp⟩) hS ?_
        try simp only [Act.put, List.setIfInBounds_toArray, List.set_cons_succ, List.set_cons_zero, List.getElem_toArray, List.getElem_cons_succ, List.getElem_cons_zero]
        refine wpAnyH_take (i := 8) (v := .int .i64 fn) rfl (by decide +kernel) (by decide +kernel) (by decide +kernel) (fun _ _ _ h => h) (Or.inl ⟨by kernel_rfl, fun w hSw => by go_simp⟩) hS ?_
        try simp only [Act.put, List.setIfInBounds_toArray, List.set_cons_succ, List.set_cons_zero, List.getElem_toArray, List.getElem_cons_succ, List.getElem_cons_zero]
        refine wpAnyH_take (i := 9) (v := .int .i64 no) rfl (by decide +kernel) (by decide +kernel) (by decide +kernel) (fun _ _ _ h => h) (Or.inl ⟨by kernel_rfl, fun w hSw => by go_simp⟩) hS ?_
        try simp only [Act.put, List.setIfInBounds_toArray, List.set_cons_succ, List.set_cons_zero, List.getElem_toArray, List.getElem_cons_succ, List.getElem_cons_zero]
        refine wpAnyH_take (i := 10) (v := .bool rn) rfl (by decide +kernel) (by decide +kernel) (by decide +kernel) (fun _ _ _ h => h) (Or.inl ⟨by kernel_rfl, fun w hSw => by go_simp⟩) hS ?_
        try simp only [Act.put, List.setIfInBounds_toArray, List.set_cons_succ, List.set_cons_zero, List.getElem_toArray, List.getElem_cons_succ, List.getElem_cons_zero]
        refine wpAnyH_take (i := 11) (v := .bool rn) rfl (by decide +kernel) (by decide +kernel) (by decide +kernel) (fun _ _ _ h => h) (Or.inl ⟨by kernel_rfl, fun w hSw => by go_simp⟩) hS ?_
        try simp only [Act.put, List.setIfInBounds_toArray, List.set_cons_succ, List.set_cons_zero, List.getElem_toArray, List.getElem_cons_succ, List.getElem_cons_zero]
        refine wpAnyH_take (i := 12) (v := .bool rn) rfl (by decide +kernel) (by decide +kernel) (by decide +kernel) (fun _ _ _ h => h) (Or.inl ⟨by kernel_rfl, fun w hSw => by go_simp⟩) hS ?_
        try simp only [Act.put, List.setIfInBounds_toArray, List.set_cons_succ, List.set_cons_zero, List.getElem_toArray, List.getElem_cons_succ, List.getElem_cons_zero]
        refine wpAnyH_done (by kernel_rfl) ?_ _
        try simp only [Act.put, List.setIfInBounds_toArray, List.set_cons_succ, List.set_cons_zero, List.getElem_toArray, List.getElem_cons_succ, List.getElem_cons_zero]
        simp only [NQ]
        clear HS HEab HEba HOF
        go_wp2_with fail
        go_ret
        exact ⟨by rw [HD.out]; rfl, HBX.out.trans (hb6.mono HBX.out.size)⟩
    · go_simp
      refine Shut.out hK _ _ (HS.out _ ((below_drew1 (Below.refl _ _)).alloc (by simp <;> omega) _)) (fun hS2 => ?_)
      clear hK K hS
      have hS := hS2
      clear hS2
      try simp only [Act.put, List.setIfInBounds_toArray, List.set_cons_succ, List.set_cons_zero, List.getElem_toArray, List.getElem_cons_succ, List.getElem_cons_zero]
      refine wpAnyH_ready (rs := [1]) (by decide +kernel) (by simp) ?_
      refine (AllReadyH.cons rfl (fun K hK => ?_) AllReadyH.nil)
      go_simp
      refine Shut.out hK _ _ (HS.out _ (((below_drew1 (Below.refl _ _)).alloc (by simp <;> omega) _).alloc (by simp <;> omega) _)) (fun hS2 => ?_)
      clear hK K hS
      have hS := hS2
      clear hS2
      try simp only [Act.put, List.setIfInBounds_toArray, List.set_cons_succ, List.set_cons_zero, List.getElem_toArray, List.getElem_cons_succ, List.getElem_cons_zero]
      refine wpAnyH_ready (rs := [2]) (by decide +kernel) (by simp) ?_
      refine (AllReadyH.cons rfl (fun K hK => ?_) AllReadyH.nil)
      go_simp
      go_at_call 21
      refine (HOF.out _ _).mono ?_
      rintro e wq ⟨rfl, rfl⟩
      go_simp
      refine Shut.out hK _ _ (HS.out _ (((below_drew1 (Below.refl _ _)).alloc (by simp <;> omega) _).alloc (by simp <;> omega) _)) (fun hS2 => ?_)
      clear hK K hS
      have hS := hS2
      clear hS2
      try simp only [Act.put, List.setIfInBounds_toArray, List.set_cons_succ, List.set_cons_zero, List.getElem_toArray, List.getElem_cons_succ, List.getElem_cons_zero]
      refine wpAnyH_ready (rs := [5]) (by decide +kernel) (by simp) ?_
      refine (AllReadyH.cons rfl (fun K hK => ?_) AllReadyH.nil)
      go_simp
      go_at_call 21
      refine (HOF.out _ _).mono ?_
      rintro e wq ⟨rfl, rfl⟩
      go_simp
      refine Shut.out hK _ _ (HS.out _ (((below_drew1 (Below.refl _ _)).alloc (by simp <;> omega) _).alloc (by simp <;> omega) _)) (fun hS2 => ?_)
      clear hK K hS
      have hS := hS2
      clear hS2
      try simp only [Act.put, List.setIfInBounds_toArray, List.set_cons_succ, List.set_cons_zero, List.getElem_toArray, List.getElem_cons_succ, List.getElem_cons_zero]
      refine wpAnyH_ready (rs := [6]) (by decide +kernel) (by simp) ?_
      refine (AllReadyH.cons rfl (fun K hK => ?_) AllReadyH.nil)
      go_simp
      go_at_call 27
      refine HEba.out.mono ?_
      rintro e w5 ⟨rfl, hb5⟩
      go_simp
      have hb6 : Below W3.heap.size W3 w5 := (((below_drew1 (Below.refl _ _)).alloc (by simp <;> omega) _).alloc (by simp <;> omega) _).trans (hb5.mono (by simp <;> omega))
      refine Shut.out hK _ _ (HS.out w5 hb6) (fun hS2 => ?_)
      clear hK K hS
      have hS := hS2
      clear hS2
      try simp only [Act.put, List.setIfInBounds_toArray, List.set_cons_succ, List.set_cons_zero, List.getElem_toArray, List.getElem_cons_succ, List.getElem_cons_zero]
      refine wpAnyH_take (i := 7) (v := .bool true) rfl (by decide +kernel) (by decide +kernel) (by decide +kernel) (fun _ _ _ h => h) (Or.inl ⟨by kernel_rfl, fun w hSw => by go_simp⟩) hS ?_
      try simp only [Act.put, List.setIfInBounds_toArray, List.set_cons_succ, List.set_cons_zero, List.getElem_toArray, List.getElem_cons_succ, List.getElem_cons_zero]
      refine wpAnyH_take (i := 8) (v := .int .i64 fn) rfl (by decide +kernel) (by decide +kernel) (by decide +kernel) (fun _ _ _ h => h) (Or.inl ⟨by kernel_rfl, fun w hSw => by go_simp⟩) hS ?_
      try simp only [Act.put, List.setIfInBounds_toArray, List.set_cons_succ, List.set_cons_zero, List.getElem_toArray, List.getElem_cons_succ, List.getElem_cons_zero]
      refine wpAnyH_take (i := 9) (v := .int .i64 no) rfl (by decide +kernel) (by decide +kernel) (by decide +kernel) (fun _ _ _ h => h) (Or.inl ⟨by kernel_rfl, fun w hSw => by go_simp⟩) hS ?_
      try simp only [Act.put, List.setIfInBounds_toArray, List.set_cons_succ, List.set_cons_zero, List.getElem_toArray, List.getElem_cons_succ, List.getElem_cons_zero]
      refine wpAnyH_take (i := 10) (v := .bool rn) rfl (by decide +kernel) (by decide +kernel) (by decide +kernel) (fun _ _ _ h => h) (Or.inl ⟨by kernel_rfl, fun w hSw => by go_simp⟩) hS ?_
      try simp only [Act.put, List.setIfInBounds_toArray, List.set_cons_succ, List.set_cons_zero, List.getElem_toArray, List.getElem_cons_succ, List.getElem_cons_zero]
      refine wpAnyH_take (i := 11) (v := .bool rn) rfl (by decide +kernel) (by decide +kernel) (by decide +kernel) (fun _ _ _ h => h) (Or.inl ⟨by kernel_rfl, fun w hSw => by go_simp⟩) hS ?_
      try simp only [Act.put, List.setIfInBounds_toArray, List.set_cons_succ, List.set_cons_zero, List.getElem_toArray, List.getElem_cons_succ, List.getElem_cons_zero]
      refine wpAnyH_take (i := 12) (v := .bool rn) rfl (by decide +kernel) (by decide +kernel) (by decide +kernel) (fun _ _ _ h => h) (Or.inl ⟨by kernel_rfl, fun w hSw => by go_simp⟩) hS ?_
      try simp only [Act.put, List.setIfInBounds_toArray, List.set_cons_succ, List.set_cons_zero, List.getElem_toArray, List.getElem_cons_succ, List.getElem_cons_zero]
      refine wpAnyH_done (by kernel_rfl) ?_ _
      try simp only [Act.put, List.setIfInBounds_toArray, List.set_cons_succ, List.set_cons_zero, List.getElem_toArray, List.getElem_cons_succ, List.getElem_cons_zero]
      simp only [NQ]
      clear HS HEab HEba HOF
      go_wp2_with fail
      go_ret
      exact ⟨by rw [HD.out]; rfl, HBX.out.trans (hb6.mono HBX.out.size)⟩
  | false =>
    go_upto_region 2 with fail
    rw [← HW3.out]
    clear HW3 HW
    refine NQ.to ?_
    refine wp_region_held_drew (S := (fun w' => w'.cell? ⟨w2.heap.size, 0, none⟩ = some (.string fx.name) ∧ w'.cell? ⟨w2.heap.size, 1, none⟩ = some (.slice fo fx.marks.length fc) ∧ w'.cell? ⟨w.heap.size, 0, none⟩ = some (.string want.name) ∧ w'.cell? ⟨w.heap.size, 1, none⟩ = some (.slice wo want.marks.length wc))) (by kernel_rfl) (HS.out _ (below_drew1 (Below.refl _ _))) (fun hS => ?_)
    try simp only [Act.put, List.setIfInBounds_toArray, List.set_cons_succ, List.set_cons_zero, List.getElem_toArray, List.getElem_cons_succ, List.getElem_cons_zero]
    refine wpAnyH_take (i := 0) (v := .agg #[.string fx.name, .slice fo fx.marks.length fc]) rfl (by decide +kernel) (by decide +kernel) (by decide +kernel) (fun _ _ _ h => h) (Or.inl ⟨by kernel_rfl, fun w hSw => by obtain ⟨f1, f2, f3, f4⟩ := hSw; go_simp⟩) hS ?_
    try simp only [Act.put, List.setIfInBounds_toArray, List.set_cons_succ, List.set_cons_zero, List.getElem_toArray, List.getElem_cons_succ, List.getElem_cons_zero]
    refine wpAnyH_take (i := 3) (v := .agg #[.string want.name, .slice wo want.marks.length wc]) rfl (by decide +kernel) (by decide +kernel) (by decide +kernel) (fun _ _ _ h => h) (Or.inl ⟨by kernel_rfl, fun w hSw => by obtain ⟨f1, f2, f3, f4⟩ := hSw; go_simp⟩) hS ?_
    try simp only [Act.put, List.setIfInBounds_toArray, List.set_cons_succ, List.set_cons_zero, List.getElem_toArray, List.getElem_cons_succ, List.getElem_cons_zero]
    refine wpAnyH_ready (rs := [1, 4]) (by decide +kernel) (by simp) ?_
    refine (AllReadyH.cons rfl (fun K hK => ?_) (AllReadyH.cons rfl (fun K hK => ?_) AllReadyH.nil))
    · go_simp
      refine Shut.out hK _ _ (HS.out _ ((below_drew1 (Below.refl _ _)).alloc (by simp <;> omega) _)) (fun hS2 => ?_)
      clear hK K hS
      have hS := hS2
      clear hS2
      try simp only [Act.put, List.setIfInBounds_toArray, List.set_cons_succ, List.set_cons_zero, List.getElem_toArray, List.getElem_cons_succ, List.getElem_cons_zero]
      refine wpAnyH_ready (rs := [2, 4]) (by decide +kernel) (by simp) ?_
      refine (AllReadyH.cons rfl (fun K hK => ?_) (AllReadyH.cons rfl (fun K hK => ?_) AllReadyH.nil))
      · go_simp
        go_at_call 21
        refine (HOF.out _ _).mono ?_
        rintro e wq ⟨rfl, rfl⟩
        go_simp
        refine Shut.out hK _ _ (HS.out _ ((below_drew1 (Below.refl _ _)).alloc (by simp <;> omega) _)) (fun hS2 => ?_)
        clear hK K hS
        have hS := hS2
        clear hS2
        try simp only [Act.put, List.setIfInBounds_toArray, List.set_cons_succ, List.set_cons_zero, List.getElem_toArray, List.getElem_cons_succ, List.getElem_cons_zero]
        refine wpAnyH_ready (rs := [4]) (by decide +kernel) (by simp) ?_
        refine (AllReadyH.cons rfl (fun K hK => ?_) AllReadyH.nil)
        go_simp
        refine Shut.out hK _ _ (HS.out _ (((below_drew1 (Below.refl _ _)).alloc (by simp <;> omega) _).alloc (by simp <;> omega) _)) (fun hS2 => ?_)
        clear hK K hS
        have hS := hS2
        clear hS2
        try simp only [Act.put, List.setIfInBounds_toArray, List.set_cons_succ, List.set_cons_zero, List.getElem_toArray, List.getElem_cons_succ, List.getElem_cons_zero]
        refine wpAnyH_ready (rs := [5]) (by decide +kernel) (by simp) ?_
        refine (AllReadyH.cons rfl (fun K hK => ?_) AllReadyH.nil)
        go_simp
        go_at_call 21
        refine (HOF.out _ _).mono ?_
        rintro e wq ⟨rfl, rfl⟩
        go_simp
        refine Shut.out hK _ _ (HS.out _ (((below_drew1 (Below.refl _ _)).alloc (by simp <;> omega) _).alloc (by simp <;> omega) _)) (fun hS2 => ?_)
        clear hK K hS
        have hS := hS2
        clear hS2
        try simp only [Act.put, List.setIfInBounds_toArray, List.set_cons_succ, List.set_cons_zero, List.getElem_toArray, List.getElem_cons_succ, List.getElem_cons_zero]
        refine wpAnyH_ready (rs := [6]) (by decide +kernel) (by simp) ?_
        refine (AllReadyH.cons rfl (fun K hK => ?_) AllReadyH.nil)
        go_simp
        go_at_call 27
        refine HEab.out.mono ?_
        rintro e w5 ⟨rfl, hb5⟩
        go_simp
        have hb6 : Below W3.heap.size W3 w5 := (((below_drew1 (Below.refl _ _)).alloc (by simp <;> omega) _).alloc (by simp <;> omega) _).trans (hb5.mono (by simp <;> omega))
        refine Shut.out hK _ _ (HS.out w5 hb6) (fun hS2 => ?_)
        clear hK K hS
        have hS := hS2
        clear hS2
        try simp only [Act.put, List.setIfInBounds_toArray, List.set_cons_succ, List.set_cons_zero, List.getElem_toArray, List.getElem_cons_succ, List.getElem_cons_zero]
        refine wpAnyH_take (i := 7) (v := .bool false) rfl (by decide +kernel) (by decide +kernel) (by decide +kernel) (fun _ _ _ h => h) (Or.inl ⟨by kernel_rfl, fun w hSw => by go_simp⟩) hS ?_
        try simp only [Act.put, List.setIfInBounds_toArray, List.set_cons_succ, List.set_cons_zero, List.getElem_toArray, List.getElem_cons_succ, List.getElem_cons_zero]
        refine wpAnyH_take (i := 8) (v := undef) rfl (by decide +kernel) (by decide +kernel) (by decide +kernel) (fun _ _ _ h => h) (Or.inr ⟨by kernel_rfl, rfl⟩) hS ?_
        try simp only [Act.put, List.setIfInBounds_toArray, List.set_cons_succ, List.set_cons_zero, List.getElem_toArray, List.getElem_cons_succ, List.getElem_cons_zero]
        refine wpAnyH_take (i := 9) (v := undef) rfl (by decide +kernel) (by decide +kernel) (by decide +kernel) (fun _ _ _ h => h) (Or.inr ⟨by kernel_rfl, rfl⟩) hS ?_
        try simp only [Act.put, List.setIfInBounds_toArray, List.set_cons_succ, List.set_cons_zero, List.getElem_toArray, List.getElem_cons_succ, List.getElem_cons_zero]
        refine wpAnyH_take (i := 10) (v := undef) rfl (by decide +kernel) (by decide +kernel) (by decide +kernel) (fun _ _ _ h => h) (Or.inr ⟨by kernel_rfl, rfl⟩) hS ?_
        try simp only [Act.put, List.setIfInBounds_toArray, List.set_cons_succ, List.set_cons_zero, List.getElem_toArray, List.getElem_cons_succ, List.getElem_cons_zero]
        refine wpAnyH_take (i := 11) (v := .bool false) rfl (by decide +kernel) (by decide +kernel) (by decide +kernel) (fun _ _ _ h => h) (Or.inl ⟨by kernel_rfl, fun w hSw => by go_simp⟩) hS ?_
        try simp only [Act.put, List.setIfInBounds_toArray, List.set_cons_succ, List.set_cons_zero, List.getElem_toArray, List.getElem_cons_succ, List.getElem_cons_zero]
        refine wpAnyH_take (i := 12) (v := .bool false) rfl (by decide +kernel) (by decide +kernel) (by decide +kernel) (fun _ _ _ h => h) (Or.inl ⟨by kernel_rfl, fun w hSw => by go_simp⟩) hS ?_
        try simp only [Act.put, List.setIfInBounds_toArray, List.set_cons_succ, List.set_cons_zero, List.getElem_toArray, List.getElem_cons_succ, List.getElem_cons_zero]
        refine wpAnyH_done (by kernel_rfl) ?_ _
        try simp only [Act.put, List.setIfInBounds_toArray, List.set_cons_succ, List.set_cons_zero, List.getElem_toArray, List.getElem_cons_succ, List.getElem_cons_zero]
        simp only [NQ]
        clear HS HEab HEba HOF
        go_wp2_with fail
        go_ret
        exact ⟨by rw [HD.out]; rfl, HBX.out.trans (hb6.mono HBX.out.size)⟩
      · go_simp
        refine Shut.out hK _ _ (HS.out _ (((below_drew1 (Below.refl _ _)).alloc (by simp <;> omega) _).alloc (by simp <;> omega) _)) (fun hS2 => ?_)
        clear hK K hS
        have hS := hS2
        clear hS2
        try simp only [Act.put, List.setIfInBounds_toArray, List.set_cons_succ, List.set_cons_zero, List.getElem_toArray, List.getElem_cons_succ, List.getElem_cons_zero]
        refine wpAnyH_ready (rs := [2]) (by decide +kernel) (by simp) ?_
        refine (AllReadyH.cons rfl (fun K hK => ?_) AllReadyH.nil)
        go_simp
        go_at_call 21
        refine (HOF.out _ _).mono ?_
        rintro e wq ⟨rfl, rfl⟩
        go_simp
        refine Shut.out hK _ _ (HS.out _ (((below_drew1 (Below.refl _ _)).alloc (by simp <;> omega) _).alloc (by simp <;> omega) _)) (fun hS2 => ?_)
        clear hK K hS
        have hS := hS2
        clear hS2
        try simp only [Act.put, List.setIfInBounds_toArray, List.set_cons_succ, List.set_cons_zero, List.getElem_toArray, List.getElem_cons_succ, List.getElem_cons_zero]
        refine wpAnyH_ready (rs := [5]) (by decide +kernel) (by simp) ?_
        refine (AllReadyH.cons rfl (fun K hK => ?_) AllReadyH.nil)
        go_simp
        go_at_call 21
        refine (HOF.out _ _).mono ?_
        rintro e wq ⟨rfl, rfl⟩
        go_simp
        refine Shut.out hK _ _ (HS.out _ (((below_drew1 (Below.refl _ _)).alloc (by simp <;> omega) _).alloc (by simp <;> omega) _)) (fun hS2 => ?_)
        clear hK K hS
        have hS := hS2
        clear hS2
        try simp only [Act.put, List.setIfInBounds_toArray, List.set_cons_succ, List.set_cons_zero, List.getElem_toArray, List.getElem_cons_succ, List.getElem_cons_zero]
        refine wpAnyH_ready (rs := [6]) (by decide +kernel) (by simp) ?_
        refine (AllReadyH.cons rfl (fun K hK => ?_) AllReadyH.nil)
        go_simp
        go_at_call 27
        refine HEab.out.mono ?_
        rintro e w5 ⟨rfl, hb5⟩
        go_simp
        have hb6 : Below W3.heap.size W3 w5 := (((below_drew1 (Below.refl _ _)).alloc (by simp <;> omega) _).alloc (by simp <;> omega) _).trans (hb5.mono (by simp <;> omega))
        refine Shut.out hK _ _ (HS.out w5 hb6) (fun hS2 => ?_)
        clear hK K hS
        have hS := hS2
        clear hS2
        try simp only [Act.put, List.setIfInBounds_toArray, List.set_cons_succ, List.set_cons_zero, List.getElem_toArray, List.getElem_cons_succ, List.getElem_cons_zero]
        refine wpAnyH_take (i := 7) (v := .bool false) rfl (by decide +kernel) (by decide +kernel) (by decide +kernel) (fun _ _ _ h => h) (Or.inl ⟨by kernel_rfl, fun w hSw => by go_simp⟩) hS ?_
        try simp only [Act.put, List.setIfInBounds_toArray, List.set_cons_succ, List.set_cons_zero, List.getElem_toArray, List.getElem_cons_succ, List.getElem_cons_zero]
        refine wpAnyH_take (i := 8) (v := undef) rfl (by decide +kernel) (by decide +kernel) (by decide +kernel) (fun _ _ _ h => h) (Or.inr ⟨by kernel_rfl, rfl⟩) hS ?_
        try simp only [Act.put, List.setIfInBounds_toArray, List.set_cons_succ, List.set_cons_zero, List.getElem_toArray, List.getElem_cons_succ, List.getElem_cons_zero]
        refine wpAnyH_take (i := 9) (v := undef) rfl (by decide +kernel) (by decide +kernel) (by decide +kernel) (fun _ _ _ h => h) (Or.inr ⟨by kernel_rfl, rfl⟩) hS ?_
        try simp only [Act.put, List.setIfInBounds_toArray, List.set_cons_succ, List.set_cons_zero, List.getElem_toArray, List.getElem_cons_succ, List.getElem_cons_zero]
        refine wpAnyH_take (i := 10) (v := undef) rfl (by decide +kernel) (by decide +kernel) (by decide +kernel) (fun _ _ _ h => h) (Or.inr ⟨by kernel_rfl, rfl⟩) hS ?_
        try simp only [Act.put, List.setIfInBounds_toArray, List.set_cons_succ, List.set_cons_zero, List.getElem_toArray, List.getElem_cons_succ, List.getElem_cons_zero]
        refine wpAnyH_take (i := 11) (v := .bool false) rfl (by decide +kernel) (by decide +kernel) (by decide +kernel) (fun _ _ _ h => h) (Or.inl ⟨by kernel_rfl, fun w hSw => by go_simp⟩) hS ?_
        try simp only [Act.put, List.setIfInBounds_toArray, List.set_cons_succ, List.set_cons_zero, List.getElem_toArray, List.getElem_cons_succ, List.getElem_cons_zero]
        refine wpAnyH_take (i := 12) (v := .bool false) rfl (by decide +kernel) (by decide +kernel) (by decide +kernel) (fun _ _ _ h => h) (Or.inl ⟨by kernel_rfl, fun w hSw => by go_simp⟩) hS ?_
        try simp only [Act.put, List.setIfInBounds_toArray, List.set_cons_succ, List.set_cons_zero, List.getElem_toArray, List.getElem_cons_succ, List.getElem_cons_zero]
        refine wpAnyH_done (by kernel_rfl) ?_ _
        try simp only [Act.put, List.setIfInBounds_toArray, List.set_cons_succ, List.set_cons_zero, List.getElem_toArray, List.getElem_cons_succ, List.getElem_cons_zero]
        simp only [NQ]
        clear HS HEab HEba HOF
        go_wp2_with fail
        go_ret
        exact ⟨by rw [HD.out]; rfl, HBX.out.trans (hb6.mono HBX.out.size)⟩
    · go_simp
      refine Shut.out hK _ _ (HS.out _ ((below_drew1 (Below.refl _ _)).alloc (by simp <;> omega) _)) (fun hS2 => ?_)
      clear hK K hS
      have hS := hS2
      clear hS2
      try simp only [Act.put, List.setIfInBounds_toArray, List.set_cons_succ, List.set_cons_zero, List.getElem_toArray, List.getElem_cons_succ, List.getElem_cons_zero]
      refine wpAnyH_ready (rs := [1]) (by decide +kernel) (by simp) ?_
      refine (AllReadyH.cons rfl (fun K hK => ?_) AllReadyH.nil)
      go_simp
      refine Shut.out hK _ _ (HS.out _ (((below_drew1 (Below.refl _ _)).alloc (by simp <;> omega) _).alloc (by simp <;> omega) _)) (fun hS2 => ?_)
      clear hK K hS
      have hS := hS2
      clear hS2
      try simp only [Act.put, List.setIfInBounds_toArray, List.set_cons_succ, List.set_cons_zero, List.getElem_toArray, List.getElem_cons_succ, List.getElem_cons_zero]
      refine wpAnyH_ready (rs := [2]) (by decide +kernel) (by simp) ?_
      refine (AllReadyH.cons rfl (fun K hK => ?_) AllReadyH.nil)
      go_simp
      go_at_call 21
      refine (HOF.out _ _).mono ?_
      rintro e wq ⟨rfl, rfl⟩
      go_simp
      refine Shut.out hK _ _ (HS.out _ (((below_drew1 (Below.refl _ _)).alloc (by simp <;> omega) _).alloc (by simp <;> omega) _)) (fun hS2 => ?_)
      clear hK K hS
      have hS := hS2
      clear hS2
      try simp only [Act.put, List.setIfInBounds_toArray, List.set_cons_succ, List.set_cons_zero, List.getElem_toArray, List.getElem_cons_succ, List.getElem_cons_zero]
      refine wpAnyH_ready (rs := [5]) (by decide +kernel) (by simp) ?_
      refine (AllReadyH.cons rfl (fun K hK => ?_) AllReadyH.nil)
      go_simp
      go_at_call 21
      refine (HOF.out _ _).mono ?_
      rintro e wq ⟨rfl, rfl⟩
      go_simp
      refine Shut.out hK _ _ (HS.out _ (((below_drew1 (Below.refl _ _)).alloc (by simp <;> omega) _).alloc (by simp <;> omega) _)) (fun hS2 => ?_)
      clear hK K hS
      have hS := hS2
      clear hS2
      try simp only [Act.put, List.setIfInBounds_toArray, List.set_cons_succ, List.set_cons_zero, List.getElem_toArray, List.getElem_cons_succ, List.getElem_cons_zero]
      refine wpAnyH_ready (rs := [6]) (by decide +kernel) (by simp) ?_
      refine (AllReadyH.cons rfl (fun K hK => ?_) AllReadyH.nil)
      go_simp
      go_at_call 27
      refine HEba.out.mono ?_
      rintro e w5 ⟨rfl, hb5⟩
      go_simp
      have hb6 : Below W3.heap.size W3 w5 := (((below_drew1 (Below.refl _ _)).alloc (by simp <;> omega) _).alloc (by simp <;> omega) _).trans (hb5.mono (by simp <;> omega))
      refine Shut.out hK _ _ (HS.out w5 hb6) (fun hS2 => ?_)
      clear hK K hS
      have hS := hS2
      clear hS2
      try simp only [Act.put, List.setIfInBounds_toArray, List.set_cons_succ, List.set_cons_zero, List.getElem_toArray, List.getElem_cons_succ, List.getElem_cons_zero]
      refine wpAnyH_take (i := 7) (v := .bool false) rfl (by decide +kernel) (by decide +kernel) (by decide +kernel) (fun _ _ _ h => h) (Or.inl ⟨by kernel_rfl, fun w hSw => by go_simp⟩) hS ?_
      try simp only [Act.put, List.setIfInBounds_toArray, List.set_cons_succ, List.set_cons_zero, List.getElem_toArray, List.getElem_cons_succ, List.getElem_cons_zero]
      refine wpAnyH_take (i := 8) (v := undef) rfl (by decide +kernel) (by decide +kernel) (by decide +kernel) (fun _ _ _ h => h) (Or.inr ⟨by kernel_rfl, rfl⟩) hS ?_
      try simp only [Act.put, List.setIfInBounds_toArray, List.set_cons_succ, List.set_cons_zero, List.getElem_toArray, List.getElem_cons_succ, List.getElem_cons_zero]
      refine wpAnyH_take (i := 9) (v := undef) rfl (by decide +kernel) (by decide +kernel) (by decide +kernel) (fun _ _ _ h => h) (Or.inr ⟨by kernel_rfl, rfl⟩) hS ?_
      try simp only [Act.put, List.setIfInBounds_toArray, List.set_cons_succ, List.set_cons_zero, List.getElem_toArray, List.getElem_cons_succ, List.getElem_cons_zero]
      refine wpAnyH_take (i := 10) (v := undef) rfl (by decide +kernel) (by decide +kernel) (by decide +kernel) (fun _ _ _ h => h) (Or.inr ⟨by kernel_rfl, rfl⟩) hS ?_
      try simp only [Act.put, List.setIfInBounds_toArray, List.set_cons_succ, List.set_cons_zero, List.getElem_toArray, List.getElem_cons_succ, List.getElem_cons_zero]
      refine wpAnyH_take (i := 11) (v := .bool false) rfl (by decide +kernel) (by decide +kernel) (by decide +kernel) (fun _ _ _ h => h) (Or.inl ⟨by kernel_rfl, fun w hSw => by go_simp⟩) hS ?_
      try simp only [Act.put, List.setIfInBounds_toArray, List.set_cons_succ, List.set_cons_zero, List.getElem_toArray, List.getElem_cons_succ, List.getElem_cons_zero]
      refine wpAnyH_take (i := 12) (v := .bool false) rfl (by decide +kernel) (by decide +kernel) (by decide +kernel) (fun _ _ _ h => h) (Or.inl ⟨by kernel_rfl, fun w hSw => by go_simp⟩) hS ?_
      try simp only [Act.put, List.setIfInBounds_toArray, List.set_cons_succ, List.set_cons_zero, List.getElem_toArray, List.getElem_cons_succ, List.getElem_cons_zero]
      refine wpAnyH_done (by kernel_rfl) ?_ _
      try simp only [Act.put, List.setIfInBounds_toArray, List.set_cons_succ, List.set_cons_zero, List.getElem_toArray, List.getElem_cons_succ, List.getElem_cons_zero]
      simp only [NQ]
      clear HS HEab HEba HOF
      go_wp2_with fail
      go_ret
      exact ⟨by rw [HD.out]; rfl, HBX.out.trans (hb6.mono HBX.out.size)⟩

end Go.Proofs.YtjlhdgmcaiiagaaGreatDoor

