/- The small functions of the laws of stage 9: mark, item, of, puts, removes, owns, has, finds, light. -/
import Derived.Test.YtjlhdgmcaiiagaaGreatDoorR9
import Derived.Test.YtjlhdgmcaiiagaaGreatDoorIt12
namespace Go.Proofs.YtjlhdgmcaiiagaaGreatDoor
open Go.RowKit Go.Maps

set_option maxRecDepth 100000 in
theorem l9of_any (v : Value) (w : World) : Calls Tryz.prog 21 #[v] w fun e w' => e = .returned v ∧ w' = w := by
  go_enter Tryz.func21, Tryz.ntmps21
  go_wp2
  go_ret
  exact ⟨rfl, rfl⟩
set_option maxRecDepth 100000 in
theorem l9mark_any (a b q t : Int) (w : World) : Calls Tryz.prog 38 #[.int .i64 a, .int .i64 b, .int .i64 q, .int .u64 t] w fun e w' => e = .returned (.agg #[.int .i64 a, .int .i64 b, .int .i64 q, .int .u64 t]) ∧ Below w.heap.size w w' := by
  go_enter Tryz.func38, Tryz.ntmps38
  go_wp2
  (try simp only [Exit.inBlock, Exit.then])
  refine bodyPost_ret (v := .agg #[.int .i64 a, .int .i64 b, .int .i64 q, .int .u64 t]) ?_ rfl ⟨rfl, (Below.refl _ _).alloc (Nat.le_refl _) _⟩
  rw [results_cell_one rfl]
  go_simp
set_option maxRecDepth 100000 in
theorem l9item_any (s : ByteArray) (o : Option Addr) (n c : Nat) (w : World) : Calls Tryz.prog 37 #[.string s, .slice o n c] w fun e w' => e = .returned (.agg #[.string s, .slice o n c]) ∧ Below w.heap.size w w' := by
  go_enter Tryz.func37, Tryz.ntmps37
  go_wp2
  (try simp only [Exit.inBlock, Exit.then])
  refine bodyPost_ret (v := .agg #[.string s, .slice o n c]) ?_ rfl ⟨rfl, (Below.refl _ _).alloc (Nat.le_refl _) _⟩
  rw [results_cell_one rfl]
  go_simp
theorem arr_nil {α : Type} {R : World → α → List Value → Prop} {sz : Nat} {w : World} : Arr R sz w (.slice none 0 0) [] := ⟨none, 0, rfl, Nat.le_refl _, Nat.zero_le _, fun i hi => absurd hi (Nat.not_lt_zero i)⟩
def putR (l : List ItemD) (x : ItemD) : List ItemD := if putE l x = 0 then putI l x else []
def remR (l : List ItemD) (nm : ByteArray) : List ItemD := if remE l nm = 0 then dropN l nm else []
theorem PutPost.arr {l : List ItemD} {x : ItemD} {w w' : World} {e : Ending} (h : PutPost l x w e w') : ∃ v', e = .returned (.tuple #[v', .int .i64 (putE l x)]) ∧ Arr ItemR 2 w' v' (putR l x) ∧ Below w.heap.size w w' := by
  obtain ⟨v', h1, h2, h3, h4⟩ := h
  refine ⟨v', h1, ?_, h2⟩
  unfold putR
  split
  · rename_i h0
    obtain ⟨ps, hp, hf⟩ := h4 h0
    rw [← hp]
    exact hf.arr
  · rename_i h0
    rw [h3 h0]
    exact arr_nil
theorem RemPost.arr {l : List ItemD} {nm : ByteArray} {w w' : World} {e : Ending} (h : RemPost l nm w e w') : ∃ v', e = .returned (.tuple #[v', .int .i64 (remE l nm)]) ∧ Arr ItemR 2 w' v' (remR l nm) ∧ Below w.heap.size w w' := by
  obtain ⟨v', h1, h2, h3, h4⟩ := h
  refine ⟨v', h1, ?_, h2⟩
  unfold remR
  split
  · rename_i h0
    obtain ⟨ps, hp, hf⟩ := h4 h0
    rw [← hp]
    exact hf.arr
  · rename_i h0
    rw [h3 h0]
    exact arr_nil
theorem int_eq (a b : Int) : (a == b) = decide (a = b) := rfl
set_option maxRecDepth 100000 in
set_option maxHeartbeats 2000000 in
theorem l9puts_any (l want : List ItemD) (x : ItemD) (no : Int) (v mv wv : Value) (w : World) (h : Arr ItemR 2 w v l) (hm : Arr MarkR 4 w mv x.marks) (hw : Arr ItemR 2 w wv want) (hs : x.name.size ≤ maxLen) (hl : Lt l) (hl2 : l.length ≤ 900 ∧ x.marks.length ≤ 1000) (hG : GlobIs w) :
    Calls Tryz.prog 23 #[v, .agg #[.string x.name, mv], wv, .int .i64 no] w fun e w' => e = .returned (.bool (decide (putR l x = want) && decide (putE l x = no))) ∧ Below w.heap.size w w' := by
  obtain ⟨mo, mc, rfl, -⟩ := id hm
  have hb1 : Below w.heap.size w (w.alloc (.cells #[.string x.name, .slice mo x.marks.length mc] 31)) := (Below.refl _ _).alloc (Nat.le_refl _) _
  have HP := Lib.hid (itemsPut_any l x v _ _ (h.items hb1) (hm.marks hb1) hs hl hl2 (hG.below hb1))
  have HB1 := Lib.hid hb1
  have HW := Lib.hid hw
  clear h hm hw hs hl hl2 hG hb1
  go_enter Tryz.func23, Tryz.ntmps23
  go_wp2_with fail
  refine HP.out.mono ?_
  intro e w2 hp2
  obtain ⟨v2, rfl, ha2, hb2⟩ := hp2.arr
  have HB2 := Lib.hid (HB1.out.trans (hb2.mono HB1.out.size))
  have HE := Lib.hid (r9Equal_any (putR l x) want v2 wv w2 ha2 (HW.out.items HB2.out))
  clear hp2 ha2 hb2 HP
  obtain ⟨r, hr⟩ : ∃ r, r = decide (putR l x = want) := ⟨_, rfl⟩
  rw [← hr] at HE
  have HD := Lib.hid hr
  clear hr
  cases r with
  | true =>
    go_wp2_with fail
    refine HE.out.mono ?_
    rintro e w3 ⟨rfl, hb3⟩
    go_wp2_with fail
    go_ret
    exact ⟨by rw [← HD.out]; rfl, HB2.out.trans (hb3.mono HB2.out.size)⟩
  | false =>
    go_wp2_with fail
    refine HE.out.mono ?_
    rintro e w3 ⟨rfl, hb3⟩
    go_wp2_with fail
    go_ret
    exact ⟨by rw [← HD.out]; rfl, HB2.out.trans (hb3.mono HB2.out.size)⟩
set_option maxRecDepth 100000 in
set_option maxHeartbeats 2000000 in
theorem l9removes_any (l want : List ItemD) (nm : ByteArray) (no : Int) (v wv : Value) (w : World) (h : Arr ItemR 2 w v l) (hw : Arr ItemR 2 w wv want) (hl : Lt l) (hG : GlobIs w) :
    Calls Tryz.prog 29 #[v, .string nm, wv, .int .i64 no] w fun e w' => e = .returned (.bool (decide (remR l nm = want) && decide (remE l nm = no))) ∧ Below w.heap.size w w' := by
  have HP := Lib.hid (itemsRemove_any l nm v w h hl hG)
  have HW := Lib.hid hw
  clear h hw hl hG
  go_enter Tryz.func29, Tryz.ntmps29
  go_wp2_with fail
  refine HP.out.mono ?_
  intro e w2 hp2
  obtain ⟨v2, rfl, ha2, hb2⟩ := hp2.arr
  have HB2 := Lib.hid hb2
  have HE := Lib.hid (r9Equal_any (remR l nm) want v2 wv w2 ha2 (HW.out.items HB2.out))
  clear hp2 ha2 hb2 HP
  obtain ⟨r, hr⟩ : ∃ r, r = decide (remR l nm = want) := ⟨_, rfl⟩
  rw [← hr] at HE
  have HD := Lib.hid hr
  clear hr
  cases r with
  | true =>
    go_wp2_with fail
    refine HE.out.mono ?_
    rintro e w3 ⟨rfl, hb3⟩
    go_wp2_with fail
    go_ret
    exact ⟨by rw [← HD.out]; rfl, HB2.out.trans (hb3.mono HB2.out.size)⟩
  | false =>
    go_wp2_with fail
    refine HE.out.mono ?_
    rintro e w3 ⟨rfl, hb3⟩
    go_wp2_with fail
    go_ret
    exact ⟨by rw [← HD.out]; rfl, HB2.out.trans (hb3.mono HB2.out.size)⟩
def ownerS (o : Option ByteArray) : ByteArray := o.getD ⟨#[]⟩
def ownerN (o : Option ByteArray) : Int := if o.isSome then 0 else 9
theorem ownerV_eq (o : Option ByteArray) : ownerV o = .tuple #[.string (ownerS o), .int .i64 (ownerN o)] := by cases o <;> rfl
set_option maxRecDepth 100000 in
set_option maxHeartbeats 2000000 in
theorem l9owns_any (l : List ItemD) (d : DotD) (want : ByteArray) (no : Int) (v : Value) (w : World) (h : Arr ItemR 2 w v l) (hl : Lt l) :
    Calls Tryz.prog 14 #[v, dotV d, .string want, .int .i64 no] w fun e w' => e = .returned (.bool (decide (ownerS (ownerI l d) = want) && decide (ownerN (ownerI l d) = no))) ∧ Below w.heap.size w w' := by
  have hb1 : Below w.heap.size w (w.alloc (.cells #[.int .i64 d.rep, .int .i64 d.ctr] 24)) := (Below.refl _ _).alloc (Nat.le_refl _) _
  have HP := Lib.hid (itemsOwner_any l d v _ (h.items hb1) hl)
  have HB1 := Lib.hid hb1
  rw [ownerV_eq] at HP
  generalize ownerS (ownerI l d) = s at *
  generalize ownerN (ownerI l d) = n at *
  have hse := strDec s want
  clear h hl hb1
  unfold dotV at *
  obtain ⟨r, hr⟩ : ∃ r, r = decide (s = want) := ⟨_, rfl⟩
  rw [← hr] at hse ⊢
  clear hr
  cases r with
  | true =>
    go_enter Tryz.func14, Tryz.ntmps14
    go_wp2_with fail
    refine HP.out.mono ?_
    rintro e w2 ⟨rfl, hb2⟩
    go_wp2_with fail
    go_ret
    exact ⟨rfl, HB1.out.trans (hb2.mono HB1.out.size)⟩
  | false =>
    go_enter Tryz.func14, Tryz.ntmps14
    go_wp2_with fail
    refine HP.out.mono ?_
    rintro e w2 ⟨rfl, hb2⟩
    go_wp2_with fail
    go_ret
    exact ⟨rfl, HB1.out.trans (hb2.mono HB1.out.size)⟩
set_option maxRecDepth 100000 in
set_option maxHeartbeats 2000000 in
theorem l9has_any (x : ItemD) (want no : Int) (mv : Value) (w : World) (h : Arr MarkR 4 w mv x.marks) (hs : x.name.size ≤ maxLen) (hl : x.marks.length ≤ 100000) (hG : GlobIs w) :
    Calls Tryz.prog 19 #[.agg #[.string x.name, mv], .int .i64 want, .int .i64 no] w fun e w' => e = .returned (.bool (decide (qtyI x = want) && decide (qtyIE x = no))) ∧ Below w.heap.size w w' := by
  obtain ⟨mo, mc, rfl, -⟩ := id h
  have hb1 : Below w.heap.size w (w.alloc (.cells #[.string x.name, .slice mo x.marks.length mc] 31)) := (Below.refl _ _).alloc (Nat.le_refl _) _
  have HP := Lib.hid (itemsQty_any x _ _ (h.marks hb1) hs hl (hG.below hb1))
  have HB1 := Lib.hid hb1
  generalize qtyI x = q at *
  generalize qtyIE x = n at *
  clear h hs hl hG hb1
  by_cases hq : q = want
  · have t1 : (q == want) = true := by simpa using hq
    have hd : Hid (decide (q = want) = true) := Lib.hid (decide_eq_true hq)
    clear hq
    go_enter Tryz.func19, Tryz.ntmps19
    go_wp2_with fail
    refine HP.out.mono ?_
    rintro e w2 ⟨rfl, hb2⟩
    go_wp2_with fail
    go_ret
    exact ⟨by rw [hd.out]; rfl, HB1.out.trans (hb2.mono HB1.out.size)⟩
  · have t1 : (q == want) = false := by simpa using hq
    have hd : Hid (decide (q = want) = false) := Lib.hid (decide_eq_false hq)
    clear hq
    go_enter Tryz.func19, Tryz.ntmps19
    go_wp2_with fail
    refine HP.out.mono ?_
    rintro e w2 ⟨rfl, hb2⟩
    go_wp2_with fail
    go_ret
    exact ⟨by rw [hd.out]; rfl, HB1.out.trans (hb2.mono HB1.out.size)⟩
end Go.Proofs.YtjlhdgmcaiiagaaGreatDoor

