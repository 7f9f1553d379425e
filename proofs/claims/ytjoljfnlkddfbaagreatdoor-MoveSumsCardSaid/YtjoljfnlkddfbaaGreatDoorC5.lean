/- cart.Names walked. -/
import Derived.Test.YtjoljfnlkddfbaaGreatDoorC1
import Derived.Test.YtjoljfnlkddfbaaGreatDoorIt6
set_option linter.unusedSimpArgs false
set_option linter.unusedVariables false
set_option maxRecDepth 100000
set_option maxHeartbeats 4000000
namespace Go.Proofs.YtjoljfnlkddfbaaGreatDoor
open Go.RowKit Go.Maps Go.Sort Go.Shelf

end Go.Proofs.YtjoljfnlkddfbaaGreatDoor
namespace Go.Proofs.YtjoljfnlkddfbaaGreatDoor
open Go.RowKit Go.Maps Go.Sort Go.Shelf

theorem cart_dec (c d : CartD) : decide (c = d) = ((decide (c.vec = d.vec) && decide (c.cloud = d.cloud)) && decide (c.items = d.items)) := by
 rw [Bool.eq_iff_iff]
 simp only [decide_eq_true_iff, Bool.and_eq_true]
 constructor
 ·rintro rfl; exact ⟨⟨rfl, rfl⟩, rfl⟩
 ·rintro ⟨⟨h1, h2⟩, h3⟩; cases c; cases d; simp_all
end Go.Proofs.YtjoljfnlkddfbaaGreatDoor
namespace Go.Proofs.YtjoljfnlkddfbaaGreatDoor
open Go.RowKit Go.Maps Go.Sort Go.Shelf

theorem cloneVec_row (l : List DotD) (v : Value) (w : World) (h : Arr DotR EDot.k w v l) (hl : l.length ≤ 1000000) : Calls Tryz.prog 144 #[v] w fun e w' => ∃ v', e = .returned v' ∧ EDot.Row w.heap.size w' v' l ∧ Below w.heap.size w w' := by
 obtain ⟨a, cap, rfl, -⟩ := id h
 cases a with
 | none =>
  have hle : l = [] := by
   rcases l with _ | ⟨x, l⟩
   ·rfl
   ·obtain ⟨o, c, he, _, _, hel⟩ := h
    obtain ⟨b, off, cs, h1, _⟩ := hel 0 (by simp)
    cases he
    cases h1
  subst hle
  clear h
  have hnil : ∀ W, (binOp .eql 23 (.slice none 0 cap) (.slice none 0 0)).run Tryz.prog W = .ok (.bool true) W := fun W => Lib.run_eql_slice_nil_nil W _ _ Tryz.underlying23
  go_enter Tryz.func144, Tryz.ntmps144
  go_wp2_with fail
  go_ret
  exact ⟨_, rfl, Enc.Row.nil _ _, Below.refl _ _⟩
 | some a =>
  have HS := Hd (show SrcIs (w.alloc (.cells #[] 39)) (.slice (some a) l.length cap) l.length (EDot.flat l) from by
   by_cases hn : l = []
   ·subst hn
    exact Or.inr ⟨a, cap, rfl, fun j u hj => by simp [Enc.flat] at hj⟩
   ·have h2 : Arr DotR EDot.k (w.alloc (.cells #[] 39)) (.slice (some a) l.length cap) l := h.dots (bal)
    exact h2.srcE EDot (fun _ _ h => h.1) hn)
  have HE0 : Hid (EDot.Row w.heap.size (w.alloc (.cells #[] 39)) (.slice (some ⟨w.heap.size, 0, none⟩) 0 0) []) := Hd ⟨by simp [Enc.flat], Or.inr ⟨w.heap.size, 0, #[], rfl, Nat.le_refl _, alloc_new _ _, Nat.le_refl _, by unfold maxLen; omega, by simp, by simp [Enc.flat]⟩⟩
  clear h
  have hnil : ∀ W, (binOp .eql 23 (.slice (some a) l.length cap) (.slice none 0 0)).run Tryz.prog W = .ok (.bool false) W := fun W => Lib.run_eql_slice_some_nil W _ _ _ Tryz.underlying23
  go_enter Tryz.func144, Tryz.ntmps144
  go_wp2_with (at_builtin; refine wpList_row rfl _ _ 23 rfl EDot w.heap.size (.agg #[.int .i64 0, .int .i64 0]) 16 Tryz.underlying23 infoDot (by decide) (by decide) (.slice (some ⟨w.heap.size, 0, none⟩) 0 0) [] rfl HE0.out _ l rfl HS.out (by simp; omega) (by simp) ?_; intro v8 w8 hown8 hgr8)
  rw [List.nil_append] at hown8
  go_ret
  exact ⟨_, rfl, hown8, (bal).grown hgr8 (by simp) (by intro k hk; simp [Value.ownBlock] at hk; omega)⟩

end Go.Proofs.YtjoljfnlkddfbaaGreatDoor
namespace Go.Proofs.YtjoljfnlkddfbaaGreatDoor
open Go.RowKit Go.Maps Go.Sort Go.Shelf

def EStr : Enc ByteArray := ⟨fun s => [.string s], 1, 9, by decide, fun _ => rfl, fun x u hu => by simp at hu; subst hu; rfl⟩
theorem infoStr : (Tryz.prog.info? 9).map (fun i => (i.zero, i.size, i.bytes)) = some (some (.string ⟨#[]⟩), 1, 16) := by kernel_rfl
def namesV (c : CartD) : List ByteArray := if validC c then c.items.map (·.name) else []
theorem cartNames_any (c : CartD) (v1 v2 v3 : Value) (w : World) (h : CartA w v1 v2 v3 c) (hl : Lt c.items) (hG : GlobIs w) : Calls Tryz.prog 55 #[.agg #[v1, v2, v3]] w fun e w' => ∃ v', e = .returned v' ∧ EStr.Row w.heap.size w' v' (namesV c) ∧ Below w.heap.size w w' := by
 obtain ⟨o1, k1, rfl⟩ := h.1.slice
 obtain ⟨o2, k2, rfl⟩ := h.2.1.slice
 have hit := h.2.2
 obtain ⟨o3, k3, rfl, hel⟩ := hit.itemAt
 obtain ⟨W1, hW1⟩ : ∃ W1, W1 = w.alloc (.cells #[.slice o1 c.vec.length k1, .slice o2 c.cloud.length k2, .slice o3 c.items.length k3] 28) := ⟨_, rfl⟩
 have hb1 : Below w.heap.size w W1 := by rw [hW1]; exact bal
 have hg1 : W1.heap[w.heap.size]? = some (.cells #[.slice o1 c.vec.length k1, .slice o2 c.cloud.length k2, .slice o3 c.items.length k3] 28) := by rw [hW1]; exact alloc_new _ _
 have HC : Hid (∀ wz, Below W1.heap.size W1 wz → wz.cell? ⟨w.heap.size, 0, none⟩ = some (.slice o1 c.vec.length k1) ∧ wz.cell? ⟨w.heap.size, 1, none⟩ = some (.slice o2 c.cloud.length k2) ∧ wz.cell? ⟨w.heap.size, 2, none⟩ = some (.slice o3 c.items.length k3)) := Hd (fun wz hz => ⟨by rw [hz.cell (p := ⟨w.heap.size, 0, none⟩) (lt_of_heap hg1), cell0 hg1 0]; rfl, by rw [hz.cell (p := ⟨w.heap.size, 1, none⟩) (lt_of_heap hg1), cell0 hg1 1]; rfl, by rw [hz.cell (p := ⟨w.heap.size, 2, none⟩) (lt_of_heap hg1), cell0 hg1 2]; rfl⟩)
 have HV := Hd (cartValid_any c _ _ _ W1 (h.below hb1) hl (hG.below hb1))
 have HEL := Hd hel
 have hn1000 := hl.1
 have HB1 := Hd hb1
 have HW := Hd hW1
 obtain ⟨L, hL⟩ : ∃ L, L = c.items := ⟨_, rfl⟩
 have HN : Hid (namesV c = if validC c then L.map (·.name) else []) := Hd (by unfold namesV; rw [hL])
 rw [HN.out]
 rw [← hL] at HC HV HEL hn1000 HW ⊢
 generalize c.vec.length = n1 at *
 generalize c.cloud.length = n2 at *
 clear HN h hit hel hb1 hW1 hg1 hG hl hL
 generalize validC c = r1 at *
 obtain ⟨x0, x1, x2⟩ := HC.out W1 brf
 go_enter Tryz.func55, Tryz.ntmps55
 go_wp2_with fail
 rw [← HW.out]
 go_wp2_with fail
 refine HV.out.mono ?_
 rintro e w2 ⟨rfl, hb2⟩
 have HB2 := Hd hb2
 obtain ⟨y0, y1, y2⟩ := HC.out w2 hb2
 clear x0 x1 x2 hb2 HV
 cases r1 with
 | false =>
  go_wp2_with fail
  go_ret
  exact ⟨_, rfl, Enc.Row.nil _ _, HB1.out.trans (HB2.out.mono HB1.out.size)⟩
 | true =>
  have HB3 := Hd (HB1.out.trans (HB2.out.mono HB1.out.size))
  go_wp2_with fail
  clear y0 y1 y2
  go_loopw [3, 12] (fun v i wr => ∃ k : Nat, k ≤ L.length ∧ i = .int .i64 k ∧ EStr.Row w.heap.size wr v ((L.take k).map (·.name)) ∧ Below w.heap.size w wr) (fun _ i _ => L.length - (intOf i).toNat)
  case atStart => exact ⟨0, Nat.zero_le _, rfl, by rw [List.take_zero]; exact Enc.Row.nil _ _, HB3.out⟩
  case round =>
   obtain ⟨k, hk, rfl, hrow, hB⟩ := hrel
   obtain ⟨av, cv, rfl⟩ := hrow.slice
   by_cases hlt : k < L.length
   ·obtain ⟨b, off, mv, rfl, hbl, e0, e1, -, hmk⟩ := HEL.out k hlt
    have HTK : Hid ((L.take (k + 1)).map (·.name) = (L.take k).map (·.name) ++ [L[k].name]) := Hd (by
     rw [List.take_succ_eq_append_getElem hlt, List.map_append]; rfl)
    obtain ⟨mo, mc, rfl, -⟩ := id hmk
    have hbr : b < wr.heap.size := Nat.lt_of_lt_of_le hbl hB.size
    have c0 : wr.cell? ⟨b, off + k * 2, none⟩ = some (.string L[k].name) := by rw [hB.cell (p := ⟨_, _, _⟩) hbl]; exact e0
    have c1 : wr.cell? ⟨b, off + k * 2 + 1, none⟩ = some (.slice mo L[k].marks.length mc) := by rw [hB.cell (p := ⟨_, _, _⟩) hbl]; exact e1
    have hnl : ((L.take k).map (·.name)).length = k := by rw [List.length_map, List.length_take]; omega
    rw [hnl] at hrow
    try rw [hnl]
    generalize L[k].name = nm at *
    generalize L[k].marks.length = ml at *
    have a1 : (k : Int) < L.length := by omega
    have a0 : (0 : Int) ≤ k := by omega
    have hkw := wr1 k (by omega)
    have HROW := Hd hrow
    have HB := Hd hB
    have hbw : w.heap.size ≤ wr.heap.size := hB.size
    obtain ⟨W2, hW2⟩ : ∃ W2, W2 = wr.alloc (.cells #[.string nm, .slice mo ml mc] 55) := ⟨_, rfl⟩
    have hal2 : Below wr.heap.size wr W2 := by rw [hW2]; exact bal
    have hs2 : W2.heap.size = wr.heap.size + 1 := by rw [hW2]; simp
    obtain ⟨W3, hW3⟩ : ∃ W3, W3 = W2.alloc (.cells #[.string nm] 9) := ⟨_, rfl⟩
    have hal3 : Below W2.heap.size W2 W3 := by rw [hW3]; exact bal
    have hal : Below wr.heap.size wr W3 := btr hal2 hal3
    have HSRC : Hid (SrcIs W3 (.slice (some ⟨wr.heap.size + 1, 0, none⟩) 1 1) 1 (EStr.flat [nm])) := Hd (by
     have := src_lit W2 9 [.string nm]
     rw [hs2, ← hW3] at this
     exact this)
    have HW3 : Hid (W3 = (wr.alloc (.cells #[.string nm, .slice mo ml mc] 55)).alloc (.cells #[.string nm] 9)) := Hd (by rw [hW3, hW2])
    have HROW3 := Hd (HROW.out.below hal)
    have HBW := Hd (HB.out.trans (hal.mono hbw))
    clear hal hal2 hal3 hs2 hW2 hW3 hrow hB e0 e1 hmk
    go_wp2_with (at_builtin; go_loud (rw [← HW3.out]); go_loud (refine wpList_row rfl _ _ 96 rfl EStr w.heap.size (.string ⟨#[]⟩) 16 Tryz.underlying96 infoStr (by decide) (by decide) (.slice av k cv) ((L.take k).map (·.name)) rfl HROW3.out _ [nm] rfl HSRC.out (by rw [hnl]; simp; omega) HBW.out.size ?_); intro v8 w8 hown8 hgr8)
    have hbf := HBW.out.grown hgr8 HBW.out.size (fun j hj => (HROW3.out.lt _ hj).1)
    go_roundw
    case rel => exact ⟨k + 1, by omega, by go_num, by rw [HTK.out]; exact hown8, hbf⟩
    case measure => simp [intOf]; omega
   ·have hke : k = L.length := by omega
    rw [hke, List.take_length] at hrow
    have HROW := Hd hrow
    have HB := Hd hB
    have hnl : (L.map (·.name)).length = L.length := by simp
    rw [hke, List.take_length]
    clear hB hrow
    go_wp2_with fail
    go_ret
    exact ⟨_, rfl, by have := HROW.out; rw [hnl] at this; exact this, HB.out⟩
end Go.Proofs.YtjoljfnlkddfbaaGreatDoor

