/- items.Valid. -/
import Derived.Test.YtjoljfnlkddfbaaGreatDoorIt3
import Derived.Shelf.SlSorted.Search
set_option linter.unusedSimpArgs false
set_option linter.unusedVariables false
set_option maxRecDepth 100000
set_option maxHeartbeats 8000000
namespace Go.Proofs.YtjoljfnlkddfbaaGreatDoor
open Go.RowKit Go.Maps

theorem risB_snoc : ∀ (m : List ItemD) (a x : ItemD), risB (m ++ [a] ++ [x]) = (risB (m ++ [a]) && decide (ltK a.name x.name))
 | [], a, x => by simp [risB]
 | [b], a, x => by simp [risB]
 | b :: c :: m, a, x => by
  have ih := risB_snoc (c :: m) a x
  simp only [List.cons_append] at ih ⊢
  rw [show risB (b :: c :: (m ++ [a] ++ [x])) = (decide (ltK b.name c.name) && risB (c :: (m ++ [a] ++ [x]))) from rfl, show risB (b :: c :: (m ++ [a])) = (decide (ltK b.name c.name) && risB (c :: (m ++ [a]))) from rfl, ih, Bool.and_assoc]
theorem risB_take (l : List ItemD) (k : Nat) (h : k + 1 < l.length) : risB (l.take (k + 2)) = (risB (l.take (k + 1)) && decide (ltK l[k].name l[k + 1].name)) := by
 have e1 : l.take (k + 1) = l.take k ++ [l[k]] := List.take_succ_eq_append_getElem (by omega)
 have e2 : l.take (k + 2) = l.take (k + 1) ++ [l[k + 1]] := List.take_succ_eq_append_getElem h
 rw [e2, e1]
 exact risB_snoc _ _ _
theorem risB_bad {l : List ItemD} {k : Nat} (h : k + 1 < l.length) (hn : ¬ ltK l[k].name l[k + 1].name) : risB l = false := by
 cases e : risB l with
 | false => rfl
 | true =>
  have := List.pairwise_iff_getElem.1 (risB_iff.1 e) k (k + 1) (by omega) h (by omega)
  exact absurd this hn
theorem risB_one : ∀ (l : List ItemD), risB (l.take 1) = true
 | [] => by simp [risB]
 | a :: l => by simp [risB]
theorem less_ltK (a b : ByteArray) : Op.bytesLess a.toList b.toList = decide (ltK a b) := by
 rw [bytesLess_eq, bytes_toList, bytes_toList]
 rfl

theorem itemsValid_any (l : List ItemD) (v : Value) (w : World) (h : Arr ItemR 2 w v l) (hl : Lt l) (hG : GlobIs w) : Calls Tryz.prog 35 #[v] w fun e w' => e = .returned (.bool (validI l)) ∧ Below w.heap.size w w' := by
 have hn := h.len
 have HARR := Hd h
 have HGL := Hd hG
 have HLT := Hd hl
 obtain ⟨o, c, rfl, hel⟩ := h.itemAt
 have HEL := Hd hel
 clear hel h hl hG
 go_enter Tryz.func35, Tryz.ntmps35
 go_wp2_with fail
 go_loopw [3, 8] (fun v i wr => ∃ k : Nat, k ≤ l.length ∧ i = .int .i64 k ∧ v = .int .i64 ((allDots (l.take k)).length : Int) ∧ (l.take k).all oneI = true ∧ risB (l.take k) = true ∧ Below w.heap.size w wr) (fun _ i _ => l.length - (intOf i).toNat)
 case atStart => exact ⟨0, Nat.zero_le _, rfl, by rw [List.take_zero]; rfl, by rw [List.take_zero]; rfl, by rw [List.take_zero]; rfl, Below.refl _ _⟩
 case round =>
  obtain ⟨k, hk, rfl, rfl, hone, hris, hB⟩ := hrel
  have HB := Hd hB
  have HONE := Hd hone
  have HRIS := Hd hris
  clear hB hone hris
  by_cases hlt : k < l.length
  ·obtain ⟨b, off, mv, rfl, hbl, e0, e1, hnm, hmk⟩ := HEL.out k hlt
   obtain ⟨mo, mc, rfl, -⟩ := id hmk
   have hbr : b < wr.heap.size := Nat.lt_of_lt_of_le hbl HB.out.size
   have c0 : wr.cell? ⟨b, off + k * 2, none⟩ = some (.string l[k].name) := by rw [HB.out.cell (p := ⟨_, _, _⟩) hbl]; exact e0
   have c1 : wr.cell? ⟨b, off + k * 2 + 1, none⟩ = some (.slice mo l[k].marks.length mc) := by rw [HB.out.cell (p := ⟨_, _, _⟩) hbl]; exact e1
   obtain ⟨W1, hW1⟩ : ∃ W1, W1 = wr.alloc (.cells #[.string l[k].name, .slice mo l[k].marks.length mc] 55) := ⟨_, rfl⟩
   have hb1 : Below wr.heap.size wr W1 := by rw [hW1]; exact bal
   have hg1 : W1.heap[wr.heap.size]? = some (.cells #[.string l[k].name, .slice mo l[k].marks.length mc] 55) := by rw [hW1]; exact alloc_new _ _
   have hgl1 := lt_of_heap hg1
   have d0 : W1.cell? ⟨wr.heap.size, 0, none⟩ = some (.string l[k].name) := cl0 hg1 0 rfl
   have d1 : W1.cell? ⟨wr.heap.size, 1, none⟩ = some (.slice mo l[k].marks.length mc) := cl0 hg1 1 rfl
   have hbl1 : b < W1.heap.size := Nat.lt_of_lt_of_le hbr hb1.size
   have hlm : l[k].marks.length ≤ 1000 := HLT.out.2 _ (List.getElem_mem hlt)
   have HINV : Hid (Calls Tryz.prog 66 #[.agg #[.string l[k].name, .slice mo l[k].marks.length mc]] W1.drew fun e w' => e = .returned (.bool (!oneI l[k])) ∧ Below W1.heap.size W1 w') := Hd ((itemsInvalid_any l[k] _ W1.drew (((hmk.marks HB.out).marks hb1).marks bdr) hnm (by omega) ((HGL.out.below HB.out).below (hb1.trans (below_drew1 (brf.mono hb1.size))))).mono (fun _ _ ⟨a1, a2⟩ => ⟨a1, bdr.trans a2⟩))
   have HB1 := Hd (btr HB.out hb1)
   have HWB := Hd hb1
   have HW := Hd hW1
   have HTK : Hid (allDots (l.take (k + 1)) = allDots (l.take k) ++ dotsM l[k].marks) := Hd (by
    rw [List.take_succ_eq_append_getElem hlt, allDots_append]; simp [allDots])
   have HTL : Hid ((allDots (l.take (k + 1))).length = (allDots (l.take k)).length + l[k].marks.length ∧ (allDots (l.take (k + 1))).length ≤ 1000000) := Hd ⟨by rw [HTK.out, List.length_append, dotsM_len], Nat.le_trans (allDots_take_len l (k + 1)) HLT.out.dots⟩
   have HTO : Hid ((l.take (k + 1)).all oneI = oneI l[k]) := Hd (by rw [List.take_succ_eq_append_getElem hlt, List.all_append, HONE.out]; simp)
   have HBAD : Hid (oneI l[k] = false → validI l = false) := Hd (fun h => by
    unfold validI
    rw [List.all_eq_false.2 ⟨l[k], List.getElem_mem hlt, by simp [h]⟩]; simp)
   have hkw := wr1 k (by omega)
   have a0 : (0 : Int) ≤ k := by omega
   have a1 : (k : Int) < l.length := by omega
   clear hb1 hg1 hW1 e0 e1 hmk HTK HONE
   obtain ⟨r, hr⟩ : ∃ r, r = oneI l[k] := ⟨_, rfl⟩
   rw [← hr] at HTO HBAD HINV
   clear hr
   obtain ⟨n, hnn⟩ : ∃ n, n = (allDots (l.take k)).length := ⟨_, rfl⟩
   rw [← hnn] at HTL ⊢
   clear hnn
   cases r with
   | false =>
    have HF := Hd (HBAD.out rfl)
    clear HBAD HTO
    generalize l[k].name = nm at *
    generalize l[k].marks.length = ml at *
    go_upto_region 5 with fail
    rw [← HW.out]
    clear HW c0 c1
    have HS0 : Hid (W1.drew.cell? ⟨wr.heap.size, 0, none⟩ = some (.string nm) ∧ W1.drew.cell? ⟨wr.heap.size, 1, none⟩ = some (.slice mo ml mc)) := Hd ⟨d0, d1⟩
    have HS : Hid (∀ w2, Below W1.heap.size W1 w2 → w2.cell? ⟨wr.heap.size, 0, none⟩ = some (.string nm) ∧ w2.cell? ⟨wr.heap.size, 1, none⟩ = some (.slice mo ml mc)) := Hd (fun w2 h2 => ⟨by rw [h2.cell (p := ⟨wr.heap.size, 0, none⟩) hgl1]; exact d0, by rw [h2.cell (p := ⟨wr.heap.size, 1, none⟩) hgl1]; exact d1⟩)
    refine NQ.to ?_
    refine wp_region_held_drew (S := (fun w' => w'.cell? ⟨wr.heap.size, 0, none⟩ = some (.string nm) ∧ w'.cell? ⟨wr.heap.size, 1, none⟩ = some (.slice mo ml mc))) (by kernel_rfl) (HS0.out) (fun hS => ?_)
    refine tkR (n := 1) [0] rfl (by decide +kernel) hS ?_
    ((try simp only [Act.put, s1, s2, s3, s4, s5, s6]); refine ⟨_, ?_, rfl, Or.inl ⟨by kernel_rfl, fun w hSw => ok_of fun z hz => ?_⟩, ?_⟩; rotate_left; · (obtain ⟨f1, f2⟩ := hSw; go_simp; exact hz))
    refine RunOK.done ?_
    try simp only [Act.put, s1, s2, s3, s4, s5, s6]
    refine rd1 1 (by decide +kernel) rfl (fun K hK => ?_)
    go_simp
    go_at_call 66
    refine HINV.out.mono ?_
    rintro e w2 ⟨rfl, hb2⟩
    go_simp
    refine Shut.out hK _ _ (HS.out w2 hb2) (fun hS2 => ?_); clear hK K hS; have hS := hS2; clear hS2
    refine tkR (n := 15) [2, 3, 4, 5, 6, 7, 8, 9, 10, 11, 12, 13, 14, 15, 16] rfl (by decide +kernel) hS ?_
    ((try simp only [Act.put, s1, s2, s3, s4, s5, s6]); refine ⟨_, ?_, rfl, Or.inl ⟨by kernel_rfl, fun w hSw => ok_of fun z hz => ?_⟩, ?_⟩; rotate_left; · (go_simp; exact hz))
    iterate 13 ((try simp only [Act.put, s1, s2, s3, s4, s5, s6]); refine ⟨_, undef, rfl, Or.inr ⟨by kernel_rfl, rfl⟩, ?_⟩)
    ((try simp only [Act.put, s1, s2, s3, s4, s5, s6]); refine ⟨_, ?_, rfl, Or.inl ⟨by kernel_rfl, fun w hSw => ok_of fun z hz => ?_⟩, ?_⟩; rotate_left; · (go_simp; exact hz))
    refine RunOK.done ?_
    try simp only [Act.put, s1, s2, s3, s4, s5, s6]
    refine wpAnyH_done (by kernel_rfl) ?_ _
    try simp only [Act.put, s1, s2, s3, s4, s5, s6]
    simp only [NQ]
    go_wp2_with fail
    go_ret
    exact ⟨by rw [HF.out]; rfl, btr HB1.out hb2⟩
   | true =>
    cases k with
    | zero =>
     have HR2 : Hid (risB (l.take 1) = true) := Hd (risB_one l)
     simp only [Nat.zero_mul, Nat.add_zero] at c0 c1
     clear HBAD
     generalize l[0].name = nm at *
     generalize l[0].marks.length = ml at *
     have hnw : IntKind.i64.wrap ((n : Int) + ml) = (n : Int) + ml := by rw [IntKind.wrap_i64]; have := HTL.out; omega
     go_upto_region 5 with fail
     rw [← HW.out]
     clear HW c0 c1
     have HS0 : Hid (W1.drew.cell? ⟨wr.heap.size, 0, none⟩ = some (.string nm) ∧ W1.drew.cell? ⟨wr.heap.size, 1, none⟩ = some (.slice mo ml mc)) := Hd ⟨d0, d1⟩
     have HS : Hid (∀ w2, Below W1.heap.size W1 w2 → w2.cell? ⟨wr.heap.size, 0, none⟩ = some (.string nm) ∧ w2.cell? ⟨wr.heap.size, 1, none⟩ = some (.slice mo ml mc)) := Hd (fun w2 h2 => ⟨by rw [h2.cell (p := ⟨wr.heap.size, 0, none⟩) hgl1]; exact d0, by rw [h2.cell (p := ⟨wr.heap.size, 1, none⟩) hgl1]; exact d1⟩)
     refine NQ.to ?_
     refine wp_region_held_drew (S := (fun w' => w'.cell? ⟨wr.heap.size, 0, none⟩ = some (.string nm) ∧ w'.cell? ⟨wr.heap.size, 1, none⟩ = some (.slice mo ml mc))) (by kernel_rfl) (HS0.out) (fun hS => ?_)
     refine tkR (n := 1) [0] rfl (by decide +kernel) hS ?_
     ((try simp only [Act.put, s1, s2, s3, s4, s5, s6]); refine ⟨_, ?_, rfl, Or.inl ⟨by kernel_rfl, fun w hSw => ok_of fun z hz => ?_⟩, ?_⟩; rotate_left; · (obtain ⟨f1, f2⟩ := hSw; go_simp; exact hz))
     refine RunOK.done ?_
     try simp only [Act.put, s1, s2, s3, s4, s5, s6]
     refine rd1 1 (by decide +kernel) rfl (fun K hK => ?_)
     go_simp
     go_at_call 66
     refine HINV.out.mono ?_
     rintro e w2 ⟨rfl, hb2⟩
     go_simp
     refine Shut.out hK _ _ (HS.out w2 hb2) (fun hS2 => ?_); clear hK K hS; have hS := hS2; clear hS2
     refine tkR (n := 15) [2, 3, 4, 5, 6, 7, 8, 9, 10, 11, 12, 13, 14, 15, 16] rfl (by decide +kernel) hS ?_
     iterate 4 ((try simp only [Act.put, s1, s2, s3, s4, s5, s6]); refine ⟨_, ?_, rfl, Or.inl ⟨by kernel_rfl, fun w hSw => ok_of fun z hz => ?_⟩, ?_⟩; rotate_left; · (go_simp; exact hz))
     iterate 9 ((try simp only [Act.put, s1, s2, s3, s4, s5, s6]); refine ⟨_, undef, rfl, Or.inr ⟨by kernel_rfl, rfl⟩, ?_⟩)
     iterate 2 ((try simp only [Act.put, s1, s2, s3, s4, s5, s6]); refine ⟨_, ?_, rfl, Or.inl ⟨by kernel_rfl, fun w hSw => ok_of fun z hz => ?_⟩, ?_⟩; rotate_left; · (go_simp; exact hz))
     refine RunOK.done ?_
     try simp only [Act.put, s1, s2, s3, s4, s5, s6]
     refine wpAnyH_done (by kernel_rfl) ?_ _
     try simp only [Act.put, s1, s2, s3, s4, s5, s6]
     simp only [NQ]
     obtain ⟨f0, f1⟩ := HS.out w2 hb2
     have hbf := btr HB1.out hb2
     clear HS HS0 hb2
     go_wp2_with fail
     go_roundw
     case rel => exact ⟨1, by omega, by go_num, by rw [HTL.out.1]; go_num, HTO.out, HR2.out, hbf⟩
     case measure => simp [intOf]; omega
    | succ j =>
     obtain ⟨b', off', mv', he', hbl', p0, -, -, -⟩ := HEL.out j (by omega)
     cases he'
     have q0 : wr.cell? ⟨b, off + j * 2, none⟩ = some (.string l[j].name) := by rw [HB.out.cell (p := ⟨_, _, _⟩) hbl]; exact p0
     have dp : W1.cell? ⟨b, off + j * 2, none⟩ = some (.string l[j].name) := by rw [HWB.out.cell (p := ⟨_, _, _⟩) hbr]; exact q0
     clear p0 hbl' mv' HBAD
     have hj1 : IntKind.i64.wrap ((j : Int) + 1 - 1) = (j : Int) := by rw [IntKind.wrap_i64]; omega
     have hj2 : IntKind.i64.wrap (j : Int) = (j : Int) := by rw [IntKind.wrap_i64]; omega
     have b0 : (0 : Int) ≤ j := by omega
     have b1 : (j : Int) < l.length := by omega
     have b2 : (0 : Int) < (j : Int) + 1 := by omega
     have HTAKE := Hd (risB_take l j hlt)
     have HBAD2 := Hd (risB_bad (l := l) (k := j) hlt)
     have hlk := less_ltK l[j].name l[j + 1].name
     generalize l[j].name = pn at *
     generalize l[j + 1].name = nm at *
     generalize l[j + 1].marks.length = ml at *
     by_cases hlt2 : ltK pn nm
     ·have HR2 : Hid (risB (l.take (j + 1 + 1)) = true) := Hd (by rw [HTAKE.out, HRIS.out, decide_eq_true hlt2]; rfl)
      have t1 : Op.bytesLess pn.toList nm.toList = true := by rw [hlk]; exact decide_eq_true hlt2
      have hnw : IntKind.i64.wrap ((n : Int) + ml) = (n : Int) + ml := by rw [IntKind.wrap_i64]; have := HTL.out; omega
      clear hlk hlt2 HTAKE HBAD2
      go_upto_region 5 with fail
      rw [← HW.out]
      clear HW c0 c1 q0
      have HS0 : Hid (W1.drew.cell? ⟨wr.heap.size, 0, none⟩ = some (.string nm) ∧ W1.drew.cell? ⟨wr.heap.size, 1, none⟩ = some (.slice mo ml mc) ∧ W1.drew.cell? ⟨b, off + j * 2, none⟩ = some (.string pn)) := Hd ⟨d0, d1, dp⟩
      have HS : Hid (∀ w2, Below W1.heap.size W1 w2 → w2.cell? ⟨wr.heap.size, 0, none⟩ = some (.string nm) ∧ w2.cell? ⟨wr.heap.size, 1, none⟩ = some (.slice mo ml mc) ∧ w2.cell? ⟨b, off + j * 2, none⟩ = some (.string pn)) := Hd (fun w2 h2 => ⟨by rw [h2.cell (p := ⟨wr.heap.size, 0, none⟩) hgl1]; exact d0, by rw [h2.cell (p := ⟨wr.heap.size, 1, none⟩) hgl1]; exact d1, by rw [h2.cell (p := ⟨b, off + j * 2, none⟩) hbl1]; exact dp⟩)
      refine NQ.to ?_
      refine wp_region_held_drew (S := (fun w' => w'.cell? ⟨wr.heap.size, 0, none⟩ = some (.string nm) ∧ w'.cell? ⟨wr.heap.size, 1, none⟩ = some (.slice mo ml mc) ∧ w'.cell? ⟨b, off + j * 2, none⟩ = some (.string pn))) (by kernel_rfl) (HS0.out) (fun hS => ?_)
      refine tkR (n := 1) [0] rfl (by decide +kernel) hS ?_
      ((try simp only [Act.put, s1, s2, s3, s4, s5, s6]); refine ⟨_, ?_, rfl, Or.inl ⟨by kernel_rfl, fun w hSw => ok_of fun z hz => ?_⟩, ?_⟩; rotate_left; · (obtain ⟨f1, f2, f3⟩ := hSw; go_simp; exact hz))
      refine RunOK.done ?_
      try simp only [Act.put, s1, s2, s3, s4, s5, s6]
      refine rd1 1 (by decide +kernel) rfl (fun K hK => ?_)
      go_simp
      go_at_call 66
      refine HINV.out.mono ?_
      rintro e w2 ⟨rfl, hb2⟩
      go_simp
      refine Shut.out hK _ _ (HS.out w2 hb2) (fun hS2 => ?_); clear hK K hS; have hS := hS2; clear hS2
      refine tkR (n := 15) [2, 3, 4, 5, 6, 7, 8, 9, 10, 11, 12, 13, 14, 15, 16] rfl (by decide +kernel) hS ?_
      iterate 15 ((try simp only [Act.put, s1, s2, s3, s4, s5, s6]); refine ⟨_, ?_, rfl, Or.inl ⟨by kernel_rfl, fun w hSw => ok_of fun z hz => ?_⟩, ?_⟩; rotate_left; · (obtain ⟨f1, f2, f3⟩ := hSw; go_simp; exact hz))
      refine RunOK.done ?_
      try simp only [Act.put, s1, s2, s3, s4, s5, s6]
      refine wpAnyH_done (by kernel_rfl) ?_ _
      try simp only [Act.put, s1, s2, s3, s4, s5, s6]
      simp only [NQ]
      obtain ⟨f0, f1, -⟩ := HS.out w2 hb2
      have hbf := btr HB1.out hb2
      clear HS HS0 hb2
      go_wp2_with fail
      go_roundw
      case rel => exact ⟨j + 1 + 1, by omega, by go_num, by rw [HTL.out.1]; go_num, HTO.out, HR2.out, hbf⟩
      case measure => simp [intOf]; omega
     ·have HF : Hid (validI l = false) := Hd (by unfold validI; rw [HBAD2.out hlt2]; simp)
      have t1 : Op.bytesLess pn.toList nm.toList = false := by rw [hlk]; exact decide_eq_false hlt2
      clear hlk hlt2 HTAKE HBAD2 HTO HTL
      go_upto_region 5 with fail
      rw [← HW.out]
      clear HW c0 c1 q0
      have HS0 : Hid (W1.drew.cell? ⟨wr.heap.size, 0, none⟩ = some (.string nm) ∧ W1.drew.cell? ⟨wr.heap.size, 1, none⟩ = some (.slice mo ml mc) ∧ W1.drew.cell? ⟨b, off + j * 2, none⟩ = some (.string pn)) := Hd ⟨d0, d1, dp⟩
      have HS : Hid (∀ w2, Below W1.heap.size W1 w2 → w2.cell? ⟨wr.heap.size, 0, none⟩ = some (.string nm) ∧ w2.cell? ⟨wr.heap.size, 1, none⟩ = some (.slice mo ml mc) ∧ w2.cell? ⟨b, off + j * 2, none⟩ = some (.string pn)) := Hd (fun w2 h2 => ⟨by rw [h2.cell (p := ⟨wr.heap.size, 0, none⟩) hgl1]; exact d0, by rw [h2.cell (p := ⟨wr.heap.size, 1, none⟩) hgl1]; exact d1, by rw [h2.cell (p := ⟨b, off + j * 2, none⟩) hbl1]; exact dp⟩)
      refine NQ.to ?_
      refine wp_region_held_drew (S := (fun w' => w'.cell? ⟨wr.heap.size, 0, none⟩ = some (.string nm) ∧ w'.cell? ⟨wr.heap.size, 1, none⟩ = some (.slice mo ml mc) ∧ w'.cell? ⟨b, off + j * 2, none⟩ = some (.string pn))) (by kernel_rfl) (HS0.out) (fun hS => ?_)
      refine tkR (n := 1) [0] rfl (by decide +kernel) hS ?_
      ((try simp only [Act.put, s1, s2, s3, s4, s5, s6]); refine ⟨_, ?_, rfl, Or.inl ⟨by kernel_rfl, fun w hSw => ok_of fun z hz => ?_⟩, ?_⟩; rotate_left; · (obtain ⟨f1, f2, f3⟩ := hSw; go_simp; exact hz))
      refine RunOK.done ?_
      try simp only [Act.put, s1, s2, s3, s4, s5, s6]
      refine rd1 1 (by decide +kernel) rfl (fun K hK => ?_)
      go_simp
      go_at_call 66
      refine HINV.out.mono ?_
      rintro e w2 ⟨rfl, hb2⟩
      go_simp
      refine Shut.out hK _ _ (HS.out w2 hb2) (fun hS2 => ?_); clear hK K hS; have hS := hS2; clear hS2
      refine tkR (n := 15) [2, 3, 4, 5, 6, 7, 8, 9, 10, 11, 12, 13, 14, 15, 16] rfl (by decide +kernel) hS ?_
      iterate 15 ((try simp only [Act.put, s1, s2, s3, s4, s5, s6]); refine ⟨_, ?_, rfl, Or.inl ⟨by kernel_rfl, fun w hSw => ok_of fun z hz => ?_⟩, ?_⟩; rotate_left; · (obtain ⟨f1, f2, f3⟩ := hSw; go_simp; exact hz))
      refine RunOK.done ?_
      try simp only [Act.put, s1, s2, s3, s4, s5, s6]
      refine wpAnyH_done (by kernel_rfl) ?_ _
      try simp only [Act.put, s1, s2, s3, s4, s5, s6]
      simp only [NQ]
      go_wp2_with fail
      go_ret
      exact ⟨by rw [HF.out]; rfl, btr HB1.out hb2⟩
  ·have hke : k = l.length := by omega
   subst hke
   have HF : Hid (validI l = decide ((setD (allDots l)).length = (allDots l).length)) := Hd (by
    have h1 := HONE.out
    have h2 := HRIS.out
    rw [List.take_length] at h1 h2
    unfold validI
    rw [h1, h2]; rfl)
   have HD := Hd (itemsDots_any l _ wr (HARR.out.items HB.out) HLT.out)
   rw [List.take_length]
   generalize (allDots l).length = n at *
   generalize setD (allDots l) = sd at *
   go_wp2_with fail
   refine HD.out.mono ?_
   rintro e w2 ⟨v2, rfl, hrow2, hb2⟩
   obtain ⟨av, cv, rfl⟩ := owns_slice hrow2
   go_wp2_with fail
   go_ret
   exact ⟨by rw [HF.out]; simp; rw [Bool.eq_iff_iff]; simp; omega, btr HB.out hb2⟩
end Go.Proofs.YtjoljfnlkddfbaaGreatDoor
