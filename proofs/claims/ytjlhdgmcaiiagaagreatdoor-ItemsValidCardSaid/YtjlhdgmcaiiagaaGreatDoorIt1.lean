/- items.Dots. -/
import Derived.Test.YtjlhdgmcaiiagaaGreatDoorInv
import Derived.Test.YtjlhdgmcaiiagaaGreatDoorSet3
namespace Go.Proofs.YtjlhdgmcaiiagaaGreatDoor
open Go.RowKit Go.Maps

/-- Not too many items, not too many marks. -/
def Lt (l : List ItemD) : Prop := l.length ≤ 1000 ∧ ∀ x ∈ l, x.marks.length ≤ 1000
theorem allDots_cons (x : ItemD) (l : List ItemD) : allDots (x :: l) = dotsM x.marks ++ allDots l := by simp [allDots]
theorem allDots_append (l m : List ItemD) : allDots (l ++ m) = allDots l ++ allDots m := by simp [allDots]
theorem allDots_le : ∀ (l : List ItemD), (∀ x ∈ l, x.marks.length ≤ 1000) → (allDots l).length ≤ l.length * 1000
  | [], _ => by simp [allDots]
  | a :: l, h => by
    rw [allDots_cons, List.length_append, dotsM_len, List.length_cons]
    have := allDots_le l (fun x hx => h x (.tail _ hx))
    have := h a (.head _)
    omega
theorem Lt.dots {l : List ItemD} (h : Lt l) : (allDots l).length ≤ 1000000 := by
  have := allDots_le l h.2
  have := h.1
  omega
theorem allDots_take_len (l : List ItemD) (k : Nat) : (allDots (l.take k)).length ≤ (allDots l).length := by
  have h := allDots_append (l.take k) (l.drop k)
  rw [List.take_append_drop] at h
  rw [h, List.length_append]
  omega
/-- Element i of a slice of items: where it lies. -/
theorem Arr.itemAt {w : World} {v : Value} {l : List ItemD} (h : Arr ItemR 2 w v l) : ∃ (o : Option Addr) (c : Nat), v = .slice o l.length c ∧ ∀ i (hi : i < l.length), ∃ b off mv, o = some ⟨b, off, none⟩ ∧ b < w.heap.size ∧ w.cell? ⟨b, off + i * 2, none⟩ = some (.string l[i].name) ∧ w.cell? ⟨b, off + i * 2 + 1, none⟩ = some mv ∧ l[i].name.size ≤ maxLen ∧ Arr MarkR 4 w mv l[i].marks := by
  obtain ⟨o, c, rfl, _, _, h4⟩ := h
  refine ⟨o, c, rfl, fun i hi => ?_⟩
  obtain ⟨b, off, cs, rfl, hb, _, ⟨mv, rfl, h1, h2⟩, hc⟩ := h4 i hi
  exact ⟨b, off, mv, rfl, hb, hc 0 (by decide), hc 1 (by decide), h1, h2⟩
theorem Arr.itemsI {w : World} {v : Value} {l : List ItemD} (h : Arr ItemR 2 w v l) : ∀ d ∈ allDots l, DI d := by
  intro d hd
  obtain ⟨x, hx, hd⟩ := List.mem_flatMap.1 hd
  obtain ⟨i, hi, rfl⟩ := List.getElem_of_mem hx
  obtain ⟨o, c, _, hel⟩ := h.itemAt
  obtain ⟨b, off, mv, _, _, _, _, _, hm⟩ := hel i hi
  obtain ⟨m, hm2, rfl⟩ := List.mem_map.1 hd
  exact (hm.marksI m hm2).1

set_option maxRecDepth 100000 in
set_option maxHeartbeats 4000000 in
theorem itemsDots_any (l : List ItemD) (v : Value) (w : World) (h : Arr ItemR 2 w v l) (hl : Lt l) : Calls Tryz.prog 16 #[v] w fun e w' => ∃ v', e = .returned v' ∧ w'.ownsRow w.heap.size 24 2 v' (setD (allDots l)).length (flatD (setD (allDots l))) ∧ Below w.heap.size w w' := by
  obtain ⟨i0, hi0, hz0, hz1, hz2⟩ := info_parts infoDot
  have HI := Lib.hid (And.intro hi0 (And.intro hz0 (And.intro hz1 hz2)))
  have hn := h.len
  have HDI := Lib.hid h.itemsI
  have HLT := Lib.hid hl
  obtain ⟨o, c, rfl, hel⟩ := h.itemAt
  have HEL := Lib.hid hel
  clear hi0 hz0 hz1 hz2 hel h hl
  go_enter Tryz.func16, Tryz.ntmps16
  go_wp2_with fail
  go_loopw [3, 8] (fun v i wr => ∃ k : Nat, k ≤ l.length ∧ i = .int .i64 k ∧ wr.ownsRow w.heap.size 24 2 v (allDots (l.take k)).length (flatD (allDots (l.take k))) ∧ Below w.heap.size w wr) (fun _ i _ => l.length - (intOf i).toNat)
  case atStart => exact ⟨0, Nat.zero_le _, rfl, by rw [List.take_zero]; exact World.ownsRow_nil _ _ _ _, Below.refl _ _⟩
  case round =>
    obtain ⟨k, hk, rfl, hrow, hB⟩ := hrel
    obtain ⟨av, cv, rfl⟩ := owns_slice hrow
    by_cases hlt : k < l.length
    · obtain ⟨b, off, mv, rfl, hbl, e0, e1, -, hmk⟩ := HEL.out k hlt
      have HTK : Hid (allDots (l.take (k + 1)) = allDots (l.take k) ++ dotsM l[k].marks) := Lib.hid (by
        rw [List.take_succ_eq_append_getElem hlt, allDots_append]; simp [allDots])
      obtain ⟨mo, mc, rfl, -⟩ := id hmk
      have hbr : b < wr.heap.size := Nat.lt_of_lt_of_le hbl hB.size
      have c0 : wr.cell? ⟨b, off + k * 2, none⟩ = some (.string l[k].name) := by rw [hB.cell (p := ⟨_, _, _⟩) hbl]; exact e0
      have c1 : wr.cell? ⟨b, off + k * 2 + 1, none⟩ = some (.slice mo l[k].marks.length mc) := by rw [hB.cell (p := ⟨_, _, _⟩) hbl]; exact e1
      have hal : Below wr.heap.size wr (wr.alloc (.cells #[.string l[k].name, .slice mo l[k].marks.length mc] 31)) := (Below.refl _ _).alloc (Nat.le_refl _) _
      have hlm : l[k].marks.length ≤ 1000 := HLT.out.2 _ (List.getElem_mem hlt)
      have HQ := Lib.hid (qtyDots_any l[k].marks _ _ ((hmk.marks hB).marks hal) (by omega))
      have HSUM : Hid ((allDots (l.take k)).length + l[k].marks.length ≤ 1000000) := Lib.hid (by
        have h1 := allDots_take_len l (k + 1)
        rw [HTK.out, List.length_append, dotsM_len] at h1
        have := HLT.out.dots
        omega)
      have HFD : Hid (flatD (allDots (l.take (k + 1))) = flatD (allDots (l.take k)) ++ flatD (dotsM l[k].marks)) := Lib.hid (by rw [HTK.out]; simp [flatD])
      have HTL : Hid ((allDots (l.take (k + 1))).length = (allDots (l.take k)).length + l[k].marks.length) := Lib.hid (by rw [HTK.out, List.length_append, dotsM_len])
      generalize l[k].name = nm at *
      generalize l[k].marks = ms at *
      have a1 : (k : Int) < l.length := by omega
      have a0 : (0 : Int) ≤ k := by omega
      have hkw : IntKind.i64.wrap ((k : Int) + 1) = (k : Int) + 1 := by rw [IntKind.wrap_i64]; omega
      have HROW := Lib.hid hrow
      have HB := Lib.hid hB
      have HAL := Lib.hid hal
      clear hal hrow hB e0 e1 hmk
      obtain ⟨n, hn2⟩ : ∃ n, n = (allDots (l.take k)).length := ⟨_, rfl⟩
      rw [← hn2] at HROW HSUM HTL ⊢
      clear hn2
      go_wp2_with fail
      refine HQ.out.mono ?_
      rintro e w2 ⟨v2, rfl, hrow2, hb2⟩
      have hb3 : Below wr.heap.size wr w2 := HAL.out.trans (hb2.mono HAL.out.size)
      have HROW2 := Lib.hid (row_below HROW.out hb3)
      have HB2 := Lib.hid (HB.out.trans (hb3.mono HB.out.size))
      have HSRC := Lib.hid (row_src hrow2)
      have hbw2 : w.heap.size ≤ w2.heap.size := HB2.out.size
      have hsum := HSUM.out
      clear hb2 hb3 hrow2
      go_wp2_with (at_builtin; refine wpList_append_src rfl _ _ 37 rfl w.heap.size 24 i0 (.agg #[.int .i64 0, .int .i64 0]) 2 16 Tryz.underlying37 HI.out.1 HI.out.2.1 HI.out.2.2.1 HI.out.2.2.2 rfl (by decide) (.slice av n cv) n _ rfl HROW2.out _ _ _ rfl HSRC.out (by rw [flatD_len, dotsM_len]) (flatD_one _) (by unfold maxLen; omega) (by omega) hbw2 ?_; intro v8 w8 hown8 hgr8 _)
      have hbf := HB2.out.grown hgr8 hbw2 (fun j hj => (HROW2.out.lt _ hj).1)
      go_roundw
      case rel => exact ⟨k + 1, by omega, by go_num, by rw [HFD.out, HTL.out]; exact hown8, hbf⟩
      case measure => simp [intOf]; omega
    · have hke : k = l.length := by omega
      rw [hke, List.take_length] at hrow
      have HS := Lib.hid (dotSet_any (allDots l) _ wr (Arr.of_dots hrow HDI.out) HLT.out.dots)
      have HB := Lib.hid hB
      rw [hke, List.take_length] 
      clear hB hrow
      go_wp2_with fail
      refine HS.out.mono ?_
      rintro e w2 ⟨v2, rfl, hrow2, hb2⟩
      go_wp2_with fail
      go_ret
      exact ⟨_, rfl, row_mono hrow2 HB.out.size, HB.out.trans (hb2.mono HB.out.size)⟩
end Go.Proofs.YtjlhdgmcaiiagaaGreatDoor
