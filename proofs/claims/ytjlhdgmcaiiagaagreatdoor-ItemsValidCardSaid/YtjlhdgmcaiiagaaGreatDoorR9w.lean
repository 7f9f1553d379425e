/- The reference's Remove and Put. -/
import Derived.Test.YtjlhdgmcaiiagaaGreatDoorRow2
import Derived.Test.YtjlhdgmcaiiagaaGreatDoorR9e
namespace Go.Proofs.YtjlhdgmcaiiagaaGreatDoor
open Go.RowKit Go.Maps

theorem Arr.itwAt {w : World} {v : Value} {l : List ItW} (h : Arr ItwR 2 w v l) : ∃ (o : Option Addr) (c : Nat), v = .slice o l.length c ∧ (o = none → l = []) ∧ ∀ i (hi : i < l.length), ∃ b off, o = some ⟨b, off, none⟩ ∧ b < w.heap.size ∧ w.cell? ⟨b, off + i * 2, none⟩ = some (.string l[i].x.name) ∧ w.cell? ⟨b, off + i * 2 + 1, none⟩ = some l[i].v ∧ l[i].x.name.size ≤ maxLen ∧ Arr MarkR 4 w l[i].v l[i].x.marks := by
  obtain ⟨o, c, rfl, h2, h3, hel⟩ := h
  refine ⟨o, c, rfl, fun ho => ?_, fun i hi => ?_⟩
  · rcases l with _ | ⟨x, l⟩
    · rfl
    · obtain ⟨b, off, cs, h1, _⟩ := hel 0 (by simp)
      rw [ho] at h1; cases h1
  · obtain ⟨b, off, cs, h1, h4, h5, ⟨h6, h7, h8⟩, h9⟩ := hel i hi
    subst h6
    refine ⟨b, off, h1, h4, ?_, ?_, h7, h8⟩
    · have := h9 0 (by omega)
      rw [Nat.add_zero] at this
      rw [this]; rfl
    · rw [h9 1 (by omega)]; rfl
theorem filter_snoc {α : Type} (p : α → Bool) (l : List α) (k : Nat) (h : k < l.length) : (l.take (k + 1)).filter p = (l.take k).filter p ++ (if p l[k] then [l[k]] else []) := by
  rw [List.take_succ_eq_append_getElem h, List.filter_append]
  by_cases hp : p l[k] = true
  · rw [if_pos hp, List.filter_cons_of_pos hp]; rfl
  · rw [if_neg hp, List.filter_cons_of_neg hp]; rfl
/-- Elements of a source stand where they did. -/
theorem Arr.itwOf {base : Nat} {w0 w : World} {v : Value} {ps qs : List ItW} {vs : Value} (h : EItem.Row base w v qs) (hs : Arr ItwR 2 w0 vs ps) (hb : Below w0.heap.size w0 w) (hm : ∀ q ∈ qs, q ∈ ps) : Arr ItwR 2 w v qs :=
  Arr.of_row (E := EItem) h (fun a ha => by
    obtain ⟨i, hi, rfl⟩ := List.mem_iff_getElem.1 (hm a ha)
    obtain ⟨o, c, -, -, hel⟩ := hs.itwAt
    obtain ⟨b, off, -, -, -, -, h7, h8⟩ := hel i hi
    exact ⟨rfl, h7, h8.marks hb⟩)

set_option linter.unusedSimpArgs false in
set_option maxRecDepth 100000 in
set_option maxHeartbeats 4000000 in
theorem r9Remove_any (l : List ItemD) (nm : ByteArray) (v : Value) (w : World) (h : Arr ItemR 2 w v l) (hl : l.length ≤ 100000) : Calls Tryz.prog 31 #[v, .string nm] w fun e w' => ∃ v', e = .returned v' ∧ Arr ItemR 2 w' v' (dropN l nm) ∧ Below w.heap.size w w' := by
  obtain ⟨ps, rfl, hps⟩ := h.itw
  rw [List.length_map] at hl
  have HFIN : Hid (∀ v' w', EItem.Row w.heap.size w' v' (ps.filter (fun p => !decide (p.x.name = nm))) → Below w.heap.size w w' → Arr ItemR 2 w' v' (dropN (ps.map (·.x)) nm)) := Lib.hid (fun v' w' h1 h2 => by
    have h3 := (Arr.itwOf h1 hps h2 (fun q hq => (List.mem_filter.1 hq).1)).of_itw
    have e : (ps.filter (fun p => !decide (p.x.name = nm))).map (·.x) = dropN (ps.map (·.x)) nm := by unfold dropN; rw [List.filter_map]; rfl
    rw [e] at h3
    exact h3)
  obtain ⟨o, c, rfl, -, hel⟩ := hps.itwAt
  have HEL := Lib.hid hel
  clear hel hps h
  go_enter Tryz.func31, Tryz.ntmps31
  go_wp2_with fail
  go_loopw [5, 6] (fun ov i wr => ∃ k : Nat, k ≤ ps.length ∧ i = .int .i64 k ∧ EItem.Row w.heap.size wr ov ((ps.take k).filter (fun p => !decide (p.x.name = nm))) ∧ Below w.heap.size w wr) (fun _ i _ => ps.length - (intOf i).toNat)
  case atStart => exact ⟨0, Nat.zero_le _, rfl, by rw [List.take_zero]; exact Enc.Row.nil _ _, Below.refl _ _⟩
  case round =>
    obtain ⟨k, hk, rfl, hrow, hB⟩ := hrel
    have HROW := Lib.hid hrow
    have HB := Lib.hid hB
    obtain ⟨av, cv, rfl⟩ := hrow.slice
    clear hrow hB
    by_cases hlt : k < ps.length
    · obtain ⟨b, off, rfl, hbl, e0, e1, -, -⟩ := HEL.out k hlt
      have hbr : b < wr.heap.size := Nat.lt_of_lt_of_le hbl HB.out.size
      have c0 : wr.cell? ⟨b, off + k * 2, none⟩ = some (.string ps[k].x.name) := by rw [HB.out.cell (p := ⟨_, _, _⟩) hbl]; exact e0
      have c1 : wr.cell? ⟨b, off + k * 2 + 1, none⟩ = some ps[k].v := by rw [HB.out.cell (p := ⟨_, _, _⟩) hbl]; exact e1
      have HTK := Lib.hid (filter_snoc (fun p : ItW => !decide (p.x.name = nm)) ps k hlt)
      have hse := strDec ps[k].x.name nm
      have HNL : Hid (((ps.take k).filter (fun p => !decide (p.x.name = nm))).length ≤ 100000) := Lib.hid (by
        have := List.length_filter_le (fun p : ItW => !decide (p.x.name = nm)) (ps.take k)
        rw [List.length_take] at this; omega)
      have a0 : (0 : Int) ≤ k := by omega
      have a1 : (k : Int) < ps.length := by omega
      have hkw : IntKind.i64.wrap ((k : Int) + 1) = (k : Int) + 1 := by rw [IntKind.wrap_i64]; omega
      generalize hpe : ps[k] = p at *
      clear e0 e1 hpe
      generalize hqe : (ps.take k).filter (fun p => !decide (p.x.name = nm)) = qs at *
      clear hqe
      by_cases hnm : p.x.name = nm
      · have HROW2 := HROW
        rw [decide_eq_true hnm] at hse HTK
        have e : qs ++ (if (!true) = true then [p] else []) = qs := by simp
        rw [e] at HTK
        clear hnm e HNL
        go_wp2_with fail
        go_roundw
        case rel => exact ⟨k + 1, by omega, by go_num, by rw [HTK.out]; exact HROW.out, HB.out⟩
        case measure => simp [intOf]; omega
      · rw [decide_eq_false hnm] at hse HTK
        have e : qs ++ (if (!false) = true then [p] else []) = qs ++ [p] := by simp
        rw [e] at HTK
        have hal : Below wr.heap.size wr (wr.alloc (.cells #[.string p.x.name, p.v] 31)) := (Below.refl _ _).alloc (Nat.le_refl _) _
        have HROW2 := Lib.hid (HROW.out.below hal)
        have HB2 := Lib.hid (HB.out.trans (hal.mono HB.out.size))
        have HSRC : Hid (EItem.Src (wr.alloc (.cells #[.string p.x.name, p.v] 31)) (.slice (some ⟨wr.heap.size, 0, none⟩) 1 1) [p]) := Lib.hid (Enc.Src.one_lit (E := EItem) wr 31 p)
        have hbw2 : w.heap.size ≤ (wr.alloc (.cells #[.string p.x.name, p.v] 31)).heap.size := HB2.out.size
        obtain ⟨pm, pc, hpv⟩ : ∃ a c, p.v = .slice a p.x.marks.length c := ⟨_, _, rfl⟩
        clear hnm e hal
        rw [hpv] at c1 HROW2 HB2 HSRC hbw2
        go_wp2_with (at_builtin; refine wpList_append_row rfl _ _ 22 rfl EItem w.heap.size (.agg #[.string ⟨#[]⟩, .slice none 0 0]) 40 Tryz.underlying22 infoItem (by decide) (by decide) (.slice av qs.length cv) qs rfl HROW2.out _ [p] rfl HSRC.out (by have := HNL.out; simp; omega) hbw2 ?_; intro v8 w8 hown8 hgr8)
        have hbf := HB2.out.grown hgr8 hbw2 (fun j hj => (HROW2.out.lt _ hj).1)
        go_roundw
        case rel => exact ⟨k + 1, by omega, by go_num, by rw [HTK.out]; exact hown8, hbf⟩
        case measure => simp [intOf]; omega
    · have hke : k = ps.length := by omega
      have HF := HROW.out
      rw [hke, List.take_length] at HF
      have HF2 := Lib.hid (HFIN.out _ _ HF HB.out)
      have hle : (List.filter (fun p : ItW => !decide (p.x.name = nm)) (List.take k ps)).length = (ps.filter (fun p => !decide (p.x.name = nm))).length := by rw [hke, List.take_length]
      rw [hle]
      clear HF HFIN
      go_wp2_with fail
      go_ret
      exact ⟨_, rfl, HF2.out, HB.out⟩
end Go.Proofs.YtjlhdgmcaiiagaaGreatDoor
