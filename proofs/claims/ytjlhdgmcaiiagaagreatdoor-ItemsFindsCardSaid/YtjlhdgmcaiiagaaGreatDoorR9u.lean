/- The reference's Union of dots, and Dots of items. -/
import Derived.Test.YtjlhdgmcaiiagaaGreatDoorR1w
import Derived.Test.YtjlhdgmcaiiagaaGreatDoorR8
import Derived.Test.YtjlhdgmcaiiagaaGreatDoorIt1
namespace Go.Proofs.YtjlhdgmcaiiagaaGreatDoor
open Go.RowKit Go.Maps

theorem withD_len (s : List DotD) (d : DotD) : (withD s d).length ≤ s.length + 1 := by
  unfold withD
  split
  · omega
  · have := congrArg List.length (List.takeWhile_append_dropWhile (p := fun x => dlt x d) (l := s))
    rw [List.length_append] at this
    rw [List.length_append, List.length_cons]
    omega
theorem foldl_withD_len : ∀ (l s : List DotD), (l.foldl withD s).length ≤ s.length + l.length
  | [], s => by simp
  | d :: l, s => by
    have h1 := foldl_withD_len l (withD s d)
    have h2 := withD_len s d
    rw [List.foldl_cons, List.length_cons]
    omega
theorem foldl_snoc {α β : Type} (f : β → α → β) (s : β) (l : List α) (k : Nat) (h : k < l.length) : (l.take (k + 1)).foldl f s = f ((l.take k).foldl f s) l[k] := by
  rw [List.take_succ_eq_append_getElem h, List.foldl_append]; rfl
theorem setD_le (l : List DotD) : (setD l).length ≤ l.length := by
  unfold setD sortD
  exact Nat.le_trans (compactD_len _) (by simp)
theorem unionD_setD (a b : List DotD) : unionD (setD a) b = setD (a ++ b) := by
  rw [unionD_eq]
  exact ss_ext (setD_ss _) (setD_ss _) (fun x => by simp only [setD_mem, List.mem_append])
set_option linter.unusedSimpArgs false in
set_option maxRecDepth 100000 in
set_option maxHeartbeats 8000000 in
theorem r1Union_any (l m : List DotD) (v u : Value) (w : World) (h : Arr DotR 2 w v l) (h2 : Arr DotR 2 w u m) (hl : l.length ≤ 1000000) (hm : m.length ≤ 1000000) : Calls Tryz.prog 42 #[v, u] w fun e w' => ∃ v', e = .returned v' ∧ Arr DotR 2 w' v' (unionD l m) ∧ Below w.heap.size w w' := by
  have hn := h.len
  have hn2 := h2.len
  have HDI := Lib.hid h.dotsI
  have HDI2 := Lib.hid h2.dotsI
  obtain ⟨o, c, rfl, hel⟩ := h.dotAt
  obtain ⟨o2, c2, rfl, hel2⟩ := h2.dotAt
  have HEL := Lib.hid hel
  have HEL2 := Lib.hid hel2
  have HU : Hid (m.foldl withD (l.foldl withD []) = unionD l m) := Lib.hid rfl
  clear hel hel2 h h2
  go_enter Tryz.func42, Tryz.ntmps42
  go_wp2_with fail
  go_loopw [5, 6] (fun ov i wr => ∃ k : Nat, k ≤ l.length ∧ i = .int .i64 k ∧ Arr DotR 2 wr ov ((l.take k).foldl withD []) ∧ Below w.heap.size w wr) (fun _ i _ => l.length - (intOf i).toNat)
  case atStart => exact ⟨0, Nat.zero_le _, rfl, ⟨none, 0, rfl, Nat.le_refl _, Nat.zero_le _, fun i hi => absurd hi (Nat.not_lt_zero i)⟩, Below.refl _ _⟩
  case round =>
    obtain ⟨k, hk, rfl, hrow, hB⟩ := hrel
    have HROW := Lib.hid hrow
    have HB := Lib.hid hB
    clear hrow hB
    by_cases hlt : k < l.length
    · obtain ⟨b, off, rfl, hbl, e0, e1⟩ := HEL.out k hlt
      have c0 : wr.cell? ⟨b, off + k * 2, none⟩ = some (.int .i64 l[k].rep) := by rw [HB.out.cell (p := ⟨_, _, _⟩) hbl]; exact e0
      have c1 : wr.cell? ⟨b, off + k * 2 + 1, none⟩ = some (.int .i64 l[k].ctr) := by rw [HB.out.cell (p := ⟨_, _, _⟩) hbl]; exact e1
      have hdl : ((l.take k).foldl withD []).length ≤ 10000000 := by
        have := foldl_withD_len (l.take k) []
        rw [List.length_take] at this
        simp only [List.length_nil] at this
        omega
      have HW := Lib.hid (r1With_any _ l[k] _ wr HROW.out (HDI.out _ (List.getElem_mem hlt)) hdl)
      rw [← foldl_snoc withD [] l k hlt] at HW
      unfold dotV at HW
      obtain ⟨nxt, hnx⟩ : ∃ nxt, nxt = (l.take (k + 1)).foldl withD [] := ⟨_, rfl⟩
      have HNX := Lib.hid hnx
      rw [← hnx] at HW
      clear hnx
      generalize l[k] = d at *
      have a0 : (0 : Int) ≤ k := by omega
      have a1 : (k : Int) < l.length := by omega
      have hkw : IntKind.i64.wrap ((k : Int) + 1) = (k : Int) + 1 := by rw [IntKind.wrap_i64]; omega
      clear e0 e1 hdl
      go_wp2_with fail
      refine HW.out.mono ?_
      rintro e w2 ⟨v2, rfl, ha2, hb2⟩
      have HA2 := Lib.hid ha2
      have hbf := HB.out.trans (hb2.mono HB.out.size)
      clear c0 c1 ha2 hb2 HW
      go_wp2_with fail
      go_roundw
      case rel => exact ⟨k + 1, by omega, by go_num, by rw [← HNX.out]; exact HA2.out, hbf⟩
      case measure => simp [intOf]; omega
    · have hke : k = l.length := by omega
      have HR0 : Hid (Arr DotR 2 wr u5 (l.foldl withD [])) := Lib.hid (by have := HROW.out; rw [hke, List.take_length] at this; exact this)
      clear HROW hke
      go_wp2_with fail
      go_loopw [5, 7] (fun ov i wr => ∃ k : Nat, k ≤ m.length ∧ i = .int .i64 k ∧ Arr DotR 2 wr ov ((m.take k).foldl withD (l.foldl withD [])) ∧ Below w.heap.size w wr) (fun _ i _ => m.length - (intOf i).toNat)
      case atStart => exact ⟨0, Nat.zero_le _, rfl, HR0.out, HB.out⟩
      case round =>
        obtain ⟨k, hk, rfl, hrow, hB⟩ := hrel
        have HROW := Lib.hid hrow
        clear HB HR0
        have HB := Lib.hid hB
        clear hrow hB
        by_cases hlt : k < m.length
        · obtain ⟨b, off, rfl, hbl, e0, e1⟩ := HEL2.out k hlt
          have c0 : wr.cell? ⟨b, off + k * 2, none⟩ = some (.int .i64 m[k].rep) := by rw [HB.out.cell (p := ⟨_, _, _⟩) hbl]; exact e0
          have c1 : wr.cell? ⟨b, off + k * 2 + 1, none⟩ = some (.int .i64 m[k].ctr) := by rw [HB.out.cell (p := ⟨_, _, _⟩) hbl]; exact e1
          have hdl : ((m.take k).foldl withD (l.foldl withD [])).length ≤ 10000000 := by
            have h1 := foldl_withD_len (m.take k) (l.foldl withD [])
            have h2 := foldl_withD_len l []
            rw [List.length_take] at h1
            simp only [List.length_nil] at h2
            omega
          have HW := Lib.hid (r1With_any _ m[k] _ wr HROW.out (HDI2.out _ (List.getElem_mem hlt)) hdl)
          rw [← foldl_snoc withD _ m k hlt] at HW
          unfold dotV at HW
          obtain ⟨nxt, hnx⟩ : ∃ nxt, nxt = (m.take (k + 1)).foldl withD (l.foldl withD []) := ⟨_, rfl⟩
          have HNX := Lib.hid hnx
          rw [← hnx] at HW
          clear hnx
          generalize m[k] = d at *
          have a0 : (0 : Int) ≤ k := by omega
          have a1 : (k : Int) < m.length := by omega
          have hkw : IntKind.i64.wrap ((k : Int) + 1) = (k : Int) + 1 := by rw [IntKind.wrap_i64]; omega
          clear e0 e1 hdl
          go_wp2_with fail
          refine HW.out.mono ?_
          rintro e w2 ⟨v2, rfl, ha2, hb2⟩
          have HA2 := Lib.hid ha2
          have hbf := HB.out.trans (hb2.mono HB.out.size)
          clear c0 c1 ha2 hb2 HW
          go_wp2_with fail
          go_roundw
          case rel => exact ⟨k + 1, by omega, by go_num, by rw [← HNX.out]; exact HA2.out, hbf⟩
          case measure => simp [intOf]; omega
        · have hke : k = m.length := by omega
          have HF := HROW.out
          rw [hke, List.take_length, HU.out] at HF
          have HFF := Lib.hid HF
          clear HF HROW hke
          go_wp2_with fail
          go_ret
          exact ⟨_, rfl, HFF.out, HB.out⟩
set_option linter.unusedSimpArgs false in
set_option maxRecDepth 100000 in
set_option maxHeartbeats 8000000 in
theorem r9Dots_any (l : List ItemD) (v : Value) (w : World) (h : Arr ItemR 2 w v l) (hl : Lt l) : Calls Tryz.prog 17 #[v] w fun e w' => ∃ v', e = .returned v' ∧ Arr DotR 2 w' v' (setD (allDots l)) ∧ Below w.heap.size w w' := by
  have hn := h.len
  have HLT := Lib.hid hl
  obtain ⟨o, c, rfl, hel⟩ := h.itemAt
  have HEL := Lib.hid hel
  clear hel h hl
  go_enter Tryz.func17, Tryz.ntmps17
  go_wp2_with fail
  go_loopw [3, 4] (fun ov i wr => ∃ k : Nat, k ≤ l.length ∧ i = .int .i64 k ∧ Arr DotR 2 wr ov (setD (allDots (l.take k))) ∧ Below w.heap.size w wr) (fun _ i _ => l.length - (intOf i).toNat)
  case atStart =>
    have e : setD (allDots (l.take 0)) = [] := List.eq_nil_iff_forall_not_mem.2 (fun x hx => by rw [setD_mem, List.take_zero] at hx; simp [allDots] at hx)
    exact ⟨0, Nat.zero_le _, rfl, by rw [e]; exact ⟨none, 0, rfl, Nat.le_refl _, Nat.zero_le _, fun i hi => absurd hi (Nat.not_lt_zero i)⟩, Below.refl _ _⟩
  case round =>
    obtain ⟨k, hk, rfl, hrow, hB⟩ := hrel
    have HROW := Lib.hid hrow
    have HB := Lib.hid hB
    clear hrow hB
    by_cases hlt : k < l.length
    · obtain ⟨b, off, mv, rfl, hbl, e0, e1, -, hmk⟩ := HEL.out k hlt
      obtain ⟨mo, mc, rfl, -⟩ := id hmk
      have c1 : wr.cell? ⟨b, off + k * 2 + 1, none⟩ = some (.slice mo l[k].marks.length mc) := by rw [HB.out.cell (p := ⟨_, _, _⟩) hbl]; exact e1
      have hlm : l[k].marks.length ≤ 1000 := HLT.out.2 _ (List.getElem_mem hlt)
      have HQD := Lib.hid (r8Dots_any l[k].marks _ wr (hmk.marks HB.out) (by omega))
      have HDI : Hid (∀ e ∈ dotsM l[k].marks, DI e) := Lib.hid (fun e he => by
        obtain ⟨m, hm, rfl⟩ := List.mem_map.1 he
        exact (hmk.marksI m hm).1)
      have HNX : Hid (unionD (setD (allDots (l.take k))) (dotsM l[k].marks) = setD (allDots (l.take (k + 1)))) := Lib.hid (by
        rw [unionD_setD, List.take_succ_eq_append_getElem hlt, allDots_append]
        simp [allDots])
      have hsl : (setD (allDots (l.take k))).length ≤ 1000000 := Nat.le_trans (setD_le _) (Nat.le_trans (allDots_take_len l k) HLT.out.dots)
      obtain ⟨cur, hcur⟩ : ∃ cur, cur = setD (allDots (l.take k)) := ⟨_, rfl⟩
      rw [← hcur] at HROW HNX hsl
      generalize l[k].marks = ms at *
      have a0 : (0 : Int) ≤ k := by omega
      have a1 : (k : Int) < l.length := by omega
      have hkw : IntKind.i64.wrap ((k : Int) + 1) = (k : Int) + 1 := by rw [IntKind.wrap_i64]; omega
      clear e0 e1 hmk hcur
      go_wp2_with fail
      refine HQD.out.mono ?_
      rintro e w2 ⟨v2, rfl, hrow2, hb2⟩
      have hlen : (dotsM ms).length = ms.length := dotsM_len ms
      have HA2 := Lib.hid (Arr.of_dots (by rw [hlen]; exact hrow2) HDI.out)
      have HB2 := Lib.hid (HB.out.trans (hb2.mono HB.out.size))
      have HUN := Lib.hid (r1Union_any cur (dotsM ms) _ v2 w2 (HROW.out.dots hb2) HA2.out hsl (by omega))
      rw [HNX.out] at HUN
      clear c1 hrow2 hb2 HQD hlen
      go_wp2_with fail
      refine HUN.out.mono ?_
      rintro e w3 ⟨v3, rfl, ha3, hb3⟩
      have HA3 := Lib.hid ha3
      have hbf := HB2.out.trans (hb3.mono HB2.out.size)
      clear ha3 hb3 HUN
      go_wp2_with fail
      go_roundw
      case rel => exact ⟨k + 1, by omega, by go_num, HA3.out, hbf⟩
      case measure => simp [intOf]; omega
    · have hke : k = l.length := by omega
      have HF := HROW.out
      rw [hke, List.take_length] at HF
      have HFF := Lib.hid HF
      clear HF HROW hke
      go_wp2_with fail
      go_ret
      exact ⟨_, rfl, HFF.out, HB.out⟩
end Go.Proofs.YtjlhdgmcaiiagaaGreatDoor
