/- dot.Set: the set of a list. -/
import Derived.Test.YtjlhdgmcaiiagaaGreatDoorSet2
namespace Go.Proofs.YtjlhdgmcaiiagaaGreatDoor
open Go.RowKit Go.Maps Go.Sort Go.Shelf

instance : Inhabited DotD := ⟨⟨0, 0⟩⟩
theorem ltOf_dcmp : ltOf dcmp = dlt := by funext x y; exact dcmp_lt x y
theorem swoD : SWO (ltOf dcmp) where
  irrefl x := by rw [ltOf_dcmp]; exact dlt_irrefl x
  trans x y z h k := by rw [ltOf_dcmp] at *; exact dlt_trans h k
  ntrans x y z h k := by
    rw [ltOf_dcmp] at *
    rw [← Bool.not_eq_true, dlt_iff] at *
    omega
theorem cmpLaysD (g off n : Nat) (w : World) : CmpLays Tryz.prog 68 #[] encD 2 dcmp g off n w :=
  fun _ _ _ _ x y => dotCompare_any x y _
theorem heap_sorted {w : World} {g : Nat} {C : Array Value} {T : TypeId} {fz : Nat × Nat} (h : w.heap[g]? = some (.cells C T fz)) {α : Type} [Inhabited α] (enc : α → List Value) (k n off : Nat) (d : Array α) (os : Array Obj) :
    (sortWorldK enc k w g off n d os).heap[g]? = some (.cells (putCells id off (flatK enc k d) C) T fz) ∧ ∀ B w0, B ≤ g → Below B w0 w → Below B w0 (sortWorldK enc k w g off n d os) := by
  have hg := lt_of_heap h
  have hh : (sortWorldK enc k w g off n d os).heap = (w.heap.modify g (onCells (putCells id off (flatK enc k d)))) ++ os := rfl
  refine ⟨?_, fun B w0 hB hb => ⟨hb.os, hb.tape, hb.output, ?_, fun j hj => ?_⟩⟩
  · rw [hh, Array.getElem?_append_left (by simpa using hg), Array.getElem?_modify, if_pos rfl, h]
    rfl
  · rw [hh]; have := hb.size; simp; omega
  · have hjw : j < w.heap.size := by omega
    rw [hh, Array.getElem?_append_left (by simpa using hjw), Array.getElem?_modify, if_neg (by omega)]
    exact hb.block j hj
theorem DotsIn.sorted {w : World} {g cap : Nat} {d : List DotD} (h : DotsIn w g cap d) (d2 : List DotD) (hl : d2.length = d.length) (n : Nat) (os : Array Obj) :
    DotsIn (sortWorldK encD 2 w g 0 n d2.toArray os) g cap d2 := by
  obtain ⟨C, h1, h2, h3, h4, h5⟩ := h
  refine ⟨_, (heap_sorted h1 encD 2 n 0 d2.toArray os).1, by simp [putCells, h2], by omega, h4, fun i hi j hj => ?_⟩
  unfold putCells
  rw [Array.getElem?_mapIdx, Array.getElem?_eq_getElem (by omega)]
  simp only [Option.map_some]
  rw [if_pos ⟨Nat.zero_le _, by simp; omega⟩]
  rw [Nat.sub_zero, id, get_flatK _ _ _ _ (by simp; omega), show (i * 2 + j) / 2 = i by omega, show (i * 2 + j) % 2 = j by omega]
  have e : d2.toArray[i]! = d2[i] := by rw [getElem!_pos d2.toArray i (by simpa using hi)]; simp
  rw [e]
  have : j = 0 ∨ j = 1 := by omega
  rcases this with rfl | rfl <;> rfl
theorem DotsIn.holds {w : World} {g cap : Nat} {d : List DotD} (h : DotsIn w g cap d) : HoldsK encD 2 w g 0 d.toArray := by
  have h0 := h
  obtain ⟨C, h1, h2, h3, h4, h5⟩ := h
  intro t ht
  rw [size_flatK] at ht
  have hi : t / 2 < d.length := by simp at ht; omega
  have e : d.toArray[t / 2]! = d[t / 2] := by rw [getElem!_pos d.toArray (t / 2) (by simpa using hi)]; simp
  refine ⟨?_, h0.froz _⟩
  rw [cell0 h1, Nat.zero_add, get_flatK _ _ _ _ ht, e, show C[t]? = C[t / 2 * 2 + t % 2]? by rw [show t / 2 * 2 + t % 2 = t by omega], h5 (t / 2) hi (t % 2) (by omega)]
  have : t % 2 = 0 ∨ t % 2 = 1 := by omega
  rcases this with h | h <;> rw [h] <;> rfl

theorem sortDots_any (g cap : Nat) (l : List DotD) (w : World) (h : DotsIn w g cap l) (hl : l.length ≤ 10000000) :
    Calls Tryz.prog 67 #[.slice (some ⟨g, 0, none⟩) l.length cap, .func (.func 68) #[] #[]] w fun e w' => e = .returned (.tuple #[]) ∧ DotsIn w' g cap (sortD l) ∧ ∀ B w0, B ≤ g → Below B w0 w → Below B w0 w' := by
  have eg : ∀ args w, (callFunc 68 args).run Tryz.prog w = .ok (.enter 68 args) w := enters_of Tryz.func68 (by kernel_rfl) rfl
  obtain ⟨C, h1, _⟩ := id h
  have hcon := AnyQ.slices_SortFunc_total Tryz.sortDot 2 Tryz.isAgg24 Tryz.sizeOf24 encD (fun _ => rfl) (fun x => encD_one x) dcmp swoD 68 #[] g 0 cap l.toArray w eg (cmpLaysD g 0 l.toArray.size w) h.holds (lt_of_heap h1) (by simp; omega) (fun x y a b => by rw [ltOf_dcmp] at a b; exact dlt_total a b)
  change Calls Tryz.prog 67 _ _ _ at hcon
  have e : (l.toArray.toList.mergeSort fun x y => !ltOf dcmp y x).toArray = (sortD l).toArray := by rw [ltOf_dcmp]; rfl
  rw [e] at hcon
  refine hcon.mono fun _ _ ⟨he, n, os, hw⟩ => ⟨he, ?_, ?_⟩
  · rw [hw]; exact h.sorted (sortD l) (List.mergeSort_perm l _).length_eq n os
  · rw [hw]; exact (heap_sorted h1 encD 2 n 0 (sortD l).toArray os).2

theorem addr_add (b off j : Nat) : (⟨b, off, none⟩ : Addr).add j = ⟨b, off + j, none⟩ := by
  unfold Addr.add
  split
  · rename_i h; rw [h]; rfl
  · rfl
theorem Arr.srcD {w : World} {v : Value} {l : List DotD} (h : Arr DotR 2 w v l) (hn : l ≠ []) : SrcIs w v l.length (flatD l) := by
  obtain ⟨o, c, rfl, hel⟩ := h.dotAt
  obtain ⟨b, off, rfl, hb, _⟩ := hel 0 (List.length_pos_iff.2 hn)
  refine Or.inr ⟨_, _, rfl, fun j u hj => ?_⟩
  have hjl : j < l.length * 2 := by
    rcases Nat.lt_or_ge j (l.length * 2) with h | h
    · exact h
    · rw [List.getElem?_eq_none (by rw [flatD_len]; exact h)] at hj; cases hj
  have e : j = j / 2 * 2 + j % 2 := by omega
  rw [addr_add]
  rw [e, flatD_get l (j / 2) (by omega) (j % 2) (by omega)] at hj
  obtain ⟨b', off', he, _, e0, e1⟩ := hel (j / 2) (by omega)
  cases he
  have : j % 2 = 0 ∨ j % 2 = 1 := by omega
  rcases this with h | h
  · rw [e, h, Nat.add_zero]; rw [h] at hj; rw [e0]; exact hj
  · rw [e, h, ← Nat.add_assoc]; rw [h] at hj; rw [e1]; exact hj

set_option maxRecDepth 100000 in
set_option maxHeartbeats 2000000 in
theorem cloneDots_any (l : List DotD) (v : Value) (w : World) (h : Arr DotR 2 w v l) (hl : l.length ≤ 1000000) : Calls Tryz.prog 66 #[v] w fun e w' => ∃ v', e = .returned v' ∧ w'.ownsRow w.heap.size 24 2 v' l.length (flatD l) ∧ Below w.heap.size w w' := by
  obtain ⟨i0, hi0, hz0, hz1, hz2⟩ := info_parts infoDot
  have HI := Lib.hid (And.intro hi0 (And.intro hz0 (And.intro hz1 hz2)))
  clear hi0 hz0 hz1 hz2
  obtain ⟨a, cap, rfl, -⟩ := id h
  cases a with
  | none =>
    have hle : l = [] := by
      rcases l with _ | ⟨x, l⟩
      · rfl
      · obtain ⟨o, c, he, hel⟩ := h.dotAt
        obtain ⟨b, off, h1, _⟩ := hel 0 (by simp)
        cases he
        cases h1
    subst hle
    clear h
    have hnil : ∀ W, (binOp .eql 37 (.slice none 0 cap) (.slice none 0 0)).run Tryz.prog W = .ok (.bool true) W := fun W => Lib.run_eql_slice_nil_nil W _ _ Tryz.underlying37
    go_enter Tryz.func66, Tryz.ntmps66
    go_wp2_with fail
    go_ret
    exact ⟨_, rfl, World.ownsRow_nil _ _ _ _, Below.refl _ _⟩
  | some a =>
    have HS := Lib.hid (show SrcIs (w.alloc (.cells #[] 24)) (.slice (some a) l.length cap) l.length (flatD l) from by
      by_cases hn : l = []
      · subst hn
        exact Or.inr ⟨a, cap, rfl, fun j u hj => by simp [flatD] at hj⟩
      · exact (h.dots ((Below.refl _ _).alloc (Nat.le_refl _) _)).srcD hn)
    have HE0 : Hid ((w.alloc (.cells #[] 24)).ownsRow w.heap.size 24 2 (.slice (some ⟨w.heap.size, 0, none⟩) 0 0) 0 []) := Lib.hid ⟨rfl, Or.inr ⟨w.heap.size, 0, #[], rfl, Nat.le_refl _, alloc_new _ _, Nat.le_refl _, by unfold maxLen; omega, rfl, rfl⟩⟩
    clear h
    have hnil : ∀ W, (binOp .eql 37 (.slice (some a) l.length cap) (.slice none 0 0)).run Tryz.prog W = .ok (.bool false) W := fun W => Lib.run_eql_slice_some_nil W _ _ _ Tryz.underlying37
    go_enter Tryz.func66, Tryz.ntmps66
    go_wp2_with (at_builtin; refine wpList_append_src rfl _ _ 37 rfl w.heap.size 24 i0 (.agg #[.int .i64 0, .int .i64 0]) 2 16 Tryz.underlying37 HI.out.1 HI.out.2.1 HI.out.2.2.1 HI.out.2.2.2 rfl (by decide) (.slice (some ⟨w.heap.size, 0, none⟩) 0 0) 0 [] rfl HE0.out _ _ _ rfl HS.out (flatD_len l) (flatD_one l) (by unfold maxLen; omega) (by omega) (by simp) ?_; intro v8 w8 hown8 hgr8 _)
    rw [Nat.zero_add, List.nil_append] at hown8
    go_ret
    exact ⟨_, rfl, hown8, ((Below.refl _ _).alloc (Nat.le_refl _) _).grown hgr8 (by simp) (by intro k hk; simp [Value.ownBlock] at hk; omega)⟩

set_option maxRecDepth 100000 in
set_option maxHeartbeats 2000000 in
theorem dotSet_any (l : List DotD) (v : Value) (w : World) (h : Arr DotR 2 w v l) (hl : l.length ≤ 1000000) : Calls Tryz.prog 41 #[v] w fun e w' => ∃ v', e = .returned v' ∧ w'.ownsRow w.heap.size 24 2 v' (setD l).length (flatD (setD l)) ∧ Below w.heap.size w w' := by
  have HC := Lib.hid (cloneDots_any l v w h hl)
  have HSL : Hid ((sortD l).length = l.length) := Lib.hid (List.mergeSort_perm l _).length_eq
  clear h
  go_enter Tryz.func41, Tryz.ntmps41
  go_wp2_with fail
  refine HC.out.mono ?_
  rintro e w1 ⟨v1, rfl, hrow, hb1⟩
  have HB1 := Lib.hid hb1
  clear hb1
  obtain ⟨a, c, rfl⟩ := owns_slice hrow
  by_cases hn : l = []
  · subst hn
    have HROW := Lib.hid hrow
    have HNO := Lib.hid (fun fv wz => AnyF.slices_SortFunc_none Tryz.sortDot a c fv wz)
    change Hid (∀ fv wz, Calls Tryz.prog 67 _ _ _) at HNO
    clear hrow
    go_wp2_with fail
    refine (HNO.out _ _).mono ?_
    rintro e w2 ⟨rfl, rfl⟩
    have HK := Lib.hid (compact_any [] _ _ _ HROW.out)
    go_wp2_with fail
    refine HK.out.mono ?_
    rintro e w3 ⟨v3, rfl, hrow3, hb3⟩
    go_wp2_with fail
    go_ret
    have hs : setD ([] : List DotD) = compactD [] := by simp [setD, sortD]
    exact ⟨_, rfl, by rw [hs]; exact hrow3, HB1.out.trans hb3⟩
  · obtain ⟨g, rfl⟩ : ∃ g, a = some ⟨g, 0, none⟩ := by
      obtain ⟨_, ⟨hv, h0⟩ | ⟨g, cap, cur, hv, _⟩⟩ := hrow
      · exact absurd (List.eq_nil_of_length_eq_zero h0) hn
      · cases hv; exact ⟨g, rfl⟩
    obtain ⟨hin, hgb, _⟩ := DotsIn.of_own hrow
    have HS := Lib.hid (sortDots_any g c l w1 hin (by omega))
    clear hrow hin hn
    go_wp2_with fail
    refine HS.out.mono ?_
    rintro e w2 ⟨rfl, hin2, hb2⟩
    have HB2 := Lib.hid (hb2 _ _ hgb HB1.out)
    have hrow2 := hin2.own hgb
    have HK := Lib.hid (compact_any (sortD l) _ _ _ hrow2)
    rw [HSL.out] at HK
    clear hin2 hb2 hrow2
    go_wp2_with fail
    refine HK.out.mono ?_
    rintro e w3 ⟨v3, rfl, hrow3, hb3⟩
    go_wp2_with fail
    go_ret
    exact ⟨_, rfl, hrow3, HB2.out.trans hb3⟩
end Go.Proofs.YtjlhdgmcaiiagaaGreatDoor
