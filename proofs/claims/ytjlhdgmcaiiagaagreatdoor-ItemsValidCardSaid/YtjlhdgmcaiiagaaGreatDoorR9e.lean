/- The reference's One: whether an item is valid. -/
import Derived.Test.YtjlhdgmcaiiagaaGreatDoorR9
import Derived.Test.YtjlhdgmcaiiagaaGreatDoorIt10
import Derived.Test.YtjlhdgmcaiiagaaGreatDoorR7
namespace Go.Proofs.YtjlhdgmcaiiagaaGreatDoor
open Go.RowKit Go.Maps

theorem lt_append_left (l x y : List UInt8) : l ++ x < l ++ y ↔ x < y := by
  induction l with
  | nil => exact Iff.rfl
  | cons a l ih =>
    rw [List.cons_append, List.cons_append, List.cons_lt_cons_iff, ih]
    constructor
    · rintro (h | h)
      · exact absurd h (UInt8.lt_irrefl a)
      · exact h.2
    · exact fun h => Or.inr ⟨rfl, h⟩
theorem getB (a : ByteArray) (k : Nat) (h : k < a.size) : a.data.toList[k]'(by simpa using h) = a[k] := rfl
theorem ltK_drop {a b : ByteArray} {k : Nat} (h : a.data.toList.take k = b.data.toList.take k) : ltK a b ↔ a.data.toList.drop k < b.data.toList.drop k := by
  unfold ltK
  have e1 : a.data.toList = a.data.toList.take k ++ a.data.toList.drop k := (List.take_append_drop _ _).symm
  have e2 : b.data.toList = a.data.toList.take k ++ b.data.toList.drop k := by rw [h]; exact (List.take_append_drop _ _).symm
  conv => lhs; rw [e1, e2]
  exact lt_append_left _ _ _
set_option maxRecDepth 100000 in
set_option maxHeartbeats 2000000 in
theorem r9before_any (a b : ByteArray) (w : World) (ha : a.size ≤ maxLen) : Calls Tryz.prog 49 #[.string a, .string b] w fun e w' => e = .returned (.bool (decide (ltK a b))) ∧ Below w.heap.size w w' := by
  unfold maxLen at ha
  go_enter Tryz.func49, Tryz.ntmps49
  go_wp2_with fail
  go_loopw [5] (fun i wr => ∃ k : Nat, k ≤ a.size ∧ k ≤ b.size ∧ i = .int .i64 k ∧ a.data.toList.take k = b.data.toList.take k ∧ Below w.heap.size w wr) (fun i _ => a.size - (intOf i).toNat)
  case atStart => exact ⟨0, Nat.zero_le _, Nat.zero_le _, rfl, by simp, Below.refl _ _⟩
  case round =>
    obtain ⟨k, hka, hkb, rfl, htk, hB⟩ := hrel
    by_cases hla : k < a.size
    · by_cases hlb : k < b.size
      · have a0 : (0 : Int) ≤ k := by omega
        have a1 : (k : Int) < a.size := by omega
        have a2 : (k : Int) < b.size := by omega
        have hla' : k < a.data.toList.length := by simpa using hla
        have hlb' : k < b.data.toList.length := by simpa using hlb
        have HB := Lib.hid hB
        have HEQ : Hid (a[k] = b[k] → a.data.toList.take (k + 1) = b.data.toList.take (k + 1)) := Lib.hid (fun h => take_snoc_eq hla' hlb' htk h)
        have HLT : Hid (a[k] ≠ b[k] → decide (ltK a b) = decide (a[k].toNat < b[k].toNat)) := Lib.hid (fun h => by
          congr 1
          apply propext
          rw [ltK_drop htk, List.drop_eq_getElem_cons hla', List.drop_eq_getElem_cons hlb', List.cons_lt_cons_iff, getB a k hla, getB b k hlb]
          constructor
          · rintro (h1 | h1)
            · have := UInt8.lt_iff_toNat_lt.1 h1; omega
            · exact absurd h1.1 h
          · intro h1
            exact Or.inl (UInt8.lt_iff_toNat_lt.2 (by omega)))
        have hkw : IntKind.i64.wrap ((k : Int) + 1) = (k : Int) + 1 := by rw [IntKind.wrap_i64]; omega
        clear htk hB
        by_cases he : a[k] = b[k]
        · have HF := Lib.hid (HEQ.out he)
          have t1 : ((a[k].toNat : Int) != b[k].toNat) = false := by rw [he]; simp
          have t2 : ((a[k].toNat : Int) == b[k].toNat) = true := by rw [he]; simp
          clear he HEQ HLT
          go_upto_region 4 with fail
          go_quiet (fail)
          go_wp2_with fail
          go_roundw
          case rel => exact ⟨k + 1, by omega, by omega, by go_num, HF.out, below_drewN _ HB.out⟩
          case measure => simp [intOf]; omega
        · have HF := Lib.hid (HLT.out he)
          have hne : ¬ ((a[k].toNat : Int) = b[k].toNat) := fun h => he (UInt8.toNat_inj.1 (by omega))
          have t1 : ((a[k].toNat : Int) != b[k].toNat) = true := by simpa using hne
          have t2 : ((a[k].toNat : Int) == b[k].toNat) = false := by simpa using hne
          clear he HEQ HLT hne
          go_upto_region 4 with fail
          go_quiet (fail)
          go_upto_region 5 with fail
          go_quiet (fail)
          go_wp2_with fail
          go_ret
          exact ⟨by rw [HF.out]; rfl, below_drewN _ (below_drewN _ HB.out)⟩
      · have hkb2 : k = b.size := by omega
        have HF : Hid (decide (ltK a b) = decide (a.size < b.size)) := Lib.hid (by
          congr 1
          apply propext
          rw [ltK_drop htk, show b.data.toList.drop k = [] from List.drop_eq_nil_of_le (by simp; omega)]
          exact ⟨fun h => absurd h (List.not_lt_nil _), fun h => by omega⟩)
        have a2 : ¬ (k : Int) < b.size := by omega
        have a1 : (k : Int) < a.size := by omega
        clear htk
        go_wp2_with fail
        go_ret
        exact ⟨by rw [HF.out]; rfl, hB⟩
    · have hka2 : k = a.size := by omega
      have HF : Hid (decide (ltK a b) = decide (a.size < b.size)) := Lib.hid (by
        congr 1
        apply propext
        rw [ltK_drop htk, show a.data.toList.drop k = [] from List.drop_eq_nil_of_le (by simp; omega)]
        cases e : b.data.toList.drop k with
        | nil =>
          have := congrArg List.length e
          simp at this
          exact ⟨fun h => absurd h (List.not_lt_nil _), fun h => by omega⟩
        | cons c l =>
          have := congrArg List.length e
          simp at this
          exact ⟨fun _ => by omega, fun _ => List.nil_lt_cons _ _⟩)
      have a1 : ¬ (k : Int) < a.size := by omega
      clear htk
      go_wp2_with fail
      go_ret
      exact ⟨by rw [HF.out]; rfl, hB⟩
end Go.Proofs.YtjlhdgmcaiiagaaGreatDoor
namespace Go.Proofs.YtjlhdgmcaiiagaaGreatDoor
open Go.RowKit Go.Maps

theorem dotsM_get (ms : List MarkD) (k : Nat) (h : k < ms.length) : (dotsM ms)[k]'(by rw [dotsM_len]; exact h) = ms[k].dot := by simp [dotsM]
set_option maxRecDepth 100000 in
set_option maxHeartbeats 2000000 in
theorem r9has_any (x : ItemD) (d : DotD) (mv : Value) (w : World) (h : Arr MarkR 4 w mv x.marks) : Calls Tryz.prog 39 #[.agg #[.string x.name, mv], dotV d] w fun e w' => e = .returned (.bool (decide (d ∈ dotsM x.marks))) ∧ Below w.heap.size w w' := by
  have hn := h.len
  obtain ⟨o, c, rfl, hel⟩ := h.markAt
  have HEL := Lib.hid hel
  have HEQ := Lib.hid (fun x y wz => eqDot x y wz)
  obtain ⟨W1, hW1⟩ : ∃ W1, W1 = (w.alloc (.cells #[.string x.name, .slice o x.marks.length c] 31)).alloc (.cells #[.int .i64 d.rep, .int .i64 d.ctr] 24) := ⟨_, rfl⟩
  have hb1 : Below w.heap.size w W1 := by rw [hW1]; exact ((Below.refl _ _).alloc (Nat.le_refl _) _).alloc (by simp) _
  have hg0 : W1.heap[w.heap.size]? = some (.cells #[.string x.name, .slice o x.marks.length c] 31) := by rw [hW1, alloc_old _ _ (by simp)]; exact alloc_new _ _
  have hg1 : W1.heap[w.heap.size + 1]? = some (.cells #[.int .i64 d.rep, .int .i64 d.ctr] 24) := by
    rw [hW1]
    have := alloc_new (w.alloc (.cells #[.string x.name, .slice o x.marks.length c] 31)) (.cells #[.int .i64 d.rep, .int .i64 d.ctr] 24)
    rw [alloc_size] at this
    exact this
  have HC : Hid (∀ wz, Below W1.heap.size W1 wz → wz.cell? ⟨w.heap.size, 1, none⟩ = some (.slice o x.marks.length c) ∧ wz.cell? ⟨w.heap.size + 1, 0, none⟩ = some (.int .i64 d.rep) ∧ wz.cell? ⟨w.heap.size + 1, 1, none⟩ = some (.int .i64 d.ctr)) := Lib.hid (fun wz hz => ⟨by rw [hz.cell (p := ⟨w.heap.size, 1, none⟩) (lt_of_heap hg0), cell0 hg0 1]; rfl, by rw [hz.cell (p := ⟨w.heap.size + 1, 0, none⟩) (lt_of_heap hg1), cell0 hg1 0]; rfl, by rw [hz.cell (p := ⟨w.heap.size + 1, 1, none⟩) (lt_of_heap hg1), cell0 hg1 1]; rfl⟩)
  have HB1 := Lib.hid hb1
  have HW := Lib.hid hW1
  clear hel h hg0 hg1 hb1 hW1
  unfold dotV
  go_enter Tryz.func39, Tryz.ntmps39
  go_wp2_with fail
  rw [← HW.out]
  go_loopw [5] (fun i wr => ∃ k : Nat, k ≤ x.marks.length ∧ i = .int .i64 k ∧ d ∉ (dotsM x.marks).take k ∧ Below W1.heap.size W1 wr) (fun i _ => x.marks.length - (intOf i).toNat)
  case atStart => exact ⟨0, Nat.zero_le _, rfl, by simp, Below.refl _ _⟩
  case round =>
    obtain ⟨k, hk, rfl, hnot, hB⟩ := hrel
    have HNOT := Lib.hid hnot
    have HB := Lib.hid hB
    clear hnot hB
    obtain ⟨x1, d0, d1⟩ := HC.out wr HB.out
    by_cases hlt : k < x.marks.length
    · obtain ⟨b, off, rfl, hbl, e0, e1, e2, e3, -⟩ := HEL.out k hlt
      have hbl1 : b < W1.heap.size := Nat.lt_of_lt_of_le hbl HB1.out.size
      have hlt' : k < (dotsM x.marks).length := by rw [dotsM_len]; exact hlt
      have HTK : Hid ((dotsM x.marks).take (k + 1) = (dotsM x.marks).take k ++ [x.marks[k].dot]) := Lib.hid (by rw [List.take_succ_eq_append_getElem hlt', dotsM_get _ _ hlt])
      have HMEM : Hid (x.marks[k].dot ∈ dotsM x.marks) := Lib.hid (List.mem_map_of_mem (List.getElem_mem hlt))
      have c0 : wr.cell? ⟨b, off + k * 4, none⟩ = some (.int .i64 x.marks[k].dot.rep) := by rw [HB.out.cell (p := ⟨_, _, _⟩) hbl1, HB1.out.cell (p := ⟨_, _, _⟩) hbl]; exact e0
      have c1 : wr.cell? ⟨b, off + k * 4 + 1, none⟩ = some (.int .i64 x.marks[k].dot.ctr) := by rw [HB.out.cell (p := ⟨_, _, _⟩) hbl1, HB1.out.cell (p := ⟨_, _, _⟩) hbl]; exact e1
      generalize x.marks[k].dot = y at *
      have heq : ∀ wz : World, Sem.run Tryz.prog (binOp .eql 24 (.agg #[.int .i64 y.rep, .int .i64 y.ctr]) (.agg #[.int .i64 d.rep, .int .i64 d.ctr])) wz = .ok (.bool (decide (y = d))) wz := fun wz => HEQ.out y d wz
      have hgd : ∀ (op : BinOp) (a b : Operand) (wz : World), Sem.run Tryz.prog (eqGuard op 24 a b (.agg #[.int .i64 y.rep, .int .i64 y.ctr]) (.agg #[.int .i64 d.rep, .int .i64 d.ctr])) wz = .ok () wz := fun op a b wz => guardDot op a b y d wz
      have a0 : (0 : Int) ≤ k := by omega
      have a1 : (k : Int) < x.marks.length := by omega
      have hkw : IntKind.i64.wrap ((k : Int) + 1) = (k : Int) + 1 := by rw [IntKind.wrap_i64]; omega
      clear e0 e1 e2 e3 HEQ HW hlt'
      by_cases hxy : y = d
      · have hd : decide (y = d) = true := decide_eq_true hxy
        rw [hd] at heq
        have HF : Hid (decide (d ∈ dotsM x.marks) = true) := Lib.hid (decide_eq_true (hxy ▸ HMEM.out))
        clear HMEM HTK HNOT hxy hd
        go_upto_region 4 with fail
        go_quiet (fail)
        go_wp2_with fail
        go_ret
        exact ⟨by rw [HF.out]; rfl, below_drewN _ (HB1.out.trans (HB.out.mono HB1.out.size))⟩
      · have hd : decide (y = d) = false := decide_eq_false hxy
        rw [hd] at heq
        have HF : Hid (d ∉ (dotsM x.marks).take (k + 1)) := Lib.hid (by rw [HTK.out, List.mem_append, List.mem_singleton]; exact fun h => h.elim HNOT.out (fun e => hxy e.symm))
        clear HMEM HTK HNOT hxy hd
        go_upto_region 4 with fail
        go_quiet (fail)
        go_wp2_with fail
        go_roundw
        case rel => exact ⟨k + 1, by omega, by go_num, HF.out, below_drewN _ HB.out⟩
        case measure => simp [intOf]; omega
    · have hke : k = x.marks.length := by omega
      have HF : Hid (decide (d ∈ dotsM x.marks) = false) := Lib.hid (decide_eq_false (by have := HNOT.out; rw [hke, ← dotsM_len, List.take_length] at this; exact this))
      clear HNOT
      go_wp2_with fail
      go_ret
      exact ⟨by rw [HF.out]; rfl, HB1.out.trans (HB.out.mono HB1.out.size)⟩
end Go.Proofs.YtjlhdgmcaiiagaaGreatDoor
namespace Go.Proofs.YtjlhdgmcaiiagaaGreatDoor
open Go.RowKit Go.Maps

set_option linter.unusedSimpArgs false in
set_option maxRecDepth 100000 in
set_option maxHeartbeats 4000000 in
theorem r9Meet_any (x y : ItemD) (mv nv : Value) (w : World) (h : Arr MarkR 4 w mv x.marks) (h2 : Arr MarkR 4 w nv y.marks) : Calls Tryz.prog 50 #[.agg #[.string x.name, mv], .agg #[.string y.name, nv]] w fun e w' => e = .returned (.bool (meetB x y)) ∧ Below w.heap.size w w' := by
  have hn := h.len
  obtain ⟨o, c, rfl, hel⟩ := h.markAt
  obtain ⟨o2, c2, rfl, -⟩ := id h2
  have HEL := Lib.hid hel
  have HY := Lib.hid h2
  obtain ⟨W1, hW1⟩ : ∃ W1, W1 = (w.alloc (.cells #[.string x.name, .slice o x.marks.length c] 31)).alloc (.cells #[.string y.name, .slice o2 y.marks.length c2] 31) := ⟨_, rfl⟩
  have hb1 : Below w.heap.size w W1 := by rw [hW1]; exact ((Below.refl _ _).alloc (Nat.le_refl _) _).alloc (by simp) _
  have hg0 : W1.heap[w.heap.size]? = some (.cells #[.string x.name, .slice o x.marks.length c] 31) := by rw [hW1, alloc_old _ _ (by simp)]; exact alloc_new _ _
  have hg1 : W1.heap[w.heap.size + 1]? = some (.cells #[.string y.name, .slice o2 y.marks.length c2] 31) := by
    rw [hW1]
    have := alloc_new (w.alloc (.cells #[.string x.name, .slice o x.marks.length c] 31)) (.cells #[.string y.name, .slice o2 y.marks.length c2] 31)
    rw [alloc_size] at this
    exact this
  have HC : Hid (∀ wz, Below W1.heap.size W1 wz → wz.cell? ⟨w.heap.size, 1, none⟩ = some (.slice o x.marks.length c) ∧ wz.cell? ⟨w.heap.size + 1, 0, none⟩ = some (.string y.name) ∧ wz.cell? ⟨w.heap.size + 1, 1, none⟩ = some (.slice o2 y.marks.length c2)) := Lib.hid (fun wz hz => ⟨by rw [hz.cell (p := ⟨w.heap.size, 1, none⟩) (lt_of_heap hg0), cell0 hg0 1]; rfl, by rw [hz.cell (p := ⟨w.heap.size + 1, 0, none⟩) (lt_of_heap hg1), cell0 hg1 0]; rfl, by rw [hz.cell (p := ⟨w.heap.size + 1, 1, none⟩) (lt_of_heap hg1), cell0 hg1 1]; rfl⟩)
  have HB1 := Lib.hid hb1
  have HW := Lib.hid hW1
  have HE : Hid (meetB x y = (dotsM x.marks).any (fun d => decide (d ∈ dotsM y.marks))) := Lib.hid rfl
  clear hel h h2 hg0 hg1 hb1 hW1
  go_enter Tryz.func50, Tryz.ntmps50
  go_wp2_with fail
  rw [← HW.out]
  go_loopw [5] (fun i wr => ∃ k : Nat, k ≤ x.marks.length ∧ i = .int .i64 k ∧ ((dotsM x.marks).take k).any (fun d => decide (d ∈ dotsM y.marks)) = false ∧ Below W1.heap.size W1 wr) (fun i _ => x.marks.length - (intOf i).toNat)
  case atStart => exact ⟨0, Nat.zero_le _, rfl, by simp, Below.refl _ _⟩
  case round =>
    obtain ⟨k, hk, rfl, hall, hB⟩ := hrel
    have HALL := Lib.hid hall
    have HB := Lib.hid hB
    clear hall hB
    obtain ⟨x1, -, -⟩ := HC.out wr HB.out
    by_cases hlt : k < x.marks.length
    · obtain ⟨b, off, rfl, hbl, e0, e1, e2, e3, -⟩ := HEL.out k hlt
      have hbl1 : b < W1.heap.size := Nat.lt_of_lt_of_le hbl HB1.out.size
      have hlt' : k < (dotsM x.marks).length := by rw [dotsM_len]; exact hlt
      have HBW := Lib.hid (HB1.out.trans (HB.out.mono HB1.out.size))
      have HS : Hid (∀ w2, Below wr.heap.size wr w2 → w2.cell? ⟨w.heap.size, 1, none⟩ = some (.slice (some ⟨b, off, none⟩) x.marks.length c) ∧ (w2.cell? ⟨w.heap.size + 1, 0, none⟩ = some (.string y.name) ∧ w2.cell? ⟨w.heap.size + 1, 1, none⟩ = some (.slice o2 y.marks.length c2)) ∧ w2.cell? ⟨b, off + k * 4, none⟩ = some (.int .i64 x.marks[k].dot.rep) ∧ w2.cell? ⟨b, off + k * 4 + 1, none⟩ = some (.int .i64 x.marks[k].dot.ctr)) := Lib.hid (fun w2 h2 => by
        have h3 := HB.out.trans (h2.mono HB.out.size)
        have h4 := HC.out w2 h3
        have h5 := HB1.out.trans (h3.mono HB1.out.size)
        exact ⟨h4.1, h4.2, by rw [h5.cell (p := ⟨_, _, _⟩) hbl]; exact e0, by rw [h5.cell (p := ⟨_, _, _⟩) hbl]; exact e1⟩)
      have HST := Lib.hid (any_take_snoc (fun d => decide (d ∈ dotsM y.marks)) (dotsM x.marks) k hlt')
      have HBAD : Hid (decide (x.marks[k].dot ∈ dotsM y.marks) = true → meetB x y = true) := Lib.hid (fun h => by rw [HE.out]; exact List.any_eq_true.2 ⟨_, List.mem_map_of_mem (List.getElem_mem hlt), h⟩)
      rw [dotsM_get _ _ hlt] at HST
      have HH : Hid (Calls Tryz.prog 39 #[.agg #[.string y.name, .slice o2 y.marks.length c2], .agg #[.int .i64 x.marks[k].dot.rep, .int .i64 x.marks[k].dot.ctr]] wr.drew fun e w' => e = .returned (.bool (decide (x.marks[k].dot ∈ dotsM y.marks))) ∧ Below wr.heap.size wr w') := Lib.hid ((r9has_any y x.marks[k].dot _ wr.drew ((HY.out.marks HBW.out).marks (below_drew1 (Below.refl _ _)))).mono (fun _ _ ⟨a1, a2⟩ => ⟨a1, (below_drew1 (Below.refl _ _)).trans a2⟩))
      generalize x.marks[k].dot = d at *
      have a0 : (0 : Int) ≤ k := by omega
      have a1 : (k : Int) < x.marks.length := by omega
      have hkw : IntKind.i64.wrap ((k : Int) + 1) = (k : Int) + 1 := by rw [IntKind.wrap_i64]; omega
      clear e0 e1 e2 e3 HW hlt'
      obtain ⟨r, hr⟩ : ∃ r, r = decide (d ∈ dotsM y.marks) := ⟨_, rfl⟩
      rw [← hr] at HH HST HBAD
      clear hr
      cases r with
      | true =>
        have HF := Lib.hid (HBAD.out rfl)
        clear HST HBAD
        go_upto_region 4 with fail
        refine NQ.to ?_
        refine wp_region_held_drew (S := (fun w' => w'.cell? ⟨w.heap.size, 1, none⟩ = some (.slice (some ⟨b, off, none⟩) x.marks.length c) ∧ (w'.cell? ⟨w.heap.size + 1, 0, none⟩ = some (.string y.name) ∧ w'.cell? ⟨w.heap.size + 1, 1, none⟩ = some (.slice o2 y.marks.length c2)) ∧ w'.cell? ⟨b, off + k * 4, none⟩ = some (.int .i64 d.rep) ∧ w'.cell? ⟨b, off + k * 4 + 1, none⟩ = some (.int .i64 d.ctr))) (by kernel_rfl) (HS.out _ (below_drew1 (Below.refl _ _))) (fun hS => ?_)
        try simp only [Act.put, List.setIfInBounds_toArray, List.set_cons_succ, List.set_cons_zero, List.getElem_toArray, List.getElem_cons_succ, List.getElem_cons_zero]
        refine wpAnyH_take (i := 0) (v := .agg #[.string y.name, .slice o2 y.marks.length c2]) rfl (by decide +kernel) (by decide +kernel) (by decide +kernel) (fun _ _ _ h => h) (Or.inl ⟨by kernel_rfl, fun w hSw => by obtain ⟨f1, ⟨f2, f3⟩, f4, f5⟩ := hSw; go_simp⟩) hS ?_
        try simp only [Act.put, List.setIfInBounds_toArray, List.set_cons_succ, List.set_cons_zero, List.getElem_toArray, List.getElem_cons_succ, List.getElem_cons_zero]
        refine wpAnyH_take (i := 1) (v := .pointer (some ⟨w.heap.size, 1, none⟩)) rfl (by decide +kernel) (by decide +kernel) (by decide +kernel) (fun _ _ _ h => h) (Or.inl ⟨by kernel_rfl, fun w hSw => by go_simp⟩) hS ?_
        try simp only [Act.put, List.setIfInBounds_toArray, List.set_cons_succ, List.set_cons_zero, List.getElem_toArray, List.getElem_cons_succ, List.getElem_cons_zero]
        refine wpAnyH_take (i := 2) (v := .slice (some ⟨b, off, none⟩) x.marks.length c) rfl (by decide +kernel) (by decide +kernel) (by decide +kernel) (fun _ _ _ h => h) (Or.inl ⟨by kernel_rfl, fun w hSw => by obtain ⟨f1, ⟨f2, f3⟩, f4, f5⟩ := hSw; go_simp⟩) hS ?_
        try simp only [Act.put, List.setIfInBounds_toArray, List.set_cons_succ, List.set_cons_zero, List.getElem_toArray, List.getElem_cons_succ, List.getElem_cons_zero]
        refine wpAnyH_take (i := 3) (v := .int .i64 k) rfl (by decide +kernel) (by decide +kernel) (by decide +kernel) (fun _ _ _ h => h) (Or.inl ⟨by kernel_rfl, fun w hSw => by go_simp⟩) hS ?_
        try simp only [Act.put, List.setIfInBounds_toArray, List.set_cons_succ, List.set_cons_zero, List.getElem_toArray, List.getElem_cons_succ, List.getElem_cons_zero]
        refine wpAnyH_take (i := 4) (v := .pointer (some ⟨b, off + k * 4, none⟩)) rfl (by decide +kernel) (by decide +kernel) (by decide +kernel) (fun _ _ _ h => h) (Or.inl ⟨by kernel_rfl, fun w hSw => by go_simp⟩) hS ?_
        try simp only [Act.put, List.setIfInBounds_toArray, List.set_cons_succ, List.set_cons_zero, List.getElem_toArray, List.getElem_cons_succ, List.getElem_cons_zero]
        refine wpAnyH_take (i := 5) (v := .pointer (some ⟨b, off + k * 4, none⟩)) rfl (by decide +kernel) (by decide +kernel) (by decide +kernel) (fun _ _ _ h => h) (Or.inl ⟨by kernel_rfl, fun w hSw => by go_simp⟩) hS ?_
        try simp only [Act.put, List.setIfInBounds_toArray, List.set_cons_succ, List.set_cons_zero, List.getElem_toArray, List.getElem_cons_succ, List.getElem_cons_zero]
        refine wpAnyH_take (i := 6) (v := .agg #[.int .i64 d.rep, .int .i64 d.ctr]) rfl (by decide +kernel) (by decide +kernel) (by decide +kernel) (fun _ _ _ h => h) (Or.inl ⟨by kernel_rfl, fun w hSw => by obtain ⟨f1, ⟨f2, f3⟩, f4, f5⟩ := hSw; go_simp⟩) hS ?_
        try simp only [Act.put, List.setIfInBounds_toArray, List.set_cons_succ, List.set_cons_zero, List.getElem_toArray, List.getElem_cons_succ, List.getElem_cons_zero]
        refine wpAnyH_ready (rs := [7]) (by decide +kernel) (by simp) ?_
        refine (AllReadyH.cons rfl (fun K hK => ?_) AllReadyH.nil)
        go_simp
        go_at_call 39
        refine HH.out.mono ?_
        rintro e w2 ⟨rfl, hb2⟩
        go_simp
        refine Shut.out hK _ _ (HS.out w2 hb2) (fun hS2 => ?_)
        clear hK K hS
        have hS := hS2
        clear hS2
        try simp only [Act.put, List.setIfInBounds_toArray, List.set_cons_succ, List.set_cons_zero, List.getElem_toArray, List.getElem_cons_succ, List.getElem_cons_zero]
        refine wpAnyH_done (by kernel_rfl) ?_ _
        try simp only [Act.put, List.setIfInBounds_toArray, List.set_cons_succ, List.set_cons_zero, List.getElem_toArray, List.getElem_cons_succ, List.getElem_cons_zero]
        simp only [NQ]
        go_wp2_with fail
        go_ret
        exact ⟨by rw [HF.out]; rfl, HBW.out.trans (hb2.mono HBW.out.size)⟩
      | false =>
        have HF : Hid (((dotsM x.marks).take (k + 1)).any (fun d => decide (d ∈ dotsM y.marks)) = false) := Lib.hid (by rw [HST.out, HALL.out]; rfl)
        clear HST HBAD
        go_upto_region 4 with fail
        refine NQ.to ?_
        refine wp_region_held_drew (S := (fun w' => w'.cell? ⟨w.heap.size, 1, none⟩ = some (.slice (some ⟨b, off, none⟩) x.marks.length c) ∧ (w'.cell? ⟨w.heap.size + 1, 0, none⟩ = some (.string y.name) ∧ w'.cell? ⟨w.heap.size + 1, 1, none⟩ = some (.slice o2 y.marks.length c2)) ∧ w'.cell? ⟨b, off + k * 4, none⟩ = some (.int .i64 d.rep) ∧ w'.cell? ⟨b, off + k * 4 + 1, none⟩ = some (.int .i64 d.ctr))) (by kernel_rfl) (HS.out _ (below_drew1 (Below.refl _ _))) (fun hS => ?_)
        try simp only [Act.put, List.setIfInBounds_toArray, List.set_cons_succ, List.set_cons_zero, List.getElem_toArray, List.getElem_cons_succ, List.getElem_cons_zero]
        refine wpAnyH_take (i := 0) (v := .agg #[.string y.name, .slice o2 y.marks.length c2]) rfl (by decide +kernel) (by decide +kernel) (by decide +kernel) (fun _ _ _ h => h) (Or.inl ⟨by kernel_rfl, fun w hSw => by obtain ⟨f1, ⟨f2, f3⟩, f4, f5⟩ := hSw; go_simp⟩) hS ?_
        try simp only [Act.put, List.setIfInBounds_toArray, List.set_cons_succ, List.set_cons_zero, List.getElem_toArray, List.getElem_cons_succ, List.getElem_cons_zero]
        refine wpAnyH_take (i := 1) (v := .pointer (some ⟨w.heap.size, 1, none⟩)) rfl (by decide +kernel) (by decide +kernel) (by decide +kernel) (fun _ _ _ h => h) (Or.inl ⟨by kernel_rfl, fun w hSw => by go_simp⟩) hS ?_
        try simp only [Act.put, List.setIfInBounds_toArray, List.set_cons_succ, List.set_cons_zero, List.getElem_toArray, List.getElem_cons_succ, List.getElem_cons_zero]
        refine wpAnyH_take (i := 2) (v := .slice (some ⟨b, off, none⟩) x.marks.length c) rfl (by decide +kernel) (by decide +kernel) (by decide +kernel) (fun _ _ _ h => h) (Or.inl ⟨by kernel_rfl, fun w hSw => by obtain ⟨f1, ⟨f2, f3⟩, f4, f5⟩ := hSw; go_simp⟩) hS ?_
        try simp only [Act.put, List.setIfInBounds_toArray, List.set_cons_succ, List.set_cons_zero, List.getElem_toArray, List.getElem_cons_succ, List.getElem_cons_zero]
        refine wpAnyH_take (i := 3) (v := .int .i64 k) rfl (by decide +kernel) (by decide +kernel) (by decide +kernel) (fun _ _ _ h => h) (Or.inl ⟨by kernel_rfl, fun w hSw => by go_simp⟩) hS ?_
        try simp only [Act.put, List.setIfInBounds_toArray, List.set_cons_succ, List.set_cons_zero, List.getElem_toArray, List.getElem_cons_succ, List.getElem_cons_zero]
        refine wpAnyH_take (i := 4) (v := .pointer (some ⟨b, off + k * 4, none⟩)) rfl (by decide +kernel) (by decide +kernel) (by decide +kernel) (fun _ _ _ h => h) (Or.inl ⟨by kernel_rfl, fun w hSw => by go_simp⟩) hS ?_
        try simp only [Act.put, List.setIfInBounds_toArray, List.set_cons_succ, List.set_cons_zero, List.getElem_toArray, List.getElem_cons_succ, List.getElem_cons_zero]
        refine wpAnyH_take (i := 5) (v := .pointer (some ⟨b, off + k * 4, none⟩)) rfl (by decide +kernel) (by decide +kernel) (by decide +kernel) (fun _ _ _ h => h) (Or.inl ⟨by kernel_rfl, fun w hSw => by go_simp⟩) hS ?_
        try simp only [Act.put, List.setIfInBounds_toArray, List.set_cons_succ, List.set_cons_zero, List.getElem_toArray, List.getElem_cons_succ, List.getElem_cons_zero]
        refine wpAnyH_take (i := 6) (v := .agg #[.int .i64 d.rep, .int .i64 d.ctr]) rfl (by decide +kernel) (by decide +kernel) (by decide +kernel) (fun _ _ _ h => h) (Or.inl ⟨by kernel_rfl, fun w hSw => by obtain ⟨f1, ⟨f2, f3⟩, f4, f5⟩ := hSw; go_simp⟩) hS ?_
        try simp only [Act.put, List.setIfInBounds_toArray, List.set_cons_succ, List.set_cons_zero, List.getElem_toArray, List.getElem_cons_succ, List.getElem_cons_zero]
        refine wpAnyH_ready (rs := [7]) (by decide +kernel) (by simp) ?_
        refine (AllReadyH.cons rfl (fun K hK => ?_) AllReadyH.nil)
        go_simp
        go_at_call 39
        refine HH.out.mono ?_
        rintro e w2 ⟨rfl, hb2⟩
        go_simp
        refine Shut.out hK _ _ (HS.out w2 hb2) (fun hS2 => ?_)
        clear hK K hS
        have hS := hS2
        clear hS2
        try simp only [Act.put, List.setIfInBounds_toArray, List.set_cons_succ, List.set_cons_zero, List.getElem_toArray, List.getElem_cons_succ, List.getElem_cons_zero]
        refine wpAnyH_done (by kernel_rfl) ?_ _
        try simp only [Act.put, List.setIfInBounds_toArray, List.set_cons_succ, List.set_cons_zero, List.getElem_toArray, List.getElem_cons_succ, List.getElem_cons_zero]
        simp only [NQ]
        have hbf := HB.out.trans (hb2.mono HB.out.size)
        clear hb2 hS
        obtain ⟨z1, -, -⟩ := HC.out w2 hbf
        go_wp2_with fail
        go_roundw
        case rel => exact ⟨k + 1, by omega, by go_num, HF.out, hbf⟩
        case measure => simp [intOf]; omega
    · have hke : k = x.marks.length := by omega
      have HF : Hid (meetB x y = false) := Lib.hid (by have := HALL.out; rw [hke, ← dotsM_len, List.take_length] at this; rw [HE.out]; exact this)
      clear HALL
      go_wp2_with fail
      go_ret
      exact ⟨by rw [HF.out]; rfl, HB1.out.trans (HB.out.mono HB1.out.size)⟩
end Go.Proofs.YtjlhdgmcaiiagaaGreatDoor
namespace Go.Proofs.YtjlhdgmcaiiagaaGreatDoor
open Go.RowKit Go.Maps

set_option maxRecDepth 100000 in
set_option maxHeartbeats 4000000 in
theorem r9One_any (x : ItemD) (mv : Value) (w : World) (h : Arr MarkR 4 w mv x.marks) (hs : x.name.size ≤ maxLen) (hl : x.marks.length ≤ 100000) : Calls Tryz.prog 18 #[.agg #[.string x.name, mv]] w fun e w' => e = .returned (.bool (oneI x)) ∧ Below w.heap.size w w' := by
  obtain ⟨o, c, rfl, -⟩ := id h
  obtain ⟨W1, hW1⟩ : ∃ W1, W1 = w.alloc (.cells #[.string x.name, .slice o x.marks.length c] 31) := ⟨_, rfl⟩
  have hb1 : Below w.heap.size w W1 := by rw [hW1]; exact (Below.refl _ _).alloc (Nat.le_refl _) _
  have hg1 : W1.heap[w.heap.size]? = some (.cells #[.string x.name, .slice o x.marks.length c] 31) := by rw [hW1]; exact alloc_new _ _
  have HC : Hid (∀ wz, Below W1.heap.size W1 wz → wz.cell? ⟨w.heap.size, 1, none⟩ = some (.slice o x.marks.length c)) := Lib.hid (fun wz hz => by rw [hz.cell (p := ⟨w.heap.size, 1, none⟩) (lt_of_heap hg1), cell0 hg1 1]; rfl)
  have HN := Lib.hid (r7Item_any x.name W1 hs)
  have HMK := Lib.hid (r8Marks_any x.marks _ W1 (h.marks hb1))
  have HA := Lib.hid (h.marks hb1)
  have HB1 := Lib.hid hb1
  have HW := Lib.hid hW1
  have HE : Hid (oneI x = (nameB x.name && decide (0 < x.marks.length) && isSetB (dotsM x.marks) && x.marks.all validMarkD)) := Lib.hid rfl
  obtain ⟨x1⟩ : Nonempty (W1.cell? ⟨w.heap.size, 1, none⟩ = some (.slice o x.marks.length c)) := ⟨HC.out W1 (Below.refl _ _)⟩
  clear h hs hb1 hg1 hW1
  obtain ⟨rn, hrn⟩ : ∃ r, r = nameB x.name := ⟨_, rfl⟩
  obtain ⟨ra, hra⟩ : ∃ r, r = x.marks.all validMarkD := ⟨_, rfl⟩
  obtain ⟨rs, hrs⟩ : ∃ r, r = isSetB (dotsM x.marks) := ⟨_, rfl⟩
  rw [← hrn] at HN HE
  rw [← hra] at HMK HE
  rw [← hrs] at HE
  have HRS := Lib.hid hrs
  clear hrn hra hrs
  cases rn with
  | false =>
    have HF : Hid (oneI x = false) := Lib.hid HE.out
    go_enter Tryz.func18, Tryz.ntmps18
    go_wp2_with fail
    rw [← HW.out]
    refine HN.out.mono ?_
    rintro e w2 ⟨rfl, hw2⟩
    rw [hw2]
    clear hw2
    go_wp2_with fail
    go_ret
    exact ⟨by rw [HF.out]; rfl, HB1.out⟩
  | true =>
    by_cases h0 : 0 < x.marks.length
    · have t1 : decide (0 < (x.marks.length : Int)) = true := decide_eq_true (by omega)
      cases ra with
      | false =>
        have HF : Hid (oneI x = false) := Lib.hid (by rw [HE.out]; simp)
        go_enter Tryz.func18, Tryz.ntmps18
        go_wp2_with fail
        rw [← HW.out]
        refine HN.out.mono ?_
        rintro e w2 ⟨rfl, hw2⟩
        rw [hw2]
        clear hw2
        go_wp2_with fail
        refine HMK.out.mono ?_
        rintro e w3 ⟨rfl, hb3⟩
        go_wp2_with fail
        go_ret
        exact ⟨by rw [HF.out]; rfl, HB1.out.trans (hb3.mono HB1.out.size)⟩
      | true =>
        have HF : Hid (oneI x = rs) := Lib.hid (by rw [HE.out, decide_eq_true h0]; simp)
        go_enter Tryz.func18, Tryz.ntmps18
        go_wp2_with fail
        rw [← HW.out]
        refine HN.out.mono ?_
        rintro e w2 ⟨rfl, hw2⟩
        rw [hw2]
        clear hw2
        go_wp2_with fail
        refine HMK.out.mono ?_
        rintro e w3 ⟨rfl, hb3⟩
        have x3 := HC.out w3 hb3
        have HI := Lib.hid (r8IsList_any x.marks _ w3 (HA.out.marks hb3) hl)
        rw [← HRS.out] at HI
        have HB3 := Lib.hid (HB1.out.trans (hb3.mono HB1.out.size))
        clear hb3
        go_wp2_with fail
        refine HI.out.mono ?_
        rintro e w4 ⟨rfl, hb4⟩
        go_wp2_with fail
        go_ret
        exact ⟨by rw [HF.out]; rfl, HB3.out.trans (hb4.mono HB3.out.size)⟩
    · have t1 : decide (0 < (x.marks.length : Int)) = false := decide_eq_false (by omega)
      have HF : Hid (oneI x = false) := Lib.hid (by rw [HE.out, decide_eq_false h0]; simp)
      go_enter Tryz.func18, Tryz.ntmps18
      go_wp2_with fail
      rw [← HW.out]
      refine HN.out.mono ?_
      rintro e w2 ⟨rfl, hw2⟩
      rw [hw2]
      clear hw2
      go_wp2_with fail
      go_ret
      exact ⟨by rw [HF.out]; rfl, HB1.out⟩
end Go.Proofs.YtjlhdgmcaiiagaaGreatDoor
