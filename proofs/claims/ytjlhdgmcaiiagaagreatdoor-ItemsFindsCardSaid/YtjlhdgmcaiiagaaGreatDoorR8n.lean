/- The reference's Newest. -/
import Derived.Test.YtjlhdgmcaiiagaaGreatDoorR8
import Derived.Test.YtjlhdgmcaiiagaaGreatDoorIt8
import Derived.Test.YtjlhdgmcaiiagaaGreatDoorOk
namespace Go.Proofs.YtjlhdgmcaiiagaaGreatDoor
open Go.RowKit Go.Maps

/-- A mark that no other one is newer than. -/
def freeM (l : List MarkD) (m : MarkD) : Bool := !l.any (fun x => newerM x m)
def refNewest (l : List MarkD) : Option MarkD := l.find? (freeM l)
def refNewestV : Option MarkD → Value
  | some m => .tuple #[markV m, .int .i64 0]
  | none => .tuple #[markV ⟨⟨0, 0⟩, 0, 0⟩, .int .i64 9]
theorem pos_or (x y : Int) (l : List Int) : 0 < orI (cmpI x y :: l) ↔ y < x ∨ (x = y ∧ 0 < orI l) := by
  show 0 < (if cmpI x y = 0 then orI l else cmpI x y) ↔ _
  by_cases h : x = y
  · subst h
    rw [if_pos ((cmpI_zero x x).2 rfl)]
    constructor
    · exact fun h => Or.inr ⟨rfl, h⟩
    · rintro (h | h)
      · omega
      · exact h.2
  · rw [if_neg (fun h2 => h ((cmpI_zero x y).1 h2))]
    unfold cmpI
    by_cases h1 : x < y
    · rw [if_pos h1]
      constructor
      · intro h2; omega
      · rintro (h2 | h2) <;> omega
    · rw [if_neg h1, if_pos (by omega)]
      constructor
      · intro _; exact Or.inl (by omega)
      · intro _; omega
/-- The order of marks. -/
def NewP (a b : MarkD) : Prop := b.time < a.time ∨ (a.time = b.time ∧ (b.dot.rep < a.dot.rep ∨ (a.dot.rep = b.dot.rep ∧ (b.dot.ctr < a.dot.ctr ∨ (a.dot.ctr = b.dot.ctr ∧ b.qty < a.qty)))))
theorem newerM_iff (a b : MarkD) : newerM a b = true ↔ NewP a b := by
  unfold newerM NewP
  by_cases h1 : a.time ≠ b.time
  · rw [if_pos h1, decide_eq_true_iff]; omega
  · rw [if_neg h1]
    by_cases h2 : a.dot.rep ≠ b.dot.rep
    · rw [if_pos h2, decide_eq_true_iff]; omega
    · rw [if_neg h2]
      by_cases h3 : a.dot.ctr ≠ b.dot.ctr
      · rw [if_pos h3, decide_eq_true_iff]; omega
      · rw [if_neg h3, decide_eq_true_iff]; omega
theorem mcmp_iff (a b : MarkD) : 0 < mcmp a b ↔ NewP a b := by
  unfold mcmp
  by_cases e : a = b
  · subst e
    rw [if_pos rfl]
    unfold NewP
    omega
  · rw [if_neg e, pos_or, pos_or, pos_or, pos_or]
    have : ¬ (0 : Int) < orI [] := by unfold orI; omega
    unfold NewP
    simp only [this, and_false, or_false]
theorem newP_total {a b : MarkD} (h : ¬ NewP a b) (k : ¬ NewP b a) : a = b := by
  unfold NewP at h k
  have e1 : a.time = b.time := by omega
  have e2 : a.dot.rep = b.dot.rep := by omega
  have e3 : a.dot.ctr = b.dot.ctr := by omega
  have e4 : a.qty = b.qty := by omega
  rcases a with ⟨⟨r, c⟩, q, t⟩
  rcases b with ⟨⟨r2, c2⟩, q2, t2⟩
  simp only at e1 e2 e3 e4
  rw [e1, e2, e3, e4]
theorem newP_trans {a b c : MarkD} (h : NewP a b) (k : NewP b c) : NewP a c := by
  unfold NewP at *
  omega
theorem newP_irrefl (a : MarkD) : ¬ NewP a a := by
  unfold NewP
  omega
theorem greatM_spec : ∀ (l : List MarkD) (m : MarkD), (greatM m l ∈ m :: l) ∧ ∀ x ∈ m :: l, ¬ NewP x (greatM m l)
  | [], m => by
    refine ⟨by simp [greatM], fun x hx => ?_⟩
    rw [List.mem_singleton.1 hx]
    exact newP_irrefl _
  | y :: l, m => by
    have e : greatM m (y :: l) = greatM (better m y) l := rfl
    obtain ⟨i1, i2⟩ := greatM_spec l (better m y)
    rw [← e] at i1 i2
    have hb := mcmp_iff y m
    have hbe : better m y = if 0 < mcmp y m then y else m := rfl
    by_cases h : 0 < mcmp y m
    · rw [if_pos h] at hbe
      rw [hbe] at i1 i2
      refine ⟨List.mem_cons_of_mem _ i1, fun x hx => ?_⟩
      rcases List.mem_cons.1 hx with rfl | hx
      · intro h3
        exact i2 y (by simp) (newP_trans (hb.1 h) h3)
      · exact i2 x hx
    · rw [if_neg h] at hbe
      rw [hbe] at i1 i2
      refine ⟨?_, fun x hx => ?_⟩
      · rcases List.mem_cons.1 i1 with h4 | h4
        · rw [h4]; simp
        · exact List.mem_cons_of_mem _ (List.mem_cons_of_mem _ h4)
      · rcases List.mem_cons.1 hx with rfl | hx
        · exact i2 x (by simp)
        · rcases List.mem_cons.1 hx with rfl | hx
          · intro h3
            have h5 : ¬ NewP x m := fun h6 => h (hb.2 h6)
            have h7 := i2 m (by simp)
            by_cases h8 : NewP m x
            · exact h7 (newP_trans h8 h3)
            · have e9 := newP_total h5 h8
              subst e9
              exact h7 h3
          · exact i2 x (List.mem_cons_of_mem _ hx)
theorem refNewest_eq {l : List MarkD} (h : l ≠ []) : refNewest l = some (newestM l) := by
  obtain ⟨a, t, rfl⟩ : ∃ a t, l = a :: t := by
    cases l with
    | nil => exact absurd rfl h
    | cons a t => exact ⟨a, t, rfl⟩
  obtain ⟨i1, i2⟩ := greatM_spec (a :: t) a
  have hn : newestM (a :: t) = greatM a (a :: t) := rfl
  rw [← hn] at i1 i2
  have hmem : newestM (a :: t) ∈ a :: t := by
    rcases List.mem_cons.1 i1 with h1 | h1
    · rw [h1]; simp
    · exact h1
  have hfree : freeM (a :: t) (newestM (a :: t)) = true := by
    unfold freeM
    rw [List.any_eq_false.2 (fun x hx h2 => i2 x (List.mem_cons_of_mem _ hx) ((newerM_iff _ _).1 h2))]
    rfl
  have hs : (refNewest (a :: t)).isSome = true := by
    unfold refNewest
    rw [List.find?_isSome]
    exact ⟨_, hmem, hfree⟩
  obtain ⟨y, hy⟩ := Option.isSome_iff_exists.1 hs
  have hyf := List.find?_some hy
  have hym := List.mem_of_find?_eq_some hy
  rw [hy]
  congr 1
  refine newP_total (i2 y (List.mem_cons_of_mem _ hym)) (fun h3 => ?_)
  unfold freeM at hyf
  rw [Bool.not_eq_true', List.any_eq_false] at hyf
  exact hyf _ hmem ((newerM_iff _ _).2 h3)
set_option linter.unusedSimpArgs false in
set_option maxRecDepth 100000 in
set_option maxHeartbeats 8000000 in
theorem r8Newest_any (l : List MarkD) (v : Value) (w : World) (h : Arr MarkR 4 w v l) : Calls Tryz.prog 48 #[v] w fun e w' => e = .returned (refNewestV (refNewest l)) ∧ Below w.heap.size w w' := by
  have hn := h.len
  obtain ⟨o, c, rfl, hel⟩ := h.markAt
  have HEL := Lib.hid hel
  obtain ⟨W1, hW1⟩ : ∃ W1, W1 = w.alloc (.cells #[.int .i64 0, .int .i64 0, .int .i64 0, .int .u64 0] 62) := ⟨_, rfl⟩
  have hb1 : Below w.heap.size w W1 := by rw [hW1]; exact (Below.refl _ _).alloc (Nat.le_refl _) _
  have hg1 : W1.heap[w.heap.size]? = some (.cells #[.int .i64 0, .int .i64 0, .int .i64 0, .int .u64 0] 62) := by rw [hW1]; exact alloc_new _ _
  have HC : Hid (∀ wz, Below W1.heap.size W1 wz → wz.heap[w.heap.size]? = some (.cells #[.int .i64 0, .int .i64 0, .int .i64 0, .int .u64 0] 62)) := Lib.hid (fun wz hz => by rw [hz.block _ (lt_of_heap hg1)]; exact hg1)
  have HB1 := Lib.hid hb1
  have HW := Lib.hid hW1
  clear hel h hg1 hb1 hW1
  go_enter Tryz.func48, Tryz.ntmps48
  go_wp2_with fail
  rw [← HW.out]
  go_loopw [4] (fun i wr => ∃ k : Nat, k ≤ l.length ∧ i = .int .i64 k ∧ (l.take k).any (freeM l) = false ∧ Below W1.heap.size W1 wr) (fun i _ => l.length - (intOf i).toNat)
  case atStart => exact ⟨0, Nat.zero_le _, rfl, rfl, Below.refl _ _⟩
  case round =>
    obtain ⟨k, hk, rfl, hall, hB⟩ := hrel
    have HALL := Lib.hid hall
    have HB := Lib.hid hB
    clear hall hB
    by_cases hlt : k < l.length
    · have HTK := Lib.hid (any_take_snoc (freeM l) l k hlt)
      have HFR : Hid (freeM l l[k] = !l.any (fun x => newerM x l[k])) := Lib.hid rfl
      have a0 : (0 : Int) ≤ k := by omega
      have a1 : (k : Int) < l.length := by omega
      have hkw : IntKind.i64.wrap ((k : Int) + 1) = (k : Int) + 1 := by rw [IntKind.wrap_i64]; omega
      obtain ⟨b, off, rfl, hbl, -⟩ := HEL.out k hlt
      go_wp2_with fail
      go_loopw [5, 6] (fun bt q wx => ∃ m : Nat, m ≤ l.length ∧ q = .int .i64 m ∧ bt = .bool ((l.take m).any (fun x => newerM x l[k])) ∧ Below W1.heap.size W1 wx) (fun _ q _ => l.length - (intOf q).toNat)
      case atStart => exact ⟨0, Nat.zero_le _, rfl, rfl, HB.out⟩
      case round =>
        obtain ⟨m, hm, rfl, rfl, hBx⟩ := hrel
        clear HB
        have HB := Lib.hid hBx
        have HBW := Lib.hid (HB1.out.trans (hBx.mono HB1.out.size))
        clear hBx
        by_cases hlm : m < l.length
        · have b0 : (0 : Int) ≤ m := by omega
          have b1 : (m : Int) < l.length := by omega
          have hmw : IntKind.i64.wrap ((m : Int) + 1) = (m : Int) + 1 := by rw [IntKind.wrap_i64]; omega
          have HSN := Lib.hid (any_take_snoc (fun x => newerM x l[k]) l m hlm)
          have HNW := Lib.hid ((r8Newer_any l[m] l[k] wr.drew).mono (R' := fun e w' => e = .returned (.bool (newerM l[m] l[k])) ∧ Below wr.heap.size wr w') (fun _ _ ⟨a1, a2⟩ => ⟨a1, (below_drew1 (Below.refl _ _)).trans a2⟩))
          have HS : Hid (∀ wz, Below wr.heap.size wr wz → (wz.cell? ⟨b, off + m * 4, none⟩ = some (.int .i64 l[m].dot.rep) ∧ wz.cell? ⟨b, off + m * 4 + 1, none⟩ = some (.int .i64 l[m].dot.ctr) ∧ wz.cell? ⟨b, off + m * 4 + 2, none⟩ = some (.int .i64 l[m].qty) ∧ wz.cell? ⟨b, off + m * 4 + 3, none⟩ = some (.int .u64 l[m].time)) ∧ (wz.cell? ⟨b, off + k * 4, none⟩ = some (.int .i64 l[k].dot.rep) ∧ wz.cell? ⟨b, off + k * 4 + 1, none⟩ = some (.int .i64 l[k].dot.ctr) ∧ wz.cell? ⟨b, off + k * 4 + 2, none⟩ = some (.int .i64 l[k].qty) ∧ wz.cell? ⟨b, off + k * 4 + 3, none⟩ = some (.int .u64 l[k].time))) := Lib.hid (fun wz hz => by
            have h5 := HBW.out.trans (hz.mono HBW.out.size)
            obtain ⟨b', off', he', -, e0, e1, e2, e3, -⟩ := HEL.out m hlm
            cases he'
            obtain ⟨b', off', he', -, f0, f1, f2, f3, -⟩ := HEL.out k hlt
            cases he'
            exact ⟨⟨by rw [h5.cell (p := ⟨_, _, _⟩) hbl]; exact e0, by rw [h5.cell (p := ⟨_, _, _⟩) hbl]; exact e1, by rw [h5.cell (p := ⟨_, _, _⟩) hbl]; exact e2, by rw [h5.cell (p := ⟨_, _, _⟩) hbl]; exact e3⟩, by rw [h5.cell (p := ⟨_, _, _⟩) hbl]; exact f0, by rw [h5.cell (p := ⟨_, _, _⟩) hbl]; exact f1, by rw [h5.cell (p := ⟨_, _, _⟩) hbl]; exact f2, by rw [h5.cell (p := ⟨_, _, _⟩) hbl]; exact f3⟩)
          obtain ⟨r, hr⟩ : ∃ r, r = (l.take m).any (fun x => newerM x l[k]) := ⟨_, rfl⟩
          rw [← hr] at HSN ⊢
          obtain ⟨s, hs⟩ : ∃ s, s = newerM l[m] l[k] := ⟨_, rfl⟩
          rw [← hs] at HSN HNW
          clear hr hs
          have HSN2 : Hid ((l.take (m + 1)).any (fun x => newerM x l[k]) = (r || s)) := HSN
          clear HSN
          obtain ⟨x, hx⟩ : ∃ x, x = l[m] := ⟨_, rfl⟩
          obtain ⟨y, hy⟩ : ∃ y, y = l[k] := ⟨_, rfl⟩
          rw [← hx, ← hy] at HS HNW
          unfold markV at HNW
          clear hx hy
          cases r with
          | true =>
            go_upto_region 8 with fail
            refine NQ.to ?_
            refine wp_region_held_drew (S := (fun _ => True)) (by kernel_rfl) (trivial) (fun hS => ?_)
            try simp only [Act.put, List.setIfInBounds_toArray, List.set_cons_succ, List.set_cons_zero, List.getElem_toArray, List.getElem_cons_succ, List.getElem_cons_zero]
            refine wpAnyH_take (i := 0) (v := ?v1) rfl (by decide +kernel) (by decide +kernel) (by decide +kernel) (fun _ _ _ h => h) (Or.inl ⟨by kernel_rfl, fun w hSw => ?h1⟩) hS ?_; (case h1 => (refine ok_of (fun z hz => ?_); go_simp; exact hz))
            try simp only [Act.put, List.setIfInBounds_toArray, List.set_cons_succ, List.set_cons_zero, List.getElem_toArray, List.getElem_cons_succ, List.getElem_cons_zero]
            refine wpAnyH_take (i := 1) (v := ?v2) rfl (by decide +kernel) (by decide +kernel) (by decide +kernel) (fun _ _ _ h => h) (Or.inl ⟨by kernel_rfl, fun w hSw => ?h2⟩) hS ?_; (case h2 => (refine ok_of (fun z hz => ?_); go_simp; exact hz))
            try simp only [Act.put, List.setIfInBounds_toArray, List.set_cons_succ, List.set_cons_zero, List.getElem_toArray, List.getElem_cons_succ, List.getElem_cons_zero]
            refine wpAnyH_take (i := 2) (v := undef) rfl (by decide +kernel) (by decide +kernel) (by decide +kernel) (fun _ _ _ h => h) (Or.inr ⟨by kernel_rfl, rfl⟩) hS ?_
            try simp only [Act.put, List.setIfInBounds_toArray, List.set_cons_succ, List.set_cons_zero, List.getElem_toArray, List.getElem_cons_succ, List.getElem_cons_zero]
            refine wpAnyH_take (i := 3) (v := undef) rfl (by decide +kernel) (by decide +kernel) (by decide +kernel) (fun _ _ _ h => h) (Or.inr ⟨by kernel_rfl, rfl⟩) hS ?_
            try simp only [Act.put, List.setIfInBounds_toArray, List.set_cons_succ, List.set_cons_zero, List.getElem_toArray, List.getElem_cons_succ, List.getElem_cons_zero]
            refine wpAnyH_take (i := 4) (v := undef) rfl (by decide +kernel) (by decide +kernel) (by decide +kernel) (fun _ _ _ h => h) (Or.inr ⟨by kernel_rfl, rfl⟩) hS ?_
            try simp only [Act.put, List.setIfInBounds_toArray, List.set_cons_succ, List.set_cons_zero, List.getElem_toArray, List.getElem_cons_succ, List.getElem_cons_zero]
            refine wpAnyH_take (i := 5) (v := undef) rfl (by decide +kernel) (by decide +kernel) (by decide +kernel) (fun _ _ _ h => h) (Or.inr ⟨by kernel_rfl, rfl⟩) hS ?_
            try simp only [Act.put, List.setIfInBounds_toArray, List.set_cons_succ, List.set_cons_zero, List.getElem_toArray, List.getElem_cons_succ, List.getElem_cons_zero]
            refine wpAnyH_take (i := 6) (v := undef) rfl (by decide +kernel) (by decide +kernel) (by decide +kernel) (fun _ _ _ h => h) (Or.inr ⟨by kernel_rfl, rfl⟩) hS ?_
            try simp only [Act.put, List.setIfInBounds_toArray, List.set_cons_succ, List.set_cons_zero, List.getElem_toArray, List.getElem_cons_succ, List.getElem_cons_zero]
            refine wpAnyH_take (i := 7) (v := undef) rfl (by decide +kernel) (by decide +kernel) (by decide +kernel) (fun _ _ _ h => h) (Or.inr ⟨by kernel_rfl, rfl⟩) hS ?_
            try simp only [Act.put, List.setIfInBounds_toArray, List.set_cons_succ, List.set_cons_zero, List.getElem_toArray, List.getElem_cons_succ, List.getElem_cons_zero]
            refine wpAnyH_take (i := 8) (v := undef) rfl (by decide +kernel) (by decide +kernel) (by decide +kernel) (fun _ _ _ h => h) (Or.inr ⟨by kernel_rfl, rfl⟩) hS ?_
            try simp only [Act.put, List.setIfInBounds_toArray, List.set_cons_succ, List.set_cons_zero, List.getElem_toArray, List.getElem_cons_succ, List.getElem_cons_zero]
            refine wpAnyH_take (i := 9) (v := undef) rfl (by decide +kernel) (by decide +kernel) (by decide +kernel) (fun _ _ _ h => h) (Or.inr ⟨by kernel_rfl, rfl⟩) hS ?_
            try simp only [Act.put, List.setIfInBounds_toArray, List.set_cons_succ, List.set_cons_zero, List.getElem_toArray, List.getElem_cons_succ, List.getElem_cons_zero]
            refine wpAnyH_take (i := 10) (v := undef) rfl (by decide +kernel) (by decide +kernel) (by decide +kernel) (fun _ _ _ h => h) (Or.inr ⟨by kernel_rfl, rfl⟩) hS ?_
            try simp only [Act.put, List.setIfInBounds_toArray, List.set_cons_succ, List.set_cons_zero, List.getElem_toArray, List.getElem_cons_succ, List.getElem_cons_zero]
            refine wpAnyH_take (i := 11) (v := ?v3) rfl (by decide +kernel) (by decide +kernel) (by decide +kernel) (fun _ _ _ h => h) (Or.inl ⟨by kernel_rfl, fun w hSw => ?h3⟩) hS ?_; (case h3 => (refine ok_of (fun z hz => ?_); go_simp; exact hz))
            try simp only [Act.put, List.setIfInBounds_toArray, List.set_cons_succ, List.set_cons_zero, List.getElem_toArray, List.getElem_cons_succ, List.getElem_cons_zero]
            refine wpAnyH_take (i := 12) (v := ?v4) rfl (by decide +kernel) (by decide +kernel) (by decide +kernel) (fun _ _ _ h => h) (Or.inl ⟨by kernel_rfl, fun w hSw => ?h4⟩) hS ?_; (case h4 => (refine ok_of (fun z hz => ?_); go_simp; exact hz))
            try simp only [Act.put, List.setIfInBounds_toArray, List.set_cons_succ, List.set_cons_zero, List.getElem_toArray, List.getElem_cons_succ, List.getElem_cons_zero]
            refine wpAnyH_done (by kernel_rfl) ?_ _
            try simp only [Act.put, List.setIfInBounds_toArray, List.set_cons_succ, List.set_cons_zero, List.getElem_toArray, List.getElem_cons_succ, List.getElem_cons_zero]
            simp only [NQ]
            have hbf := below_drew1 HB.out
            clear hS
            go_wp2_with fail
            go_roundw
            case rel => exact ⟨m + 1, by omega, by go_num, by rw [HSN2.out]; rfl, hbf⟩
            case measure => simp [intOf]; omega
          | false =>
            go_upto_region 8 with fail
            refine NQ.to ?_
            refine wp_region_held_drew (S := (fun wz => (wz.cell? ⟨b, off + m * 4, none⟩ = some (.int .i64 x.dot.rep) ∧ wz.cell? ⟨b, off + m * 4 + 1, none⟩ = some (.int .i64 x.dot.ctr) ∧ wz.cell? ⟨b, off + m * 4 + 2, none⟩ = some (.int .i64 x.qty) ∧ wz.cell? ⟨b, off + m * 4 + 3, none⟩ = some (.int .u64 x.time)) ∧ (wz.cell? ⟨b, off + k * 4, none⟩ = some (.int .i64 y.dot.rep) ∧ wz.cell? ⟨b, off + k * 4 + 1, none⟩ = some (.int .i64 y.dot.ctr) ∧ wz.cell? ⟨b, off + k * 4 + 2, none⟩ = some (.int .i64 y.qty) ∧ wz.cell? ⟨b, off + k * 4 + 3, none⟩ = some (.int .u64 y.time)))) (by kernel_rfl) (HS.out _ (below_drew1 (Below.refl _ _))) (fun hS => ?_)
            try simp only [Act.put, List.setIfInBounds_toArray, List.set_cons_succ, List.set_cons_zero, List.getElem_toArray, List.getElem_cons_succ, List.getElem_cons_zero]
            refine wpAnyH_take (i := 0) (v := ?v5) rfl (by decide +kernel) (by decide +kernel) (by decide +kernel) (fun _ _ _ h => h) (Or.inl ⟨by kernel_rfl, fun w hSw => ?h5⟩) hS ?_; (case h5 => (refine ok_of (fun z hz => ?_); go_simp; exact hz))
            try simp only [Act.put, List.setIfInBounds_toArray, List.set_cons_succ, List.set_cons_zero, List.getElem_toArray, List.getElem_cons_succ, List.getElem_cons_zero]
            refine wpAnyH_take (i := 1) (v := ?v6) rfl (by decide +kernel) (by decide +kernel) (by decide +kernel) (fun _ _ _ h => h) (Or.inl ⟨by kernel_rfl, fun w hSw => ?h6⟩) hS ?_; (case h6 => (refine ok_of (fun z hz => ?_); go_simp; exact hz))
            try simp only [Act.put, List.setIfInBounds_toArray, List.set_cons_succ, List.set_cons_zero, List.getElem_toArray, List.getElem_cons_succ, List.getElem_cons_zero]
            refine wpAnyH_take (i := 2) (v := ?v7) rfl (by decide +kernel) (by decide +kernel) (by decide +kernel) (fun _ _ _ h => h) (Or.inl ⟨by kernel_rfl, fun w hSw => ?h7⟩) hS ?_; (case h7 => (refine ok_of (fun z hz => ?_); go_simp; exact hz))
            try simp only [Act.put, List.setIfInBounds_toArray, List.set_cons_succ, List.set_cons_zero, List.getElem_toArray, List.getElem_cons_succ, List.getElem_cons_zero]
            refine wpAnyH_take (i := 3) (v := ?v8) rfl (by decide +kernel) (by decide +kernel) (by decide +kernel) (fun _ _ _ h => h) (Or.inl ⟨by kernel_rfl, fun w hSw => ?h8⟩) hS ?_; (case h8 => (refine ok_of (fun z hz => ?_); go_simp; exact hz))
            try simp only [Act.put, List.setIfInBounds_toArray, List.set_cons_succ, List.set_cons_zero, List.getElem_toArray, List.getElem_cons_succ, List.getElem_cons_zero]
            refine wpAnyH_take (i := 4) (v := ?v9) rfl (by decide +kernel) (by decide +kernel) (by decide +kernel) (fun _ _ _ h => h) (Or.inl ⟨by kernel_rfl, fun w hSw => ?h9⟩) hS ?_; (case h9 => (refine ok_of (fun z hz => ?_); go_simp; exact hz))
            try simp only [Act.put, List.setIfInBounds_toArray, List.set_cons_succ, List.set_cons_zero, List.getElem_toArray, List.getElem_cons_succ, List.getElem_cons_zero]
            refine wpAnyH_take (i := 5) (v := ?v10) rfl (by decide +kernel) (by decide +kernel) (by decide +kernel) (fun _ _ _ h => h) (Or.inl ⟨by kernel_rfl, fun w hSw => ?h10⟩) hS ?_; (case h10 => (refine ok_of (fun z hz => ?_); obtain ⟨⟨f1, f2, f3, f4⟩, f5, f6, f7, f8⟩ := hSw; go_simp; exact hz))
            try simp only [Act.put, List.setIfInBounds_toArray, List.set_cons_succ, List.set_cons_zero, List.getElem_toArray, List.getElem_cons_succ, List.getElem_cons_zero]
            refine wpAnyH_take (i := 6) (v := ?v11) rfl (by decide +kernel) (by decide +kernel) (by decide +kernel) (fun _ _ _ h => h) (Or.inl ⟨by kernel_rfl, fun w hSw => ?h11⟩) hS ?_; (case h11 => (refine ok_of (fun z hz => ?_); go_simp; exact hz))
            try simp only [Act.put, List.setIfInBounds_toArray, List.set_cons_succ, List.set_cons_zero, List.getElem_toArray, List.getElem_cons_succ, List.getElem_cons_zero]
            refine wpAnyH_take (i := 7) (v := ?v12) rfl (by decide +kernel) (by decide +kernel) (by decide +kernel) (fun _ _ _ h => h) (Or.inl ⟨by kernel_rfl, fun w hSw => ?h12⟩) hS ?_; (case h12 => (refine ok_of (fun z hz => ?_); go_simp; exact hz))
            try simp only [Act.put, List.setIfInBounds_toArray, List.set_cons_succ, List.set_cons_zero, List.getElem_toArray, List.getElem_cons_succ, List.getElem_cons_zero]
            refine wpAnyH_take (i := 8) (v := ?v13) rfl (by decide +kernel) (by decide +kernel) (by decide +kernel) (fun _ _ _ h => h) (Or.inl ⟨by kernel_rfl, fun w hSw => ?h13⟩) hS ?_; (case h13 => (refine ok_of (fun z hz => ?_); go_simp; exact hz))
            try simp only [Act.put, List.setIfInBounds_toArray, List.set_cons_succ, List.set_cons_zero, List.getElem_toArray, List.getElem_cons_succ, List.getElem_cons_zero]
            refine wpAnyH_take (i := 9) (v := ?v14) rfl (by decide +kernel) (by decide +kernel) (by decide +kernel) (fun _ _ _ h => h) (Or.inl ⟨by kernel_rfl, fun w hSw => ?h14⟩) hS ?_; (case h14 => (refine ok_of (fun z hz => ?_); obtain ⟨⟨f1, f2, f3, f4⟩, f5, f6, f7, f8⟩ := hSw; go_simp; exact hz))
            try simp only [Act.put, List.setIfInBounds_toArray, List.set_cons_succ, List.set_cons_zero, List.getElem_toArray, List.getElem_cons_succ, List.getElem_cons_zero]
            refine wpAnyH_ready (rs := [10]) (by decide +kernel) (by simp) ?_
            refine (AllReadyH.cons rfl (fun K hK => ?_) AllReadyH.nil)
            go_simp
            go_at_call 74
            refine HNW.out.mono ?_
            rintro e w2 ⟨rfl, hb2⟩
            go_simp
            refine Shut.out hK _ _ (HS.out w2 hb2) (fun hS2 => ?_)
            clear hK K hS
            have hS := hS2
            clear hS2
            try simp only [Act.put, List.setIfInBounds_toArray, List.set_cons_succ, List.set_cons_zero, List.getElem_toArray, List.getElem_cons_succ, List.getElem_cons_zero]
            refine wpAnyH_take (i := 11) (v := ?v15) rfl (by decide +kernel) (by decide +kernel) (by decide +kernel) (fun _ _ _ h => h) (Or.inl ⟨by kernel_rfl, fun w hSw => ?h15⟩) hS ?_; (case h15 => (refine ok_of (fun z hz => ?_); go_simp; exact hz))
            try simp only [Act.put, List.setIfInBounds_toArray, List.set_cons_succ, List.set_cons_zero, List.getElem_toArray, List.getElem_cons_succ, List.getElem_cons_zero]
            refine wpAnyH_take (i := 12) (v := ?v16) rfl (by decide +kernel) (by decide +kernel) (by decide +kernel) (fun _ _ _ h => h) (Or.inl ⟨by kernel_rfl, fun w hSw => ?h16⟩) hS ?_; (case h16 => (refine ok_of (fun z hz => ?_); go_simp; exact hz))
            try simp only [Act.put, List.setIfInBounds_toArray, List.set_cons_succ, List.set_cons_zero, List.getElem_toArray, List.getElem_cons_succ, List.getElem_cons_zero]
            refine wpAnyH_done (by kernel_rfl) ?_ _
            try simp only [Act.put, List.setIfInBounds_toArray, List.set_cons_succ, List.set_cons_zero, List.getElem_toArray, List.getElem_cons_succ, List.getElem_cons_zero]
            simp only [NQ]
            have hbf := HB.out.trans (hb2.mono HB.out.size)
            clear hb2 hS
            go_wp2_with fail
            go_roundw
            case rel => exact ⟨m + 1, by omega, by go_num, by rw [HSN2.out]; rfl, hbf⟩
            case measure => simp [intOf]; omega
        · have hme : m = l.length := by omega
          have HAN : Hid ((l.take m).any (fun x => newerM x l[k]) = l.any (fun x => newerM x l[k])) := Lib.hid (by rw [hme, List.take_length])
          obtain ⟨r, hr⟩ : ∃ r, r = (l.take m).any (fun x => newerM x l[k]) := ⟨_, rfl⟩
          rw [← hr] at HAN ⊢
          rw [← HAN.out] at HFR
          clear hr HAN
          cases r with
          | true =>
            have HF : Hid ((l.take (k + 1)).any (freeM l) = false) := Lib.hid (by rw [HTK.out, HALL.out, HFR.out]; rfl)
            go_wp2_with fail
            exact ⟨⟨k + 1, by omega, by go_num, HF.out, HB.out⟩, by simp [intOf]; omega⟩
          | false =>
            have HF : Hid (refNewest l = some l[k]) := Lib.hid (by unfold refNewest; exact find_at _ _ k hlt HALL.out HFR.out)
            have z0 := HC.out wr HB.out
            have y0 : wr.cell? ⟨w.heap.size, 0, none⟩ = some (.int .i64 0) := by rw [cell0 z0 0]; rfl
            have y1 : wr.cell? ⟨w.heap.size, 1, none⟩ = some (.int .i64 0) := by rw [cell0 z0 1]; rfl
            have y2 : wr.cell? ⟨w.heap.size, 2, none⟩ = some (.int .i64 0) := by rw [cell0 z0 2]; rfl
            have y3 : wr.cell? ⟨w.heap.size, 3, none⟩ = some (.int .u64 0) := by rw [cell0 z0 3]; rfl
            have q0 := froz0 z0 0
            have q1 := froz0 z0 1
            have q2 := froz0 z0 2
            have q3 := froz0 z0 3
            obtain ⟨b', off', he', -, e0, e1, e2, e3, -⟩ := HEL.out k hlt
            cases he'
            have f0 : wr.cell? ⟨b, off + k * 4, none⟩ = some (.int .i64 l[k].dot.rep) := by rw [HBW.out.cell (p := ⟨_, _, _⟩) hbl]; exact e0
            have f1 : wr.cell? ⟨b, off + k * 4 + 1, none⟩ = some (.int .i64 l[k].dot.ctr) := by rw [HBW.out.cell (p := ⟨_, _, _⟩) hbl]; exact e1
            have f2 : wr.cell? ⟨b, off + k * 4 + 2, none⟩ = some (.int .i64 l[k].qty) := by rw [HBW.out.cell (p := ⟨_, _, _⟩) hbl]; exact e2
            have f3 : wr.cell? ⟨b, off + k * 4 + 3, none⟩ = some (.int .u64 l[k].time) := by rw [HBW.out.cell (p := ⟨_, _, _⟩) hbl]; exact e3
            go_wp2_with fail
            (try simp only [Exit.inBlock, Exit.then])
            refine bodyPost_ret (v := .tuple #[.agg #[.int .i64 l[k].dot.rep, .int .i64 l[k].dot.ctr, .int .i64 l[k].qty, .int .u64 l[k].time], .int .i64 0]) ?_ rfl ⟨by rw [HF.out]; rfl, (((HBW.out.setCell (Nat.le_refl _) _).setCell (Nat.le_refl _) _).setCell (Nat.le_refl _) _).setCell (Nat.le_refl _) _⟩
            rw [results_cell_tmp rfl]
            go_simp
    · have hke : k = l.length := by omega
      have HF : Hid (refNewest l = none) := Lib.hid (by have := HALL.out; rw [hke, List.take_length] at this; exact find_none _ _ this)
      have z0 := HC.out wr HB.out
      have y0 : wr.cell? ⟨w.heap.size, 0, none⟩ = some (.int .i64 0) := by rw [cell0 z0 0]; rfl
      have y1 : wr.cell? ⟨w.heap.size, 1, none⟩ = some (.int .i64 0) := by rw [cell0 z0 1]; rfl
      have y2 : wr.cell? ⟨w.heap.size, 2, none⟩ = some (.int .i64 0) := by rw [cell0 z0 2]; rfl
      have y3 : wr.cell? ⟨w.heap.size, 3, none⟩ = some (.int .u64 0) := by rw [cell0 z0 3]; rfl
      have q0 := froz0 z0 0
      have q1 := froz0 z0 1
      have q2 := froz0 z0 2
      have q3 := froz0 z0 3
      have HBW := Lib.hid (HB1.out.trans (HB.out.mono HB1.out.size))
      go_wp2_with fail
      (try simp only [Exit.inBlock, Exit.then])
      refine bodyPost_ret (v := .tuple #[.agg #[.int .i64 0, .int .i64 0, .int .i64 0, .int .u64 0], .int .i64 9]) ?_ rfl ⟨by rw [HF.out]; rfl, (((HBW.out.setCell (Nat.le_refl _) _).setCell (Nat.le_refl _) _).setCell (Nat.le_refl _) _).setCell (Nat.le_refl _) _⟩
      rw [results_cell_tmp rfl]
      go_simp
set_option maxRecDepth 100000 in
set_option maxHeartbeats 4000000 in
theorem r9Qty_any (x : ItemD) (mv : Value) (w : World) (h : Arr MarkR 4 w mv x.marks) (hne : x.marks ≠ []) : Calls Tryz.prog 20 #[.agg #[.string x.name, mv]] w fun e w' => e = .returned (.int .i64 (newestM x.marks).qty) ∧ Below w.heap.size w w' := by
  obtain ⟨mo, mc, rfl, -⟩ := id h
  obtain ⟨W1, hW1⟩ : ∃ W1, W1 = w.alloc (.cells #[.string x.name, .slice mo x.marks.length mc] 31) := ⟨_, rfl⟩
  have hb1 : Below w.heap.size w W1 := by rw [hW1]; exact (Below.refl _ _).alloc (Nat.le_refl _) _
  have hg1 : W1.heap[w.heap.size]? = some (.cells #[.string x.name, .slice mo x.marks.length mc] 31) := by rw [hW1]; exact alloc_new _ _
  have c1 : W1.cell? ⟨w.heap.size, 1, none⟩ = some (.slice mo x.marks.length mc) := by rw [cell0 hg1 1]; rfl
  have HN := Lib.hid (r8Newest_any x.marks _ W1 (h.marks hb1))
  rw [refNewest_eq hne] at HN
  have HB1 := Lib.hid hb1
  have HW := Lib.hid hW1
  unfold refNewestV markV at HN
  simp only at HN
  obtain ⟨m, hm⟩ : ∃ m, m = newestM x.marks := ⟨_, rfl⟩
  rw [← hm] at HN ⊢
  clear hm h hg1 hb1 hW1 hne
  go_enter Tryz.func20, Tryz.ntmps20
  go_wp2_with fail
  rw [← HW.out]
  go_wp2_with fail
  refine HN.out.mono ?_
  rintro e w2 ⟨rfl, hb2⟩
  have HB2 := Lib.hid (HB1.out.trans (hb2.mono HB1.out.size))
  clear hb2 c1
  go_wp2_with fail
  go_ret
  exact ⟨rfl, HB2.out.alloc HB2.out.size _⟩
end Go.Proofs.YtjlhdgmcaiiagaaGreatDoor

