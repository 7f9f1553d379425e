/- The reference's answers about a cart: Qty, Units, Dots, Marks, Time; Next; Same of names. -/
import Derived.Test.YtfnfbcaoihhbpaaGreatDoorC5
import Derived.Test.YtfnfbcaoihhbpaaGreatDoorD4
import Derived.Test.YtfnfbcaoihhbpaaGreatDoorDot2
import Derived.Test.YtfnfbcaoihhbpaaGreatDoorR9
import Derived.Test.YtfnfbcaoihhbpaaGreatDoorIt10
import Derived.Test.YtfnfbcaoihhbpaaGreatDoorReg
import Derived.Test.YtfnfbcaoihhbpaaGreatDoorR9u
import Derived.Test.YtfnfbcaoihhbpaaGreatDoorR11k
set_option linter.unusedSimpArgs false
set_option linter.unusedVariables false
namespace Go.Proofs.YtfnfbcaoihhbpaaGreatDoor
open Go.RowKit
def StrS (w : World) (v : Value) (l : List ByteArray) : Prop := ∃ o c, v = .slice o l.length c ∧ l.length ≤ maxLen ∧ ∀ k (h : k < l.length), ∃ b off, o = some ⟨b, off, none⟩ ∧ b < w.heap.size ∧ w.cell? ⟨b, off + k, none⟩ = some (.string l[k])
theorem StrS.below {w w' : World} {v : Value} {l : List ByteArray} (h : StrS w v l) (hb : Below w.heap.size w w') : StrS w' v l := by
 obtain ⟨o, c, e, hn, h⟩ := h
 refine ⟨o, c, e, hn, fun k hk => ?_⟩
 obtain ⟨b, off, e1, e2, e3⟩ := h k hk
 exact ⟨b, off, e1, Nat.lt_of_lt_of_le e2 hb.size, by rw [hb.cell (p := ⟨_, _, _⟩) e2]; exact e3⟩
theorem StrS.of_row {base : Nat} {w : World} {v : Value} {l : List ByteArray} (h : EStr.Row base w v l) : StrS w v l := by
 have hle := h.le
 obtain ⟨a, c, rfl⟩ := h.slice
 refine ⟨a, c, rfl, hle, fun k hk => ?_⟩
 obtain ⟨_, ⟨h1, h2⟩ | ⟨g, cap, cur, h1, -⟩⟩ := id h
 ·omega
 ·injection h1 with e1 e2 e3
  subst e1
  obtain ⟨hi, -, -⟩ := h.at
  refine ⟨g, 0, rfl, hi.gl, ?_⟩
  have := hi.cell k hk 0 (by decide)
  rw [show 0 + k = k * EStr.k + 0 by show 0 + k = k * 1 + 0; omega, this]
  rfl
theorem marksOf_leD (l : List ItemD) (nm : ByteArray) : (dotsM (marksOf l nm)).length ≤ (allDots l).length := by
 unfold marksOf findX
 rcases e : l.find? (fun x => decide (x.name = nm)) with _ | x
 ·rw [e]; exact Nat.zero_le _
 ·rw [e]
  obtain ⟨s, t, rfl⟩ := List.append_of_mem (List.mem_of_find?_eq_some e)
  show (dotsM x.marks).length ≤ (allDots (s ++ x :: t)).length
  unfold allDots
  rw [List.flatMap_append, List.flatMap_cons, List.length_append, List.length_append]
  omega
theorem dotsC_len (c : CartD) (nm : ByteArray) : (dotsC c nm).length ≤ (allDots c.items).length := by
 unfold dotsC
 split
 ·split
  ·exact setD_leL _
  ·exact marksOf_leD _ _
 ·exact Nat.zero_le _
end Go.Proofs.YtfnfbcaoihhbpaaGreatDoor
set_option linter.unusedSimpArgs false
set_option linter.unusedVariables false
set_option maxRecDepth 100000
set_option maxHeartbeats 8000000
namespace Go.Proofs.YtfnfbcaoihhbpaaGreatDoor
open Go.RowKit Go.Maps

/-- A mark that no other one is newer than. -/
def freeM (l : List MarkD) (m : MarkD) : Bool := !l.any (fun x => newerM x m)
def refNewest (l : List MarkD) : Option MarkD := l.find? (freeM l)
def refNewestV : Option MarkD → Value
 | some m => .tuple #[markV m, .int .i64 0]
 | none => .tuple #[markV ⟨⟨0, 0⟩, 0, 0⟩, .int .i64 9]
theorem refNewest_eq {l : List MarkD} (h : l ≠ []) : refNewest l = some (newestM l) := by
 obtain ⟨a, t, rfl⟩ : ∃ a t, l = a :: t := by
  cases l with
  | nil => exact absurd rfl h
  | cons a t => exact ⟨a, t, rfl⟩
 obtain ⟨i1, i2⟩ := greatM_spec (a :: t) a
 have hn : newestM (a :: t) = greatM a (a :: t) := rfl
 rw [← hn] at i1 i2
 have hmem : newestM (a :: t) ∈ a :: t := by
  rcases List.mem_cons.1 i1 with h1 | h1
  ·rw [h1]; simp
  ·exact h1
 have hfree : freeM (a :: t) (newestM (a :: t)) = true := by
  unfold freeM
  rw [List.any_eq_false.2 (fun x hx h2 => i2 x (List.mem_cons_of_mem _ hx) ((newerM_iff _ _).1 h2))]
  rfl
 have hs : (refNewest (a :: t)).isSome = true := by
  unfold refNewest
  rw [List.find?_isSome]
  exact ⟨_, hmem, hfree⟩
 obtain ⟨y, hy⟩ := Option.isSome_iff_exists.1 hs
 have hyf := List.find?_some hy
 have hym := List.mem_of_find?_eq_some hy
 rw [hy]
 congr 1
 refine newP_total (i2 y (List.mem_cons_of_mem _ hym)) (fun h3 => ?_)
 unfold freeM at hyf
 rw [Bool.not_eq_true', List.any_eq_false] at hyf
 exact hyf _ hmem ((newerM_iff _ _).2 h3)
theorem r8Newest_any (l : List MarkD) (v : Value) (w : World) (h : Arr MarkR 4 w v l) : Calls Tryz.prog 144 #[v] w fun e w' => e = .returned (refNewestV (refNewest l)) ∧ Below w.heap.size w w' := by
 have hn := h.len
 obtain ⟨o, c, rfl, hel⟩ := h.markAt
 have HEL := Hd hel
 obtain ⟨W1, hW1⟩ : ∃ W1, W1 = w.alloc (.cells #[.int .i64 0, .int .i64 0, .int .i64 0, .int .u64 0] 55) := ⟨_, rfl⟩
 have hb1 : Below w.heap.size w W1 := by rw [hW1]; exact bal
 have hg1 : W1.heap[w.heap.size]? = some (.cells #[.int .i64 0, .int .i64 0, .int .i64 0, .int .u64 0] 55) := by rw [hW1]; exact alloc_new _ _
 have HC : Hid (∀ wz, Below W1.heap.size W1 wz → wz.heap[w.heap.size]? = some (.cells #[.int .i64 0, .int .i64 0, .int .i64 0, .int .u64 0] 55)) := Hd (fun wz hz => by rw [hz.block _ (lt_of_heap hg1)]; exact hg1)
 have HB1 := Hd hb1
 have HW := Hd hW1
 clear hel h hg1 hb1 hW1
 go_enter Tryz.func144, Tryz.ntmps144
 go_wp2_with fail
 rw [← HW.out]
 go_loopw [4] (fun i wr => ∃ k : Nat, k ≤ l.length ∧ i = .int .i64 k ∧ (l.take k).any (freeM l) = false ∧ Below W1.heap.size W1 wr) (fun i _ => l.length - (intOf i).toNat)
 case atStart => exact ⟨0, Nat.zero_le _, rfl, rfl, Below.refl _ _⟩
 case round =>
  obtain ⟨k, hk, rfl, hall, hB⟩ := hrel
  have HALL := Hd hall
  have HB := Hd hB
  clear hall hB
  by_cases hlt : k < l.length
  ·have HTK := Hd (any_take_snoc (freeM l) l k hlt)
   have HFR : Hid (freeM l l[k] = !l.any (fun x => newerM x l[k])) := Hd rfl
   have a0 : (0 : Int) ≤ k := by omega
   have a1 : (k : Int) < l.length := by omega
   have hkw := wr1 k (by omega)
   obtain ⟨b, off, rfl, hbl, -⟩ := HEL.out k hlt
   go_wp2_with fail
   go_loopw [5, 6] (fun bt q wx => ∃ m : Nat, m ≤ l.length ∧ q = .int .i64 m ∧ bt = .bool ((l.take m).any (fun x => newerM x l[k])) ∧ Below W1.heap.size W1 wx) (fun _ q _ => l.length - (intOf q).toNat)
   case atStart => exact ⟨0, Nat.zero_le _, rfl, rfl, HB.out⟩
   case round =>
    obtain ⟨m, hm, rfl, rfl, hBx⟩ := hrel
    clear HB
    have HB := Hd hBx
    have HBW := Hd (btr HB1.out hBx)
    clear hBx
    by_cases hlm : m < l.length
    ·have b0 : (0 : Int) ≤ m := by omega
     have b1 : (m : Int) < l.length := by omega
     have hmw : IntKind.i64.wrap ((m : Int) + 1) = (m : Int) + 1 := by rw [IntKind.wrap_i64]; omega
     have HSN := Hd (any_take_snoc (fun x => newerM x l[k]) l m hlm)
     have HNW := Hd ((r8Newer_any l[m] l[k] wr.drew).mono (R' := fun e w' => e = .returned (.bool (newerM l[m] l[k])) ∧ Below wr.heap.size wr w') (fun _ _ ⟨a1, a2⟩ => ⟨a1, bdr.trans a2⟩))
     have HS : Hid (∀ wz, Below wr.heap.size wr wz → (wz.cell? ⟨b, off + m * 4, none⟩ = some (.int .i64 l[m].dot.rep) ∧ wz.cell? ⟨b, off + m * 4 + 1, none⟩ = some (.int .i64 l[m].dot.ctr) ∧ wz.cell? ⟨b, off + m * 4 + 2, none⟩ = some (.int .i64 l[m].qty) ∧ wz.cell? ⟨b, off + m * 4 + 3, none⟩ = some (.int .u64 l[m].time)) ∧ (wz.cell? ⟨b, off + k * 4, none⟩ = some (.int .i64 l[k].dot.rep) ∧ wz.cell? ⟨b, off + k * 4 + 1, none⟩ = some (.int .i64 l[k].dot.ctr) ∧ wz.cell? ⟨b, off + k * 4 + 2, none⟩ = some (.int .i64 l[k].qty) ∧ wz.cell? ⟨b, off + k * 4 + 3, none⟩ = some (.int .u64 l[k].time))) := Hd (fun wz hz => by
      have h5 := btr HBW.out hz
      obtain ⟨b', off', he', -, e0, e1, e2, e3, -⟩ := HEL.out m hlm
      cases he'
      obtain ⟨b', off', he', -, f0, f1, f2, f3, -⟩ := HEL.out k hlt
      cases he'
      exact ⟨⟨by rw [h5.cell (p := ⟨_, _, _⟩) hbl]; exact e0, by rw [h5.cell (p := ⟨_, _, _⟩) hbl]; exact e1, by rw [h5.cell (p := ⟨_, _, _⟩) hbl]; exact e2, by rw [h5.cell (p := ⟨_, _, _⟩) hbl]; exact e3⟩, by rw [h5.cell (p := ⟨_, _, _⟩) hbl]; exact f0, by rw [h5.cell (p := ⟨_, _, _⟩) hbl]; exact f1, by rw [h5.cell (p := ⟨_, _, _⟩) hbl]; exact f2, by rw [h5.cell (p := ⟨_, _, _⟩) hbl]; exact f3⟩)
     obtain ⟨r, hr⟩ : ∃ r, r = (l.take m).any (fun x => newerM x l[k]) := ⟨_, rfl⟩
     rw [← hr] at HSN ⊢
     obtain ⟨s, hs⟩ : ∃ s, s = newerM l[m] l[k] := ⟨_, rfl⟩
     rw [← hs] at HSN HNW
     clear hr hs
     have HSN2 : Hid ((l.take (m + 1)).any (fun x => newerM x l[k]) = (r || s)) := HSN
     clear HSN
     obtain ⟨x, hx⟩ : ∃ x, x = l[m] := ⟨_, rfl⟩
     obtain ⟨y, hy⟩ : ∃ y, y = l[k] := ⟨_, rfl⟩
     rw [← hx, ← hy] at HS HNW
     unfold markV at HNW
     clear hx hy
     cases r with
     | true =>
      go_upto_region 8 with fail
      refine NQ.to ?_
      refine wp_region_held_drew (S := (fun _ => True)) (by kernel_rfl) (trivial) (fun hS => ?_)
      refine tkR (n := 13) [0, 1, 2, 3, 4, 5, 6, 7, 8, 9, 10, 11, 12] rfl (by decide +kernel) hS ?_
      iterate 2 ((try simp only [Act.put, s1, s2, s3, s4, s5, s6]); refine ⟨_, ?_, rfl, Or.inl ⟨by kernel_rfl, fun w hSw => ok_of fun z hz => ?_⟩, ?_⟩; rotate_left; · (go_simp; exact hz))
      iterate 9 ((try simp only [Act.put, s1, s2, s3, s4, s5, s6]); refine ⟨_, undef, rfl, Or.inr ⟨by kernel_rfl, rfl⟩, ?_⟩)
      iterate 2 ((try simp only [Act.put, s1, s2, s3, s4, s5, s6]); refine ⟨_, ?_, rfl, Or.inl ⟨by kernel_rfl, fun w hSw => ok_of fun z hz => ?_⟩, ?_⟩; rotate_left; · (go_simp; exact hz))
      refine RunOK.done ?_
      try simp only [Act.put, s1, s2, s3, s4, s5, s6]
      refine wpAnyH_done (by kernel_rfl) ?_ _
      try simp only [Act.put, s1, s2, s3, s4, s5, s6]
      simp only [NQ]
      have hbf := below_drew1 HB.out
      clear hS
      go_wp2_with fail
      go_roundw
      case rel => exact ⟨m + 1, by omega, by go_num, by rw [HSN2.out]; rfl, hbf⟩
      case measure => simp [intOf]; omega
     | false =>
      go_upto_region 8 with fail
      refine NQ.to ?_
      refine wp_region_held_drew (S := (fun wz => (wz.cell? ⟨b, off + m * 4, none⟩ = some (.int .i64 x.dot.rep) ∧ wz.cell? ⟨b, off + m * 4 + 1, none⟩ = some (.int .i64 x.dot.ctr) ∧ wz.cell? ⟨b, off + m * 4 + 2, none⟩ = some (.int .i64 x.qty) ∧ wz.cell? ⟨b, off + m * 4 + 3, none⟩ = some (.int .u64 x.time)) ∧ (wz.cell? ⟨b, off + k * 4, none⟩ = some (.int .i64 y.dot.rep) ∧ wz.cell? ⟨b, off + k * 4 + 1, none⟩ = some (.int .i64 y.dot.ctr) ∧ wz.cell? ⟨b, off + k * 4 + 2, none⟩ = some (.int .i64 y.qty) ∧ wz.cell? ⟨b, off + k * 4 + 3, none⟩ = some (.int .u64 y.time)))) (by kernel_rfl) (HS.out _ bdr) (fun hS => ?_)
      refine tkR (n := 10) [0, 1, 2, 3, 4, 5, 6, 7, 8, 9] rfl (by decide +kernel) hS ?_
      iterate 10 ((try simp only [Act.put, s1, s2, s3, s4, s5, s6]); refine ⟨_, ?_, rfl, Or.inl ⟨by kernel_rfl, fun w hSw => ok_of fun z hz => ?_⟩, ?_⟩; rotate_left; · (obtain ⟨⟨f1, f2, f3, f4⟩, f5, f6, f7, f8⟩ := hSw; go_simp; exact hz))
      refine RunOK.done ?_
      try simp only [Act.put, s1, s2, s3, s4, s5, s6]
      refine rd1 10 (by decide +kernel) rfl (fun K hK => ?_)
      go_simp
      go_at_call 201
      refine HNW.out.mono ?_
      rintro e w2 ⟨rfl, hb2⟩
      go_simp
      refine Shut.out hK _ _ (HS.out w2 hb2) (fun hS2 => ?_); clear hK K hS; have hS := hS2; clear hS2
      refine tkR (n := 2) [11, 12] rfl (by decide +kernel) hS ?_
      iterate 2 ((try simp only [Act.put, s1, s2, s3, s4, s5, s6]); refine ⟨_, ?_, rfl, Or.inl ⟨by kernel_rfl, fun w hSw => ok_of fun z hz => ?_⟩, ?_⟩; rotate_left; · (go_simp; exact hz))
      refine RunOK.done ?_
      try simp only [Act.put, s1, s2, s3, s4, s5, s6]
      refine wpAnyH_done (by kernel_rfl) ?_ _
      try simp only [Act.put, s1, s2, s3, s4, s5, s6]
      simp only [NQ]
      have hbf := btr HB.out hb2
      clear hb2 hS
      go_wp2_with fail
      go_roundw
      case rel => exact ⟨m + 1, by omega, by go_num, by rw [HSN2.out]; rfl, hbf⟩
      case measure => simp [intOf]; omega
    ·have hme : m = l.length := by omega
     have HAN : Hid ((l.take m).any (fun x => newerM x l[k]) = l.any (fun x => newerM x l[k])) := Hd (by rw [hme, List.take_length])
     obtain ⟨r, hr⟩ : ∃ r, r = (l.take m).any (fun x => newerM x l[k]) := ⟨_, rfl⟩
     rw [← hr] at HAN ⊢
     rw [← HAN.out] at HFR
     clear hr HAN
     cases r with
     | true =>
      have HF : Hid ((l.take (k + 1)).any (freeM l) = false) := Hd (by rw [HTK.out, HALL.out, HFR.out]; rfl)
      go_wp2_with fail
      exact ⟨⟨k + 1, by omega, by go_num, HF.out, HB.out⟩, by simp [intOf]; omega⟩
     | false =>
      have HF : Hid (refNewest l = some l[k]) := Hd (by unfold refNewest; exact find_at _ _ k hlt HALL.out HFR.out)
      have z0 := HC.out wr HB.out
      have y0 : wr.cell? ⟨w.heap.size, 0, none⟩ = some (.int .i64 0) := cl0 z0 0 rfl
      have y1 : wr.cell? ⟨w.heap.size, 1, none⟩ = some (.int .i64 0) := cl0 z0 1 rfl
      have y2 : wr.cell? ⟨w.heap.size, 2, none⟩ = some (.int .i64 0) := cl0 z0 2 rfl
      have y3 : wr.cell? ⟨w.heap.size, 3, none⟩ = some (.int .u64 0) := cl0 z0 3 rfl
      have q0 := froz0 z0 0
      have q1 := froz0 z0 1
      have q2 := froz0 z0 2
      have q3 := froz0 z0 3
      obtain ⟨b', off', he', -, e0, e1, e2, e3, -⟩ := HEL.out k hlt
      cases he'
      have f0 : wr.cell? ⟨b, off + k * 4, none⟩ = some (.int .i64 l[k].dot.rep) := by rw [HBW.out.cell (p := ⟨_, _, _⟩) hbl]; exact e0
      have f1 : wr.cell? ⟨b, off + k * 4 + 1, none⟩ = some (.int .i64 l[k].dot.ctr) := by rw [HBW.out.cell (p := ⟨_, _, _⟩) hbl]; exact e1
      have f2 : wr.cell? ⟨b, off + k * 4 + 2, none⟩ = some (.int .i64 l[k].qty) := by rw [HBW.out.cell (p := ⟨_, _, _⟩) hbl]; exact e2
      have f3 : wr.cell? ⟨b, off + k * 4 + 3, none⟩ = some (.int .u64 l[k].time) := by rw [HBW.out.cell (p := ⟨_, _, _⟩) hbl]; exact e3
      go_wp2_with fail
      (try simp only [Exit.inBlock, Exit.then])
      refine bodyPost_ret (v := .tuple #[.agg #[.int .i64 l[k].dot.rep, .int .i64 l[k].dot.ctr, .int .i64 l[k].qty, .int .u64 l[k].time], .int .i64 0]) ?_ rfl ⟨by rw [HF.out]; rfl, (((HBW.out.setCell (Nat.le_refl _) _).setCell (Nat.le_refl _) _).setCell (Nat.le_refl _) _).setCell (Nat.le_refl _) _⟩
      rw [results_cell_tmp rfl]
      go_simp
  ·have hke : k = l.length := by omega
   have HF : Hid (refNewest l = none) := Hd (by have := HALL.out; rw [hke, List.take_length] at this; exact find_none _ _ this)
   have z0 := HC.out wr HB.out
   have y0 : wr.cell? ⟨w.heap.size, 0, none⟩ = some (.int .i64 0) := cl0 z0 0 rfl
   have y1 : wr.cell? ⟨w.heap.size, 1, none⟩ = some (.int .i64 0) := cl0 z0 1 rfl
   have y2 : wr.cell? ⟨w.heap.size, 2, none⟩ = some (.int .i64 0) := cl0 z0 2 rfl
   have y3 : wr.cell? ⟨w.heap.size, 3, none⟩ = some (.int .u64 0) := cl0 z0 3 rfl
   have q0 := froz0 z0 0
   have q1 := froz0 z0 1
   have q2 := froz0 z0 2
   have q3 := froz0 z0 3
   have HBW := Hd (HB1.out.trans (HB.out.mono HB1.out.size))
   go_wp2_with fail
   (try simp only [Exit.inBlock, Exit.then])
   refine bodyPost_ret (v := .tuple #[.agg #[.int .i64 0, .int .i64 0, .int .i64 0, .int .u64 0], .int .i64 9]) ?_ rfl ⟨by rw [HF.out]; rfl, (((HBW.out.setCell (Nat.le_refl _) _).setCell (Nat.le_refl _) _).setCell (Nat.le_refl _) _).setCell (Nat.le_refl _) _⟩
   rw [results_cell_tmp rfl]
   go_simp
end Go.Proofs.YtfnfbcaoihhbpaaGreatDoor
set_option linter.unusedSimpArgs false
set_option linter.unusedVariables false
set_option maxRecDepth 100000
set_option maxHeartbeats 8000000
namespace Go.Proofs.YtfnfbcaoihhbpaaGreatDoor
open Go.RowKit Go.Maps Go.Sort Go.Shelf

/-! ### The time of the next mark -/
def tmN (l : List MarkD) : Int := ((refNewest l).getD zM).time
theorem tmN_lastT {l : List MarkD} (h : ∀ m ∈ l, 0 < m.time) : tmN l = lastT l := by
 rw [lastT_newest h]
 unfold tmN
 by_cases e : l = []
 ·subst e; rfl
 ·rw [refNewest_eq e]; rfl
theorem tmN_U64 {l : List MarkD} (h : ∀ m ∈ l, MI m) : U64 (tmN l) := by
 unfold tmN
 cases e : refNewest l with
 | none => exact ⟨by decide, by decide⟩
 | some m =>
  have hm : m ∈ l := List.mem_of_find?_eq_some e
  exact (h m hm).2.2.2
theorem r8Next_any (l : List MarkD) (v : Value) (w : World) (h : Arr MarkR 4 w v l) :
  Calls Tryz.prog 88 #[v] w fun e w' => e = .returned (.tuple #[.int .u64 (if tmN l = 18446744073709551615 then 0 else tmN l + 1), .int .i64 (if tmN l = 18446744073709551615 then 15 else 0)]) ∧ Below w.heap.size w w' := by
 have HN := r8Newest_any l v w h
 have hu := tmN_U64 h.marksMI
 obtain ⟨q, hq⟩ : ∃ q : Int, refNewestV (refNewest l) = .tuple #[markV ((refNewest l).getD zM), .int .i64 q] := by
  cases refNewest l with
  | none => exact ⟨9, rfl⟩
  | some m => exact ⟨0, rfl⟩
 rw [hq] at HN
 unfold tmN at hu ⊢
 generalize (refNewest l).getD zM = m at *
 unfold markV at HN
 unfold U64 at hu
 have HN := Hd HN
 obtain ⟨o, c, rfl, -⟩ := id h
 clear hq h
 by_cases hmax : m.time = 18446744073709551615
 ·have hwr : IntKind.u64.wrap (m.time + 1) = 0 := by rw [hmax]; rfl
  have h1 : (if m.time = 18446744073709551615 then (0 : Int) else m.time + 1) = 0 := if_pos hmax
  have h2 : (if m.time = 18446744073709551615 then (15 : Int) else 0) = 15 := if_pos hmax
  rw [h1, h2]
  clear h1 h2 hmax
  go_enter Tryz.func88, Tryz.ntmps88
  go_wp2_with fail
  refine HN.out.mono ?_
  rintro e w2 ⟨rfl, hb2⟩
  have HB2 := Hd hb2
  clear hb2
  go_wp2_with fail
  go_ret2
  exact ⟨rfl, HB2.out.alloc HB2.out.size _⟩
 ·have hwr : IntKind.u64.wrap (m.time + 1) = m.time + 1 := by rw [IntKind.wrap_u64]; omega
  have hb0 : (m.time + 1 == 0) = false := by rw [beq_eq_false_iff_ne]; omega
  have h1 : (if m.time = 18446744073709551615 then (0 : Int) else m.time + 1) = m.time + 1 := if_neg hmax
  have h2 : (if m.time = 18446744073709551615 then (15 : Int) else 0) = 0 := if_neg hmax
  rw [h1, h2]
  clear h1 h2 hmax
  go_enter Tryz.func88, Tryz.ntmps88
  go_wp2_with fail
  refine HN.out.mono ?_
  rintro e w2 ⟨rfl, hb2⟩
  have HB2 := Hd hb2
  clear hb2
  go_wp2_with fail
  go_ret2
  exact ⟨rfl, HB2.out.alloc HB2.out.size _⟩
/-- The data of a cart as the walks below want them. -/
theorem cartAt {w : World} {c : CartD} {v1 v2 v3 : Value} (h : CartA w v1 v2 v3 c) : ∃ o1 n1 k1 o2 n2 k2 o3 n3 k3, v1 = .slice o1 n1 k1 ∧ v2 = .slice o2 n2 k2 ∧ v3 = .slice o3 n3 k3 ∧ n3 = c.items.length ∧ n3 ≤ 9223372036854775807 ∧ CartA w (.slice o1 n1 k1) (.slice o2 n2 k2) (.slice o3 n3 k3) c ∧ ∀ i (hi : i < c.items.length), ∃ b off mo mc, o3 = some ⟨b, off, none⟩ ∧ b < w.heap.size ∧ w.cell? ⟨b, off + i * 2, none⟩ = some (.string c.items[i].name) ∧ w.cell? ⟨b, off + i * 2 + 1, none⟩ = some (.slice mo c.items[i].marks.length mc) ∧ c.items[i].name.size ≤ maxLen ∧ Arr MarkR 4 w (.slice mo c.items[i].marks.length mc) c.items[i].marks := by
 have hl := h.2.2.len
 obtain ⟨o3', k3', e3', hel⟩ := h.2.2.itemAt
 obtain ⟨o1, n1, k1, o2, n2, k2, o3, n3, k3, rfl, rfl, rfl, hn1, hn2, hn3⟩ := opn4 h
 refine ⟨_, _, _, _, _, _, _, _, _, rfl, rfl, rfl, hn3, by omega, h, fun i hi => ?_⟩
 obtain ⟨b, off, mv, e, hb, e0, e1, hs, hm⟩ := hel i hi
 obtain ⟨mo, mc, rfl⟩ := hm.slice
 exact ⟨b, off, mo, mc, by injection e3' with e3; rw [e3, e], hb, e0, e1, hs, hm⟩
theorem r10Marks_any (c : CartD) (v1 v2 v3 : Value) (w : World) (h : CartA w v1 v2 v3 c) (hl : Lt c.items) :
  Calls Tryz.prog 89 #[.agg #[v1, v2, v3]] w fun e w' => ∃ v', e = .returned v' ∧ EMark.Row w.heap.size w' v' (allMarks c.items) ∧ Below w.heap.size w w' := by
 obtain ⟨o1, n1, k1, o2, n2, k2, o3, n3, k3, rfl, rfl, rfl, hn3, hml, hA, hel⟩ := cartAt h
 obtain ⟨W0, HW, HB, HS, HK0⟩ := box1 w #[.slice o1 n1 k1, .slice o2 n2 k2, .slice o3 n3 k3] 28
 have HC := Hd (fun wz (hz : Below W0.heap.size W0 wz) => cel3 (HK0.out wz hz))
 have HIA := Hd hel
 have HN3 := Hd hn3
 have HA := Hd (hA.below HB.out)
 have HBW := Hd HB.out
 clear hel hA HB HS h hn3
 obtain ⟨c0, c1, c2⟩ := HC.out W0 brf
 have HSN := Hd (fun k h => allMarks_snoc c.items k h)
 have HLM : Hid (∀ k, (allMarks (c.items.take k)).length ≤ 1000000) := Hd (fun k => by
  have h1 := allMarks_len (c.items.take k) (fun x hx => hl.2 x (List.mem_of_mem_take hx))
  have h2 : (c.items.take k).length ≤ c.items.length := by rw [List.length_take]; omega
  have h3 := hl.1
  have h4 := Nat.mul_le_mul_right 1000 (Nat.le_trans h2 h3)
  omega)
 have HL := Hd hl
 clear hl HA
 go_enter Tryz.func89, Tryz.ntmps89
 go_wp2_with fail
 rw [← HW.out]
 clear c0 c1 c2
 go_loopw [3, 4] (fun ov iv wr => ∃ k : Nat, k ≤ n3 ∧ iv = .int .i64 k ∧ EMark.Row W0.heap.size wr ov (allMarks (c.items.take k)) ∧ Below W0.heap.size W0 wr) (fun _ iv _ => n3 - (intOf iv).toNat)
 case atStart => exact ⟨0, Nat.zero_le _, rfl, Enc.Row.nil _ _, Below.refl _ _⟩
 case round =>
  obtain ⟨k, hk, rfl, hrow, hB⟩ := hrel
  have HB := Hd hB
  have HROW := Hd hrow
  clear hB
  obtain ⟨oa, ca, rfl⟩ := hrow.slice
  clear hrow
  obtain ⟨c0, c1, c2⟩ := HC.out wr HB.out
  by_cases hlt : k < n3
  ·have hlt' : k < c.items.length := by have := HN3.out; omega
   obtain ⟨b, off, om, cm, rfl, hbl, e0, e1, hns, hmk⟩ := HIA.out k hlt'
   have hBw := btr HBW.out HB.out
   have f0 : wr.cell? ⟨b, off + k * 2, none⟩ = some (.string c.items[k].name) := by rw [hBw.cell (p := ⟨_, _, _⟩) hbl]; exact e0
   have f1 : wr.cell? ⟨b, off + k * 2 + 1, none⟩ = some (.slice om c.items[k].marks.length cm) := by rw [hBw.cell (p := ⟨_, _, _⟩) hbl]; exact e1
   have HS1 := Hd (HSN.out k hlt')
   have hll := HLM.out k
   have hl2 := HL.out.2 _ (List.getElem_mem hlt')
   have HSRC : Hid (EMark.Src wr (.slice om c.items[k].marks.length cm) c.items[k].marks) := Hd (Arr.toSrc (E := EMark) (hmk.marks hBw) (fun a cs h => h.1))
   have hsz2 : W0.heap.size ≤ wr.heap.size := HB.out.size
   have a0 : (0 : Int) ≤ k := by omega
   have a1 : (k : Int) < (n3 : Int) := by omega
   have hkw : IntKind.i64.wrap ((k : Int) + 1) = (k : Int) + 1 := by rw [IntKind.wrap_i64]; have := HL.out.1; omega
   clear e0 e1 hbl hns hmk hBw
   generalize c.items[k].name = nm at *
   generalize hML : c.items[k].marks = ML at *
   generalize hAM : allMarks (c.items.take k) = AM at *
   go_wp2_with (at_builtin; go_loud (refine wpList_append_row rfl _ _ 48 rfl EMark W0.heap.size (.agg #[.int .i64 0, .int .i64 0, .int .i64 0, .int .u64 0]) 32 Tryz.underlying48 infoMark (by decide) (by decide) _ _ rfl HROW.out _ _ rfl HSRC.out (by first | omega | (simp; omega)) hsz2 ?_); intro v3 w3 hown hgr)
   have HR3 := Hd hown
   have HB3 := Hd (HB.out.grown hgr hsz2 (fun j hj => (HROW.out.lt _ hj).1))
   clear hown hgr f0 f1 c0 c1 c2
   go_roundw
   case rel => exact ⟨k + 1, by omega, by go_num, by rw [HS1.out]; exact HR3.out, HB3.out⟩
   case measure => simp [intOf]; omega
  ·have hke : k = n3 := by omega
   have hfull : c.items.take k = c.items := by rw [hke, HN3.out, List.take_length]
   have hrow := HROW.out.mono HBW.out.size
   rw [hfull] at hrow ⊢
   have HF := Hd hrow
   clear hrow HROW hfull
   go_wp2_with fail
   go_ret
   exact ⟨_, rfl, HF.out, btr HBW.out HB.out⟩
theorem r10Time_any (c : CartD) (v1 v2 v3 : Value) (w : World) (h : CartA w v1 v2 v3 c) (hl : Lt c.items) (hv : validC c = true) :
  Calls Tryz.prog 45 #[.agg #[v1, v2, v3]] w fun e w' => e = .returned (.tuple #[.int .u64 (timeC c), .int .i64 (timeCE c)]) ∧ Below w.heap.size w w' := by
 have ht : tmN (allMarks c.items) = lastT (allMarks c.items) := tmN_lastT (allMarks_time (validC_parts hv).2.1)
 have h1 : timeC c = (if tmN (allMarks c.items) = 18446744073709551615 then 0 else tmN (allMarks c.items) + 1) := by unfold timeC; rw [hv, if_pos rfl, ht]
 have h2 : timeCE c = (if tmN (allMarks c.items) = 18446744073709551615 then 15 else 0) := by unfold timeCE; rw [hv, if_pos rfl, ht]
 obtain ⟨T1, hT1⟩ : ∃ x, x = (if tmN (allMarks c.items) = 18446744073709551615 then (0 : Int) else tmN (allMarks c.items) + 1) := ⟨_, rfl⟩
 obtain ⟨T2, hT2⟩ : ∃ x, x = (if tmN (allMarks c.items) = 18446744073709551615 then (15 : Int) else 0) := ⟨_, rfl⟩
 rw [h1, h2, ← hT1, ← hT2]
 have HT := Hd (And.intro hT1 hT2)
 have hmi : ∀ m ∈ allMarks c.items, MI m := fun m hm => by
  unfold allMarks at hm
  obtain ⟨x, hx, hm⟩ := List.mem_flatMap.1 hm
  obtain ⟨i, hi, rfl⟩ := List.mem_iff_getElem.1 hx
  obtain ⟨o3', k3', e3', hel⟩ := h.2.2.itemAt
  obtain ⟨_, _, _, _, _, _, _, _, h6⟩ := hel i hi
  exact h6.marksMI m hm
 have HMI := Hd hmi
 clear h1 h2 ht hmi hT1 hT2
 obtain ⟨o1, n1, k1, o2, n2, k2, o3, n3, k3, rfl, rfl, rfl, hn3, hml, hA, hel⟩ := cartAt h
 obtain ⟨W0, HW, HB, HS, HK0⟩ := box1 w #[.slice o1 n1 k1, .slice o2 n2 k2, .slice o3 n3 k3] 28
 have HC := Hd (fun wz (hz : Below W0.heap.size W0 wz) => cel3 (HK0.out wz hz))
 have HIA := Hd hel
 have HN3 := Hd hn3
 have HA := Hd (hA.below HB.out)
 have HBW := Hd HB.out
 have HM := Hd (r10Marks_any c _ _ _ W0 HA.out hl)
 clear hel hA HB HS h hn3 hl
 obtain ⟨c0, c1, c2⟩ := HC.out W0 brf
 go_enter Tryz.func45, Tryz.ntmps45
 go_wp2_with fail
 rw [← HW.out]
 go_wp2_with fail
 refine HM.out.mono ?_
 rintro e w1 ⟨v', rfl, hrow, hb1⟩
 have hN := r8Next_any _ _ w1 (Arr.of_marks hrow HMI.out)
 rw [← HT.out.1, ← HT.out.2] at hN
 have HN := Hd hN
 have HB1 := Hd (btr HBW.out hb1)
 clear hN
 clear hrow hb1 HM c0 c1 c2
 go_wp2_with fail
 refine HN.out.mono ?_
 rintro e w2 ⟨rfl, hb2⟩
 have HB2 := Hd (btr HB1.out hb2)
 clear hb2
 go_wp2_with fail
 go_ret2
 exact ⟨rfl, HB2.out⟩
theorem r10Dots_any (c : CartD) (nm : ByteArray) (v1 v2 v3 : Value) (w : World) (h : CartA w v1 v2 v3 c) (hl : Lt c.items) (hv : validC c = true) :
  Calls Tryz.prog 47 #[.agg #[v1, v2, v3], .string nm] w fun e w' => ∃ v', e = .returned v' ∧ Arr DotR 2 w' v' (dotsC c nm) ∧ Below w.heap.size w w' := by
 have HVI : Hid (∀ x ∈ c.items, oneI x = true) := Hd (validI_parts (validC_parts hv).2.1).1
 have HQ0 : Hid (nm.size = 0 → dotsC c nm = setD (allDots c.items)) := Hd (fun e => by unfold dotsC; rw [hv, if_pos rfl, if_pos e])
 have HQ1 : Hid (nm.size ≠ 0 → dotsC c nm = dotsM (findX c.items nm).marks) := Hd (fun e => by unfold dotsC marksOf; rw [hv, if_pos rfl, if_neg e])
 have HQ2 : Hid (thereB c.items nm = false → (findX c.items nm).marks = []) := Hd (fun e => by
  have h0 : c.items.find? (fun x => decide (x.name = nm)) = none := by
   rw [List.find?_eq_none]
   intro x hx
   have := List.any_eq_false.1 e x hx
   simpa using this
  unfold findX
  rw [h0]
  rfl)
 obtain ⟨o1, n1, k1, o2, n2, k2, o3, n3, k3, rfl, rfl, rfl, hn3, hml, hA, hel⟩ := cartAt h
 obtain ⟨W0, HW, HB, HS, HK0⟩ := box1 w #[.slice o1 n1 k1, .slice o2 n2 k2, .slice o3 n3 k3] 28
 have HC := Hd (fun wz (hz : Below W0.heap.size W0 wz) => cel3 (HK0.out wz hz))
 have HIA := Hd hel
 have HN3 := Hd hn3
 have HA := Hd (hA.below HB.out)
 have HBW := Hd HB.out
 have HF := Hd (r9Find_any nm c.items _ W0 HA.out.2.2)
 have HD := Hd (r9Dots_any c.items _ W0 HA.out.2.2 hl)
 have HL := Hd hl
 clear hel hA HB HS h hn3 hl
 obtain ⟨c0, c1, c2⟩ := HC.out W0 brf
 clear HA hv
 generalize dotsC c nm = D at *
 by_cases h0 : nm.size = 0
 ·have e0 : nm = ⟨#[]⟩ := by
   obtain ⟨a⟩ := nm
   congr 1
   exact Array.eq_empty_of_size_eq_zero h0
  have HD0 := Hd (HQ0.out h0)
  have hse : nm.toList.isEmpty = true := by rw [bytes_isEmpty]; exact decide_eq_true h0
  clear HQ0 HQ1 HQ2 HF h0 e0
  go_enter Tryz.func47, Tryz.ntmps47
  go_wp2_with fail
  rw [← HW.out]
  go_wp2_with fail
  refine HD.out.mono ?_
  rintro e w1 ⟨v', rfl, hr, hb1⟩
  have HR := Hd hr
  have HB1 := Hd (btr HBW.out hb1)
  clear hr hb1
  go_wp2_with fail
  go_ret
  exact ⟨_, rfl, by rw [HD0.out]; exact HR.out, HB1.out⟩
 ·have e0 : ¬ nm = ⟨#[]⟩ := fun e => h0 (by rw [e]; rfl)
  have HD0 := Hd (HQ1.out h0)
  have hse : nm.toList.isEmpty = false := by rw [bytes_isEmpty]; exact decide_eq_false h0
  clear HQ0 HQ1 HD h0 e0
  go_enter Tryz.func47, Tryz.ntmps47
  go_wp2_with fail
  rw [← HW.out]
  go_wp2_with fail
  refine HF.out.mono ?_
  rintro e w1 ⟨i, rfl, hix, hb1⟩
  have HB := Hd hb1
  clear hb1 HF c0 c1 c2
  obtain ⟨c0, c1, c2⟩ := HC.out w1 HB.out
  rcases hix with ⟨rfl, hno⟩ | ⟨k, hlt', rfl, hnm, htk⟩
  ·have HD1 : Hid (D = []) := Hd (by rw [HD0.out, HQ2.out hno]; rfl)
   clear HD0 HQ2 hno
   go_wp2_with fail
   go_ret
   exact ⟨_, rfl, by rw [HD1.out]; exact arr_nil, btr HBW.out HB.out⟩
  ·have hnm' : c.items[k].name = nm := of_decide_eq_true hnm
   obtain ⟨hfx, hth⟩ := find_nth hlt' hnm' htk
   have HD1 : Hid (D = dotsM c.items[k].marks) := Hd (by rw [HD0.out, hfx])
   clear HD0 HQ2 hth hfx htk hnm hnm'
   obtain ⟨wr, hwr⟩ : ∃ x, x = w1 := ⟨_, rfl⟩
   rw [← hwr] at HB c0 c1 c2 ⊢
   clear hwr
   obtain ⟨b, off, om, cm, rfl, hbl, e0, e1, hns, hmk⟩ := HIA.out k hlt'
   have hBw := btr HBW.out HB.out
   have f0 : wr.cell? ⟨b, off + k * 2, none⟩ = some (.string c.items[k].name) := by rw [hBw.cell (p := ⟨_, _, _⟩) hbl]; exact e0
   have f1 : wr.cell? ⟨b, off + k * 2 + 1, none⟩ = some (.slice om c.items[k].marks.length cm) := by rw [hBw.cell (p := ⟨_, _, _⟩) hbl]; exact e1
   have HMI : Hid (∀ d ∈ dotsM c.items[k].marks, DI d) := Hd (fun d hd => by
    obtain ⟨m, hm, rfl⟩ := List.mem_map.1 hd
    exact ⟨(hmk.marksMI m hm).1, (hmk.marksMI m hm).2.1⟩)
   have hl2 := HL.out.2 _ (List.getElem_mem hlt')
   have HQY := Hd (r8Dots_any c.items[k].marks _ wr (hmk.marks hBw) (by omega))
   have HLM : Hid (c.items[k].marks.length = (dotsM c.items[k].marks).length) := Hd (by unfold dotsM; rw [List.length_map])
   have a0 : (0 : Int) ≤ k := by omega
   have a1 : (k : Int) < (n3 : Int) := by have := HN3.out; omega
   have a2 : ¬ ((k : Int) < 0) := by omega
   clear hmk e0 e1 hbl hns hBw hl2
   rw [HLM.out] at HQY f1
   generalize dotsM c.items[k].marks = M at *
   generalize c.items[k].name = nx at *
   go_wp2_with fail
   refine HQY.out.mono ?_
   rintro e w2 ⟨v', rfl, hr, hb2⟩
   have HB2 := Hd (btr HB.out hb2)
   have HR := Hd hr
   clear hr hb2 HQY c0 c1 c2 f0 f1
   go_wp2_with fail
   go_ret
   exact ⟨_, rfl, by rw [HD1.out]; exact Arr.of_dots HR.out HMI.out, btr HBW.out HB2.out⟩
end Go.Proofs.YtfnfbcaoihhbpaaGreatDoor
