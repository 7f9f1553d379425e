/- Law 11's known: what its boxes hold. -/
import Derived.Test.YtemfaojmelljpaaGreatDoorC22
import Derived.Test.YtemfaojmelljpaaGreatDoorReg
import Derived.Test.YtemfaojmelljpaaGreatDoorCanonP
set_option linter.unusedSimpArgs false
set_option linter.unusedVariables false
set_option maxRecDepth 100000
set_option maxHeartbeats 4000000
namespace Go.Proofs.YtemfaojmelljpaaGreatDoor
open Go.RowKit Go.Maps Go.Sort Go.Shelf

theorem l11mark_any (a b q t : Int) (w : World) : Calls Tryz.prog 25 #[.int .i64 a, .int .i64 b, .int .i64 q, .int .u64 t] w fun e w' => e = .returned (.agg #[.int .i64 a, .int .i64 b, .int .i64 q, .int .u64 t]) ∧ Below w.heap.size w w' := by
 go_enter Tryz.func25, Tryz.ntmps25
 go_wp2
 (try simp only [Exit.inBlock, Exit.then])
 refine bodyPost_ret (v := .agg #[.int .i64 a, .int .i64 b, .int .i64 q, .int .u64 t]) ?_ rfl ⟨rfl, bal⟩;rw [results_cell_one rfl];go_simp
def teaN : ByteArray := ⟨#[84, 101, 97]⟩
def ofC (ps : List DotD) (ms : List MarkD) : CartD := ⟨ps, [], if ms = [] then [] else [⟨teaN, ms⟩]⟩
def PairsIs (w : World) (v : Value) (ps : List DotD) : Prop :=
 ∃ o c, v = .slice o (2 * ps.length) c ∧ ∀ k (h : k < ps.length), ∃ b, o = some ⟨b, 0, none⟩ ∧ b < w.heap.size ∧ w.cell? ⟨b, 2 * k, none⟩ = some (.int .i64 ps[k].rep) ∧ w.cell? ⟨b, 2 * k + 1, none⟩ = some (.int .i64 ps[k].ctr)
theorem PairsIs.below {w w' : World} {v : Value} {ps : List DotD} (h : PairsIs w v ps) (hb : Below w.heap.size w w') : PairsIs w' v ps := by
 obtain ⟨o, c, e, h⟩ := h;refine ⟨o, c, e, fun k hk => ?_⟩
 obtain ⟨b, e1, e2, e3, e4⟩ := h k hk;exact ⟨b, e1, Nat.lt_of_lt_of_le e2 hb.size, by rw [hb.cell (p := ⟨_, _, _⟩) e2]; exact e3, by rw [hb.cell (p := ⟨_, _, _⟩) e2]; exact e4⟩

theorem l11of_any (ps : List DotD) (ms : List MarkD) (pv mv : Value) (w : World) (hp : PairsIs w pv ps) (hmr : EMark.Row 0 w mv ms) (hmi : ∀ m ∈ ms, MI m) (hd : ∀ d ∈ ps, DI d) (hl : ps.length ≤ 1000) :
  Calls Tryz.prog 26 #[pv, mv] w fun e w' => ∃ x1 x2 x3, e = .returned (.agg #[x1, x2, x3]) ∧ (CartA w' x1 x2 x3 (ofC ps ms) ∧ OwnC 0 w' x1 x2 x3 (ofC ps ms)) ∧ Below w.heap.size w w' := by
 have hm : Arr MarkR 4 w mv ms := Arr.of_marks hmr hmi;have HMR := Hd hmr;have HMI := Hd hmi;clear hmr hmi;obtain ⟨po, pc, rfl, hpc⟩ := hp;have hmn := hm.len;obtain ⟨mo, mc, rfl⟩ := hm.slice;obtain ⟨n, hn⟩ : ∃ n, n = ps.length := ⟨_, rfl⟩;obtain ⟨mn, hmn2⟩ : ∃ n, n = ms.length := ⟨_, rfl⟩;rw [← hn] at hl ⊢;obtain ⟨m, hm2⟩ : ∃ m, m = 2 * n := ⟨_, rfl⟩;rw [← hm2];rw [← hmn2] at hm hmn ⊢;obtain ⟨W1, hW1⟩ : ∃ W1, W1 = (w.alloc (.cells #[.slice none 0 0, .slice none 0 0, .slice none 0 0] 28)).alloc (.cells #[.slice none 0 0, .slice none 0 0, .slice none 0 0] 28) := ⟨_, rfl⟩;have hs1 : W1.heap.size = w.heap.size + 1 + 1 := by rw [hW1]; simp
 have hb1 : Below w.heap.size w W1 := by rw [hW1]; exact (bal).alloc (by simp) _
 have hc4 : W1.heap[w.heap.size]? = some (.cells #[.slice none 0 0, .slice none 0 0, .slice none 0 0] 28) := by rw [hW1]; exact ((bal).block _ (by rw [alloc_size]; omega)).trans (alloc_new _ _)
 have hc5 : W1.heap[w.heap.size + 1]? = some (.cells #[.slice none 0 0, .slice none 0 0, .slice none 0 0] 28) := by
  rw [hW1];have := alloc_new (w.alloc (.cells #[.slice none 0 0, .slice none 0 0, .slice none 0 0] 28)) (.cells #[.slice none 0 0, .slice none 0 0, .slice none 0 0] 28);rw [alloc_size] at this;exact this
 have HS1 := Hd hs1;have HB1 := Hd hb1;have HW := Hd hW1;have HC4 := Hd hc4;have HM := Hd hm;have HPC := Hd hpc;have HN := Hd hn;have HMN := Hd hmn2;have HD := Hd hd;have hinit : ∃ k : Nat, k ≤ n ∧ (.int .i64 0 : Value) = .int .i64 ((2 * k : Nat) : Int) ∧ ∃ ov, W1.heap[w.heap.size + 1]? = some (.cells #[ov, .slice none 0 0, .slice none 0 0] 28) ∧ EDot.Row (w.heap.size + 1 + 1) W1 ov (ps.take k) ∧ Below (w.heap.size + 1) W1 W1 := ⟨0, Nat.zero_le _, rfl, _, hc5, Enc.Row.nil _ _, Below.refl _ _⟩;have HI := Hd hinit;clear hs1 hb1 hW1 hc4 hc5 hm hpc hn hmn2 hd hinit
 go_enter Tryz.func26, Tryz.ntmps26
 go_wp2_with fail
 rw [← HW.out]
 go_wp2_with fail
 go_loopw [6] (fun i wr => ∃ k : Nat, k ≤ n ∧ i = .int .i64 ((2 * k : Nat) : Int) ∧ ∃ ov, wr.heap[w.heap.size + 1]? = some (.cells #[ov, .slice none 0 0, .slice none 0 0] 28) ∧ EDot.Row (w.heap.size + 1 + 1) wr ov (ps.take k) ∧ Below (w.heap.size + 1) W1 wr) (fun i _ => 2 * n + 2 - (intOf i).toNat)
 case atStart => exact HI.out
 case round =>
  obtain ⟨k, hk, rfl, ov, hcr, hrow, hbr⟩ := hrel
  by_cases hlt : k < n
  ·have hlt' : k < ps.length := by rw [← HN.out]; exact hlt
   obtain ⟨pb, rfl, hpb, e0, e1⟩ := HPC.out k hlt';have hpn : pb < w.heap.size + 1 := by omega
   have c0 : wr.cell? ⟨pb, 2 * k, none⟩ = some (.int .i64 ps[k].rep) := by rw [hbr.cell (p := ⟨_, _, _⟩) hpn, HB1.out.cell (p := ⟨_, _, _⟩) hpb]; exact e0
   have c1 : wr.cell? ⟨pb, 2 * k + 1, none⟩ = some (.int .i64 ps[k].ctr) := by rw [hbr.cell (p := ⟨_, _, _⟩) hpn, HB1.out.cell (p := ⟨_, _, _⟩) hpb]; exact e1
   have HT : Hid (ps.take (k + 1) = ps.take k ++ [ps[k]]) := Hd (List.take_succ_eq_append_getElem hlt');have HL1 : Hid ((ps.take k).length = k) := Hd (by rw [List.length_take]; omega)
   have t1 : ((2 * k : Nat) : Int) + 1 < ((2 * n : Nat) : Int) := by omega
   have t0 : (0 : Int) ≤ ((2 * k : Nat) : Int) := by omega
   have t2 : ((2 * k : Nat) : Int) < ((2 * n : Nat) : Int) := by omega
   have kw1 : IntKind.i64.wrap (((2 * k : Nat) : Int) + 1) = ((2 * k : Nat) : Int) + 1 := by rw [IntKind.wrap_i64]; omega
   have kw2 : IntKind.i64.wrap (((2 * k : Nat) : Int) + 2) = ((2 * k : Nat) : Int) + 2 := by rw [IntKind.wrap_i64]; omega
   generalize ps[k] = x at *
   obtain ⟨j, hj⟩ : ∃ j, j = 2 * k := ⟨_, rfl⟩;rw [← hj] at c0 c1 t1 t0 t2 kw1 kw2 ⊢;rw [← hm2] at t1 t2;have HJ := Hd hj;have HM2 := Hd hm2;obtain ⟨oa, oc, rfl⟩ := hrow.slice;rw [HL1.out] at hrow hcr;have d0 : wr.cell? ⟨w.heap.size + 1, 0, none⟩ = some (.slice oa k oc) := cl0 hcr 0 rfl;have hbb : Below wr.heap.size wr (wr.drew.alloc (.cells #[.int .i64 x.rep, .int .i64 x.ctr] 51)) := bdr.alloc (Nat.le_refl _) _;have HR := Hd (hrow.below hbb);have HSRC : Hid (EDot.Src (wr.drew.alloc (.cells #[.int .i64 x.rep, .int .i64 x.ctr] 51)) (.slice (some ⟨wr.drew.heap.size, 0, none⟩) 1 1) [x]) := Hd (Enc.Src.one_lit (E := EDot) wr.drew 51 _);have hsz : w.heap.size + 1 + 1 ≤ (wr.drew.alloc (.cells #[.int .i64 x.rep, .int .i64 x.ctr] 51)).heap.size := by have := hbb.size; have := HS1.out; have := hbr.size; omega
   have HCR := Hd hcr;have HBR := Hd hbr;have HBB := Hd hbb;clear hrow hcr hbr hbb hj hm2 e0 e1;have hL1 := HL1.out;have t3 : (0 : Int) ≤ (j : Int) + 1 := by omega
   have hlb : w.heap.size + 1 < wr.heap.size := lt_of_heap HCR.out
   go_wp2_with fail
   go_region_law (refine step_append_row rfl _ _ 23 rfl EDot (w.heap.size + 1 + 1) (.agg #[.int .i64 0, .int .i64 0]) 16 Tryz.underlying23 infoDot (by decide) (by decide) _ _ rfl HR.out _ [x] rfl HSRC.out (by simp; omega) hsz ?_; intro v8 w8 hrow8 hgr8; have hb8 := (HBR.out.trans (HBB.out.mono (by omega))).grown hgr8 (by omega) (fun q hq => by have := (HR.out.lt _ hq).1; omega); have hk8 : w8.heap[w.heap.size + 1]? = _ := (hgr8.block _ (Nat.lt_of_lt_of_le hlb HBB.out.size) (fun e => by have := (HR.out.lt _ e.symm).1; omega)).trans ((HBB.out.block _ hlb).trans HCR.out); have g0 : w8.cell? ⟨w.heap.size + 1, 0, none⟩ = some (.slice oa k oc) := (cl0 hk8 0 rfl); obtain ⟨a8, c8, rfl⟩ := hrow8.slice; have f0 : w8.frozen? ⟨w.heap.size + 1, 0, none⟩ = false := (froz0 hk8 0))
   all_goals
    go_wp2_with fail
    have hn8 : (ps.take k ++ [x]).length = k + 1 := by simp; omega
    rw [hn8] at hrow8;have hj2 : (j : Int) + 2 = ((2 * (k + 1) : Nat) : Int) := by rw [HJ.out]; omega
    have hfin : ∃ k' : Nat, k' ≤ n ∧ (.int .i64 ((j : Int) + 2) : Value) = .int .i64 ((2 * k' : Nat) : Int) ∧ ∃ ov, (w8.setCell ⟨w.heap.size + 1, 0, none⟩ (.slice a8 (k + 1) c8)).heap[w.heap.size + 1]? = some (.cells #[ov, .slice none 0 0, .slice none 0 0] 28) ∧ EDot.Row (w.heap.size + 1 + 1) (w8.setCell ⟨w.heap.size + 1, 0, none⟩ (.slice a8 (k + 1) c8)) ov (ps.take k') ∧ Below (w.heap.size + 1) W1 (w8.setCell ⟨w.heap.size + 1, 0, none⟩ (.slice a8 (k + 1) c8)) :=
     ⟨k + 1, by omega, by rw [hj2], _, setCell_same hk8 0 _, by rw [HT.out]; exact hrow8.stay (fun q hq => setCell_other (fun e => by have := (hrow8.lt q hq).1; omega)), hb8.setCell (p := ⟨w.heap.size + 1, 0, none⟩) (Nat.le_refl _) _⟩
    go_roundw
    case rel => exact hfin
    case measure => simp [intOf]; omega
  ·have hke : k = n := by omega
   have HT : Hid (ps.take k = ps) := Hd (by rw [hke, HN.out]; exact List.take_length)
   obtain ⟨j, hj⟩ : ∃ j, j = 2 * k := ⟨_, rfl⟩;rw [← hj];have t1 : ¬ ((j : Int) + 1 < (m : Int)) := by omega
   have kw1 : IntKind.i64.wrap ((j : Int) + 1) = (j : Int) + 1 := by rw [IntKind.wrap_i64]; omega
   rw [HT.out] at hrow;obtain ⟨oa, oc, rfl⟩ := hrow.slice;rw [← HN.out] at hcr hrow;have hx4 : wr.heap[w.heap.size]? = some (.cells #[.slice none 0 0, .slice none 0 0, .slice none 0 0] 28) := (hbr.block _ (by omega)).trans HC4.out
   have d0 : wr.cell? ⟨w.heap.size + 1, 0, none⟩ = some (.slice oa n oc) := cl0 hcr 0 rfl;have d1 : wr.cell? ⟨w.heap.size + 1, 1, none⟩ = some (.slice none 0 0) := cl0 hcr 1 rfl;have d2 : wr.cell? ⟨w.heap.size + 1, 2, none⟩ = some (.slice none 0 0) := cl0 hcr 2 rfl;have g0 : wr.cell? ⟨w.heap.size, 0, none⟩ = some (.slice none 0 0) := cl0 hx4 0 rfl;have g1 : wr.cell? ⟨w.heap.size, 1, none⟩ = some (.slice none 0 0) := cl0 hx4 1 rfl;have g2 : wr.cell? ⟨w.heap.size, 2, none⟩ = some (.slice none 0 0) := cl0 hx4 2 rfl;have f2 : wr.frozen? ⟨w.heap.size + 1, 2, none⟩ = false := froz0 hcr 2;have f4 : wr.frozen? ⟨w.heap.size, 0, none⟩ = false := froz0 hx4 0;have f5 : wr.frozen? ⟨w.heap.size, 1, none⟩ = false := froz0 hx4 1;have f6 : wr.frozen? ⟨w.heap.size, 2, none⟩ = false := froz0 hx4 2;have HROW := Hd hrow;have HCR := Hd hcr;have HBR := Hd hbr;have HX4 := Hd hx4;have HJ := Hd hj;have hb5 : w.heap.size + 1 < wr.heap.size := lt_of_heap hcr;have hb4 : w.heap.size < wr.heap.size := lt_of_heap hx4;clear hrow hcr hbr hx4 hj hke hlt hk hm2;have HBW : Hid (Below w.heap.size w wr) := Hd (HB1.out.trans (HBR.out.mono (by omega)))
   by_cases q : 0 < mn
   ·have t3 : (0 : Int) < (mn : Int) := by omega
    obtain ⟨W9, hW9⟩ : ∃ W9, W9 = ((((wr.setCell ⟨w.heap.size + 1, 2, none⟩ (.slice (some ⟨wr.heap.size, 0, none⟩) 1 1)).setCell ⟨w.heap.size, 0, none⟩ (.slice oa n oc)).setCell ⟨w.heap.size, 1, none⟩ (.slice none 0 0)).setCell ⟨w.heap.size, 2, none⟩ (.slice (some ⟨wr.heap.size, 0, none⟩) 1 1)) := ⟨_, rfl⟩;have hs9 : W9.heap.size = wr.heap.size := by rw [hW9]; simp only [setCell_size]
    have hb9 : Below w.heap.size w W9 := by rw [hW9]; exact (((HBW.out.setCell (p := ⟨w.heap.size + 1, 2, none⟩) (by simp) _).setCell (p := ⟨w.heap.size, 0, none⟩) (Nat.le_refl _) _).setCell (p := ⟨w.heap.size, 1, none⟩) (Nat.le_refl _) _).setCell (p := ⟨w.heap.size, 2, none⟩) (Nat.le_refl _) _
    have hr9 : EDot.Row (w.heap.size + 1 + 1) W9 (.slice oa n oc) ps := HROW.out.stay (fun r hr => by
     have := (HROW.out.lt r hr).1;rw [hW9, setCell_other (by omega), setCell_other (by omega), setCell_other (by omega), setCell_other (by omega)])
    have hba : Below W9.heap.size W9 (W9.alloc (.cells #[.string teaN, .slice mo mn mc] 49)) := bal;have hm9 : Arr MarkR 4 W9 (.slice mo mn mc) ms := HM.out.marks hb9;have hi9 := arr_lit (w := W9) (x := ⟨teaN, ms⟩) 49 (show teaN.size ≤ maxLen by decide) (hm9.marks hba)
    rw [hs9] at hi9;have hof : ofC ps ms = ⟨ps, [], [⟨teaN, ms⟩]⟩ := by unfold ofC; rw [if_neg (fun e => by have := HMN.out; rw [e] at this; simp at this; omega)]
    have hrm9 : EMark.Row 0 (W9.alloc (.cells #[.string teaN, .slice mo mn mc] 49)) (.slice mo mn mc) ms := by
     have h := HMR.out;rw [← HMN.out] at h;exact h.stay (fun r hr => (hba.mono hb9.size |> hb9.trans).block r (h.lt r hr).2)
    have hri9 : EItem.Row 0 (W9.alloc (.cells #[.string teaN, .slice mo mn mc] 49)) (.slice (some ⟨wr.heap.size, 0, none⟩) 1 1) [⟨⟨teaN, ms⟩, mo, mc⟩] := by
     have := row_lit EItem [⟨⟨teaN, ms⟩, mo, mc⟩] W9 (by unfold maxLen; simp)
     rw [hs9] at this;have e : ItW.v ⟨⟨teaN, ms⟩, mo, mc⟩ = .slice mo mn mc := by unfold ItW.v; rw [HMN.out]
     have e2 : (EItem.flat [⟨⟨teaN, ms⟩, mo, mc⟩]).toArray = #[.string teaN, .slice mo mn mc] := by
      simp only [Enc.flat_one_elt]
      show (encT _).toArray = _
      unfold encT;rw [e]
     rw [e2] at this;exact this.mono (Nat.zero_le _)
    have hown9 : OwnC 0 (W9.alloc (.cells #[.string teaN, .slice mo mn mc] 49)) (.slice oa n oc) (.slice none 0 0) (.slice (some ⟨wr.heap.size, 0, none⟩) 1 1) (ofC ps ms) := by
     rw [hof];refine ⟨(hr9.below hba).mono (Nat.zero_le _), Enc.Row.nil _ _, [⟨⟨teaN, ms⟩, mo, mc⟩], rfl, hri9, fun p hp => ?_, List.pairwise_singleton _ _⟩
     simp only [List.mem_cons, List.not_mem_nil, or_false] at hp;subst hp;have e : ItW.v ⟨⟨teaN, ms⟩, mo, mc⟩ = .slice mo mn mc := by unfold ItW.v; rw [HMN.out]
     refine ⟨⟨show teaN.size ≤ maxLen by decide, by rw [e]; exact hrm9, HMI.out⟩, by rw [e]; exact rows_apart hri9 hrm9 (by decide)⟩
    have hfin : ∃ x1 x2 x3, (.returned (.agg #[.slice oa n oc, .slice none 0 0, .slice (some ⟨wr.heap.size, 0, none⟩) 1 1]) : Ending) = .returned (.agg #[x1, x2, x3]) ∧ (CartA (W9.alloc (.cells #[.string teaN, .slice mo mn mc] 49)) x1 x2 x3 (ofC ps ms) ∧ OwnC 0 (W9.alloc (.cells #[.string teaN, .slice mo mn mc] 49)) x1 x2 x3 (ofC ps ms)) ∧ Below w.heap.size w (W9.alloc (.cells #[.string teaN, .slice mo mn mc] 49)) :=
     ⟨_, _, _, rfl, ⟨by rw [hof]; exact ⟨(hr9.below hba).dots HD.out, arr_nil, hi9⟩, hown9⟩, btr hb9 hba⟩
    rw [hW9] at hfin;have HFIN := Hd hfin;clear hW9 hs9 hb9 hr9 hba hm9 hi9 hof hfin hrm9 hri9 hown9
    go_wp2_with fail
    (try simp only [Exit.inBlock, Exit.then])
    refine bodyPost_ret (v := .agg #[.slice oa n oc, .slice none 0 0, .slice (some ⟨wr.heap.size, 0, none⟩) 1 1]) ?_ rfl HFIN.out;rw [results_cell_one rfl];go_simp
   ·have t3 : ¬ ((0 : Int) < (mn : Int)) := by omega
    obtain ⟨W9, hW9⟩ : ∃ W9, W9 = (((wr.setCell ⟨w.heap.size, 0, none⟩ (.slice oa n oc)).setCell ⟨w.heap.size, 1, none⟩ (.slice none 0 0)).setCell ⟨w.heap.size, 2, none⟩ (.slice none 0 0)) := ⟨_, rfl⟩;have hb9 : Below w.heap.size w W9 := by rw [hW9]; exact ((HBW.out.setCell (p := ⟨w.heap.size, 0, none⟩) (Nat.le_refl _) _).setCell (p := ⟨w.heap.size, 1, none⟩) (Nat.le_refl _) _).setCell (p := ⟨w.heap.size, 2, none⟩) (Nat.le_refl _) _
    have hr9 : EDot.Row (w.heap.size + 1 + 1) W9 (.slice oa n oc) ps := HROW.out.stay (fun r hr => by
     have := (HROW.out.lt r hr).1;rw [hW9, setCell_other (by omega), setCell_other (by omega), setCell_other (by omega)])
    have hof : ofC ps ms = ⟨ps, [], []⟩ := by unfold ofC; rw [if_pos (List.length_eq_zero_iff.1 (by have := HMN.out; omega))]
    have hfin : ∃ x1 x2 x3, (.returned (.agg #[.slice oa n oc, .slice none 0 0, .slice none 0 0]) : Ending) = .returned (.agg #[x1, x2, x3]) ∧ (CartA W9 x1 x2 x3 (ofC ps ms) ∧ OwnC 0 W9 x1 x2 x3 (ofC ps ms)) ∧ Below w.heap.size w W9 :=
     ⟨_, _, _, rfl, ⟨by rw [hof]; exact ⟨hr9.dots HD.out, arr_nil, arr_nil⟩, by rw [hof]; exact ⟨hr9.mono (Nat.zero_le _), Enc.Row.nil _ _, [], rfl, Enc.Row.nil _ _, fun p hp => by simp at hp, List.Pairwise.nil⟩⟩, hb9⟩
    rw [hW9] at hfin;have HFIN := Hd hfin;clear hW9 hb9 hr9 hof hfin
    go_wp2_with fail
    (try simp only [Exit.inBlock, Exit.then])
    refine bodyPost_ret (v := .agg #[.slice oa n oc, .slice none 0 0, .slice none 0 0]) ?_ rfl HFIN.out;rw [results_cell_one rfl];go_simp
end Go.Proofs.YtemfaojmelljpaaGreatDoor
namespace Go.Proofs.YtemfaojmelljpaaGreatDoor
open Go.RowKit Go.Maps Go.Sort Go.Shelf

def CartV (w : World) (v : Value) (c : CartD) : Prop :=
 ∃ o1 n1 k1 o2 n2 k2 o3 n3 k3, v = .agg #[.slice o1 n1 k1, .slice o2 n2 k2, .slice o3 n3 k3] ∧ CartA w (.slice o1 n1 k1) (.slice o2 n2 k2) (.slice o3 n3 k3) c ∧ OwnC 0 w (.slice o1 n1 k1) (.slice o2 n2 k2) (.slice o3 n3 k3) c
theorem CartV.below {w w' : World} {v : Value} {c : CartD} (h : CartV w v c) (hb : Below w.heap.size w w') : CartV w' v c := by
 obtain ⟨o1, n1, k1, o2, n2, k2, o3, n3, k3, e, g, h⟩ := h;exact ⟨_, _, _, _, _, _, _, _, _, e, g.below hb, h.below hb⟩
theorem CartV.of {w : World} {x1 x2 x3 : Value} {c : CartD} (g : CartA w x1 x2 x3 c) (h : OwnC 0 w x1 x2 x3 c) : CartV w (.agg #[x1, x2, x3]) c := by
 obtain ⟨_, _, rfl⟩ := g.1.slice;obtain ⟨_, _, rfl⟩ := g.2.1.slice;obtain ⟨_, _, rfl⟩ := g.2.2.slice;exact ⟨_, _, _, _, _, _, _, _, _, rfl, g, h⟩
theorem CartV.zero (w : World) : CartV w (.agg #[.slice none 0 0, .slice none 0 0, .slice none 0 0]) zeroC :=
 CartV.of ⟨arr_nil, arr_nil, arr_nil⟩ (OwnC.zero _ _)
def CartB (w : World) (b : Nat) (c : CartD) : Prop :=
 ∃ o1 n1 k1 o2 n2 k2 o3 n3 k3, w.heap[b]? = some (.cells #[.slice o1 n1 k1, .slice o2 n2 k2, .slice o3 n3 k3] 28) ∧ CartV w (.agg #[.slice o1 n1 k1, .slice o2 n2 k2, .slice o3 n3 k3]) c
def MarkB (w : World) (b : Nat) (m : MarkD) : Prop := w.heap[b]? = some (.cells #[.int .i64 m.dot.rep, .int .i64 m.dot.ctr, .int .i64 m.qty, .int .u64 m.time] 54)
theorem CartB.below {w w' : World} {b : Nat} {c : CartD} (h : CartB w b c) (hb : Below w.heap.size w w') : CartB w' b c := by
 obtain ⟨o1, n1, k1, o2, n2, k2, o3, n3, k3, e, h⟩ := h;exact ⟨_, _, _, _, _, _, _, _, _, (hb.block _ (lt_of_heap e)).trans e, h.below hb⟩
theorem MarkB.below {w w' : World} {b : Nat} {m : MarkD} (h : MarkB w b m) (hb : Below w.heap.size w w') : MarkB w' b m := (hb.block _ (lt_of_heap h)).trans h
def KeepC (w w' : World) : Prop := w.heap.size ≤ w'.heap.size ∧ ∀ (k : Nat) (C : Array Value) (T : TypeId) (f : Nat × Nat), w.heap[k]? = some (.cells C T f) → T ≠ 28 → w'.heap[k]? = w.heap[k]?
theorem KeepC.refl (w : World) : KeepC w w := ⟨Nat.le_refl _, fun _ _ _ _ _ _ => rfl⟩
theorem KeepC.trans {w w1 w2 : World} (h : KeepC w w1) (g : KeepC w1 w2) : KeepC w w2 :=
 ⟨Nat.le_trans h.1 g.1, fun k C T f hk hT => by rw [g.2 k C T f (by rw [h.2 k C T f hk hT]; exact hk) hT, h.2 k C T f hk hT]⟩
theorem KeepC.row {α : Type} {E : Enc α} {base : Nat} {w w' : World} {v : Value} {l : List α} (h : KeepC w w') (hr : E.Row base w v l) (hT : E.T ≠ 28) : E.Row base w' v l := by
 refine hr.stay (fun k hk => ?_)
 obtain ⟨_, ⟨h1, _⟩ | ⟨g, cap, cur, h1, _, hg, _⟩⟩ := hr
 ·rw [h1] at hk; simp [Value.ownBlock] at hk
 ·rw [h1] at hk
  have e : g = k := by simpa [Value.ownBlock] using hk
  subst e;exact h.2 _ _ _ _ hg hT
theorem KeepC.own {w w' : World} {x1 x2 x3 : Value} {c : CartD} (h : KeepC w w') (g : OwnC 0 w x1 x2 x3 c) : OwnC 0 w' x1 x2 x3 c := by
 obtain ⟨h1, h2, ps, h3, h4, h5, h6⟩ := g;exact ⟨h.row h1 (by decide), h.row h2 (by decide), ps, h3, h.row h4 (by decide), fun p hp => ⟨⟨(h5 p hp).1.1, h.row (h5 p hp).1.2.1 (by decide), (h5 p hp).1.2.2⟩, (h5 p hp).2⟩, h6⟩
theorem KeepC.cart {w w' : World} {v : Value} {c : CartD} (h : KeepC w w') (hv : validC c = true) (g : CartV w v c) : CartV w' v c := by
 obtain ⟨o1, n1, k1, o2, n2, k2, o3, n3, k3, rfl, -, g⟩ := g;exact CartV.of ((h.own g).cart hv) (h.own g)
def store3 (w : World) (b : Nat) (x1 x2 x3 : Value) : World := ((w.setCell ⟨b, 0, none⟩ x1).setCell ⟨b, 1, none⟩ x2).setCell ⟨b, 2, none⟩ x3
theorem store3_size (w : World) (b : Nat) (x1 x2 x3 : Value) : (store3 w b x1 x2 x3).heap.size = w.heap.size := by unfold store3; rw [setCell_size, setCell_size, setCell_size]
theorem store3_other {w : World} {b k : Nat} {x1 x2 x3 : Value} (h : k ≠ b) : (store3 w b x1 x2 x3).heap[k]? = w.heap[k]? := by
 unfold store3;rw [setCell_other h, setCell_other h, setCell_other h]
theorem store3_same {w : World} {b : Nat} {y1 y2 y3 x1 x2 x3 : Value} {T : TypeId} {f : Nat × Nat} (h : w.heap[b]? = some (.cells #[y1, y2, y3] T f)) : (store3 w b x1 x2 x3).heap[b]? = some (.cells #[x1, x2, x3] T f) := by
 unfold store3;rw [setCell_same (setCell_same (setCell_same h 0 x1) 1 x2) 2 x3]
 rfl
theorem store3_keep {w : World} {b : Nat} {C : Array Value} {f : Nat × Nat} (x1 x2 x3 : Value) (h : w.heap[b]? = some (.cells C 28 f)) : KeepC w (store3 w b x1 x2 x3) := by
 refine ⟨Nat.le_of_eq (store3_size ..).symm, fun k D T g hk hT => store3_other (fun e => ?_)⟩
 subst e;rw [h] at hk;injection hk with e
 injection e with _ e _
 exact hT e.symm
theorem store3_below {w0 w : World} {n b : Nat} (x1 x2 x3 : Value) (h : Below n w0 w) (hb : n ≤ b) : Below n w0 (store3 w b x1 x2 x3) :=
 ((h.setCell (p := ⟨b, 0, none⟩) hb _).setCell (p := ⟨b, 1, none⟩) hb _).setCell (p := ⟨b, 2, none⟩) hb _
inductive Kd where
 | pairs (l : List DotD)
 | val (v : Value)
 | row (l : List MarkD)
 | cart (c : CartD)
 | carts (l : List CartD)
 | box
 | free
def Kd.holds (B : Nat) : Kd → Value → World → Prop
 | .pairs l, v, w => PairsIs w v l
 | .val x, v, _ => v = x
 | .row l, v, w => EMark.Row 0 w v l
 | .cart c, v, w => CartV w v c
 | .carts l, v, w => Arr CartR 3 w v l
 | .free, _, _ => True
 | .box, v, w => ∃ b, v = .pointer (some ⟨b, 0, none⟩) ∧ B ≤ b ∧ w.heap[b]? = some (.cells #[.slice none 0 0, .slice none 0 0, .slice none 0 0] 28)
theorem Kd.below {B : Nat} {w w' : World} (hb : Below w.heap.size w w') : ∀ (k : Kd) (v : Value), k.holds B v w → k.holds B v w'
 | .pairs _, _, h => PairsIs.below h hb
 | .val _, _, h => h
 | .row _, _, h => Enc.Row.below h hb
 | .cart _, _, h => CartV.below h hb
 | .carts _, _, h => Arr.carts h hb
 | .free, _, _ => trivial
 | .box, _, ⟨b, e, h1, h2⟩ => ⟨b, e, h1, (hb.block _ (lt_of_heap h2)).trans h2⟩
def t3M : MarkD := ⟨⟨1, 1⟩, 6, 3⟩

theorem RegI.start {n m : Nat} {fr : (Nat → Value) → Act} {S : World → Prop} {V : Nat → Value → World → Prop} {al : Nat → Bool} {a : Act} {w : World} (u : Nat → Value) (ha : a = fr u) (hS : S w) : RegI n fr S V al (Array.replicate m false) a w := by
 have e : ∀ j, (Array.replicate m false).getD j false = false := fun j => by
  rw [Array.getD_eq_getD_getElem?]
  cases h : (Array.replicate m false)[j]? with
  | none => rfl
  | some b =>
   have := Array.mem_of_getElem? h
   simp at this
   simp [this]
 exact ⟨u, ha, hS, fun j _ h => (by rw [e] at h; cases h), fun i j _ _ _ _ _ h _ => (by rw [e] at h; cases h)⟩
theorem pairs_lit1 (w : World) (a b : Int) (T : TypeId) : PairsIs (w.alloc (.cells #[.int .i64 a, .int .i64 b] T)) (.slice (some ⟨w.heap.size, 0, none⟩) 2 2) [⟨a, b⟩] := by
 refine ⟨_, _, rfl, fun k hk => ⟨w.heap.size, rfl, by rw [alloc_size]; omega, ?_⟩⟩
 have e : k = 0 := by simpa using hk
 subst e;exact ⟨by rw [cell0 (alloc_new _ _)]; rfl, by rw [cell0 (alloc_new _ _)]; rfl⟩
theorem pairs_lit2 (w : World) (a b c d : Int) (T : TypeId) : PairsIs (w.alloc (.cells #[.int .i64 a, .int .i64 b, .int .i64 c, .int .i64 d] T)) (.slice (some ⟨w.heap.size, 0, none⟩) 4 4) [⟨a, b⟩, ⟨c, d⟩] := by
 refine ⟨_, _, rfl, fun k hk => ⟨w.heap.size, rfl, by rw [alloc_size]; omega, ?_⟩⟩
 have hk : k < 2 := by simpa using hk
 match k, hk with
 | 0, _ => exact ⟨by rw [cell0 (alloc_new _ _)]; rfl, by rw [cell0 (alloc_new _ _)]; rfl⟩
 | 1, _ => exact ⟨by rw [cell0 (alloc_new _ _)]; rfl, by rw [cell0 (alloc_new _ _)]; rfl⟩
theorem marks_lit (w : World) (ms : List MarkD) (C : Array Value) (n : Nat) (hC : C = (EMark.flat ms).toArray) (hn : n = ms.length) (hl : ms.length ≤ 1000) : EMark.Row 0 (w.alloc (.cells C 54)) (.slice (some ⟨w.heap.size, 0, none⟩) n n) ms := by
 subst hC hn;exact (row_lit EMark ms w (by unfold maxLen; omega)).mono (Nat.zero_le _)
theorem kv : validC jX = true ∧ validC jY = true ∧ validC jZ = true ∧ validC jT = true ∧ validC jXY = true ∧ validC jO = true ∧ validC jOY = true ∧ validC zeroC = true ∧ validC jB = false := by
 have e : validC = validCK := funext validCK_eq;rw [e]
 decide +kernel
theorem joins_ok {a b c : CartD} (ha : validC a = true) (hb : validC b = true) (h : refJoinK a b = c) : (decide (joinR a b = c) && (joinE a b == 0)) = true := by
 rw [(joinR_true ha hb).1, (joinR_true ha hb).2, refJoinK_eq, h]
 simp
theorem k1 : (decide (joinR jX jY = jXY) && (joinE jX jY == 0)) = true := joins_ok kv.1 kv.2.1 jj1
theorem k2 : (decide (joinR jX jZ = jZ) && (joinE jX jZ == 0)) = true := joins_ok kv.1 kv.2.2.1 jj2
theorem k3 : (decide (joinR jXY jZ = jZ) && (joinE jXY jZ == 0)) = true := joins_ok kv.2.2.2.2.1 kv.2.2.1 jj3
theorem k4 : (decide (joinR jX zeroC = jX) && (joinE jX zeroC == 0)) = true := joins_ok kv.1 kv.2.2.2.2.2.2.2.1 jj4
theorem k5 : (decide (joinR jX jT = jT) && (joinE jX jT == 0)) = true := joins_ok kv.1 kv.2.2.2.1 jj5
theorem k6 : (decide (allR [jY, jX, jY, jZ] = jZ) && (allE [jY, jX, jY, jZ] == 0)) = true := by
 have h : allV [jY, jX, jY, jZ] = true := by simp [allV, kv.1, kv.2.1, kv.2.2.1]
 unfold allR allE;rw [if_pos h, if_pos h];have : allC [jY, jX, jY, jZ] = jZ := by
  have e : refJoin = refJoinK := funext fun a => funext fun b => refJoinK_eq a b
  unfold allC;rw [e]; exact jj6
 rw [this]
 simp
theorem k7 : (decide (joinR jY jO = jOY) && (joinE jY jO == 0)) = true := joins_ok kv.2.1 kv.2.2.2.2.2.1 jj7
theorem within_ok {a b c : CartD} {r : Bool} (ha : validC a = true) (hb : validC b = true) (h : refJoinK a b = c) (hr : decide (c = b) = r) : ((withinB a b == r) && (joinE a b == 0)) = true := by
 unfold withinB;rw [(joinR_true ha hb).2, refJoinK_eq, h, hr, ha, hb]
 simp
theorem k8 : ((withinB jX jXY == true) && (joinE jX jXY == 0)) = true := within_ok (c := jXY) kv.1 kv.2.2.2.2.1 (by decide +kernel) (by decide +kernel)
theorem k9 : ((withinB jX jY == false) && (joinE jX jY == 0)) = true := within_ok kv.1 kv.2.1 jj1 (by decide +kernel)
theorem k10 : ((withinB jX jZ == true) && (joinE jX jZ == 0)) = true := within_ok kv.1 kv.2.2.1 jj2 (by decide +kernel)
theorem fits_ok {a b : CartD} {r : Bool} (ha : validC a = true) (hb : validC b = true) (h : fitsP a b = r) : ((fitsB a b == r) && (joinE a b == 0)) = true := by
 unfold fitsB;rw [(joinR_true ha hb).2, h, ha, hb]
 simp
theorem jf3 : fitsP jX jY = true ∧ fitsP jX jT = false ∧ fitsP jX jZ = true := by
 have := jf
 revert this
 cases fitsP jX jY <;> cases fitsP jX jT <;> cases fitsP jX jZ <;> simp
theorem k11 : ((fitsB jX jY == true) && (joinE jX jY == 0)) = true := fits_ok kv.1 kv.2.1 jf3.1
theorem k12 : ((fitsB jX jT == false) && (joinE jX jT == 0)) = true := fits_ok kv.1 kv.2.2.2.1 jf3.2.1
theorem k13 : ((fitsB jX jZ == true) && (joinE jX jZ == 0)) = true := fits_ok kv.1 kv.2.2.1 jf3.2.2
theorem k14 : (decide (joinR jX jB = zeroC) && (joinE jX jB == 2)) = true := by
 rw [(joinR_false kv.2.2.2.2.2.2.2.2).1, (joinR_false kv.2.2.2.2.2.2.2.2).2]
 simp
theorem ksz : ∀ c ∈ [jX, jY, jZ, jT, jXY, jO, jOY, zeroC, jB], SzC c := by
 intro c hc;simp only [List.mem_cons, List.not_mem_nil, or_false] at hc
 rcases hc with rfl | rfl | rfl | rfl | rfl | rfl | rfl | rfl | rfl <;> exact ⟨⟨by decide, by decide⟩, by decide⟩
theorem kcl : ∀ c ∈ [jY, jX, jY, jZ], CL 80 c := by
 intro c hc;simp only [List.mem_cons, List.not_mem_nil, or_false] at hc
 rcases hc with rfl | rfl | rfl | rfl <;> exact ⟨by decide, by decide, by decide⟩
theorem carts_lit4 (w : World) (T : TypeId) {x1 x2 x3 y1 y2 y3 z1 z2 z3 t1 t2 t3 : Value} {a b c d : CartD} (ha : CartA w x1 x2 x3 a) (hb : CartA w y1 y2 y3 b) (hc : CartA w z1 z2 z3 c) (hd : CartA w t1 t2 t3 d) :
  Arr CartR 3 (w.alloc (.cells #[x1, x2, x3, y1, y2, y3, z1, z2, z3, t1, t2, t3] T)) (.slice (some ⟨w.heap.size, 0, none⟩) 4 4) [a, b, c, d] := by
 have hbb : Below w.heap.size w (w.alloc (.cells #[x1, x2, x3, y1, y2, y3, z1, z2, z3, t1, t2, t3] T)) := bal;refine ⟨_, _, rfl, Nat.le_refl _, by unfold maxLen; omega, fun i hi => ?_⟩
 have hi : i < 4 := by simpa using hi
 have key : ∀ (p1 p2 p3 : Value) (q : CartD), CartA w p1 p2 p3 q → CartR (w.alloc (.cells #[x1, x2, x3, y1, y2, y3, z1, z2, z3, t1, t2, t3] T)) q [p1, p2, p3] := fun p1 p2 p3 q h => ⟨p1, p2, p3, rfl, (h.below hbb).1, (h.below hbb).2.1, (h.below hbb).2.2⟩
 have hlt : w.heap.size < (w.alloc (.cells #[x1, x2, x3, y1, y2, y3, z1, z2, z3, t1, t2, t3] T)).heap.size := by rw [alloc_size]; omega
 match i, hi with
 | 0, _ => exact ⟨_, 0, [x1, x2, x3], rfl, hlt, rfl, key _ _ _ _ ha, fun j hj => by rw [cell0 (alloc_new _ _)]; match j, hj with | 0, _ => rfl | 1, _ => rfl | 2, _ => rfl⟩
 | 1, _ => exact ⟨_, 0, [y1, y2, y3], rfl, hlt, rfl, key _ _ _ _ hb, fun j hj => by rw [cell0 (alloc_new _ _)]; match j, hj with | 0, _ => rfl | 1, _ => rfl | 2, _ => rfl⟩
 | 2, _ => exact ⟨_, 0, [z1, z2, z3], rfl, hlt, rfl, key _ _ _ _ hc, fun j hj => by rw [cell0 (alloc_new _ _)]; match j, hj with | 0, _ => rfl | 1, _ => rfl | 2, _ => rfl⟩
 | 3, _ => exact ⟨_, 0, [t1, t2, t3], rfl, hlt, rfl, key _ _ _ _ hd, fun j hj => by rw [cell0 (alloc_new _ _)]; match j, hj with | 0, _ => rfl | 1, _ => rfl | 2, _ => rfl⟩
theorem ofV {ps : List DotD} {ms : List MarkD} {c : CartD} {pv mv : Value} {w : World} (hp : PairsIs w pv ps) (hmr : EMark.Row 0 w mv ms) (hmi : ∀ m ∈ ms, MI m) (hd : ∀ d ∈ ps, DI d) (hl : ps.length ≤ 1000) (hc : ofC ps ms = c) :
  Calls Tryz.prog 26 #[pv, mv] w fun e w' => ∃ v, e = .returned v ∧ CartV w' v c ∧ Below w.heap.size w w' := by
 subst hc;refine (l11of_any ps ms pv mv w hp hmr hmi hd hl).mono ?_;rintro e w' ⟨x1, x2, x3, rfl, ⟨h1, h2⟩, hb⟩;exact ⟨_, rfl, CartV.of h1 h2, hb⟩
theorem joinsV {a b c : CartD} {no : Int} {x y z : Value} {w : World} (hx : CartV w x a) (hy : CartV w y b) (hz : CartV w z c) (hsa : SzC a) (hsb : SzC b) (hG : GlobIs w) (hr : (decide (joinR a b = c) && (joinE a b == no)) = true) :
  Calls Tryz.prog 11 #[x, y, z, .int .i64 no] w fun e w' => e = .returned (.bool true) ∧ Below w.heap.size w w' := by
 obtain ⟨_, _, _, _, _, _, _, _, _, rfl, hx, -⟩ := hx;obtain ⟨_, _, _, _, _, _, _, _, _, rfl, hy, -⟩ := hy;obtain ⟨_, _, _, _, _, _, _, _, _, rfl, hz, -⟩ := hz;have h := l11joins_any a b c no _ _ _ _ _ _ _ _ _ w hx hy hz hsa hsb hG;rw [hr] at h;exact h
theorem withinV {a b : CartD} {want : Bool} {no : Int} {x y : Value} {w : World} (hx : CartV w x a) (hy : CartV w y b) (hsa : SzC a) (hsb : SzC b) (hG : GlobIs w) (hr : ((withinB a b == want) && (joinE a b == no)) = true) :
  Calls Tryz.prog 19 #[x, y, .bool want, .int .i64 no] w fun e w' => e = .returned (.bool true) ∧ Below w.heap.size w w' := by
 obtain ⟨_, _, _, _, _, _, _, _, _, rfl, hx, -⟩ := hx;obtain ⟨_, _, _, _, _, _, _, _, _, rfl, hy, -⟩ := hy;have h := l11within_any a b want no _ _ _ _ _ _ w hx hy hsa hsb hG;rw [hr] at h;exact h
theorem fitsV {a b : CartD} {want : Bool} {no : Int} {x y : Value} {w : World} (hx : CartV w x a) (hy : CartV w y b) (hsa : SzC a) (hsb : SzC b) (hG : GlobIs w) (hr : ((fitsB a b == want) && (joinE a b == no)) = true) :
  Calls Tryz.prog 20 #[x, y, .bool want, .int .i64 no] w fun e w' => e = .returned (.bool true) ∧ Below w.heap.size w w' := by
 obtain ⟨_, _, _, _, _, _, _, _, _, rfl, hx, -⟩ := hx;obtain ⟨_, _, _, _, _, _, _, _, _, rfl, hy, -⟩ := hy;have h := l11fits_any a b want no _ _ _ _ _ _ w hx hy hsa hsb hG;rw [hr] at h;exact h
theorem allV' {l : List CartD} {c : CartD} {no : Int} {x z : Value} {w : World} (hx : Arr CartR 3 w x l) (hz : CartV w z c) (hl : l.length ≤ 10) (hs : ∀ c ∈ l, CL 80 c) (hG : GlobIs w) (hr : (decide (allR l = c) && (allE l == no)) = true) :
  Calls Tryz.prog 17 #[x, z, .int .i64 no] w fun e w' => e = .returned (.bool true) ∧ Below w.heap.size w w' := by
 obtain ⟨_, _, _, _, _, _, _, _, _, rfl, hz, -⟩ := hz;have h := l11all_any l c no x _ _ _ w hx hz hl hs hG;rw [hr] at h;exact h
end Go.Proofs.YtemfaojmelljpaaGreatDoor
