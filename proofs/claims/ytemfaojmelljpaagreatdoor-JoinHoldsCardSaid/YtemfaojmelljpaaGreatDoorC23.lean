/- Law 11's words: mark, of. -/
import Derived.Test.YtemfaojmelljpaaGreatDoorC22
namespace Go.Proofs.YtemfaojmelljpaaGreatDoor
open Go.RowKit Go.Maps Go.Sort Go.Shelf

set_option maxRecDepth 100000 in
theorem l11mark_any (a b q t : Int) (w : World) : Calls Tryz.prog 25 #[.int .i64 a, .int .i64 b, .int .i64 q, .int .u64 t] w fun e w' => e = .returned (.agg #[.int .i64 a, .int .i64 b, .int .i64 q, .int .u64 t]) ∧ Below w.heap.size w w' := by
  go_enter Tryz.func25, Tryz.ntmps25
  go_wp2
  (try simp only [Exit.inBlock, Exit.then])
  refine bodyPost_ret (v := .agg #[.int .i64 a, .int .i64 b, .int .i64 q, .int .u64 t]) ?_ rfl ⟨rfl, (Below.refl _ _).alloc (Nat.le_refl _) _⟩
  rw [results_cell_one rfl]
  go_simp
def teaN : ByteArray := ⟨#[84, 101, 97]⟩
def ofC (ps : List DotD) (ms : List MarkD) : CartD := ⟨ps, [], if ms = [] then [] else [⟨teaN, ms⟩]⟩
def PairsIs (w : World) (v : Value) (ps : List DotD) : Prop :=
  ∃ o c, v = .slice o (2 * ps.length) c ∧ ∀ k (h : k < ps.length), ∃ b, o = some ⟨b, 0, none⟩ ∧ b < w.heap.size ∧ w.cell? ⟨b, 2 * k, none⟩ = some (.int .i64 ps[k].rep) ∧ w.cell? ⟨b, 2 * k + 1, none⟩ = some (.int .i64 ps[k].ctr)
theorem PairsIs.below {w w' : World} {v : Value} {ps : List DotD} (h : PairsIs w v ps) (hb : Below w.heap.size w w') : PairsIs w' v ps := by
  obtain ⟨o, c, e, h⟩ := h
  refine ⟨o, c, e, fun k hk => ?_⟩
  obtain ⟨b, e1, e2, e3, e4⟩ := h k hk
  exact ⟨b, e1, Nat.lt_of_lt_of_le e2 hb.size, by rw [hb.cell (p := ⟨_, _, _⟩) e2]; exact e3, by rw [hb.cell (p := ⟨_, _, _⟩) e2]; exact e4⟩

set_option linter.unusedSimpArgs false in
set_option linter.unusedVariables false in
set_option maxRecDepth 100000 in
set_option maxHeartbeats 4000000 in
theorem l11of_any (ps : List DotD) (ms : List MarkD) (pv mv : Value) (w : World) (hp : PairsIs w pv ps) (hmr : EMark.Row 0 w mv ms) (hmi : ∀ m ∈ ms, MI m) (hd : ∀ d ∈ ps, DI d) (hl : ps.length ≤ 1000) :
    Calls Tryz.prog 26 #[pv, mv] w fun e w' => ∃ x1 x2 x3, e = .returned (.agg #[x1, x2, x3]) ∧ (CartA w' x1 x2 x3 (ofC ps ms) ∧ OwnC 0 w' x1 x2 x3 (ofC ps ms)) ∧ Below w.heap.size w w' := by
  have hm : Arr MarkR 4 w mv ms := Arr.of_marks hmr hmi
  have HMR := Lib.hid hmr
  have HMI := Lib.hid hmi
  clear hmr hmi
  obtain ⟨po, pc, rfl, hpc⟩ := hp
  have hmn := hm.len
  obtain ⟨mo, mc, rfl⟩ := hm.slice
  obtain ⟨n, hn⟩ : ∃ n, n = ps.length := ⟨_, rfl⟩
  obtain ⟨mn, hmn2⟩ : ∃ n, n = ms.length := ⟨_, rfl⟩
  rw [← hn] at hl ⊢
  obtain ⟨m, hm2⟩ : ∃ m, m = 2 * n := ⟨_, rfl⟩
  rw [← hm2]
  rw [← hmn2] at hm hmn ⊢
  obtain ⟨W1, hW1⟩ : ∃ W1, W1 = (w.alloc (.cells #[.slice none 0 0, .slice none 0 0, .slice none 0 0] 28)).alloc (.cells #[.slice none 0 0, .slice none 0 0, .slice none 0 0] 28) := ⟨_, rfl⟩
  have hs1 : W1.heap.size = w.heap.size + 1 + 1 := by rw [hW1]; simp
  have hb1 : Below w.heap.size w W1 := by rw [hW1]; exact ((Below.refl _ _).alloc (Nat.le_refl _) _).alloc (by simp) _
  have hc4 : W1.heap[w.heap.size]? = some (.cells #[.slice none 0 0, .slice none 0 0, .slice none 0 0] 28) := by rw [hW1]; exact (((Below.refl _ _).alloc (Nat.le_refl _) _).block _ (by rw [alloc_size]; omega)).trans (alloc_new _ _)
  have hc5 : W1.heap[w.heap.size + 1]? = some (.cells #[.slice none 0 0, .slice none 0 0, .slice none 0 0] 28) := by
    rw [hW1]
    have := alloc_new (w.alloc (.cells #[.slice none 0 0, .slice none 0 0, .slice none 0 0] 28)) (.cells #[.slice none 0 0, .slice none 0 0, .slice none 0 0] 28)
    rw [alloc_size] at this
    exact this
  have HS1 := Lib.hid hs1
  have HB1 := Lib.hid hb1
  have HW := Lib.hid hW1
  have HC4 := Lib.hid hc4
  have HM := Lib.hid hm
  have HPC := Lib.hid hpc
  have HN := Lib.hid hn
  have HMN := Lib.hid hmn2
  have HD := Lib.hid hd
  have hinit : ∃ k : Nat, k ≤ n ∧ (.int .i64 0 : Value) = .int .i64 ((2 * k : Nat) : Int) ∧ ∃ ov, W1.heap[w.heap.size + 1]? = some (.cells #[ov, .slice none 0 0, .slice none 0 0] 28) ∧ EDot.Row (w.heap.size + 1 + 1) W1 ov (ps.take k) ∧ Below (w.heap.size + 1) W1 W1 := ⟨0, Nat.zero_le _, rfl, _, hc5, Enc.Row.nil _ _, Below.refl _ _⟩
  have HI := Lib.hid hinit
  clear hs1 hb1 hW1 hc4 hc5 hm hpc hn hmn2 hd hinit
  go_enter Tryz.func26, Tryz.ntmps26
  go_wp2_with fail
  rw [← HW.out]
  go_wp2_with fail
  go_loopw [6] (fun i wr => ∃ k : Nat, k ≤ n ∧ i = .int .i64 ((2 * k : Nat) : Int) ∧ ∃ ov, wr.heap[w.heap.size + 1]? = some (.cells #[ov, .slice none 0 0, .slice none 0 0] 28) ∧ EDot.Row (w.heap.size + 1 + 1) wr ov (ps.take k) ∧ Below (w.heap.size + 1) W1 wr) (fun i _ => 2 * n + 2 - (intOf i).toNat)
  case atStart => exact HI.out
  case round =>
    obtain ⟨k, hk, rfl, ov, hcr, hrow, hbr⟩ := hrel
    by_cases hlt : k < n
    · have hlt' : k < ps.length := by rw [← HN.out]; exact hlt
      obtain ⟨pb, rfl, hpb, e0, e1⟩ := HPC.out k hlt'
      have hpn : pb < w.heap.size + 1 := by omega
      have c0 : wr.cell? ⟨pb, 2 * k, none⟩ = some (.int .i64 ps[k].rep) := by rw [hbr.cell (p := ⟨_, _, _⟩) hpn, HB1.out.cell (p := ⟨_, _, _⟩) hpb]; exact e0
      have c1 : wr.cell? ⟨pb, 2 * k + 1, none⟩ = some (.int .i64 ps[k].ctr) := by rw [hbr.cell (p := ⟨_, _, _⟩) hpn, HB1.out.cell (p := ⟨_, _, _⟩) hpb]; exact e1
      have HT : Hid (ps.take (k + 1) = ps.take k ++ [ps[k]]) := Lib.hid (List.take_succ_eq_append_getElem hlt')
      have HL1 : Hid ((ps.take k).length = k) := Lib.hid (by rw [List.length_take]; omega)
      have t1 : ((2 * k : Nat) : Int) + 1 < ((2 * n : Nat) : Int) := by omega
      have t0 : (0 : Int) ≤ ((2 * k : Nat) : Int) := by omega
      have t2 : ((2 * k : Nat) : Int) < ((2 * n : Nat) : Int) := by omega
      have kw1 : IntKind.i64.wrap (((2 * k : Nat) : Int) + 1) = ((2 * k : Nat) : Int) + 1 := by rw [IntKind.wrap_i64]; omega
      have kw2 : IntKind.i64.wrap (((2 * k : Nat) : Int) + 2) = ((2 * k : Nat) : Int) + 2 := by rw [IntKind.wrap_i64]; omega
      generalize ps[k] = x at *
      obtain ⟨j, hj⟩ : ∃ j, j = 2 * k := ⟨_, rfl⟩
      rw [← hj] at c0 c1 t1 t0 t2 kw1 kw2 ⊢
      rw [← hm2] at t1 t2
      have HJ := Lib.hid hj
      have HM2 := Lib.hid hm2
      obtain ⟨oa, oc, rfl⟩ := hrow.slice
      rw [HL1.out] at hrow hcr
      have d0 : wr.cell? ⟨w.heap.size + 1, 0, none⟩ = some (.slice oa k oc) := by rw [cell0 hcr 0]; rfl
      have hbb : Below wr.heap.size wr (wr.drew.alloc (.cells #[.int .i64 x.rep, .int .i64 x.ctr] 51)) := (below_drew1 (Below.refl _ _)).alloc (Nat.le_refl _) _
      have HR := Lib.hid (hrow.below hbb)
      have HSRC : Hid (EDot.Src (wr.drew.alloc (.cells #[.int .i64 x.rep, .int .i64 x.ctr] 51)) (.slice (some ⟨wr.drew.heap.size, 0, none⟩) 1 1) [x]) := Lib.hid (Enc.Src.one_lit (E := EDot) wr.drew 51 _)
      have hsz : w.heap.size + 1 + 1 ≤ (wr.drew.alloc (.cells #[.int .i64 x.rep, .int .i64 x.ctr] 51)).heap.size := by have := hbb.size; have := HS1.out; have := hbr.size; omega
      have HCR := Lib.hid hcr
      have HBR := Lib.hid hbr
      have HBB := Lib.hid hbb
      clear hrow hcr hbr hbb hj hm2 e0 e1
      have hL1 := HL1.out
      have t3 : (0 : Int) ≤ (j : Int) + 1 := by omega
      have hlb : w.heap.size + 1 < wr.heap.size := lt_of_heap HCR.out
      go_wp2_with fail
      go_region_law (refine step_append_row rfl _ _ 23 rfl EDot (w.heap.size + 1 + 1) (.agg #[.int .i64 0, .int .i64 0]) 16 Tryz.underlying23 infoDot (by decide) (by decide) _ _ rfl HR.out _ [x] rfl HSRC.out (by simp; omega) hsz ?_; intro v8 w8 hrow8 hgr8; have hb8 := (HBR.out.trans (HBB.out.mono (by omega))).grown hgr8 (by omega) (fun q hq => by have := (HR.out.lt _ hq).1; omega); have hk8 : w8.heap[w.heap.size + 1]? = _ := (hgr8.block _ (Nat.lt_of_lt_of_le hlb HBB.out.size) (fun e => by have := (HR.out.lt _ e.symm).1; omega)).trans ((HBB.out.block _ hlb).trans HCR.out); have g0 : w8.cell? ⟨w.heap.size + 1, 0, none⟩ = some (.slice oa k oc) := (by rw [cell0 hk8 0]; rfl); obtain ⟨a8, c8, rfl⟩ := hrow8.slice; have f0 : w8.frozen? ⟨w.heap.size + 1, 0, none⟩ = false := (froz0 hk8 0))
      all_goals
        go_wp2_with fail
        have hn8 : (ps.take k ++ [x]).length = k + 1 := by simp; omega
        rw [hn8] at hrow8
        have hj2 : (j : Int) + 2 = ((2 * (k + 1) : Nat) : Int) := by rw [HJ.out]; omega
        have hfin : ∃ k' : Nat, k' ≤ n ∧ (.int .i64 ((j : Int) + 2) : Value) = .int .i64 ((2 * k' : Nat) : Int) ∧ ∃ ov, (w8.setCell ⟨w.heap.size + 1, 0, none⟩ (.slice a8 (k + 1) c8)).heap[w.heap.size + 1]? = some (.cells #[ov, .slice none 0 0, .slice none 0 0] 28) ∧ EDot.Row (w.heap.size + 1 + 1) (w8.setCell ⟨w.heap.size + 1, 0, none⟩ (.slice a8 (k + 1) c8)) ov (ps.take k') ∧ Below (w.heap.size + 1) W1 (w8.setCell ⟨w.heap.size + 1, 0, none⟩ (.slice a8 (k + 1) c8)) :=
          ⟨k + 1, by omega, by rw [hj2], _, setCell_same hk8 0 _, by rw [HT.out]; exact hrow8.stay (fun q hq => setCell_other (fun e => by have := (hrow8.lt q hq).1; omega)), hb8.setCell (p := ⟨w.heap.size + 1, 0, none⟩) (Nat.le_refl _) _⟩
        go_roundw
        case rel => exact hfin
        case measure => simp [intOf]; omega
    · have hke : k = n := by omega
      have HT : Hid (ps.take k = ps) := Lib.hid (by rw [hke, HN.out]; exact List.take_length)
      obtain ⟨j, hj⟩ : ∃ j, j = 2 * k := ⟨_, rfl⟩
      rw [← hj]
      have t1 : ¬ ((j : Int) + 1 < (m : Int)) := by omega
      have kw1 : IntKind.i64.wrap ((j : Int) + 1) = (j : Int) + 1 := by rw [IntKind.wrap_i64]; omega
      rw [HT.out] at hrow
      obtain ⟨oa, oc, rfl⟩ := hrow.slice
      rw [← HN.out] at hcr hrow
      have hx4 : wr.heap[w.heap.size]? = some (.cells #[.slice none 0 0, .slice none 0 0, .slice none 0 0] 28) := (hbr.block _ (by omega)).trans HC4.out
      have d0 : wr.cell? ⟨w.heap.size + 1, 0, none⟩ = some (.slice oa n oc) := by rw [cell0 hcr 0]; rfl
      have d1 : wr.cell? ⟨w.heap.size + 1, 1, none⟩ = some (.slice none 0 0) := by rw [cell0 hcr 1]; rfl
      have d2 : wr.cell? ⟨w.heap.size + 1, 2, none⟩ = some (.slice none 0 0) := by rw [cell0 hcr 2]; rfl
      have g0 : wr.cell? ⟨w.heap.size, 0, none⟩ = some (.slice none 0 0) := by rw [cell0 hx4 0]; rfl
      have g1 : wr.cell? ⟨w.heap.size, 1, none⟩ = some (.slice none 0 0) := by rw [cell0 hx4 1]; rfl
      have g2 : wr.cell? ⟨w.heap.size, 2, none⟩ = some (.slice none 0 0) := by rw [cell0 hx4 2]; rfl
      have f2 : wr.frozen? ⟨w.heap.size + 1, 2, none⟩ = false := froz0 hcr 2
      have f4 : wr.frozen? ⟨w.heap.size, 0, none⟩ = false := froz0 hx4 0
      have f5 : wr.frozen? ⟨w.heap.size, 1, none⟩ = false := froz0 hx4 1
      have f6 : wr.frozen? ⟨w.heap.size, 2, none⟩ = false := froz0 hx4 2
      have HROW := Lib.hid hrow
      have HCR := Lib.hid hcr
      have HBR := Lib.hid hbr
      have HX4 := Lib.hid hx4
      have HJ := Lib.hid hj
      have hb5 : w.heap.size + 1 < wr.heap.size := lt_of_heap hcr
      have hb4 : w.heap.size < wr.heap.size := lt_of_heap hx4
      clear hrow hcr hbr hx4 hj hke hlt hk hm2
      have HBW : Hid (Below w.heap.size w wr) := Lib.hid (HB1.out.trans (HBR.out.mono (by omega)))
      by_cases q : 0 < mn
      · have t3 : (0 : Int) < (mn : Int) := by omega
        obtain ⟨W9, hW9⟩ : ∃ W9, W9 = ((((wr.setCell ⟨w.heap.size + 1, 2, none⟩ (.slice (some ⟨wr.heap.size, 0, none⟩) 1 1)).setCell ⟨w.heap.size, 0, none⟩ (.slice oa n oc)).setCell ⟨w.heap.size, 1, none⟩ (.slice none 0 0)).setCell ⟨w.heap.size, 2, none⟩ (.slice (some ⟨wr.heap.size, 0, none⟩) 1 1)) := ⟨_, rfl⟩
        have hs9 : W9.heap.size = wr.heap.size := by rw [hW9]; simp only [setCell_size]
        have hb9 : Below w.heap.size w W9 := by rw [hW9]; exact (((HBW.out.setCell (p := ⟨w.heap.size + 1, 2, none⟩) (by simp) _).setCell (p := ⟨w.heap.size, 0, none⟩) (Nat.le_refl _) _).setCell (p := ⟨w.heap.size, 1, none⟩) (Nat.le_refl _) _).setCell (p := ⟨w.heap.size, 2, none⟩) (Nat.le_refl _) _
        have hr9 : EDot.Row (w.heap.size + 1 + 1) W9 (.slice oa n oc) ps := HROW.out.stay (fun r hr => by
          have := (HROW.out.lt r hr).1
          rw [hW9, setCell_other (by omega), setCell_other (by omega), setCell_other (by omega), setCell_other (by omega)])
        have hba : Below W9.heap.size W9 (W9.alloc (.cells #[.string teaN, .slice mo mn mc] 49)) := (Below.refl _ _).alloc (Nat.le_refl _) _
        have hm9 : Arr MarkR 4 W9 (.slice mo mn mc) ms := HM.out.marks hb9
        have hi9 := arr_lit (w := W9) (x := ⟨teaN, ms⟩) 49 (show teaN.size ≤ maxLen by decide) (hm9.marks hba)
        rw [hs9] at hi9
        have hof : ofC ps ms = ⟨ps, [], [⟨teaN, ms⟩]⟩ := by unfold ofC; rw [if_neg (fun e => by have := HMN.out; rw [e] at this; simp at this; omega)]
        have hrm9 : EMark.Row 0 (W9.alloc (.cells #[.string teaN, .slice mo mn mc] 49)) (.slice mo mn mc) ms := by
          have h := HMR.out
          rw [← HMN.out] at h
          exact h.stay (fun r hr => (hba.mono hb9.size |> hb9.trans).block r (h.lt r hr).2)
        have hri9 : EItem.Row 0 (W9.alloc (.cells #[.string teaN, .slice mo mn mc] 49)) (.slice (some ⟨wr.heap.size, 0, none⟩) 1 1) [⟨⟨teaN, ms⟩, mo, mc⟩] := by
          have := row_lit EItem [⟨⟨teaN, ms⟩, mo, mc⟩] W9 (by unfold maxLen; simp)
          rw [hs9] at this
          have e : ItW.v ⟨⟨teaN, ms⟩, mo, mc⟩ = .slice mo mn mc := by unfold ItW.v; rw [HMN.out]
          have e2 : (EItem.flat [⟨⟨teaN, ms⟩, mo, mc⟩]).toArray = #[.string teaN, .slice mo mn mc] := by
            simp only [Enc.flat_one_elt]
            show (encT _).toArray = _
            unfold encT
            rw [e]
          rw [e2] at this
          exact this.mono (Nat.zero_le _)
        have hown9 : OwnC 0 (W9.alloc (.cells #[.string teaN, .slice mo mn mc] 49)) (.slice oa n oc) (.slice none 0 0) (.slice (some ⟨wr.heap.size, 0, none⟩) 1 1) (ofC ps ms) := by
          rw [hof]
          refine ⟨(hr9.below hba).mono (Nat.zero_le _), Enc.Row.nil _ _, [⟨⟨teaN, ms⟩, mo, mc⟩], rfl, hri9, fun p hp => ?_, List.pairwise_singleton _ _⟩
          simp only [List.mem_cons, List.not_mem_nil, or_false] at hp
          subst hp
          have e : ItW.v ⟨⟨teaN, ms⟩, mo, mc⟩ = .slice mo mn mc := by unfold ItW.v; rw [HMN.out]
          refine ⟨⟨show teaN.size ≤ maxLen by decide, by rw [e]; exact hrm9, HMI.out⟩, by rw [e]; exact rows_apart hri9 hrm9 (by decide)⟩
        have hfin : ∃ x1 x2 x3, (.returned (.agg #[.slice oa n oc, .slice none 0 0, .slice (some ⟨wr.heap.size, 0, none⟩) 1 1]) : Ending) = .returned (.agg #[x1, x2, x3]) ∧ (CartA (W9.alloc (.cells #[.string teaN, .slice mo mn mc] 49)) x1 x2 x3 (ofC ps ms) ∧ OwnC 0 (W9.alloc (.cells #[.string teaN, .slice mo mn mc] 49)) x1 x2 x3 (ofC ps ms)) ∧ Below w.heap.size w (W9.alloc (.cells #[.string teaN, .slice mo mn mc] 49)) :=
          ⟨_, _, _, rfl, ⟨by rw [hof]; exact ⟨(hr9.below hba).dots HD.out, arr_nil, hi9⟩, hown9⟩, hb9.trans (hba.mono hb9.size)⟩
        rw [hW9] at hfin
        have HFIN := Lib.hid hfin
        clear hW9 hs9 hb9 hr9 hba hm9 hi9 hof hfin hrm9 hri9 hown9
        go_wp2_with fail
        (try simp only [Exit.inBlock, Exit.then])
        refine bodyPost_ret (v := .agg #[.slice oa n oc, .slice none 0 0, .slice (some ⟨wr.heap.size, 0, none⟩) 1 1]) ?_ rfl HFIN.out
        rw [results_cell_one rfl]
        go_simp
      · have t3 : ¬ ((0 : Int) < (mn : Int)) := by omega
        obtain ⟨W9, hW9⟩ : ∃ W9, W9 = (((wr.setCell ⟨w.heap.size, 0, none⟩ (.slice oa n oc)).setCell ⟨w.heap.size, 1, none⟩ (.slice none 0 0)).setCell ⟨w.heap.size, 2, none⟩ (.slice none 0 0)) := ⟨_, rfl⟩
        have hb9 : Below w.heap.size w W9 := by rw [hW9]; exact ((HBW.out.setCell (p := ⟨w.heap.size, 0, none⟩) (Nat.le_refl _) _).setCell (p := ⟨w.heap.size, 1, none⟩) (Nat.le_refl _) _).setCell (p := ⟨w.heap.size, 2, none⟩) (Nat.le_refl _) _
        have hr9 : EDot.Row (w.heap.size + 1 + 1) W9 (.slice oa n oc) ps := HROW.out.stay (fun r hr => by
          have := (HROW.out.lt r hr).1
          rw [hW9, setCell_other (by omega), setCell_other (by omega), setCell_other (by omega)])
        have hof : ofC ps ms = ⟨ps, [], []⟩ := by unfold ofC; rw [if_pos (List.length_eq_zero_iff.1 (by have := HMN.out; omega))]
        have hfin : ∃ x1 x2 x3, (.returned (.agg #[.slice oa n oc, .slice none 0 0, .slice none 0 0]) : Ending) = .returned (.agg #[x1, x2, x3]) ∧ (CartA W9 x1 x2 x3 (ofC ps ms) ∧ OwnC 0 W9 x1 x2 x3 (ofC ps ms)) ∧ Below w.heap.size w W9 :=
          ⟨_, _, _, rfl, ⟨by rw [hof]; exact ⟨hr9.dots HD.out, arr_nil, arr_nil⟩, by rw [hof]; exact ⟨hr9.mono (Nat.zero_le _), Enc.Row.nil _ _, [], rfl, Enc.Row.nil _ _, fun p hp => by simp at hp, List.Pairwise.nil⟩⟩, hb9⟩
        rw [hW9] at hfin
        have HFIN := Lib.hid hfin
        clear hW9 hb9 hr9 hof hfin
        go_wp2_with fail
        (try simp only [Exit.inBlock, Exit.then])
        refine bodyPost_ret (v := .agg #[.slice oa n oc, .slice none 0 0, .slice none 0 0]) ?_ rfl HFIN.out
        rw [results_cell_one rfl]
        go_simp
end Go.Proofs.YtemfaojmelljpaaGreatDoor
