/- slices.Compact at dots. -/
import Derived.Test.YtjlhdgmcaiiagaaGreatDoorSet
namespace Go.Proofs.YtjlhdgmcaiiagaaGreatDoor
open Go.RowKit Go.Maps

theorem below_drewN {B : Nat} {a w : World} (n : Nat) (h : Below B a w) : Below B a (w.drewN n) := ⟨h.os, h.tape, h.output, h.size, h.block⟩
/-- The dots d stand in the block g from its head on. -/
def DotsIn (w : World) (g cap : Nat) (d : List DotD) : Prop := ∃ C, w.heap[g]? = some (.cells C 24) ∧ C.size = cap * 2 ∧ d.length ≤ cap ∧ cap ≤ maxLen ∧ ∀ i (h : i < d.length) j, j < 2 → C[i * 2 + j]? = (encD d[i])[j]?
theorem DotsIn.cells {w : World} {g cap : Nat} {d : List DotD} (h : DotsIn w g cap d) (i : Nat) (hi : i < d.length) : w.cell? ⟨g, i * 2, none⟩ = some (.int .i64 d[i].rep) ∧ w.cell? ⟨g, i * 2 + 1, none⟩ = some (.int .i64 d[i].ctr) ∧ g < w.heap.size := by
  obtain ⟨C, h1, _, _, _, h5⟩ := h
  exact ⟨by rw [cell0 h1]; exact h5 i hi 0 (by decide), by rw [cell0 h1]; exact h5 i hi 1 (by decide), lt_of_heap h1⟩
theorem DotsIn.own {w : World} {g cap base : Nat} {d : List DotD} (h : DotsIn w g cap d) (hb : base ≤ g) : w.ownsRow base 24 2 (.slice (some ⟨g, 0, none⟩) d.length cap) d.length (flatD d) := by
  obtain ⟨C, h1, h2, h3, h4, h5⟩ := h
  refine ⟨flatD_len d, Or.inr ⟨g, cap, C, rfl, hb, h1, h3, h4, h2, ?_⟩⟩
  apply List.ext_getElem?
  intro t
  rw [List.getElem?_take]
  split
  · rename_i ht
    have hi : t / 2 < d.length := by omega
    have e : t = t / 2 * 2 + t % 2 := by omega
    rw [Array.getElem?_toList, e, h5 (t / 2) hi (t % 2) (by omega), flatD_get d (t / 2) hi (t % 2) (by omega)]
  · rename_i ht
    rw [List.getElem?_eq_none (by rw [flatD_len]; omega)]
theorem DotsIn.of_own {w : World} {g cap base n : Nat} {d : List DotD} (h : w.ownsRow base 24 2 (.slice (some ⟨g, 0, none⟩) n cap) n (flatD d)) : DotsIn w g cap d ∧ base ≤ g ∧ d.length = n := by
  have hl : d.length = n := by have := h.1; rw [flatD_len] at this; omega
  obtain ⟨_, ⟨hv, _⟩ | ⟨g', cap', cur, hv, hg, hb, h1, h2, h3, h4⟩⟩ := h
  · cases hv
  · cases hv
    refine ⟨⟨cur, hb, h3, by omega, h2, fun i hi j hj => ?_⟩, hg, hl⟩
    rw [← flatD_get d i hi j hj, ← h4, List.getElem?_take, if_pos (by omega), Array.getElem?_toList]
/-- A store of one element. -/
theorem DotsIn.set {w : World} {g cap : Nat} {d : List DotD} (h : DotsIn w g cap d) (k : Nat) (hk : k < d.length) (x : DotD) : DotsIn ((w.setCell ⟨g, k * 2, none⟩ (.int .i64 x.rep)).setCell ⟨g, k * 2 + 1, none⟩ (.int .i64 x.ctr)) g cap (d.set k x) := by
  obtain ⟨C, h1, h2, h3, h4, h5⟩ := h
  refine ⟨_, setCell_same (setCell_same h1 _ _) _ _, by simp [h2], by simpa using h3, h4, fun i hi j hj => ?_⟩
  have hi' : i < d.length := by simpa using hi
  by_cases hik : i = k
  · subst hik
    rw [List.getElem_set_self]
    have : j = 0 ∨ j = 1 := by omega
    rcases this with rfl | rfl
    · rw [Array.getElem?_setIfInBounds_ne (by omega), Nat.add_zero, Array.getElem?_setIfInBounds_self_of_lt (by omega)]; rfl
    · rw [Array.getElem?_setIfInBounds_self_of_lt (by simp; omega)]; rfl
  · rw [List.getElem_set_ne (fun e => hik e.symm), Array.getElem?_setIfInBounds_ne (by omega), Array.getElem?_setIfInBounds_ne (by omega)]
    exact h5 i hi' j hj
theorem DotsIn.froz {w : World} {g cap : Nat} {d : List DotD} (h : DotsIn w g cap d) (i : Nat) : w.frozen? ⟨g, i, none⟩ = false := by
  obtain ⟨C, h1, _⟩ := h
  exact froz0 h1 i
/-- clear from place m on. -/
theorem DotsIn.clear {w : World} {g cap n : Nat} {d : List DotD} (h : DotsIn w g cap d) (m : Nat) (hn : d.length = n) (hm : m ≤ n) : ∃ w', (∀ ty c, (Builtin.clear_ #[37] ty #[.slice (some ⟨g, m * 2, none⟩) (n - m) c]).run Tryz.prog w = .ok (.tuple #[]) w') ∧ DotsIn w' g cap (d.take m) ∧ ∀ B w0, B ≤ g → Below B w0 w → Below B w0 w' := by
  have h0 := h
  obtain ⟨C, h1, h2, h3, h4, h5⟩ := h
  obtain ⟨z1, z2⟩ := zeroDots (n - m)
  obtain ⟨C', a1, a2, a3⟩ := setCells_at (Builtin.zeroCells (Value.agg #[.int .i64 0, .int .i64 0]).cells (n - m)).toList w g (m * 2) C h1
  refine ⟨_, fun ty c => run_clear_n w ty 37 24 (.agg #[.int .i64 0, .int .i64 0]) g (m * 2) c (n - m) Tryz.underlying37 Tryz.zeroValue24 (fun j hj => ?_) (fun j _ => h0.froz _) z2, ⟨C', a1, by rw [a2, h2], by simp; omega, h4, fun i hi j hj => ?_⟩, fun B w0 hB hb => setCells_below _ w0 w B g _ hB hb⟩
  · rw [cell0 h1, Array.getElem?_eq_getElem (by omega)]; rfl
  · have hi' : i < m := by simp at hi; omega
    rw [a3 _ (by omega), List.getElem_take]
    exact h5 i (by omega) j hj
theorem set_take (d : List DotD) (m : Nat) (y : DotD) (hm : m < d.length) : (d.set m y).take (m + 1) = d.take m ++ [y] := by
  rw [List.take_succ_eq_append_getElem (by simpa using hm), List.getElem_set_self, List.take_set, List.set_eq_of_length_le (by simp; omega)]
theorem DotsIn.of_heap {w w' : World} {g cap : Nat} {d : List DotD} (h : DotsIn w g cap d) (hb : w'.heap[g]? = w.heap[g]?) : DotsIn w' g cap d := by
  obtain ⟨C, h1, h2⟩ := h
  exact ⟨C, by rw [hb]; exact h1, h2⟩

set_option maxRecDepth 100000 in
set_option maxHeartbeats 8000000 in
theorem compact_any (l : List DotD) (v : Value) (w : World) (base : Nat) (h : w.ownsRow base 24 2 v l.length (flatD l)) : Calls Tryz.prog 69 #[v] w fun e w' => ∃ v', e = .returned v' ∧ w'.ownsRow base 24 2 v' (compactD l).length (flatD (compactD l)) ∧ Below base w w' := by
  obtain ⟨av, cv, rfl⟩ := owns_slice h
  by_cases h2 : l.length < 2
  · have hc : compactD l = l := by
      match l, h2 with
      | [], _ => rfl
      | [a], _ => rfl
    have HROW := Lib.hid h
    rw [← hc] at HROW
    have t1 : decide ((l.length : Int) < 2) = true := decide_eq_true (by omega)
    rw [hc] at HROW
    clear h
    go_enter Tryz.func69, Tryz.ntmps69
    go_wp2_with fail
    go_ret
    exact ⟨_, rfl, by rw [hc]; exact HROW.out, Below.refl _ _⟩
  · obtain ⟨g, rfl⟩ : ∃ g, av = some ⟨g, 0, none⟩ := by
      obtain ⟨_, ⟨hv, hn⟩ | ⟨g, cap, cur, hv, _⟩⟩ := h
      · omega
      · cases hv; exact ⟨g, rfl⟩
    obtain ⟨hin, hgb, _⟩ := DotsIn.of_own h
    have HIN := Lib.hid hin
    have t1 : decide ((l.length : Int) < 2) = false := decide_eq_false (by omega)
    have hnm : l.length ≤ 9223372036854775807 := by
      obtain ⟨C, _, _, h3, h4, _⟩ := hin
      unfold maxLen at h4
      omega
    have hcap : l.length ≤ cv := by
      obtain ⟨C, _, _, h3, _⟩ := hin
      exact h3
    have HNQ := Lib.hid (fun x y wz => neqDot x y wz)
    have HEQ := Lib.hid (fun x y wz => eqDot x y wz)
    clear h hin
    go_enter Tryz.func69, Tryz.ntmps69
    go_wp2_with fail
    go_loopw [3] (fun i wr => ∃ k : Nat, k + 1 ≤ l.length ∧ i = .int .i64 ((k : Int) + 1) ∧ wr.heap[g]? = w.heap[g]? ∧ Below base w wr ∧ compactD (l.take (k + 1)) = l.take (k + 1)) (fun i _ => l.length - (intOf i).toNat)
    case atStart => exact ⟨0, by omega, rfl, rfl, Below.refl _ _, by
      match l, h2 with
      | a :: b :: l, _ => rfl⟩
    case round =>
      obtain ⟨k, hk, rfl, hg, hB, hc⟩ := hrel
      have HB := Lib.hid hB
      have HC := Lib.hid hc
      have HG := Lib.hid hg
      clear hB hc hg
      by_cases hlt : k + 1 < l.length
      · have HR := Lib.hid (HIN.out.of_heap HG.out)
        obtain ⟨c0, c1, hgl⟩ := HR.out.cells (k + 1) hlt
        obtain ⟨c2, c3, _⟩ := HR.out.cells k (by omega)
        have HT : Hid (compactD (l.take (k + 2)) = if l[k] = l[k + 1] then compactD (l.take (k + 1)) else compactD (l.take (k + 1)) ++ [l[k + 1]]) := Lib.hid (compactD_take l k hlt)
        have HTK : Hid (l.take (k + 2) = l.take (k + 1) ++ [l[k + 1]]) := Lib.hid (List.take_succ_eq_append_getElem hlt)
        generalize l[k + 1] = y at *
        generalize l[k] = x at *
        have heq : ∀ wz : World, Sem.run Tryz.prog (binOp .eql 24 (.agg #[.int .i64 y.rep, .int .i64 y.ctr]) (.agg #[.int .i64 x.rep, .int .i64 x.ctr])) wz = .ok (.bool (decide (y = x))) wz := fun wz => HEQ.out y x wz
        have hgd : ∀ (op : BinOp) (a b : Operand) (wz : World), Sem.run Tryz.prog (eqGuard op 24 a b (.agg #[.int .i64 y.rep, .int .i64 y.ctr]) (.agg #[.int .i64 x.rep, .int .i64 x.ctr])) wz = .ok () wz := fun op a b wz => guardDot op a b y x wz
        have x0 : IntKind.i64.wrap ((k : Int) + 1 - 1) = (k : Int) := by rw [IntKind.wrap_i64]; omega
        have x1 : IntKind.i64.wrap ((k : Int) + 1 + 1) = (k : Int) + 1 + 1 := by rw [IntKind.wrap_i64]; omega
        have x2 : IntKind.i64.wrap (k : Int) = (k : Int) := by rw [IntKind.wrap_i64]; omega
        have a0 : (0 : Int) ≤ k := by omega
        have a1 : (k : Int) < l.length := by omega
        have a2 : (0 : Int) ≤ (k : Int) + 1 := by omega
        have a3 : (k : Int) + 1 < l.length := by omega
        have x3 : ((k : Int) + 1).toNat = k + 1 := by omega
        by_cases hxy : y = x
        · have hd : decide (y = x) = true := decide_eq_true hxy
          rw [hd] at heq
          have HC2 : Hid (compactD (l.take (k + 2)) = l.take (k + 1)) := Lib.hid (by rw [HT.out, if_pos hxy.symm, HC.out])
          clear HT HC hxy hd
          have hcv : ¬ cv = k + 1 := by omega
          go_upto_region 6 with fail
          go_quiet (fail)
          go_wp2_with fail
          clear heq hgd c0 c1 c2 c3
          obtain ⟨wo, hwo⟩ : ∃ wo : World, wo = wr.drewN nq := ⟨_, rfl⟩
          have HIO := Lib.hid (show DotsIn wo g cv l by rw [hwo]; exact HR.out.of_heap rfl)
          have HBO := Lib.hid (show Below base w wo by rw [hwo]; exact below_drewN _ HB.out)
          rw [← hwo]
          clear hwo
          go_loopw [3, 5] (fun a b wx => ∃ (m j : Nat) (d : List DotD), a = .int .i64 m ∧ b = .int .i64 ((j : Int) + 1) ∧ j + 1 ≤ l.length - (k + 1) ∧ m ≤ k + 1 + j ∧ 1 ≤ m ∧ d.length = l.length ∧ DotsIn wx g cv d ∧ d.take m = compactD (l.take (k + 1 + j + 1)) ∧ (∀ i, k + 1 + j ≤ i → d[i]? = l[i]?) ∧ Below base w wx) (fun _ b _ => l.length - (intOf b).toNat)
          case atStart => exact ⟨k + 1, 0, l, by simp, rfl, by omega, by omega, by omega, rfl, HIO.out, HC2.out.symm, fun _ _ => rfl, HBO.out⟩
          case round =>
            obtain ⟨m, j, d, rfl, rfl, hj, hmk, hm1, hdl, hdin, htk, hsame, hbx⟩ := hrel
            have HTK2 := Lib.hid htk
            have HSAME := Lib.hid hsame
            have HBX := Lib.hid hbx
            have HDIN := Lib.hid hdin
            clear htk hsame hbx hdin
            by_cases hjl : j + 1 < l.length - (k + 1)
            · have hi1 : k + 1 + j + 1 < d.length := by omega
              have hi0 : k + 1 + j < d.length := by omega
              obtain ⟨c0, c1, hgl⟩ := HDIN.out.cells (k + 1 + j + 1) hi1
              obtain ⟨c2, c3, _⟩ := HDIN.out.cells (k + 1 + j) hi0
              obtain ⟨c4, c5, _⟩ := HDIN.out.cells m (by omega)
              have f0 := HDIN.out.froz (m * 2)
              have f1 := HDIN.out.froz (m * 2 + 1)
              have e1 : d[k + 1 + j + 1] = l[k + 1 + j + 1]'(by omega) := by
                have := HSAME.out (k + 1 + j + 1) (by omega)
                rw [List.getElem?_eq_getElem hi1, List.getElem?_eq_getElem (by omega)] at this
                exact Option.some.inj this
              have e0 : d[k + 1 + j] = l[k + 1 + j]'(by omega) := by
                have := HSAME.out (k + 1 + j) (by omega)
                rw [List.getElem?_eq_getElem hi0, List.getElem?_eq_getElem (by omega)] at this
                exact Option.some.inj this
              have HT2 := Lib.hid (compactD_take l (k + 1 + j) (by omega))
              have HSET := Lib.hid (fun z => HDIN.out.set m (by omega) z)
              rw [← e1, ← e0] at HT2
              clear e0 e1
              rw [show (k + 1 + j + 1) * 2 = (k + 1) * 2 + (j + 1) * 2 by omega] at c0 c1
              rw [show (k + 1 + j) * 2 = (k + 1) * 2 + j * 2 by omega] at c2 c3
              generalize hy : d[k + 1 + j + 1] = y at *
              generalize hx : d[k + 1 + j] = x at *
              generalize d[m] = z at *
              have hnq : ∀ wz : World, Sem.run Tryz.prog (binOp .neq 24 (.agg #[.int .i64 y.rep, .int .i64 y.ctr]) (.agg #[.int .i64 x.rep, .int .i64 x.ctr])) wz = .ok (.bool (!decide (y = x))) wz := fun wz => HNQ.out y x wz
              have hgd : ∀ (op : BinOp) (a b : Operand) (wz : World), Sem.run Tryz.prog (eqGuard op 24 a b (.agg #[.int .i64 y.rep, .int .i64 y.ctr]) (.agg #[.int .i64 x.rep, .int .i64 x.ctr])) wz = .ok () wz := fun op a b wz => guardDot op a b y x wz
              have HY := Lib.hid hy
              have w0 : IntKind.i64.wrap ((j : Int) + 1 - 1) = (j : Int) := by rw [IntKind.wrap_i64]; omega
              have w1 : IntKind.i64.wrap ((j : Int) + 1 + 1) = (j : Int) + 1 + 1 := by rw [IntKind.wrap_i64]; omega
              have w2 : IntKind.i64.wrap (j : Int) = (j : Int) := by rw [IntKind.wrap_i64]; omega
              have w3 : IntKind.i64.wrap ((m : Int) + 1) = (m : Int) + 1 := by rw [IntKind.wrap_i64]; omega
              have b0 : (0 : Int) ≤ j := by omega
              have b2 : (0 : Int) ≤ (j : Int) + 1 := by omega
              have b4 : (0 : Int) ≤ m := by omega
              have b5 : (m : Int) < l.length := by omega
              have w4 : ((j : Int) + 1).toNat = j + 1 := by omega
              have b6 : ((l.length - (k + 1) : Nat) : Int) = (l.length : Int) - (k + 1) := by omega
              have t5 : decide ((j : Int) + 1 < (l.length : Int) - ((k : Int) + 1)) = true := decide_eq_true (by omega)
              clear hy hx
              by_cases hxy : y = x
              · have hd : decide (y = x) = true := decide_eq_true hxy
                rw [hd] at hnq
                have HC3 : Hid (d.take m = compactD (l.take (k + 1 + (j + 1) + 1))) := Lib.hid (by rw [HTK2.out, show k + 1 + (j + 1) + 1 = k + 1 + j + 2 by omega, HT2.out, if_pos hxy.symm])
                clear HT2 hxy hd
                go_upto_region 11 with fail
                go_quiet (fail)
                go_wp2_with fail
                go_roundw
                case rel => exact ⟨m, j + 1, d, rfl, by go_num, by omega, by omega, hm1, hdl, HDIN.out.of_heap rfl, HC3.out, fun i hi => HSAME.out i (by omega), below_drewN _ HBX.out⟩
                case measure => simp [intOf]; omega
              · have hd : decide (y = x) = false := decide_eq_false hxy
                rw [hd] at hnq
                have HC3 : Hid ((d.set m y).take (m + 1) = compactD (l.take (k + 1 + (j + 1) + 1))) := Lib.hid (by rw [set_take d m y (by omega), HTK2.out, show k + 1 + (j + 1) + 1 = k + 1 + j + 2 by omega, HT2.out, if_neg (fun e => hxy e.symm)])
                have HS3 : Hid (∀ i, k + 1 + (j + 1) ≤ i → (d.set m y)[i]? = l[i]?) := Lib.hid (fun i hi => by rw [List.getElem?_set_ne (by omega)]; exact HSAME.out i (by omega))
                clear HT2 hxy hd
                go_upto_region 11 with fail
                go_quiet (fail)
                go_wp2_with fail
                go_roundw
                case rel => exact ⟨m + 1, j + 1, d.set m y, by go_num, by go_num, by omega, by omega, by omega, by simpa using hdl, (HSET.out y).of_heap rfl, HC3.out, HS3.out, below_drewN _ ((HBX.out.setCell hgb _).setCell hgb _)⟩
                case measure => simp [intOf]; omega
            · have hje : k + 1 + j + 1 = l.length := by omega
              have HF : Hid (d.take m = compactD l) := Lib.hid (by have := HTK2.out; rw [hje, List.take_length] at this; exact this)
              obtain ⟨w4, hclr, hin4, hbl4⟩ := HDIN.out.clear m hdl (by omega)
              have HIN4 := Lib.hid (hin4.own hgb)
              have HB4 := Lib.hid (hbl4 base w hgb HBX.out)
              have hlen : (d.take m).length = m := by rw [List.length_take]; omega
              rw [hlen] at HIN4
              have hcm : ¬ cv = m := by omega
              have b4 : (0 : Int) ≤ m := by omega
              have b5 : (m : Int) ≤ l.length := by omega
              have b7 : (m : Int) ≤ cv := by omega
              have b6 : ((l.length - (k + 1) : Nat) : Int) = (l.length : Int) - (k + 1) := by omega
              have t5 : decide ((j : Int) + 1 < (l.length : Int) - ((k : Int) + 1)) = false := decide_eq_false (by omega)
              have HLN : Hid ((compactD l).length = m) := Lib.hid (by rw [← HF.out]; exact hlen)
              clear HTK2 HSAME hin4 hbl4 hlen
              go_wp2_with fail
              go_ret
              exact ⟨_, rfl, by rw [HLN.out, ← HF.out]; exact HIN4.out, HB4.out⟩
        · have hd : decide (y = x) = false := decide_eq_false hxy
          rw [hd] at heq
          have HC2 : Hid (compactD (l.take (k + 2)) = l.take (k + 2)) := Lib.hid (by rw [HT.out, if_neg (fun e => hxy e.symm), HC.out, HTK.out])
          clear HT HC hxy hd
          go_upto_region 6 with fail
          go_quiet (fail)
          go_wp2_with fail
          go_roundw
          case rel => exact ⟨k + 1, by omega, by go_num, HG.out, below_drewN _ HB.out, HC2.out⟩
          case measure => simp [intOf]; omega
      · have hke : k + 1 = l.length := by omega
        have HF : Hid (compactD l = l) := Lib.hid (by have := HC.out; rw [hke, List.take_length] at this; exact this)
        have HR := Lib.hid ((HIN.out.of_heap HG.out).own hgb)
        have t2 : decide ((k : Int) + 1 < l.length) = false := decide_eq_false (by omega)
        clear HC
        go_wp2_with fail
        go_ret
        exact ⟨_, rfl, by rw [HF.out]; exact HR.out, HB.out⟩
end Go.Proofs.YtjlhdgmcaiiagaaGreatDoor
