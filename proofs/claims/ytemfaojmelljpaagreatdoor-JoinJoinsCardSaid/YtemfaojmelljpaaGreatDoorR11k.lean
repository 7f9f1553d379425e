/- The reference's Join and Within. -/
import Derived.Test.YtemfaojmelljpaaGreatDoorC5
import Derived.Test.YtemfaojmelljpaaGreatDoorCanonP
import Derived.Test.YtemfaojmelljpaaGreatDoorRegC
import Derived.Test.YtemfaojmelljpaaGreatDoorR3f
import Derived.Test.YtemfaojmelljpaaGreatDoorC17
set_option linter.unusedSimpArgs false
set_option linter.unusedVariables false
set_option maxRecDepth 100000
set_option maxHeartbeats 16000000
namespace Go.Proofs.YtemfaojmelljpaaGreatDoor
open Go.RowKit Go.Maps

theorem r10Names_any (c : CartD) (x1 x2 x3 : Value) (w : World) (h : CartA w x1 x2 x3 c) (hl : c.items.length ≤ 100000) : Calls Tryz.prog 40 #[.agg #[x1, x2, x3]] w fun e w' => ∃ v', e = .returned v' ∧ EStr.Row w.heap.size w' v' (namesC c) ∧ Below w.heap.size w w' := by
 obtain ⟨h1, h2, h3⟩ := h;have hln := h3.len;have HNC : Hid (namesC c = c.items.map (·.name)) := Hd rfl;obtain ⟨o3, k3, rfl, hel⟩ := h3.itemAt;have HEL := Hd hel;clear hel h3;obtain ⟨o1, k1, rfl⟩ := h1.slice;obtain ⟨o2, k2, rfl⟩ := h2.slice;obtain ⟨n1, hn1⟩ : ∃ n, n = c.vec.length := ⟨_, rfl⟩;obtain ⟨n2, hn2⟩ : ∃ n, n = c.cloud.length := ⟨_, rfl⟩;obtain ⟨n3, hn3⟩ : ∃ n, n = c.items.length := ⟨_, rfl⟩;rw [← hn3] at hln hl;rw [← hn1, ← hn2, ← hn3];clear h1 h2 hn1 hn2;obtain ⟨W0, HW, HB, HS, HK0⟩ := box1 w #[.slice o1 n1 k1, .slice o2 n2 k2, .slice o3 n3 k3] 28;have HC := Hd (fun wz (hz : Below W0.heap.size W0 wz) => cel3 (HK0.out wz hz))
 have hbb0 := HB.out;have HN3 := Hd hn3;have HBW := Hd HB.out;have hsz := HS.out;clear hbb0 hn3;obtain ⟨c0, c1, c2⟩ := HC.out W0 brf
 go_enter Tryz.func40, Tryz.ntmps40
 go_wp2_with fail
 rw [← HW.out]
 go_loopw [3, 4] (fun ov i wr => ∃ k : Nat, k ≤ n3 ∧ i = .int .i64 k ∧ EStr.Row W0.heap.size wr ov ((c.items.take k).map (·.name)) ∧ Below W0.heap.size W0 wr) (fun _ i _ => n3 - (intOf i).toNat)
 case atStart => exact ⟨0, Nat.zero_le _, rfl, Enc.Row.nil _ _, Below.refl _ _⟩
 case round =>
  obtain ⟨k, hk, rfl, hrow, hB⟩ := hrel;have HB := Hd hB;have HROW := Hd hrow;clear hB hrow c0 c1 c2;obtain ⟨c0, c1, c2⟩ := HC.out wr HB.out
  by_cases hlt : k < n3
  ·have hlt' : k < c.items.length := by rw [← HN3.out]; exact hlt
   obtain ⟨b, off, mv, rfl, hbl, e0, -⟩ := HEL.out k hlt';have e2 : wr.cell? ⟨b, off + k * 2, none⟩ = some (.string c.items[k].name) := by rw [(HBW.out.trans (HB.out.mono HBW.out.size)).cell (p := ⟨_, _, _⟩) hbl]; exact e0
   have HTK : Hid ((c.items.take (k + 1)).map (·.name) = (c.items.take k).map (·.name) ++ [c.items[k].name]) := Hd (by rw [List.take_succ_eq_append_getElem hlt', List.map_append]; rfl)
   have hll : ((c.items.take k).map (·.name)).length = k := by rw [List.length_map, List.length_take]; omega
   obtain ⟨oq, cq, rfl⟩ := HROW.out.slice;rw [hll] at HROW ⊢;generalize c.items[k].name = x at *
   obtain ⟨Wz, hWz⟩ : ∃ wq, wq = wr.alloc (.cells #[.string x] 9) := ⟨_, rfl⟩;have hbz : Below wr.heap.size wr Wz := by rw [hWz]; exact bal
   have HRz := Hd (HROW.out.below hbz);have HSz : Hid (Enc.Src EStr Wz (.slice (some ⟨wr.heap.size, 0, none⟩) 1 1) [x]) := Hd (by rw [hWz]; exact Enc.Src.one_lit (E := EStr) wr 9 x)
   have HBz := Hd (btr HB.out hbz);have hszz : W0.heap.size ≤ Wz.heap.size := HBz.out.size;have HWz := Hd hWz;have a0 : (0 : Int) ≤ k := by omega
   have a1 : (k : Int) < (n3 : Int) := by omega
   have hkw := wr1 k (by omega)
   clear hbz hWz e0
   go_wp2_with (at_builtin; go_loud (rw [← HWz.out]); go_loud (refine wpList_append_row rfl _ _ 62 rfl EStr W0.heap.size (.string ⟨#[]⟩) 16 Tryz.underlying62 infoStr (by decide) (by decide) _ _ rfl HRz.out _ _ rfl HSz.out (by first | omega | (simp; omega)) hszz ?_); intro v8 w8 hown hgr)
   have HR8 : Hid (EStr.Row W0.heap.size w8 v8 ((c.items.take k).map (·.name) ++ [x])) := Hd hown;have HB8 := Hd (HBz.out.grown hgr hszz (fun j hj => (HRz.out.lt _ hj).1))
   clear hown hgr c0 c1 c2 e2
   go_roundw
   case rel => exact ⟨k + 1, by omega, by go_num, by rw [HTK.out]; exact HR8.out, HB8.out⟩
   case measure => simp [intOf]; omega
  ·have hke : k = n3 := by omega
   have HF : Hid (EStr.Row w.heap.size wr u3 (namesC c)) := Hd (by
    have := HROW.out;rw [hke, HN3.out, List.take_length] at this;rw [HNC.out];exact this.mono (by omega))
   have a1 : ¬ ((k : Int) < (n3 : Int)) := by omega
   clear HROW
   go_wp2_with fail
   go_ret
   exact ⟨_, rfl, HF.out, HBW.out.trans (HB.out.mono HBW.out.size)⟩
end Go.Proofs.YtemfaojmelljpaaGreatDoor
namespace Go.Proofs.YtemfaojmelljpaaGreatDoor
open Go.RowKit Go.Maps

theorem arr_setB {α : Type} {R : World → α → List Value → Prop} {sz : Nat} {w : World} {v : Value} {l : List α} {b i : Nat} {C : Array Value} {T : TypeId} (x : Value) (hsz : 0 < sz) (hR : ∀ a cs, R w a cs → ∀ o n c, cs[0]? ≠ some (.slice o n c)) (hRw : ∀ a cs, R w a cs → R (w.setCell ⟨b, i, none⟩ x) a cs) (h : Arr R sz w v l) (hb : w.heap[b]? = some (.cells C T)) (hC : ∀ (j : Nat) (y : Value), C[j]? = some y → ∃ o n c, y = .slice o n c) : Arr R sz (w.setCell ⟨b, i, none⟩ x) v l := by
 obtain ⟨o, c, rfl, h1, h2, h4⟩ := h;refine ⟨o, c, rfl, h1, h2, fun j hj => ?_⟩
 obtain ⟨b', off, cs, rfl, hlt, hc, hRj, hcell⟩ := h4 j hj;have hne : b' ≠ b := fun e => by
  subst e;have h0 := hcell 0 hsz;rw [cell0 hb] at h0
  rcases hq : C[off + j * sz + 0]? with _ | y
  ·rw [hq] at h0
   have := List.getElem?_eq_none_iff.1 h0.symm;omega
  ·obtain ⟨o, n, c, rfl⟩ := hC _ _ hq
   rw [hq] at h0;exact hR _ _ hRj o n c h0.symm
 refine ⟨b', off, cs, rfl, by rw [setCell_size]; exact hlt, hc, hRw _ _ hRj, fun q hq => ?_⟩
 rw [← hcell q hq];unfold World.cell?;rw [setCell_other hne]
def SlB (C : Array Value) : Prop := ∀ (j : Nat) (y : Value), C[j]? = some y → ∃ o n c, y = .slice o n c
theorem slB3 (o1 o2 o3 : Option Addr) (n1 k1 n2 k2 n3 k3 : Nat) : SlB #[.slice o1 n1 k1, .slice o2 n2 k2, .slice o3 n3 k3] := fun j y h => by
 match j, h with
 | 0, h => simp at h; exact ⟨_, _, _, h.symm⟩
 | 1, h => simp at h; exact ⟨_, _, _, h.symm⟩
 | 2, h => simp at h; exact ⟨_, _, _, h.symm⟩
 | n + 3, h => simp at h
theorem dots_setB {w : World} {v : Value} {l : List DotD} {b i : Nat} {C : Array Value} {T : TypeId} (x : Value) (h : Arr DotR 2 w v l) (hb : w.heap[b]? = some (.cells C T)) (hC : SlB C) : Arr DotR 2 (w.setCell ⟨b, i, none⟩ x) v l :=
 arr_setB x (by decide) (fun a cs h o n c e => by rw [h.1] at e; simp at e) (fun _ _ h => h) h hb hC
theorem marks_setB {w : World} {v : Value} {l : List MarkD} {b i : Nat} {C : Array Value} {T : TypeId} (x : Value) (h : Arr MarkR 4 w v l) (hb : w.heap[b]? = some (.cells C T)) (hC : SlB C) : Arr MarkR 4 (w.setCell ⟨b, i, none⟩ x) v l :=
 arr_setB x (by decide) (fun a cs h o n c e => by rw [h.1] at e; simp at e) (fun _ _ h => h) h hb hC
theorem items_setB {w : World} {v : Value} {l : List ItemD} {b i : Nat} {C : Array Value} {T : TypeId} (x : Value) (h : Arr ItemR 2 w v l) (hb : w.heap[b]? = some (.cells C T)) (hC : SlB C) : Arr ItemR 2 (w.setCell ⟨b, i, none⟩ x) v l :=
 arr_setB x (by decide) (fun a cs ⟨mv, h, _⟩ o n c e => by rw [h] at e; simp at e) (fun a cs ⟨mv, h1, h2, h3⟩ => ⟨mv, h1, h2, marks_setB x h3 hb hC⟩) h hb hC
theorem r11jm (a b : CartD) (o1 : Option Addr) (n1 k1 : Nat) (o2 : Option Addr) (n2 k2 : Nat) (o3 : Option Addr) (n3 k3 : Nat) (o4 : Option Addr) (n4 k4 : Nat) (o5 : Option Addr) (n5 k5 : Nat) (o6 : Option Addr) (n6 k6 : Nat) (ba bb bn nn cn i bd off nd cd j : Nat) (nm : ByteArray) (x : DotD) (m : MarkD) (s : Bool) (z0 z1 z4 z5 z9 z11 z12 z13 z14 z15 z16 z17 z18 z19 z20 z21 z22 z23 z24 z25 z26 z27 z28 z29 z30 z31 z32 z33 z34 z35 z36 z37 z38 z39 z40 z41 z42 z43 z44 z45 z46 z47 z48 z49 z50 z51 z52 z53 z54 z55 z56 z57 z58 z59 z60 z61 z62 z63 z64 z65 z66 z67 z68 z69 z70 z71 z72 z73 z74 z75 z76 z77 z78 z79 z80 z81 z82 z83 z84 z85 z86 : Value) (WL : World) (hca : CartA WL (.slice o1 n1 k1) (.slice o2 n2 k2) (.slice o3 n3 k3) a) (hcb : CartA WL (.slice o4 n4 k4) (.slice o5 n5 k5) (.slice o6 n6 k6) b) (hba : WL.heap[ba]? = some (.cells #[.slice o1 n1 k1, .slice o2 n2 k2, .slice o3 n3 k3] 28)) (hbb : WL.heap[bb]? = some (.cells #[.slice o4 n4 k4, .slice o5 n5 k5, .slice o6 n6 k6] 28)) (hen : WL.cell? ⟨bn, i, none⟩ = some (.string nm)) (hin : i < nn) (he0 : WL.cell? ⟨bd, off + j * 2, none⟩ = some (.int .i64 x.rep)) (he1 : WL.cell? ⟨bd, off + j * 2 + 1, none⟩ = some (.int .i64 x.ctr)) (hjn : j < nd) (hmx : markRV (joinedM a b nm x) = .tuple #[.agg #[.int .i64 m.dot.rep, .int .i64 m.dot.ctr, .int .i64 m.qty, .int .u64 m.time], .bool s])
  (R : Act → World → Prop) (hQ : ∀ (u57 u58 u59 u60 u61 u62 u63 u64 u65 u66 u67 u56 u68 u69 : Value) (g : Nat) (w : World), Below WL.heap.size WL w → WL.heap.size ≤ g → w.heap[g]? = some (.cells #[.int .i64 m.dot.rep, .int .i64 m.dot.ctr, .int .i64 m.qty, .int .u64 m.time] 54) → R { tmps := #[z0, z1, .pointer (some ⟨ba, 0, none⟩), .pointer (some ⟨bb, 0, none⟩), z4, z5, .slice (some ⟨bn, 0, none⟩) nn cn, .slice (some ⟨bd, off, none⟩) nd cd, .int .i64 (i : Int), z9, .int .i64 (j : Int), .pointer (some ⟨g, 0, none⟩), .bool s, z13, z14, z15, z16, z17, z18, z19, z20, z21, z22, z23, z24, z25, z26, z27, z28, z29, z30, z31, z32, z33, z34, z35, z36, z37, z38, z39, z40, z41, z42, z43, z44, z45, z46, z47, z48, z49, z50, z51, z52, z53, z54, z55, u56, u57, u58, u59, u60, u61, u62, u63, u64, u65, u66, u67, u68, u69, z70, z71, z72, z73, z74, z75, z76, z77, z78, z79, z80, z81, z82, z83, z84, z85, z86], defers := [] } w) :
  (codeAt [1, 1, 1, 1, 0, 1, 0, 0, 1, 0, 0, 1, 1, 0, 1, 0, 0, 1, 0, 0, 0] (Tryz.f15.body.getD .skip)).wp Tryz.prog (NQ R) { tmps := #[z0, z1, .pointer (some ⟨ba, 0, none⟩), .pointer (some ⟨bb, 0, none⟩), z4, z5, .slice (some ⟨bn, 0, none⟩) nn cn, .slice (some ⟨bd, off, none⟩) nd cd, .int .i64 (i : Int), z9, .int .i64 (j : Int), z11, z12, z13, z14, z15, z16, z17, z18, z19, z20, z21, z22, z23, z24, z25, z26, z27, z28, z29, z30, z31, z32, z33, z34, z35, z36, z37, z38, z39, z40, z41, z42, z43, z44, z45, z46, z47, z48, z49, z50, z51, z52, z53, z54, z55, z56, z57, z58, z59, z60, z61, z62, z63, z64, z65, z66, z67, z68, z69, z70, z71, z72, z73, z74, z75, z76, z77, z78, z79, z80, z81, z82, z83, z84, z85, z86], defers := [] } WL := by
 have hnl : bn < WL.heap.size := by
  obtain ⟨b', off', e, hlt⟩ := addr_plain hen
  cases e
  exact hlt
 have hbl : bd < WL.heap.size := by
  obtain ⟨b', off', e, hlt⟩ := addr_plain he0
  cases e
  exact hlt
 have HBC := Hd (fun wz (hz : Below WL.heap.size WL wz) => And.intro (cel3 ((hz.block _ (lt_of_heap hba)).trans hba)) (cel3 ((hz.block _ (lt_of_heap hbb)).trans hbb)))
 have HEL : Hid (∀ wz, Below WL.heap.size WL wz → wz.cell? ⟨bn, i, none⟩ = some (.string nm) ∧ wz.cell? ⟨bd, off + j * 2, none⟩ = some (.int .i64 x.rep) ∧ wz.cell? ⟨bd, off + j * 2 + 1, none⟩ = some (.int .i64 x.ctr)) := Hd (fun wz hz => ⟨by rw [hz.cell (p := ⟨_, _, _⟩) hnl]; exact hen, by rw [hz.cell (p := ⟨_, _, _⟩) hbl]; exact he0, by rw [hz.cell (p := ⟨_, _, _⟩) hbl]; exact he1⟩)
 have HM : Hid (∀ wz, Below WL.heap.size WL wz → Calls Tryz.prog 43 #[.agg #[.slice o1 n1 k1, .slice o2 n2 k2, .slice o3 n3 k3], .agg #[.slice o4 n4 k4, .slice o5 n5 k5, .slice o6 n6 k6], .string nm, .agg #[.int .i64 x.rep, .int .i64 x.ctr]] wz fun e w' => e = .returned (.tuple #[.agg #[.int .i64 m.dot.rep, .int .i64 m.dot.ctr, .int .i64 m.qty, .int .u64 m.time], .bool s]) ∧ Below wz.heap.size wz w') := Hd (fun wz hz => by
  have := r11joined_any a b nm x _ _ _ _ _ _ wz (hca.below hz) (hcb.below hz);rw [hmx] at this;exact this)
 have HD0 : Hid (Below WL.heap.size WL WL.drew) := Hd bdr;have a0 : (0 : Int) ≤ i := by omega
 have a1 : (i : Int) < (nn : Int) := by omega
 have a2 : (0 : Int) ≤ j := by omega
 have a3 : (j : Int) < (nd : Int) := by omega
 clear hca hcb hba hbb hen he0 he1 hmx hin hjn hnl hbl;simp only [codeAt, codeL, codeR, Tryz.f15, Option.getD_some];refine wp_region_held_drew (S := (fun wz => Below WL.heap.size WL wz)) (by kernel_rfl) (bdr) (fun hS => ?_)
 refine tkR (n := 10) [0, 1, 2, 3, 4, 5, 6, 7, 8, 9] rfl (by decide +kernel) hS ?_
 iterate 10 ((try simp only [Act.put, s1, s2, s3, s4, s5, s6]); refine ⟨_, ?_, rfl, Or.inl ⟨by kernel_rfl, fun w hSw => ok_of fun z hz => ?_⟩, ?_⟩; rotate_left; · (have HBX := HBC.out _ hSw; have HEX := HEL.out _ hSw; obtain ⟨⟨f0, f1, f2⟩, f3, f4, f5⟩ := HBX; obtain ⟨f6, f7, f8⟩ := HEX; go_simp; exact hz))
 refine RunOK.done ?_
 try simp only [Act.put, s1, s2, s3, s4, s5, s6]
 refine wpAnyH_ready (rs := [10, 14]) (by decide +kernel) (by simp) ?_
 refine (AllReadyH.cons rfl (fun K hK => ?_) (AllReadyH.cons rfl (fun K hK => ?_) AllReadyH.nil))
 ·go_simp
  go_at_call 43
  refine (HM.out _ HD0.out).mono ?_;rintro e w8 ⟨rfl, hb8⟩;have hb9 := (Below.trans HD0.out (hb8.mono HD0.out.size));go_simp;refine Shut.out hK _ _ (hb9) (fun hS2 => ?_); clear hK K hS; have hS := hS2; clear hS2
  refine tkR (n := 3) [11, 12, 13] rfl (by decide +kernel) hS ?_
  iterate 3 ((try simp only [Act.put, s1, s2, s3, s4, s5, s6]); refine ⟨_, ?_, rfl, Or.inl ⟨by kernel_rfl, fun w hSw => ok_of fun z hz => ?_⟩, ?_⟩; rotate_left; · (go_simp; exact hz))
  refine RunOK.done ?_
  try simp only [Act.put, s1, s2, s3, s4, s5, s6]
  refine rd1 14 (by decide +kernel) rfl (fun K hK => ?_)
  go_simp;refine Shut.out hK _ _ ((Below.alloc hb9 hb9.size _)) (fun hS2 => ?_); clear hK K hS; have hS := hS2; clear hS2
  try simp only [Act.put, s1, s2, s3, s4, s5, s6]
  refine rd1 15 (by decide +kernel) rfl (fun K hK => ?_)
  have y0 : (w8.alloc (.cells #[.int .i64 0, .int .i64 0, .int .i64 0, .int .u64 0] 54)).heap[w8.heap.size]? = some (.cells #[.int .i64 0, .int .i64 0, .int .i64 0, .int .u64 0] 54) := alloc_new _ _;have hb10 := Below.alloc hb9 hb9.size (.cells #[.int .i64 0, .int .i64 0, .int .i64 0, .int .u64 0] 54);have l10 : WL.heap.size ≤ w8.heap.size := hb9.size;generalize hgw : w8.alloc (.cells #[.int .i64 0, .int .i64 0, .int .i64 0, .int .u64 0] 54) = wy at *
  generalize w8.heap.size = g at *
  have f0 := froz0 y0 0;have c0 : wy.cell? ⟨g, 0, none⟩ = some (.int .i64 0) := cl0 y0 0 rfl;have f1 := froz0 y0 1;have c1 : wy.cell? ⟨g, 1, none⟩ = some (.int .i64 0) := cl0 y0 1 rfl;have f2 := froz0 y0 2;have c2 : wy.cell? ⟨g, 2, none⟩ = some (.int .i64 0) := cl0 y0 2 rfl;have f3 := froz0 y0 3;have c3 : wy.cell? ⟨g, 3, none⟩ = some (.int .u64 0) := cl0 y0 3 rfl;go_simp;refine Shut.out hK _ _ ((set4_below (.int .i64 m.dot.rep) (.int .i64 m.dot.ctr) (.int .i64 m.qty) (.int .u64 m.time) hb10 l10)) (fun hS2 => ?_); clear hK K hS; have hS := hS2; clear hS2
  refine tkR (n := 1) [16] rfl (by decide +kernel) hS ?_
  ((try simp only [Act.put, s1, s2, s3, s4, s5, s6]); refine ⟨_, ?_, rfl, Or.inl ⟨by kernel_rfl, fun w hSw => ok_of fun z hz => ?_⟩, ?_⟩; rotate_left; · (go_simp; exact hz))
  refine RunOK.done ?_
  try simp only [Act.put, s1, s2, s3, s4, s5, s6]
  refine wpAnyH_done (by kernel_rfl) ?_ _
  try simp only [Act.put, s1, s2, s3, s4, s5, s6]
  simp only [NQ];exact hQ _ _ _ _ _ _ _ _ _ _ _ _ _ _ _ _ (set4_below (.int .i64 m.dot.rep) (.int .i64 m.dot.ctr) (.int .i64 m.qty) (.int .u64 m.time) hb10 l10) l10 (set4_same (.int .i64 m.dot.rep) (.int .i64 m.dot.ctr) (.int .i64 m.qty) (.int .u64 m.time) y0)
 ·go_simp
  refine Shut.out hK _ _ ((Below.alloc HD0.out HD0.out.size _)) (fun hS2 => ?_); clear hK K hS; have hS := hS2; clear hS2
  try simp only [Act.put, s1, s2, s3, s4, s5, s6]
  refine rd1 10 (by decide +kernel) rfl (fun K hK => ?_)
  go_simp
  go_at_call 43
  refine (HM.out _ (Below.alloc HD0.out HD0.out.size _)).mono ?_;rintro e w8 ⟨rfl, hb8⟩;have hb9 := (Below.trans (Below.alloc HD0.out HD0.out.size _) (hb8.mono (Below.alloc HD0.out HD0.out.size _).size));go_simp;refine Shut.out hK _ _ (hb9) (fun hS2 => ?_); clear hK K hS; have hS := hS2; clear hS2
  refine tkR (n := 3) [11, 12, 13] rfl (by decide +kernel) hS ?_
  iterate 3 ((try simp only [Act.put, s1, s2, s3, s4, s5, s6]); refine ⟨_, ?_, rfl, Or.inl ⟨by kernel_rfl, fun w hSw => ok_of fun z hz => ?_⟩, ?_⟩; rotate_left; · (go_simp; exact hz))
  refine RunOK.done ?_
  try simp only [Act.put, s1, s2, s3, s4, s5, s6]
  refine rd1 15 (by decide +kernel) rfl (fun K hK => ?_)
  have y0 : w8.heap[WL.heap.size]? = some (.cells #[.int .i64 0, .int .i64 0, .int .i64 0, .int .u64 0] 54) := (hb8.block _ (by rw [alloc_size]; exact Nat.lt_succ_self _)).trans (alloc_new (World.drew WL) _)
  have hb10 := hb9;have l10 : WL.heap.size ≤ WL.heap.size := Nat.le_refl _;have f0 := froz0 y0 0;have c0 : w8.cell? ⟨WL.heap.size, 0, none⟩ = some (.int .i64 0) := cl0 y0 0 rfl;have f1 := froz0 y0 1;have c1 : w8.cell? ⟨WL.heap.size, 1, none⟩ = some (.int .i64 0) := cl0 y0 1 rfl;have f2 := froz0 y0 2;have c2 : w8.cell? ⟨WL.heap.size, 2, none⟩ = some (.int .i64 0) := cl0 y0 2 rfl;have f3 := froz0 y0 3;have c3 : w8.cell? ⟨WL.heap.size, 3, none⟩ = some (.int .u64 0) := cl0 y0 3 rfl;go_simp;refine Shut.out hK _ _ ((set4_below (.int .i64 m.dot.rep) (.int .i64 m.dot.ctr) (.int .i64 m.qty) (.int .u64 m.time) hb10 l10)) (fun hS2 => ?_); clear hK K hS; have hS := hS2; clear hS2
  refine tkR (n := 1) [16] rfl (by decide +kernel) hS ?_
  ((try simp only [Act.put, s1, s2, s3, s4, s5, s6]); refine ⟨_, ?_, rfl, Or.inl ⟨by kernel_rfl, fun w hSw => ok_of fun z hz => ?_⟩, ?_⟩; rotate_left; · (go_simp; exact hz))
  refine RunOK.done ?_
  try simp only [Act.put, s1, s2, s3, s4, s5, s6]
  refine wpAnyH_done (by kernel_rfl) ?_ _
  try simp only [Act.put, s1, s2, s3, s4, s5, s6]
  simp only [NQ];exact hQ _ _ _ _ _ _ _ _ _ _ _ _ _ _ _ _ (set4_below (.int .i64 m.dot.rep) (.int .i64 m.dot.ctr) (.int .i64 m.qty) (.int .u64 m.time) hb10 l10) l10 (set4_same (.int .i64 m.dot.rep) (.int .i64 m.dot.ctr) (.int .i64 m.qty) (.int .u64 m.time) y0)
theorem r11ji (a b : CartD) (D : List DotD) (o1 : Option Addr) (n1 k1 : Nat) (o2 : Option Addr) (n2 k2 : Nat) (o3 : Option Addr) (n3 k3 : Nat) (o4 : Option Addr) (n4 k4 : Nat) (o5 : Option Addr) (n5 k5 : Nat) (o6 : Option Addr) (n6 k6 : Nat) (ba bb bn nn cn i nd cd g : Nat) (od : Option Addr) (nm : ByteArray) (z0 z1 z4 z5 z10 z11 z12 z13 z14 z15 z16 z17 z18 z19 z20 z21 z22 z23 z24 z25 z26 z27 z28 z29 z30 z31 z32 z33 z34 z35 z36 z37 z38 z39 z40 z41 z42 z43 z44 z45 z46 z47 z48 z49 z50 z51 z52 z53 z54 z55 z56 z57 z58 z59 z60 z61 z62 z63 z64 z65 z66 z67 z68 z69 z70 z71 z72 z73 z74 z75 z76 z77 z78 z79 z80 z81 z82 z83 z84 z85 z86 : Value) (W7 WL : World) (hB7 : Below W7.heap.size W7 WL) (hg : g = W7.heap.size) (hbx : WL.heap[g]? = some (.cells #[.string nm, .slice none 0 0] 49)) (hca : CartA W7 (.slice o1 n1 k1) (.slice o2 n2 k2) (.slice o3 n3 k3) a) (hcb : CartA W7 (.slice o4 n4 k4) (.slice o5 n5 k5) (.slice o6 n6 k6) b) (hba : W7.heap[ba]? = some (.cells #[.slice o1 n1 k1, .slice o2 n2 k2, .slice o3 n3 k3] 28)) (hbb : W7.heap[bb]? = some (.cells #[.slice o4 n4 k4, .slice o5 n5 k5, .slice o6 n6 k6] 28)) (hen : W7.cell? ⟨bn, i, none⟩ = some (.string nm)) (hin : i < nn) (hd : Arr DotR 2 W7 (.slice od nd cd) D) (hl : D.length ≤ 10000000)
  (R : Act → World → Prop) (hQ : ∀ (u10 u11 u12 u50 u51 u52 u53 u54 u55 u56 u57 u58 u59 u60 u61 u62 u63 u64 u65 u66 u67 u68 u69 u70 u71 u72 u73 u74 u75 u76 : Value) (om : Option Addr) (cm : Nat) (w : World), Below W7.heap.size W7 w → w.heap[g]? = some (.cells #[.string nm, .slice om (D.filterMap (joinedM a b nm)).length cm] 49) → EMark.Row (g + 1) w (.slice om (D.filterMap (joinedM a b nm)).length cm) (D.filterMap (joinedM a b nm)) → R { tmps := #[z0, z1, .pointer (some ⟨ba, 0, none⟩), .pointer (some ⟨bb, 0, none⟩), z4, z5, .slice (some ⟨bn, 0, none⟩) nn cn, .slice od nd cd, .int .i64 (i : Int), .pointer (some ⟨g, 0, none⟩), u10, u11, u12, z13, z14, z15, z16, z17, z18, z19, z20, z21, z22, z23, z24, z25, z26, z27, z28, z29, z30, z31, z32, z33, z34, z35, z36, z37, z38, z39, z40, z41, z42, z43, z44, z45, z46, z47, z48, z49, u50, u51, u52, u53, u54, u55, u56, u57, u58, u59, u60, u61, u62, u63, u64, u65, u66, u67, u68, u69, u70, u71, u72, u73, u74, u75, u76, z77, z78, z79, z80, z81, z82, z83, z84, z85, z86], defers := [] } w) :
  (codeAt [1, 1, 1, 1, 0, 1, 0, 0, 1, 0, 0, 1, 1, 0] (Tryz.f15.body.getD .skip)).wp Tryz.prog (NQ R) { tmps := #[z0, z1, .pointer (some ⟨ba, 0, none⟩), .pointer (some ⟨bb, 0, none⟩), z4, z5, .slice (some ⟨bn, 0, none⟩) nn cn, .slice od nd cd, .int .i64 (i : Int), .pointer (some ⟨g, 0, none⟩), z10, z11, z12, z13, z14, z15, z16, z17, z18, z19, z20, z21, z22, z23, z24, z25, z26, z27, z28, z29, z30, z31, z32, z33, z34, z35, z36, z37, z38, z39, z40, z41, z42, z43, z44, z45, z46, z47, z48, z49, z50, z51, z52, z53, z54, z55, z56, z57, z58, z59, z60, z61, z62, z63, z64, z65, z66, z67, z68, z69, z70, z71, z72, z73, z74, z75, z76, z77, z78, z79, z80, z81, z82, z83, z84, z85, z86], defers := [] } WL := by
 obtain ⟨od', cd', e, hel⟩ := hd.dotAt;injection e with e1 e2 e3
 obtain rfl := e1;have HND := Hd e2;have hnl : bn < W7.heap.size := by
  obtain ⟨b', off', e, hlt⟩ := addr_plain hen
  cases e
  exact hlt
 have HEL := Hd hel;have HB7 := Hd hB7;have HCA := Hd hca;have HCB := Hd hcb;have HBA : Hid (∀ wz, Below W7.heap.size W7 wz → wz.heap[ba]? = some (.cells #[.slice o1 n1 k1, .slice o2 n2 k2, .slice o3 n3 k3] 28)) := Hd (fun wz hz => (hz.block _ (lt_of_heap hba)).trans hba)
 have HBB : Hid (∀ wz, Below W7.heap.size W7 wz → wz.heap[bb]? = some (.cells #[.slice o4 n4 k4, .slice o5 n5 k5, .slice o6 n6 k6] 28)) := Hd (fun wz hz => (hz.block _ (lt_of_heap hbb)).trans hbb)
 have HEN : Hid (∀ wz, Below W7.heap.size W7 wz → wz.cell? ⟨bn, i, none⟩ = some (.string nm)) := Hd (fun wz hz => by rw [hz.cell (p := ⟨_, _, _⟩) hnl]; exact hen)
 have hlw := lt_of_heap hbx;have HBX := Hd hbx;have hgl : W7.heap.size ≤ g := by omega
 have HL := Hd hl;clear hB7 hbx hca hcb hba hbb hen hnl hd hel hl e2 e3 hg hlw;simp only [codeAt, codeL, codeR, Tryz.f15, Option.getD_some]
 go_wp2_with fail
 go_loopw [10] (fun jv wr => ∃ j : Nat, j ≤ D.length ∧ jv = .int .i64 j ∧ (∃ om cm, wr.heap[g]? = some (.cells #[.string nm, .slice om ((D.take j).filterMap (joinedM a b nm)).length cm] 49) ∧ EMark.Row (g + 1) wr (.slice om ((D.take j).filterMap (joinedM a b nm)).length cm) ((D.take j).filterMap (joinedM a b nm))) ∧ Below W7.heap.size W7 wr) (fun jv _ => D.length - (intOf jv).toNat)
 case atStart => exact ⟨0, Nat.zero_le _, rfl, ⟨none, 0, HBX.out, Enc.Row.nil _ _⟩, HB7.out⟩
 case round =>
  obtain ⟨j, hj, rfl, ⟨om, cm, hxr, hrow⟩, hB⟩ := hrel;have HB := Hd hB;have HXR := Hd hxr;have HROW := Hd hrow;clear hB hxr hrow
  by_cases hlt : j < D.length
  ·obtain ⟨bd, off, rfl, hbl, e0, e1⟩ := HEL.out j hlt
   have g0 : wr.cell? ⟨bd, off + j * 2, none⟩ = some (.int .i64 D[j].rep) := by rw [HB.out.cell (p := ⟨_, _, _⟩) hbl]; exact e0
   have g1 : wr.cell? ⟨bd, off + j * 2 + 1, none⟩ = some (.int .i64 D[j].ctr) := by rw [HB.out.cell (p := ⟨_, _, _⟩) hbl]; exact e1
   have HS1 : Hid ((D.take (j + 1)).filterMap (joinedM a b nm) = (D.take j).filterMap (joinedM a b nm) ++ (joinedM a b nm D[j]).toList) := Hd (by
    rw [List.take_succ_eq_append_getElem hlt, List.filterMap_append]
    cases h : joinedM a b nm D[j] <;> simp [h])
   have hml : ((D.take j).filterMap (joinedM a b nm)).length ≤ j := Nat.le_trans (List.length_filterMap_le _ _) (by rw [List.length_take]; omega)
   have hml2 : ((D.take j).filterMap (joinedM a b nm)).length ≤ 10000000 := by have := HL.out; omega
   generalize D[j] = x at *
   have HG0 := Hd g0;have HG1 := Hd g1;have a0 : (0 : Int) ≤ j := by omega
   have a1 : (j : Int) < (nd : Int) := by have := HND.out; omega
   have hjn : j < nd := by have := HND.out; omega
   have hkw : IntKind.i64.wrap ((j : Int) + 1) = (j : Int) + 1 := by rw [IntKind.wrap_i64]; have := HL.out; omega
   clear e0 e1 g0 g1
   rcases hmx : joinedM a b nm x with _ | m
   ·have HMX := Hd hmx
    have HS2 : Hid ((D.take (j + 1)).filterMap (joinedM a b nm) = (D.take j).filterMap (joinedM a b nm)) := Hd (by rw [HS1.out, hmx]; simp)
    clear hmx
    go_upto_region 12 with fail
    refine NQ.to (r11jm a b o1 n1 k1 o2 n2 k2 o3 n3 k3 o4 n4 k4 o5 n5 k5 o6 n6 k6 ba bb bn nn cn i bd off nd cd j nm x zeroM false _ _ _ _ _ _ _ _ _ _ _ _ _ _ _ _ _ _ _ _ _ _ _ _ _ _ _ _ _ _ _ _ _ _ _ _ _ _ _ _ _ _ _ _ _ _ _ _ _ _ _ _ _ _ _ _ _ _ _ _ _ _ _ _ _ _ _ _ _ _ _ _ _ _ _ _ _ _ _ _ _ wr (HCA.out.below HB.out) (HCB.out.below HB.out) (HBA.out _ HB.out) (HBB.out _ HB.out) (HEN.out _ HB.out) hin HG0.out HG1.out hjn (by rw [HMX.out]; rfl) _ ?_)
    intro v57 v58 v59 v60 v61 v62 v63 v64 v65 v66 v67 v56 v68 v69 g2 w8 hb8 hg8 hz8;have hx8 := (hb8.block _ (lt_of_heap HXR.out)).trans HXR.out;have HX8 := Hd hx8;have HR8 := Hd (HROW.out.below hb8);have HB8 := Hd (btr HB.out hb8);clear hb8 hg8 hz8 hx8
    go_wp2_with fail
    go_roundw
    case rel => exact ⟨j + 1, by omega, by go_num, ⟨om, cm, by rw [HS2.out]; exact HX8.out, by rw [HS2.out]; exact HR8.out⟩, HB8.out⟩
    case measure => simp [intOf]; omega
   ·have HMX := Hd hmx
    have HS2 : Hid ((D.take (j + 1)).filterMap (joinedM a b nm) = (D.take j).filterMap (joinedM a b nm) ++ [m]) := Hd (by rw [HS1.out, hmx]; simp)
    clear hmx
    go_upto_region 12 with fail
    refine NQ.to (r11jm a b o1 n1 k1 o2 n2 k2 o3 n3 k3 o4 n4 k4 o5 n5 k5 o6 n6 k6 ba bb bn nn cn i bd off nd cd j nm x m true _ _ _ _ _ _ _ _ _ _ _ _ _ _ _ _ _ _ _ _ _ _ _ _ _ _ _ _ _ _ _ _ _ _ _ _ _ _ _ _ _ _ _ _ _ _ _ _ _ _ _ _ _ _ _ _ _ _ _ _ _ _ _ _ _ _ _ _ _ _ _ _ _ _ _ _ _ _ _ _ _ wr (HCA.out.below HB.out) (HCB.out.below HB.out) (HBA.out _ HB.out) (HBB.out _ HB.out) (HEN.out _ HB.out) hin HG0.out HG1.out hjn (by rw [HMX.out]; rfl) _ ?_)
    intro v57 v58 v59 v60 v61 v62 v63 v64 v65 v66 v67 v56 v68 v69 g2 w8 hb8 hg8 hz8;have hx8 := (hb8.block _ (lt_of_heap HXR.out)).trans HXR.out;have d1 : w8.cell? ⟨g, 1, none⟩ = some (.slice om ((D.take j).filterMap (joinedM a b nm)).length cm) := cl0 hx8 1 rfl;have q0 : w8.cell? ⟨g2, 0, none⟩ = some (.int .i64 m.dot.rep) := cl0 hz8 0 rfl;have q1 : w8.cell? ⟨g2, 1, none⟩ = some (.int .i64 m.dot.ctr) := cl0 hz8 1 rfl;have q2 : w8.cell? ⟨g2, 2, none⟩ = some (.int .i64 m.qty) := cl0 hz8 2 rfl;have q3 : w8.cell? ⟨g2, 3, none⟩ = some (.int .u64 m.time) := cl0 hz8 3 rfl;obtain ⟨Wz, hWz⟩ : ∃ wq, wq = w8.alloc (.cells #[.int .i64 m.dot.rep, .int .i64 m.dot.ctr, .int .i64 m.qty, .int .u64 m.time] 54) := ⟨_, rfl⟩;have hbz : Below w8.heap.size w8 Wz := by rw [hWz]; exact bal
    have hB8z := HB.out.trans ((btr hb8 hbz).mono HB.out.size);have HRz := Hd (HROW.out.below (btr hb8 hbz));have HSz : Hid (Enc.Src EMark Wz (.slice (some ⟨w8.heap.size, 0, none⟩) 1 1) [m]) := Hd (by rw [hWz]; exact Enc.Src.one_lit (E := EMark) w8 54 m)
    have hxz : Wz.heap[g]? = _ := (hbz.block _ (lt_of_heap hx8)).trans hx8;have hgz : g + 1 ≤ Wz.heap.size := lt_of_heap hxz;have HXz := Hd hxz;have HBz := Hd hB8z;have HWz := Hd hWz;have HNE : Hid (∀ k, (Value.slice om ((D.take j).filterMap (joinedM a b nm)).length cm).ownBlock = some k → k ≠ g) := Hd (fun k hk e => by have := (HROW.out.lt _ hk).1; omega)
    clear hb8 hz8 hx8 hbz hWz hxz hB8z;generalize hML : (D.take j).filterMap (joinedM a b nm) = ML at *
    go_wp2_with (at_builtin; go_loud (rw [← HWz.out]); go_loud (refine wpList_append_row rfl _ _ 47 rfl EMark (g + 1) (.agg #[.int .i64 0, .int .i64 0, .int .i64 0, .int .u64 0]) 32 Tryz.underlying47 infoMark (by decide) (by decide) _ _ rfl HRz.out _ _ rfl HSz.out (by first | omega | (simp; omega)) hgz ?_); intro v9 w9 hown hgr; obtain ⟨a9, c9, rfl⟩ := hown.slice; have j1 : w9.heap[g]? = _ := ((hgr.block _ (lt_of_heap HXz.out) (fun e => HNE.out _ e.symm rfl)).trans HXz.out); have i1 : w9.cell? ⟨g, 1, none⟩ = some (.slice om ML.length cm) := (cl0 j1 1 rfl); have i2 : w9.frozen? ⟨g, 1, none⟩ = false := froz0 j1 1; have J9 := Hd j1; clear j1)
    have HX9 : Hid ((w9.setCell ⟨g, 1, none⟩ (.slice a9 (ML ++ [m]).length c9)).heap[g]? = some (.cells #[.string nm, .slice a9 (ML ++ [m]).length c9] 49)) := Hd (by rw [setCell_same J9.out 1 _]; rfl)
    have HR9 : Hid (EMark.Row (g + 1) (w9.setCell ⟨g, 1, none⟩ (.slice a9 (ML ++ [m]).length c9)) (.slice a9 (ML ++ [m]).length c9) (ML ++ [m])) := Hd (hown.stay (fun k hk => setCell_other (fun e => by have := (hown.lt _ hk).1; omega)))
    have HB9 := Hd ((HBz.out.grown hgr HBz.out.size (fun k hk => by have := (HRz.out.lt _ hk).1; omega)).setCell (p := ⟨g, 1, none⟩) hgl (.slice a9 (ML ++ [m]).length c9))
    clear hown hgr;have hlm : (ML ++ [m]).length = ML.length + 1 := by simp
    rw [hlm] at HX9 HR9 HB9;have HLM := Hd hlm;clear hlm
    go_roundw
    case rel => exact ⟨j + 1, by omega, by go_num, ⟨a9, c9, by rw [HS2.out, HLM.out]; exact HX9.out, by rw [HS2.out, HLM.out]; exact HR9.out⟩, HB9.out⟩
    case measure => simp [intOf]; omega
  ·have hje : j = D.length := by omega
   have a1 : ¬ ((j : Int) < (nd : Int)) := by have := HND.out; omega
   have hxr := HXR.out;have hrow := HROW.out;rw [hje, List.take_length] at hxr hrow;have HXR2 := Hd hxr;have HROW2 := Hd hrow;clear hxr hrow HXR HROW
   go_wp2_with fail
   simp only [NQ];exact hQ _ _ _ _ _ _ _ _ _ _ _ _ _ _ _ _ _ _ _ _ _ _ _ _ _ _ _ _ _ _ om cm _ HB.out HXR2.out HROW2.out
end Go.Proofs.YtemfaojmelljpaaGreatDoor
namespace Go.Proofs.YtemfaojmelljpaaGreatDoor
open Go.RowKit Go.Maps

def JIn (bo : Nat) (w : World) (U : List DotD × List DotD) (L : List ItemD) : Prop :=
 ∃ o1 k1 o2 k2 o3 k3, w.heap[bo]? = some (.cells #[.slice o1 U.1.length k1, .slice o2 U.2.length k2, .slice o3 L.length k3] 28) ∧ Arr DotR 2 w (.slice o1 U.1.length k1) U.1 ∧ Arr DotR 2 w (.slice o2 U.2.length k2) U.2 ∧ Arr ItemR 2 w (.slice o3 L.length k3) L
theorem JIn.below {bo : Nat} {w w' : World} {U : List DotD × List DotD} {L : List ItemD} (h : JIn bo w U L) (hb : Below w.heap.size w w') : JIn bo w' U L := by
 obtain ⟨o1, k1, o2, k2, o3, k3, h0, h1, h2, h3⟩ := h;exact ⟨o1, k1, o2, k2, o3, k3, (hb.block _ (lt_of_heap h0)).trans h0, h1.dots hb, h2.dots hb, h3.items hb⟩
theorem JIn.set {bo : Nat} {w w' : World} {U : List DotD × List DotD} {L L' : List ItemD} {o : Option Addr} {c : Nat} (h : JIn bo w U L) (hb : Below w.heap.size w w') (hi : Arr ItemR 2 w' (.slice o L'.length c) L') : JIn bo (w'.setCell ⟨bo, 2, none⟩ (.slice o L'.length c)) U L' := by
 obtain ⟨o1, k1, o2, k2, o3, k3, h0, h1, h2, -⟩ := h;have h0' := (hb.block _ (lt_of_heap h0)).trans h0;exact ⟨o1, k1, o2, k2, o, c, setCell_same h0' 2 _, dots_setB _ (h1.dots hb) h0' (slB3 _ _ _ _ _ _ _ _ _), dots_setB _ (h2.dots hb) h0' (slB3 _ _ _ _ _ _ _ _ _), items_setB _ hi h0' (slB3 _ _ _ _ _ _ _ _ _)⟩
def set3c (w : World) (b : Nat) (x y z : Value) : World := ((w.setCell ⟨b, 0, none⟩ x).setCell ⟨b, 1, none⟩ y).setCell ⟨b, 2, none⟩ z
theorem set3c_same {w : World} {b : Nat} {y0 y1 y2 : Value} {T : TypeId} (x y z : Value) (h : w.heap[b]? = some (.cells #[y0, y1, y2] T)) : (set3c w b x y z).heap[b]? = some (.cells #[x, y, z] T) := by
 unfold set3c;rw [setCell_same (setCell_same (setCell_same h 0 x) 1 y) 2 z]
 rfl
theorem set3c_cell {w : World} {a b i : Nat} {x y z : Value} (h : a ≠ b) : (set3c w b x y z).cell? ⟨a, i, none⟩ = w.cell? ⟨a, i, none⟩ := by
 unfold World.cell? set3c;rw [setCell_other h, setCell_other h, setCell_other h]
theorem set3c_below {w0 w : World} {n b : Nat} (x y z : Value) (h : Below n w0 w) (hb : n ≤ b) : Below n w0 (set3c w b x y z) :=
 ((h.setCell (p := ⟨b, 0, none⟩) hb _).setCell (p := ⟨b, 1, none⟩) hb _).setCell (p := ⟨b, 2, none⟩) hb _
theorem set3c_dots {w : World} {v : Value} {l : List DotD} {b : Nat} {a1 a2 a3 b1 b2 b3 : Option Addr} {m1 k1 m2 k2 m3 k3 p1 q1 p2 q2 p3 q3 : Nat} {T : TypeId} (h : Arr DotR 2 w v l) (hb : w.heap[b]? = some (.cells #[.slice a1 m1 k1, .slice a2 m2 k2, .slice a3 m3 k3] T)) : Arr DotR 2 (set3c w b (.slice b1 p1 q1) (.slice b2 p2 q2) (.slice b3 p3 q3)) v l := by
 have g1 : (w.setCell ⟨b, 0, none⟩ (.slice b1 p1 q1)).heap[b]? = some (.cells #[.slice b1 p1 q1, .slice a2 m2 k2, .slice a3 m3 k3] T) := setCell_same hb 0 _;have g2 : ((w.setCell ⟨b, 0, none⟩ (.slice b1 p1 q1)).setCell ⟨b, 1, none⟩ (.slice b2 p2 q2)).heap[b]? = some (.cells #[.slice b1 p1 q1, .slice b2 p2 q2, .slice a3 m3 k3] T) := setCell_same g1 1 _;exact dots_setB _ (dots_setB _ (dots_setB _ h hb (slB3 _ _ _ _ _ _ _ _ _)) g1 (slB3 _ _ _ _ _ _ _ _ _)) g2 (slB3 _ _ _ _ _ _ _ _ _)
theorem set3c_items {w : World} {v : Value} {l : List ItemD} {b : Nat} {a1 a2 a3 b1 b2 b3 : Option Addr} {m1 k1 m2 k2 m3 k3 p1 q1 p2 q2 p3 q3 : Nat} {T : TypeId} (h : Arr ItemR 2 w v l) (hb : w.heap[b]? = some (.cells #[.slice a1 m1 k1, .slice a2 m2 k2, .slice a3 m3 k3] T)) : Arr ItemR 2 (set3c w b (.slice b1 p1 q1) (.slice b2 p2 q2) (.slice b3 p3 q3)) v l := by
 have g1 : (w.setCell ⟨b, 0, none⟩ (.slice b1 p1 q1)).heap[b]? = some (.cells #[.slice b1 p1 q1, .slice a2 m2 k2, .slice a3 m3 k3] T) := setCell_same hb 0 _;have g2 : ((w.setCell ⟨b, 0, none⟩ (.slice b1 p1 q1)).setCell ⟨b, 1, none⟩ (.slice b2 p2 q2)).heap[b]? = some (.cells #[.slice b1 p1 q1, .slice b2 p2 q2, .slice a3 m3 k3] T) := setCell_same g1 1 _;exact items_setB _ (items_setB _ (items_setB _ h hb (slB3 _ _ _ _ _ _ _ _ _)) g1 (slB3 _ _ _ _ _ _ _ _ _)) g2 (slB3 _ _ _ _ _ _ _ _ _)
theorem r11Join_any (a b : CartD) (x1 x2 x3 y1 y2 y3 : Value) (w : World) (h : CartA w x1 x2 x3 a) (g : CartA w y1 y2 y3 b) (hva : validC a = true) (hvb : validC b = true) (hsa : SzC a) (hsb : SzC b) :
  Calls Tryz.prog 15 #[.agg #[x1, x2, x3], .agg #[y1, y2, y3]] w fun e w' => ∃ z1 z2 z3, e = .returned (.agg #[z1, z2, z3]) ∧ CartA w' z1 z2 z3 (refJoin a b) ∧ Below w.heap.size w w' := by
 obtain ⟨o1, n1, k1, o2, n2, k2, o3, n3, k3, rfl, rfl, rfl, hn1, hn2, hn3⟩ := opn h;obtain ⟨o4, n4, k4, o5, n5, k5, o6, n6, k6, rfl, rfl, rfl, hn4, hn5, hn6⟩ := opn g;obtain ⟨W2, HW, HB, HS, HK0, HK1, HK2⟩ := box3 w #[.slice o1 n1 k1, .slice o2 n2 k2, .slice o3 n3 k3] 28 #[.slice o4 n4 k4, .slice o5 n5 k5, .slice o6 n6 k6] 28 #[.slice none 0 0, .slice none 0 0, .slice none 0 0] 28;have HC := Hd (fun wz (hz : Below W2.heap.size W2 wz) => And.intro (cel3 (HK0.out wz hz)) (And.intro (cel3 (HK1.out wz hz)) (cel3 (HK2.out wz hz))))
 have hbb2 := HB.out;obtain ⟨hla, hna⟩ := hsa;obtain ⟨hlb, hnb⟩ := hsb;have HA := Hd (h.below hbb2);have HG := Hd (g.below hbb2);have HUN : Hid (∀ wz, Below W2.heap.size W2 wz → Calls Tryz.prog 39 #[.agg #[.slice o1 n1 k1, .slice o2 n2 k2], .agg #[.slice o4 n4 k4, .slice o5 n5 k5]] wz fun e w' => ∃ q1 q2, e = .returned (.agg #[q1, q2]) ∧ Arr DotR 2 w' q1 (unionX (ctxC a) (ctxC b)).1 ∧ Arr DotR 2 w' q2 (unionX (ctxC a) (ctxC b)).2 ∧ Below wz.heap.size wz w') := Hd (fun wz hz => r3Union_any a.vec a.cloud b.vec b.cloud _ _ _ _ wz (HA.out.below hz).1 (HA.out.below hz).2.1 (HG.out.below hz).1 (HG.out.below hz).2.1 (compactB_parts (validC_parts hva).1).1 (compactB_parts (validC_parts hvb).1).1 (by omega) (by omega) (by omega) (by omega))
 have HNA0 : Hid (∀ wz, Below W2.heap.size W2 wz → Calls Tryz.prog 40 #[.agg #[.slice o1 n1 k1, .slice o2 n2 k2, .slice o3 n3 k3]] wz fun e w' => ∃ v', e = .returned v' ∧ EStr.Row wz.heap.size w' v' (namesC a) ∧ Below wz.heap.size wz w') := Hd (fun wz hz => r10Names_any a _ _ _ wz (HA.out.below hz) (by have := hla.1; omega))
 have HNB0 : Hid (∀ wz, Below W2.heap.size W2 wz → Calls Tryz.prog 40 #[.agg #[.slice o4 n4 k4, .slice o5 n5 k5, .slice o6 n6 k6]] wz fun e w' => ∃ v', e = .returned v' ∧ EStr.Row wz.heap.size w' v' (namesC b) ∧ Below wz.heap.size wz w') := Hd (fun wz hz => r10Names_any b _ _ _ wz (HG.out.below hz) (by have := hlb.1; omega))
 have HDA0 : Hid (∀ wz, Below W2.heap.size W2 wz → Calls Tryz.prog 30 #[.slice o3 n3 k3] wz fun e w' => ∃ v', e = .returned v' ∧ Arr DotR 2 w' v' (setD (allDots a.items)) ∧ Below wz.heap.size wz w') := Hd (fun wz hz => r9Dots_any a.items _ wz (HA.out.below hz).2.2 hla)
 have HDB0 : Hid (∀ wz, Below W2.heap.size W2 wz → Calls Tryz.prog 30 #[.slice o6 n6 k6] wz fun e w' => ∃ v', e = .returned v' ∧ Arr DotR 2 w' v' (setD (allDots b.items)) ∧ Below wz.heap.size wz w') := Hd (fun wz hz => r9Dots_any b.items _ wz (HG.out.below hz).2.2 hlb)
 have hsl1 : (setD (allDots a.items)).length ≤ 1000000 := Nat.le_trans (setD_leL _) hla.dots;have hsl2 : (setD (allDots b.items)).length ≤ 1000000 := Nat.le_trans (setD_leL _) hlb.dots;have HUD0 : Hid (∀ wz z1 z2, Arr DotR 2 wz z1 (setD (allDots a.items)) → Arr DotR 2 wz z2 (setD (allDots b.items)) → Calls Tryz.prog 41 #[z1, z2] wz fun e w' => ∃ v', e = .returned v' ∧ Arr DotR 2 w' v' (dotsU a b) ∧ Below wz.heap.size wz w') := Hd (fun wz z1 z2 g1 g2 => r1Union_any _ _ _ _ wz g1 g2 hsl1 hsl2)
 have HDL : Hid ((dotsU a b).length ≤ 10000000) := Hd (by
  unfold dotsU;rw [unionD_eq];have := setD_leL (setD (allDots a.items) ++ setD (allDots b.items));rw [List.length_append] at this;omega)
 have HMI : Hid (∀ nm, ∀ m ∈ (itemR a b nm).marks, MI m) := Hd (fun nm => itemR_MI hva hvb h.2.2 g.2.2 nm)
 have HNS : Hid (∀ nm ∈ namesC a ++ namesC b, nm.size ≤ maxLen) := Hd (fun nm hn => by
  have key : ∀ {c : CartD}, validC c = true → nm ∈ namesC c → nm.size ≤ maxLen := fun {c} hc h => by
   obtain ⟨x, hx, rfl⟩ := List.mem_map.1 h;have := oneI_name ((validI_parts (validC_parts hc).2.1).1 x hx);unfold maxLen;omega
  rcases List.mem_append.1 hn with h | h
  ·exact key hva h
  ·exact key hvb h)
 have HLN : Hid ((namesC a).length + (namesC b).length ≤ 2000) := Hd (by
  unfold namesC;rw [List.length_map, List.length_map];have := hla.1;have := hlb.1;omega)
 have HRJ : Hid (refJoin a b = ⟨(unionX (ctxC a) (ctxC b)).1, (unionX (ctxC a) (ctxC b)).2, (namesC a ++ namesC b).foldl (stepR a b) []⟩) := Hd rfl;have HBW := Hd HB.out;clear HB hbb2 h g hn1 hn2 hn3 hn4 hn5 hn6 hla hlb hna hnb hsl1 hsl2 hva hvb;obtain ⟨⟨c0, c1, c2⟩, ⟨c3, c4, c5⟩, c6, c7, c8⟩ := HC.out W2 brf
 go_enter Tryz.func15, Tryz.ntmps15
 go_wp2_with fail
 rw [← HW.out]
 go_wp2_with fail
 refine (HUN.out W2 brf).mono ?_;rintro e w3 ⟨q1, q2, rfl, h1, h2, hb3⟩;obtain ⟨p1, r1, rfl⟩ := h1.slice;obtain ⟨p2, r2, rfl⟩ := h2.slice;obtain ⟨U, hU⟩ : ∃ U, U = unionX (ctxC a) (ctxC b) := ⟨_, rfl⟩;rw [← hU] at h1 h2 HRJ ⊢;obtain ⟨W4, hW4⟩ : ∃ x, x = w3.alloc (.cells #[.slice p1 U.1.length r1, .slice p2 U.2.length r2, .slice none 0 0] 28) := ⟨_, rfl⟩;have hal : Below w3.heap.size w3 W4 := by rw [hW4]; exact bal
 have hxa : W4.heap[w3.heap.size]? = some (.cells #[.slice p1 U.1.length r1, .slice p2 U.2.length r2, .slice none 0 0] 28) := by rw [hW4]; exact alloc_new _ _
 have hJ4 : JIn w3.heap.size W4 U [] := ⟨p1, r1, p2, r2, none, 0, hxa, h1.dots hal, h2.dots hal, arr_nil⟩;have hb24 : Below W2.heap.size W2 W4 := btr hb3 hal;have hs4 : W4.heap.size = w3.heap.size + 1 := by rw [hW4, alloc_size]
 have hbo3 : W2.heap.size ≤ w3.heap.size := hb3.size;have HJ4 := Hd hJ4;have HB24 := Hd hb24;have HW4 := Hd hW4;have HC4 : Hid (∀ wz, Below W4.heap.size W4 wz → (wz.cell? ⟨w.heap.size, 0, none⟩ = some (.slice o1 n1 k1) ∧ wz.cell? ⟨w.heap.size, 1, none⟩ = some (.slice o2 n2 k2) ∧ wz.cell? ⟨w.heap.size, 2, none⟩ = some (.slice o3 n3 k3)) ∧ wz.cell? ⟨w.heap.size + 1, 0, none⟩ = some (.slice o4 n4 k4) ∧ wz.cell? ⟨w.heap.size + 1, 1, none⟩ = some (.slice o5 n5 k5) ∧ wz.cell? ⟨w.heap.size + 1, 2, none⟩ = some (.slice o6 n6 k6)) := Hd (fun wz hz => by
  have := HC.out wz (btr HB24.out hz);exact ⟨this.1, this.2.1⟩)
 have HNA : Hid (∀ wz, Below W4.heap.size W4 wz → Calls Tryz.prog 40 #[.agg #[.slice o1 n1 k1, .slice o2 n2 k2, .slice o3 n3 k3]] wz fun e w' => ∃ v', e = .returned v' ∧ EStr.Row W4.heap.size w' v' (namesC a) ∧ Below wz.heap.size wz w') := Hd (fun wz hz => (HNA0.out wz (btr HB24.out hz)).mono fun e w' ⟨v', a1, a2, a3⟩ => ⟨v', a1, a2.mono hz.size, a3⟩)
 have HNB : Hid (∀ wz, Below W4.heap.size W4 wz → Calls Tryz.prog 40 #[.agg #[.slice o4 n4 k4, .slice o5 n5 k5, .slice o6 n6 k6]] wz fun e w' => ∃ v', e = .returned v' ∧ EStr.Row W4.heap.size w' v' (namesC b) ∧ Below wz.heap.size wz w') := Hd (fun wz hz => (HNB0.out wz (btr HB24.out hz)).mono fun e w' ⟨v', a1, a2, a3⟩ => ⟨v', a1, a2.mono hz.size, a3⟩)
 clear h1 h2 hb3 hU hW4 hal hxa hJ4 hb24 HUN HNA0 HNB0 c0 c1 c2 c3 c4 c5 c6 c7 c8
 go_upto_region 2 with fail
 rw [← HW4.out];refine NQ.to ?_;refine wp_region_held_drew (S := (fun wz => Below W4.heap.size W4 wz)) (by kernel_rfl) (bdr) (fun hS => ?_)
 refine tkR (n := 2) [0, 2] rfl (by decide +kernel) hS ?_
 iterate 2 ((try simp only [Act.put, s1, s2, s3, s4, s5, s6]); refine ⟨_, ?_, rfl, Or.inl ⟨by kernel_rfl, fun w hSw => ok_of fun z hz => ?_⟩, ?_⟩; rotate_left; · (have HBX := HC4.out _ hSw; obtain ⟨⟨f0, f1, f2⟩, f3, f4, f5⟩ := HBX; go_simp; exact hz))
 refine RunOK.done ?_
 try simp only [Act.put, s1, s2, s3, s4, s5, s6]
 refine rd1 1 (by decide +kernel) rfl (fun K hK => ?_)
 go_simp
 go_at_call 40
 refine (HNA.out _ bdr).mono ?_;rintro e w5 ⟨v5, rfl, hr5, hb5⟩;have hb45 := (below_drew1 (Below.refl W4.heap.size W4)).trans (hb5.mono (Nat.le_refl _));go_simp;refine Shut.out hK _ _ (hb45) (fun hS2 => ?_); clear hK K hS; have hS := hS2; clear hS2
 try simp only [Act.put, s1, s2, s3, s4, s5, s6]
 refine rd1 3 (by decide +kernel) rfl (fun K hK => ?_)
 go_simp
 go_at_call 40
 refine (HNB.out _ hb45).mono ?_;rintro e w6 ⟨v6, rfl, hr6, hb6⟩;have hb46 := btr hb45 hb6;have hr5b := hr5.below hb6;go_simp;refine Shut.out hK _ _ (hb46) (fun hS2 => ?_); clear hK K hS; have hS := hS2; clear hS2
 try simp only [Act.put, s1, s2, s3, s4, s5, s6]
 refine rd1 4 (by decide +kernel) rfl (fun K hK => ?_)
 refine step_append_row rfl _ _ 62 rfl EStr W4.heap.size (.string ⟨#[]⟩) 16 Tryz.underlying62 infoStr (by decide) (by decide) _ (namesC a) rfl (hr5b.mono (Nat.le_refl _)) _ (namesC b) rfl hr6.toSrc (by have := HLN.out; omega) hb46.size ?_
 intro v7 w7 hrow7 hgr7;have hb47 := hb46.grown hgr7 hb46.size (fun j hj => (hr5b.lt _ hj).1)
 refine Shut.out hK _ _ (hb47) (fun hS2 => ?_); clear hK K hS; have hS := hS2; clear hS2
 refine tkR (n := 1) [5] rfl (by decide +kernel) hS ?_
 ((try simp only [Act.put, s1, s2, s3, s4, s5, s6]); refine ⟨_, ?_, rfl, Or.inl ⟨by kernel_rfl, fun w hSw => ok_of fun z hz => ?_⟩, ?_⟩; rotate_left; · (go_simp; exact hz))
 refine RunOK.done ?_
 try simp only [Act.put, s1, s2, s3, s4, s5, s6]
 refine wpAnyH_done (by kernel_rfl) ?_ _
 try simp only [Act.put, s1, s2, s3, s4, s5, s6]
 simp only [NQ];have HB47 := Hd hb47;have HR7 := Hd hrow7;have HB27 := Hd (btr HB24.out hb47);clear hr5 hr5b hr6 hb5 hb6 hb45 hb46 hb47 hrow7 hgr7 hS HNA HNB;have HC7 : Hid (∀ wz, Below w7.heap.size w7 wz → (wz.cell? ⟨w.heap.size, 0, none⟩ = some (.slice o1 n1 k1) ∧ wz.cell? ⟨w.heap.size, 1, none⟩ = some (.slice o2 n2 k2) ∧ wz.cell? ⟨w.heap.size, 2, none⟩ = some (.slice o3 n3 k3)) ∧ wz.cell? ⟨w.heap.size + 1, 0, none⟩ = some (.slice o4 n4 k4) ∧ wz.cell? ⟨w.heap.size + 1, 1, none⟩ = some (.slice o5 n5 k5) ∧ wz.cell? ⟨w.heap.size + 1, 2, none⟩ = some (.slice o6 n6 k6)) := Hd (fun wz hz => HC4.out wz (btr HB47.out hz))
 have HDA : Hid (∀ wz, Below w7.heap.size w7 wz → Calls Tryz.prog 30 #[.slice o3 n3 k3] wz fun e w' => ∃ v', e = .returned v' ∧ Arr DotR 2 w' v' (setD (allDots a.items)) ∧ Below wz.heap.size wz w') := Hd (fun wz hz => HDA0.out wz (btr HB27.out hz))
 have HDB : Hid (∀ wz, Below w7.heap.size w7 wz → Calls Tryz.prog 30 #[.slice o6 n6 k6] wz fun e w' => ∃ v', e = .returned v' ∧ Arr DotR 2 w' v' (setD (allDots b.items)) ∧ Below wz.heap.size wz w') := Hd (fun wz hz => HDB0.out wz (btr HB27.out hz))
 have HUD : Hid (∀ wz z1 z2, Below w7.heap.size w7 wz → Arr DotR 2 wz z1 (setD (allDots a.items)) → Arr DotR 2 wz z2 (setD (allDots b.items)) → Calls Tryz.prog 41 #[z1, z2] wz fun e w' => ∃ v', e = .returned v' ∧ Arr DotR 2 w' v' (dotsU a b) ∧ Below wz.heap.size wz w') := Hd (fun wz z1 z2 _ g1 g2 => HUD0.out wz z1 z2 g1 g2)
 clear HDA0 HDB0 HUD0
 go_upto_region 3 with fail
 refine NQ.to ?_;refine wp_region_held_drew (S := (fun wz => Below w7.heap.size w7 wz)) (by kernel_rfl) (bdr) (fun hS => ?_)
 refine tkR (n := 4) [0, 1, 3, 4] rfl (by decide +kernel) hS ?_
 iterate 4 ((try simp only [Act.put, s1, s2, s3, s4, s5, s6]); refine ⟨_, ?_, rfl, Or.inl ⟨by kernel_rfl, fun w hSw => ok_of fun z hz => ?_⟩, ?_⟩; rotate_left; · (have HBX := HC7.out _ hSw; obtain ⟨⟨f0, f1, f2⟩, f3, f4, f5⟩ := HBX; go_simp; exact hz))
 refine RunOK.done ?_
 try simp only [Act.put, s1, s2, s3, s4, s5, s6]
 refine rd1 2 (by decide +kernel) rfl (fun K hK => ?_)
 go_simp
 go_at_call 30
 refine (HDA.out _ bdr).mono ?_;rintro e w8 ⟨v8, rfl, h8, hb8⟩;have hb78 := (below_drew1 (Below.refl w7.heap.size w7)).trans (hb8.mono (Nat.le_refl _));go_simp;refine Shut.out hK _ _ (hb78) (fun hS2 => ?_); clear hK K hS; have hS := hS2; clear hS2
 try simp only [Act.put, s1, s2, s3, s4, s5, s6]
 refine rd1 5 (by decide +kernel) rfl (fun K hK => ?_)
 go_simp
 go_at_call 30
 refine (HDB.out _ hb78).mono ?_;rintro e w9 ⟨v9, rfl, h9, hb9⟩;have hb79 := btr hb78 hb9;have h89 := h8.dots hb9;go_simp;refine Shut.out hK _ _ (hb79) (fun hS2 => ?_); clear hK K hS; have hS := hS2; clear hS2
 try simp only [Act.put, s1, s2, s3, s4, s5, s6]
 refine rd1 6 (by decide +kernel) rfl (fun K hK => ?_)
 go_simp
 go_at_call 41
 refine (HUD.out _ _ _ hb79 h89 h9).mono ?_;rintro e w10 ⟨v10, rfl, h10, hb10⟩;have hb7t := btr hb79 hb10;go_simp;refine Shut.out hK _ _ (hb7t) (fun hS2 => ?_); clear hK K hS; have hS := hS2; clear hS2
 refine tkR (n := 1) [7] rfl (by decide +kernel) hS ?_
 ((try simp only [Act.put, s1, s2, s3, s4, s5, s6]); refine ⟨_, ?_, rfl, Or.inl ⟨by kernel_rfl, fun w hSw => ok_of fun z hz => ?_⟩, ?_⟩; rotate_left; · (go_simp; exact hz))
 refine RunOK.done ?_
 try simp only [Act.put, s1, s2, s3, s4, s5, s6]
 refine wpAnyH_done (by kernel_rfl) ?_ _
 try simp only [Act.put, s1, s2, s3, s4, s5, s6]
 simp only [NQ];have HJ10 := Hd ((HJ4.out.below HB47.out).below hb7t);have HR10 := Hd ((HR7.out.below hb7t).mono (show w3.heap.size + 1 ≤ W4.heap.size by omega))
 have HB10 := Hd (btr HB27.out hb7t);obtain ⟨NL, hNL⟩ : ∃ NL, NL = namesC a ++ namesC b := ⟨_, rfl⟩;obtain ⟨D, hD⟩ : ∃ D, D = dotsU a b := ⟨_, rfl⟩;rw [← hNL] at HR10 HNS HRJ;have HIR : Hid (∀ nm, itemR a b nm = ⟨nm, D.filterMap (joinedM a b nm)⟩) := Hd (fun nm => by rw [hD]; rfl)
 rw [← hD] at h10 HDL;have HD10 := Hd h10;have HNL : Hid (NL.length ≤ 2000) := Hd (by rw [hNL, List.length_append]; exact HLN.out)
 clear h8 h9 h89 h10 hb8 hb9 hb10 hb78 hb79 hb7t hS HDA HDB HUD HJ4 HR7 HC7 HC4 hD hNL HB27 HB47 HB24 HW4;obtain ⟨an, cn, rfl⟩ := HR10.out.slice;have hlnD := HD10.out.len;obtain ⟨od, cd, rfl⟩ := HD10.out.slice;generalize w3.heap.size = bo at *
 go_wp2_with fail
 go_loopw [8] (fun iv wr => ∃ k : Nat, k ≤ NL.length ∧ iv = .int .i64 k ∧ JIn bo wr U ((NL.take k).foldl (stepR a b) []) ∧ EStr.Row (bo + 1) wr (.slice an NL.length cn) NL ∧ Arr DotR 2 wr (.slice od D.length cd) D ∧ Below W2.heap.size W2 wr) (fun iv _ => NL.length - (intOf iv).toNat)
 case atStart => exact ⟨0, Nat.zero_le _, rfl, HJ10.out, HR10.out, HD10.out, HB10.out⟩
 case round =>
  obtain ⟨k, hk, rfl, hj, hnr, hd, hB⟩ := hrel;have HB := Hd hB;have HJ := Hd hj;have HNR := Hd hnr;have HD := Hd hd;clear hB hj hd
  by_cases hlt : k < NL.length
  ·obtain ⟨gn, cap, hgv, hin, -⟩ := hnr.some (by intro e; rw [e] at hlt; simp at hlt)
   injection hgv with e1 e2 e3
   subst e1;have hen0 : wr.cell? ⟨gn, k, none⟩ = some (.string NL[k]) := by
    have := hin.cell k hlt 0 (by decide)
    simp only [Nat.add_zero, show EStr.k = 1 from rfl, Nat.mul_one] at this
    exact this
   have hgl := hin.gl;have HNSk := HNS.out NL[k] (List.getElem_mem hlt);have HST : Hid ((NL.take (k + 1)).foldl (stepR a b) [] = stepR a b ((NL.take k).foldl (stepR a b) []) NL[k]) := Hd (by rw [List.take_succ_eq_append_getElem hlt, List.foldl_append]; rfl)
   have hIl : ((NL.take k).foldl (stepR a b) []).length ≤ 100000 := by
    have := foldR_len a b (NL.take k) [];rw [List.length_take, List.length_nil] at this;have := HNL.out;omega
   generalize NL[k] = nm at *
   have HEN : Hid (∀ wz, Below wr.heap.size wr wz → wz.cell? ⟨gn, k, none⟩ = some (.string nm)) := Hd (fun wz hz => by rw [hz.cell (p := ⟨_, _, _⟩) hgl]; exact hen0)
   obtain ⟨i1, l1, i2, l2, i3, l3, hx, ha1, ha2, ha3⟩ := HJ.out;have HXB : Hid (∀ wz, Below wr.heap.size wr wz → wz.heap[bo]? = some (.cells #[.slice i1 U.1.length l1, .slice i2 U.2.length l2, .slice i3 ((NL.take k).foldl (stepR a b) []).length l3] 28)) := Hd (fun wz hz => (hz.block _ (lt_of_heap hx)).trans hx)
   have HBO : Hid (∀ wz, Below wr.heap.size wr wz → wz.cell? ⟨bo, 2, none⟩ = some (.slice i3 ((NL.take k).foldl (stepR a b) []).length l3)) := Hd (fun wz hz => cl0 (HXB.out wz hz) 2 rfl)
   have HI := Hd ha3;obtain ⟨L, hL⟩ : ∃ L, L = (NL.take k).foldl (stepR a b) [] := ⟨_, rfl⟩;rw [← hL] at HST HXB HBO HI HJ hIl;have HFI : Hid (∀ wz, Below wr.heap.size wr wz → Calls Tryz.prog 42 #[.slice i3 L.length l3, .string nm] wz (IdxAt (fun x => decide (x.name = nm)) L wz)) := Hd (fun wz hz => r9Find_any nm L _ wz (HI.out.items hz))
   have a0 : (0 : Int) ≤ k := by omega
   have a1 : (k : Int) < (NL.length : Int) := by omega
   have hkw : IntKind.i64.wrap ((k : Int) + 1) = (k : Int) + 1 := by rw [IntKind.wrap_i64]; have := HNL.out; omega
   clear hen0 hx ha1 ha2 ha3 hin hnr hL e2 e3
   go_upto_region 7 with fail
   refine NQ.to ?_;refine wp_region_held_drew (S := (fun wz => Below wr.heap.size wr wz)) (by kernel_rfl) (bdr) (fun hS => ?_)
   refine tkR (n := 6) [0, 1, 2, 3, 4, 5] rfl (by decide +kernel) hS ?_
   iterate 6 ((try simp only [Act.put, s1, s2, s3, s4, s5, s6]); refine ⟨_, ?_, rfl, Or.inl ⟨by kernel_rfl, fun w hSw => ok_of fun z hz => ?_⟩, ?_⟩; rotate_left; · (have f0 := HBO.out _ hSw; have f1 := HEN.out _ hSw; go_simp; exact hz))
   refine RunOK.done ?_
   try simp only [Act.put, s1, s2, s3, s4, s5, s6]
   refine rd1 6 (by decide +kernel) rfl (fun K hK => ?_)
   go_simp
   go_at_call 42
   refine (HFI.out _ bdr).mono ?_;rintro e w8 ⟨q, rfl, hq, hb8⟩;have hbr8 := (below_drew1 (Below.refl wr.heap.size wr)).trans (hb8.mono (Nat.le_refl _));go_simp;refine Shut.out hK _ _ (hbr8) (fun hS2 => ?_); clear hK K hS; have hS := hS2; clear hS2
   refine tkR (n := 1) [7] rfl (by decide +kernel) hS ?_
   ((try simp only [Act.put, s1, s2, s3, s4, s5, s6]); refine ⟨_, ?_, rfl, Or.inl ⟨by kernel_rfl, fun w hSw => ok_of fun z hz => ?_⟩, ?_⟩; rotate_left; · (go_simp; exact hz))
   refine RunOK.done ?_
   try simp only [Act.put, s1, s2, s3, s4, s5, s6]
   refine wpAnyH_done (by kernel_rfl) ?_ _
   try simp only [Act.put, s1, s2, s3, s4, s5, s6]
   simp only [NQ];have HBR8 := Hd hbr8;have HB8 := Hd (btr HB.out hbr8);clear hS hb8 hbr8
   by_cases hany : L.any (fun x => decide (x.name = nm)) = true
   ·have hq0 : (0 : Int) ≤ q := by
     rcases hq with ⟨_, h2⟩ | ⟨i, hi, rfl, -⟩
     ·rw [hany] at h2; cases h2
     ·omega
    have HS2 : Hid ((NL.take (k + 1)).foldl (stepR a b) [] = L) := Hd (by rw [HST.out]; unfold stepR; rw [if_pos hany])
    clear hq hany
    go_wp2_with fail
    go_roundw
    case rel => exact ⟨k + 1, by omega, by go_num, by rw [HS2.out]; exact HJ.out.below HBR8.out, HNR.out.below HBR8.out, HD.out.dots HBR8.out, HB8.out⟩
    case measure => simp [intOf]; omega
   ·have hq0 : q = -1 := by
     rcases hq with ⟨h2, _⟩ | ⟨i, hi, rfl, h3, -⟩
     ·exact h2
     ·exact absurd (List.any_eq_true.2 ⟨_, List.getElem_mem hi, h3⟩) hany
    subst hq0;have HAN := Hd hany;have d0 := HEN.out _ HBR8.out;obtain ⟨W9, hW9⟩ : ∃ x, x = w8.alloc (.cells #[.string nm, .slice none 0 0] 49) := ⟨_, rfl⟩;have hb89 : Below w8.heap.size w8 W9 := by rw [hW9]; exact bal
    have hx9 : W9.heap[w8.heap.size]? = some (.cells #[.string nm, .slice none 0 0] 49) := by rw [hW9]; exact alloc_new _ _
    have HB89 := Hd hb89;have HX9 := Hd hx9;have HW9 := Hd hW9;have hkn : k < NL.length := hlt;clear hq hany hb89 hx9 hW9
    iterate 33 (first | go_values | go_skip | go_guarded | go_step | go_upon | go_back | go_simp)
    rw [← HW9.out];refine NQ.to (r11ji a b D o1 n1 k1 o2 n2 k2 o3 n3 k3 o4 n4 k4 o5 n5 k5 o6 n6 k6 w.heap.size (w.heap.size + 1) gn NL.length cn k D.length cd w8.heap.size od nm _ _ _ _ _ _ _ _ _ _ _ _ _ _ _ _ _ _ _ _ _ _ _ _ _ _ _ _ _ _ _ _ _ _ _ _ _ _ _ _ _ _ _ _ _ _ _ _ _ _ _ _ _ _ _ _ _ _ _ _ _ _ _ _ _ _ _ _ _ _ _ _ _ _ _ _ _ _ _ _ _ w8 W9 HB89.out rfl HX9.out (HA.out.below HB8.out) (HG.out.below HB8.out) (HK0.out _ HB8.out) (HK1.out _ HB8.out) d0 hkn (HD.out.dots HBR8.out) HDL.out _ ?_);intro u10 u11 u12 u50 u51 u52 u53 u54 u55 u56 u57 u58 u59 u60 u61 u62 u63 u64 u65 u66 u67 u68 u69 u70 u71 u72 u73 u74 u75 u76 om cm w10 hb10 hx10 hr10;have d1 : w10.cell? ⟨w8.heap.size, 1, none⟩ = some (.slice om (D.filterMap (joinedM a b nm)).length cm) := cl0 hx10 1 rfl;have d2 : w10.cell? ⟨w8.heap.size, 0, none⟩ = some (.string nm) := cl0 hx10 0 rfl;have hbr10 := btr HBR8.out hb10;have HBR10 := Hd hbr10;have HB10 := Hd (btr HB.out hbr10);have d3 := HBO.out _ hbr10
    by_cases hm0 : 0 < (D.filterMap (joinedM a b nm)).length
    ·have HS2 : Hid ((NL.take (k + 1)).foldl (stepR a b) [] = insI L ⟨nm, D.filterMap (joinedM a b nm)⟩) := Hd (by
      rw [HST.out];unfold stepR;rw [if_neg HAN.out, HIR.out, if_pos hm0])
     have HMA : Hid (Arr MarkR 4 w10 (.slice om (D.filterMap (joinedM a b nm)).length cm) (D.filterMap (joinedM a b nm))) := Hd (Arr.of_marks hr10 (fun m hm => HMI.out nm m (by rw [HIR.out]; exact hm)))
     have HWI := Hd (r9With_any L ⟨nm, D.filterMap (joinedM a b nm)⟩ _ _ w10 (HI.out.items hbr10) HMA.out HNSk hIl);have m0 : (0 : Int) < (D.filterMap (joinedM a b nm)).length := by omega
     clear hb10 hx10 hr10 hbr10;generalize D.filterMap (joinedM a b nm) = ML at *
     go_wp2_with fail
     refine HWI.out.mono ?_;rintro e w11 ⟨v11, rfl, h11, hb11⟩;obtain ⟨i4, l4, rfl⟩ := h11.slice;have hbr11 := btr HBR10.out hb11;have hx11 := HXB.out _ hbr11;have s1 : w11.cell? ⟨bo, 2, none⟩ = some (.slice i3 L.length l3) := cl0 hx11 2 rfl;have s2 : w11.frozen? ⟨bo, 2, none⟩ = false := froz0 hx11 2;have HJ12 := Hd (HJ.out.set hbr11 h11);have HR12 : Hid (EStr.Row (bo + 1) (w11.setCell ⟨bo, 2, none⟩ (.slice i4 (insI L ⟨nm, ML⟩).length l4)) (.slice (some ⟨gn, 0, none⟩) NL.length cn) NL) := Hd ((HNR.out.below hbr11).stay (fun q hq => setCell_other (fun e => by have := (HNR.out.lt _ hq).1; omega)))
     have HD12 : Hid (Arr DotR 2 (w11.setCell ⟨bo, 2, none⟩ (.slice i4 (insI L ⟨nm, ML⟩).length l4)) (.slice od D.length cd) D) := Hd (dots_setB _ (HD.out.dots hbr11) hx11 (slB3 _ _ _ _ _ _ _ _ _));have HB12 := Hd ((btr HB.out hbr11).setCell (p := ⟨bo, 2, none⟩) hbo3 (.slice i4 (insI L ⟨nm, ML⟩).length l4));clear h11 hb11 hbr11 hx11
     go_wp2_with fail
     go_roundw
     case rel => exact ⟨k + 1, by omega, by go_num, by rw [HS2.out]; exact HJ12.out, HR12.out, HD12.out, HB12.out⟩
     case measure => simp [intOf]; omega
    ·have HS2 : Hid ((NL.take (k + 1)).foldl (stepR a b) [] = L) := Hd (by
      rw [HST.out];unfold stepR;rw [if_neg HAN.out, HIR.out, if_neg hm0])
     have m0 : ¬ (0 : Int) < (D.filterMap (joinedM a b nm)).length := by omega
     clear hb10 hx10 hr10 hbr10;generalize (D.filterMap (joinedM a b nm)).length = ML at *
     go_wp2_with fail
     go_roundw
     case rel => exact ⟨k + 1, by omega, by go_num, by rw [HS2.out]; exact HJ.out.below HBR10.out, HNR.out.below HBR10.out, HD.out.dots HBR10.out, HB10.out⟩
     case measure => simp [intOf]; omega
  ·have hke : k = NL.length := by omega
   have hjf := HJ.out;rw [hke, List.take_length] at hjf;obtain ⟨i1, l1, i2, l2, i3, l3, hx, ha1, ha2, ha3⟩ := hjf;generalize NL.foldl (stepR a b) [] = L at *
   have a1 : ¬ ((k : Int) < (NL.length : Int)) := by omega
   have hz := HK2.out wr HB.out;have d0 : wr.cell? ⟨bo, 0, none⟩ = some (.slice i1 U.1.length l1) := cl0 hx 0 rfl;have d1 : wr.cell? ⟨bo, 1, none⟩ = some (.slice i2 U.2.length l2) := cl0 hx 1 rfl;have d2 : wr.cell? ⟨bo, 2, none⟩ = some (.slice i3 L.length l3) := cl0 hx 2 rfl;have e0 : wr.cell? ⟨w.heap.size + 1 + 1, 0, none⟩ = some (.slice none 0 0) := cl0 hz 0 rfl;have e1 : wr.cell? ⟨w.heap.size + 1 + 1, 1, none⟩ = some (.slice none 0 0) := cl0 hz 1 rfl;have e2 : wr.cell? ⟨w.heap.size + 1 + 1, 2, none⟩ = some (.slice none 0 0) := cl0 hz 2 rfl;have f0 : wr.frozen? ⟨w.heap.size + 1 + 1, 0, none⟩ = false := froz0 hz 0;have f1 : wr.frozen? ⟨w.heap.size + 1 + 1, 1, none⟩ = false := froz0 hz 1;have f2 : wr.frozen? ⟨w.heap.size + 1 + 1, 2, none⟩ = false := froz0 hz 2;have HF : Hid (CartA (set3c wr (w.heap.size + 1 + 1) (.slice i1 U.1.length l1) (.slice i2 U.2.length l2) (.slice i3 L.length l3)) (.slice i1 U.1.length l1) (.slice i2 U.2.length l2) (.slice i3 L.length l3) (refJoin a b)) := Hd (by
    rw [HRJ.out];exact ⟨set3c_dots ha1 hz, set3c_dots ha2 hz, set3c_items ha3 hz⟩)
   have HBF := Hd (set3c_below (b := w.heap.size + 1 + 1) (.slice i1 U.1.length l1) (.slice i2 U.2.length l2) (.slice i3 L.length l3) (HBW.out.trans (HB.out.mono HBW.out.size)) (by omega))
   clear hx ha1 ha2 ha3 hz hnr
   go_wp2_with fail
   (try simp only [Exit.inBlock, Exit.then])
   refine bodyPost_ret (v := .agg #[.slice i1 U.1.length l1, .slice i2 U.2.length l2, .slice i3 L.length l3]) ?_ rfl ⟨_, _, _, rfl, HF.out, HBF.out⟩;rw [results_cell_one rfl];go_simp
end Go.Proofs.YtemfaojmelljpaaGreatDoor

