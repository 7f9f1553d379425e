/- The reference's Fits. -/
import Derived.Test.YtemfaojmelljpaaGreatDoorR3d
import Derived.Test.YtemfaojmelljpaaGreatDoorRegC
import Derived.Test.YtemfaojmelljpaaGreatDoorC24
import Derived.Test.YtemfaojmelljpaaGreatDoorR9o
import Derived.Test.YtemfaojmelljpaaGreatDoorR9u
import Derived.Test.YtemfaojmelljpaaGreatDoorR2r
set_option linter.unusedSimpArgs false
set_option linter.unusedVariables false
set_option maxRecDepth 100000
set_option maxHeartbeats 8000000
namespace Go.Proofs.YtemfaojmelljpaaGreatDoor
open Go.RowKit Go.Maps

inductive Kf where
 | val (v : Value)
 | boxM
 | free
theorem fitf6 (o1 : Option Addr) (n1 k1 : Nat) (o2 : Option Addr) (n2 k2 : Nat) (o3 : Option Addr) (n3 k3 : Nat) (b off k nd kd0 : Nat) (nm : ByteArray) (x : DotD) (m : MarkD) (s : Bool) (bc : Nat) (c : CartD) (z0 z1 z3 z4 z8 z9 z10 z11 z12 z13 z14 z15 z16 z17 z18 z19 z20 z21 z22 z23 z24 z25 z26 z27 z28 z29 z30 z31 z32 z33 z34 z35 z36 z37 z38 z39 z40 z41 z42 z43 z44 z45 z46 z47 z48 z49 z50 z51 z52 z53 z54 z55 z56 z57 z58 z59 z60 z61 z62 : Value) (WL : World) (hc : CartA WL (.slice o1 n1 k1) (.slice o2 n2 k2) (.slice o3 n3 k3) c) (hbx : WL.heap[bc]? = some (.cells #[.slice o1 n1 k1, .slice o2 n2 k2, .slice o3 n3 k3] 28)) (he0 : WL.cell? ⟨b, off + k * 2, none⟩ = some (.int .i64 x.rep)) (he1 : WL.cell? ⟨b, off + k * 2 + 1, none⟩ = some (.int .i64 x.ctr)) (hkn : k < nd) (hmx : markRV (markAt c.items nm x) = .tuple #[.agg #[.int .i64 m.dot.rep, .int .i64 m.dot.ctr, .int .i64 m.qty, .int .u64 m.time], .bool s])
  (R : Act → World → Prop) (hQ : ∀ (u37 u38 u39 u40 u41 u42 u43 u36 u44 u45 : Value) (g : Nat) (w : World), Below WL.heap.size WL w → w.heap[g]? = some (.cells #[.int .i64 m.dot.rep, .int .i64 m.dot.ctr, .int .i64 m.qty, .int .u64 m.time] 54) → R { tmps := #[z0, z1, .pointer (some ⟨bc, 0, none⟩), z3, z4, .slice (some ⟨b, off, none⟩) nd kd0, .int .i64 (k : Int), .string nm, z8, .pointer (some ⟨g, 0, none⟩), .bool s, z11, z12, z13, z14, z15, z16, z17, z18, z19, z20, z21, z22, z23, z24, z25, z26, z27, z28, z29, z30, z31, z32, z33, z34, z35, u36, u37, u38, u39, u40, u41, u42, u43, u44, u45, z46, z47, z48, z49, z50, z51, z52, z53, z54, z55, z56, z57, z58, z59, z60, z61, z62], defers := [] } w) :
  (codeAt [1, 1, 0, 1, 0, 0, 1, 0, 0, 1, 0] (Tryz.f22.body.getD .skip)).wp Tryz.prog (NQ R) { tmps := #[z0, z1, .pointer (some ⟨bc, 0, none⟩), z3, z4, .slice (some ⟨b, off, none⟩) nd kd0, .int .i64 (k : Int), .string nm, z8, z9, z10, z11, z12, z13, z14, z15, z16, z17, z18, z19, z20, z21, z22, z23, z24, z25, z26, z27, z28, z29, z30, z31, z32, z33, z34, z35, z36, z37, z38, z39, z40, z41, z42, z43, z44, z45, z46, z47, z48, z49, z50, z51, z52, z53, z54, z55, z56, z57, z58, z59, z60, z61, z62], defers := [] } WL := by
 have hbl : b < WL.heap.size := by
  obtain ⟨b', off', e, hlt⟩ := addr_plain he0
  cases e
  exact hlt
 have HBC := Hd (fun wz (hz : Below WL.heap.size WL wz) => cel3 ((hz.block _ (lt_of_heap hbx)).trans hbx))
 have HEL : Hid (∀ wz, Below WL.heap.size WL wz → wz.cell? ⟨b, off + k * 2, none⟩ = some (.int .i64 x.rep) ∧ wz.cell? ⟨b, off + k * 2 + 1, none⟩ = some (.int .i64 x.ctr)) := Hd (fun wz hz => ⟨by rw [hz.cell (p := ⟨_, _, _⟩) hbl]; exact he0, by rw [hz.cell (p := ⟨_, _, _⟩) hbl]; exact he1⟩)
 have HM : Hid (∀ wz, Below WL.heap.size WL wz → Calls Tryz.prog 49 #[.agg #[.slice o1 n1 k1, .slice o2 n2 k2, .slice o3 n3 k3], .string nm, .agg #[.int .i64 x.rep, .int .i64 x.ctr]] wz fun e w' => e = .returned (.tuple #[.agg #[.int .i64 m.dot.rep, .int .i64 m.dot.ctr, .int .i64 m.qty, .int .u64 m.time], .bool s]) ∧ Below wz.heap.size wz w') := Hd (fun wz hz => by
  have := r11mark_any c nm x _ _ _ wz (hc.below hz);rw [hmx] at this;exact this)
 have HD0 : Hid (Below WL.heap.size WL WL.drew) := Hd bdr;have a0 : (0 : Int) ≤ k := by omega
 have a1 : (k : Int) < (nd : Int) := by omega
 clear hc hbx he0 he1 hmx hkn hbl;simp only [codeAt, codeL, codeR, Tryz.f22, Option.getD_some];refine wp_region_held_drew (S := (fun wz => Below WL.heap.size WL wz)) (by kernel_rfl) (bdr) (fun hS => ?_)
 refine tkR (n := 6) [0, 1, 2, 3, 4, 5] rfl (by decide +kernel) hS ?_
 iterate 6 ((try simp only [Act.put, s1, s2, s3, s4, s5, s6]); refine ⟨_, ?_, rfl, Or.inl ⟨by kernel_rfl, fun w hSw => ok_of fun z hz => ?_⟩, ?_⟩; rotate_left; · (have HBX := HBC.out _ hSw; have HEX := HEL.out _ hSw; obtain ⟨f0, f1, f2⟩ := HBX; obtain ⟨f3, f4⟩ := HEX; go_simp; exact hz))
 refine RunOK.done ?_
 try simp only [Act.put, s1, s2, s3, s4, s5, s6]
 refine wpAnyH_ready (rs := [6, 10]) (by decide +kernel) (by simp) ?_
 refine (AllReadyH.cons rfl (fun K hK => ?_) (AllReadyH.cons rfl (fun K hK => ?_) AllReadyH.nil))
 ·go_simp
  go_at_call 49
  refine (HM.out _ HD0.out).mono ?_;rintro e w8 ⟨rfl, hb8⟩;have hb9 := (Below.trans HD0.out (hb8.mono HD0.out.size));go_simp;refine Shut.out hK _ _ (hb9) (fun hS2 => ?_); clear hK K hS; have hS := hS2; clear hS2
  refine tkR (n := 3) [7, 8, 9] rfl (by decide +kernel) hS ?_
  iterate 3 ((try simp only [Act.put, s1, s2, s3, s4, s5, s6]); refine ⟨_, ?_, rfl, Or.inl ⟨by kernel_rfl, fun w hSw => ok_of fun z hz => ?_⟩, ?_⟩; rotate_left; · (go_simp; exact hz))
  refine RunOK.done ?_
  try simp only [Act.put, s1, s2, s3, s4, s5, s6]
  refine rd1 10 (by decide +kernel) rfl (fun K hK => ?_)
  go_simp;refine Shut.out hK _ _ ((Below.alloc hb9 hb9.size _)) (fun hS2 => ?_); clear hK K hS; have hS := hS2; clear hS2
  try simp only [Act.put, s1, s2, s3, s4, s5, s6]
  refine rd1 11 (by decide +kernel) rfl (fun K hK => ?_)
  have y0 : (w8.alloc (.cells #[.int .i64 0, .int .i64 0, .int .i64 0, .int .u64 0] 54)).heap[w8.heap.size]? = some (.cells #[.int .i64 0, .int .i64 0, .int .i64 0, .int .u64 0] 54) := alloc_new _ _;have hb10 := Below.alloc hb9 hb9.size (.cells #[.int .i64 0, .int .i64 0, .int .i64 0, .int .u64 0] 54);have l10 : WL.heap.size ≤ w8.heap.size := hb9.size;generalize hgw : w8.alloc (.cells #[.int .i64 0, .int .i64 0, .int .i64 0, .int .u64 0] 54) = wy at *
  generalize w8.heap.size = g at *
  have f0 := froz0 y0 0;have c0 : wy.cell? ⟨g, 0, none⟩ = some (.int .i64 0) := cl0 y0 0 rfl;have f1 := froz0 y0 1;have c1 : wy.cell? ⟨g, 1, none⟩ = some (.int .i64 0) := cl0 y0 1 rfl;have f2 := froz0 y0 2;have c2 : wy.cell? ⟨g, 2, none⟩ = some (.int .i64 0) := cl0 y0 2 rfl;have f3 := froz0 y0 3;have c3 : wy.cell? ⟨g, 3, none⟩ = some (.int .u64 0) := cl0 y0 3 rfl;go_simp;refine Shut.out hK _ _ ((set4_below (.int .i64 m.dot.rep) (.int .i64 m.dot.ctr) (.int .i64 m.qty) (.int .u64 m.time) hb10 l10)) (fun hS2 => ?_); clear hK K hS; have hS := hS2; clear hS2
  refine tkR (n := 1) [12] rfl (by decide +kernel) hS ?_
  ((try simp only [Act.put, s1, s2, s3, s4, s5, s6]); refine ⟨_, ?_, rfl, Or.inl ⟨by kernel_rfl, fun w hSw => ok_of fun z hz => ?_⟩, ?_⟩; rotate_left; · (go_simp; exact hz))
  refine RunOK.done ?_
  try simp only [Act.put, s1, s2, s3, s4, s5, s6]
  refine wpAnyH_done (by kernel_rfl) ?_ _
  try simp only [Act.put, s1, s2, s3, s4, s5, s6]
  simp only [NQ];exact hQ _ _ _ _ _ _ _ _ _ _ _ _ (set4_below (.int .i64 m.dot.rep) (.int .i64 m.dot.ctr) (.int .i64 m.qty) (.int .u64 m.time) hb10 l10) (set4_same (.int .i64 m.dot.rep) (.int .i64 m.dot.ctr) (.int .i64 m.qty) (.int .u64 m.time) y0)
 ·go_simp
  refine Shut.out hK _ _ ((Below.alloc HD0.out HD0.out.size _)) (fun hS2 => ?_); clear hK K hS; have hS := hS2; clear hS2
  try simp only [Act.put, s1, s2, s3, s4, s5, s6]
  refine rd1 6 (by decide +kernel) rfl (fun K hK => ?_)
  go_simp
  go_at_call 49
  refine (HM.out _ (Below.alloc HD0.out HD0.out.size _)).mono ?_;rintro e w8 ⟨rfl, hb8⟩;have hb9 := (Below.trans (Below.alloc HD0.out HD0.out.size _) (hb8.mono (Below.alloc HD0.out HD0.out.size _).size));go_simp;refine Shut.out hK _ _ (hb9) (fun hS2 => ?_); clear hK K hS; have hS := hS2; clear hS2
  refine tkR (n := 3) [7, 8, 9] rfl (by decide +kernel) hS ?_
  iterate 3 ((try simp only [Act.put, s1, s2, s3, s4, s5, s6]); refine ⟨_, ?_, rfl, Or.inl ⟨by kernel_rfl, fun w hSw => ok_of fun z hz => ?_⟩, ?_⟩; rotate_left; · (go_simp; exact hz))
  refine RunOK.done ?_
  try simp only [Act.put, s1, s2, s3, s4, s5, s6]
  refine rd1 11 (by decide +kernel) rfl (fun K hK => ?_)
  have y0 : w8.heap[WL.heap.size]? = some (.cells #[.int .i64 0, .int .i64 0, .int .i64 0, .int .u64 0] 54) := (hb8.block _ (by rw [alloc_size]; exact Nat.lt_succ_self _)).trans (alloc_new (World.drew WL) _)
  have hb10 := hb9;have l10 : WL.heap.size ≤ WL.heap.size := Nat.le_refl _;have f0 := froz0 y0 0;have c0 : w8.cell? ⟨WL.heap.size, 0, none⟩ = some (.int .i64 0) := cl0 y0 0 rfl;have f1 := froz0 y0 1;have c1 : w8.cell? ⟨WL.heap.size, 1, none⟩ = some (.int .i64 0) := cl0 y0 1 rfl;have f2 := froz0 y0 2;have c2 : w8.cell? ⟨WL.heap.size, 2, none⟩ = some (.int .i64 0) := cl0 y0 2 rfl;have f3 := froz0 y0 3;have c3 : w8.cell? ⟨WL.heap.size, 3, none⟩ = some (.int .u64 0) := cl0 y0 3 rfl;go_simp;refine Shut.out hK _ _ ((set4_below (.int .i64 m.dot.rep) (.int .i64 m.dot.ctr) (.int .i64 m.qty) (.int .u64 m.time) hb10 l10)) (fun hS2 => ?_); clear hK K hS; have hS := hS2; clear hS2
  refine tkR (n := 1) [12] rfl (by decide +kernel) hS ?_
  ((try simp only [Act.put, s1, s2, s3, s4, s5, s6]); refine ⟨_, ?_, rfl, Or.inl ⟨by kernel_rfl, fun w hSw => ok_of fun z hz => ?_⟩, ?_⟩; rotate_left; · (go_simp; exact hz))
  refine RunOK.done ?_
  try simp only [Act.put, s1, s2, s3, s4, s5, s6]
  refine wpAnyH_done (by kernel_rfl) ?_ _
  try simp only [Act.put, s1, s2, s3, s4, s5, s6]
  simp only [NQ];exact hQ _ _ _ _ _ _ _ _ _ _ _ _ (set4_below (.int .i64 m.dot.rep) (.int .i64 m.dot.ctr) (.int .i64 m.qty) (.int .u64 m.time) hb10 l10) (set4_same (.int .i64 m.dot.rep) (.int .i64 m.dot.ctr) (.int .i64 m.qty) (.int .u64 m.time) y0)
theorem fitf7 (o1 : Option Addr) (n1 k1 : Nat) (o2 : Option Addr) (n2 k2 : Nat) (o3 : Option Addr) (n3 k3 : Nat) (b off k nd kd0 : Nat) (nm : ByteArray) (x : DotD) (m : MarkD) (s : Bool) (bc : Nat) (c : CartD) (z0 z1 z2 z4 z8 z9 z10 z11 z12 z13 z14 z15 z16 z17 z18 z19 z20 z21 z22 z23 z24 z25 z26 z27 z28 z29 z30 z31 z32 z33 z34 z35 z36 z37 z38 z39 z40 z41 z42 z43 z44 z45 z46 z47 z48 z49 z50 z51 z52 z53 z54 z55 z56 z57 z58 z59 z60 z61 z62 : Value) (WL : World) (hc : CartA WL (.slice o1 n1 k1) (.slice o2 n2 k2) (.slice o3 n3 k3) c) (hbx : WL.heap[bc]? = some (.cells #[.slice o1 n1 k1, .slice o2 n2 k2, .slice o3 n3 k3] 28)) (he0 : WL.cell? ⟨b, off + k * 2, none⟩ = some (.int .i64 x.rep)) (he1 : WL.cell? ⟨b, off + k * 2 + 1, none⟩ = some (.int .i64 x.ctr)) (hkn : k < nd) (hmx : markRV (markAt c.items nm x) = .tuple #[.agg #[.int .i64 m.dot.rep, .int .i64 m.dot.ctr, .int .i64 m.qty, .int .u64 m.time], .bool s])
  (R : Act → World → Prop) (hQ : ∀ (u47 u48 u49 u50 u51 u52 u53 u46 u54 u55 : Value) (g : Nat) (w : World), Below WL.heap.size WL w → w.heap[g]? = some (.cells #[.int .i64 m.dot.rep, .int .i64 m.dot.ctr, .int .i64 m.qty, .int .u64 m.time] 54) → R { tmps := #[z0, z1, z2, .pointer (some ⟨bc, 0, none⟩), z4, .slice (some ⟨b, off, none⟩) nd kd0, .int .i64 (k : Int), .string nm, z8, z9, z10, .pointer (some ⟨g, 0, none⟩), .bool s, z13, z14, z15, z16, z17, z18, z19, z20, z21, z22, z23, z24, z25, z26, z27, z28, z29, z30, z31, z32, z33, z34, z35, z36, z37, z38, z39, z40, z41, z42, z43, z44, z45, u46, u47, u48, u49, u50, u51, u52, u53, u54, u55, z56, z57, z58, z59, z60, z61, z62], defers := [] } w) :
  (codeAt [1, 1, 0, 1, 0, 0, 1, 0, 0, 1, 1, 0] (Tryz.f22.body.getD .skip)).wp Tryz.prog (NQ R) { tmps := #[z0, z1, z2, .pointer (some ⟨bc, 0, none⟩), z4, .slice (some ⟨b, off, none⟩) nd kd0, .int .i64 (k : Int), .string nm, z8, z9, z10, z11, z12, z13, z14, z15, z16, z17, z18, z19, z20, z21, z22, z23, z24, z25, z26, z27, z28, z29, z30, z31, z32, z33, z34, z35, z36, z37, z38, z39, z40, z41, z42, z43, z44, z45, z46, z47, z48, z49, z50, z51, z52, z53, z54, z55, z56, z57, z58, z59, z60, z61, z62], defers := [] } WL := by
 have hbl : b < WL.heap.size := by
  obtain ⟨b', off', e, hlt⟩ := addr_plain he0
  cases e
  exact hlt
 have HBC := Hd (fun wz (hz : Below WL.heap.size WL wz) => cel3 ((hz.block _ (lt_of_heap hbx)).trans hbx))
 have HEL : Hid (∀ wz, Below WL.heap.size WL wz → wz.cell? ⟨b, off + k * 2, none⟩ = some (.int .i64 x.rep) ∧ wz.cell? ⟨b, off + k * 2 + 1, none⟩ = some (.int .i64 x.ctr)) := Hd (fun wz hz => ⟨by rw [hz.cell (p := ⟨_, _, _⟩) hbl]; exact he0, by rw [hz.cell (p := ⟨_, _, _⟩) hbl]; exact he1⟩)
 have HM : Hid (∀ wz, Below WL.heap.size WL wz → Calls Tryz.prog 49 #[.agg #[.slice o1 n1 k1, .slice o2 n2 k2, .slice o3 n3 k3], .string nm, .agg #[.int .i64 x.rep, .int .i64 x.ctr]] wz fun e w' => e = .returned (.tuple #[.agg #[.int .i64 m.dot.rep, .int .i64 m.dot.ctr, .int .i64 m.qty, .int .u64 m.time], .bool s]) ∧ Below wz.heap.size wz w') := Hd (fun wz hz => by
  have := r11mark_any c nm x _ _ _ wz (hc.below hz);rw [hmx] at this;exact this)
 have HD0 : Hid (Below WL.heap.size WL WL.drew) := Hd bdr;have a0 : (0 : Int) ≤ k := by omega
 have a1 : (k : Int) < (nd : Int) := by omega
 clear hc hbx he0 he1 hmx hkn hbl;simp only [codeAt, codeL, codeR, Tryz.f22, Option.getD_some];refine wp_region_held_drew (S := (fun wz => Below WL.heap.size WL wz)) (by kernel_rfl) (bdr) (fun hS => ?_)
 refine tkR (n := 6) [0, 1, 2, 3, 4, 5] rfl (by decide +kernel) hS ?_
 iterate 6 ((try simp only [Act.put, s1, s2, s3, s4, s5, s6]); refine ⟨_, ?_, rfl, Or.inl ⟨by kernel_rfl, fun w hSw => ok_of fun z hz => ?_⟩, ?_⟩; rotate_left; · (have HBX := HBC.out _ hSw; have HEX := HEL.out _ hSw; obtain ⟨f0, f1, f2⟩ := HBX; obtain ⟨f3, f4⟩ := HEX; go_simp; exact hz))
 refine RunOK.done ?_
 try simp only [Act.put, s1, s2, s3, s4, s5, s6]
 refine wpAnyH_ready (rs := [6, 10]) (by decide +kernel) (by simp) ?_
 refine (AllReadyH.cons rfl (fun K hK => ?_) (AllReadyH.cons rfl (fun K hK => ?_) AllReadyH.nil))
 ·go_simp
  go_at_call 49
  refine (HM.out _ HD0.out).mono ?_;rintro e w8 ⟨rfl, hb8⟩;have hb9 := (Below.trans HD0.out (hb8.mono HD0.out.size));go_simp;refine Shut.out hK _ _ (hb9) (fun hS2 => ?_); clear hK K hS; have hS := hS2; clear hS2
  refine tkR (n := 3) [7, 8, 9] rfl (by decide +kernel) hS ?_
  iterate 3 ((try simp only [Act.put, s1, s2, s3, s4, s5, s6]); refine ⟨_, ?_, rfl, Or.inl ⟨by kernel_rfl, fun w hSw => ok_of fun z hz => ?_⟩, ?_⟩; rotate_left; · (go_simp; exact hz))
  refine RunOK.done ?_
  try simp only [Act.put, s1, s2, s3, s4, s5, s6]
  refine rd1 10 (by decide +kernel) rfl (fun K hK => ?_)
  go_simp;refine Shut.out hK _ _ ((Below.alloc hb9 hb9.size _)) (fun hS2 => ?_); clear hK K hS; have hS := hS2; clear hS2
  try simp only [Act.put, s1, s2, s3, s4, s5, s6]
  refine rd1 11 (by decide +kernel) rfl (fun K hK => ?_)
  have y0 : (w8.alloc (.cells #[.int .i64 0, .int .i64 0, .int .i64 0, .int .u64 0] 54)).heap[w8.heap.size]? = some (.cells #[.int .i64 0, .int .i64 0, .int .i64 0, .int .u64 0] 54) := alloc_new _ _;have hb10 := Below.alloc hb9 hb9.size (.cells #[.int .i64 0, .int .i64 0, .int .i64 0, .int .u64 0] 54);have l10 : WL.heap.size ≤ w8.heap.size := hb9.size;generalize hgw : w8.alloc (.cells #[.int .i64 0, .int .i64 0, .int .i64 0, .int .u64 0] 54) = wy at *
  generalize w8.heap.size = g at *
  have f0 := froz0 y0 0;have c0 : wy.cell? ⟨g, 0, none⟩ = some (.int .i64 0) := cl0 y0 0 rfl;have f1 := froz0 y0 1;have c1 : wy.cell? ⟨g, 1, none⟩ = some (.int .i64 0) := cl0 y0 1 rfl;have f2 := froz0 y0 2;have c2 : wy.cell? ⟨g, 2, none⟩ = some (.int .i64 0) := cl0 y0 2 rfl;have f3 := froz0 y0 3;have c3 : wy.cell? ⟨g, 3, none⟩ = some (.int .u64 0) := cl0 y0 3 rfl;go_simp;refine Shut.out hK _ _ ((set4_below (.int .i64 m.dot.rep) (.int .i64 m.dot.ctr) (.int .i64 m.qty) (.int .u64 m.time) hb10 l10)) (fun hS2 => ?_); clear hK K hS; have hS := hS2; clear hS2
  refine tkR (n := 1) [12] rfl (by decide +kernel) hS ?_
  ((try simp only [Act.put, s1, s2, s3, s4, s5, s6]); refine ⟨_, ?_, rfl, Or.inl ⟨by kernel_rfl, fun w hSw => ok_of fun z hz => ?_⟩, ?_⟩; rotate_left; · (go_simp; exact hz))
  refine RunOK.done ?_
  try simp only [Act.put, s1, s2, s3, s4, s5, s6]
  refine wpAnyH_done (by kernel_rfl) ?_ _
  try simp only [Act.put, s1, s2, s3, s4, s5, s6]
  simp only [NQ];exact hQ _ _ _ _ _ _ _ _ _ _ _ _ (set4_below (.int .i64 m.dot.rep) (.int .i64 m.dot.ctr) (.int .i64 m.qty) (.int .u64 m.time) hb10 l10) (set4_same (.int .i64 m.dot.rep) (.int .i64 m.dot.ctr) (.int .i64 m.qty) (.int .u64 m.time) y0)
 ·go_simp
  refine Shut.out hK _ _ ((Below.alloc HD0.out HD0.out.size _)) (fun hS2 => ?_); clear hK K hS; have hS := hS2; clear hS2
  try simp only [Act.put, s1, s2, s3, s4, s5, s6]
  refine rd1 6 (by decide +kernel) rfl (fun K hK => ?_)
  go_simp
  go_at_call 49
  refine (HM.out _ (Below.alloc HD0.out HD0.out.size _)).mono ?_;rintro e w8 ⟨rfl, hb8⟩;have hb9 := (Below.trans (Below.alloc HD0.out HD0.out.size _) (hb8.mono (Below.alloc HD0.out HD0.out.size _).size));go_simp;refine Shut.out hK _ _ (hb9) (fun hS2 => ?_); clear hK K hS; have hS := hS2; clear hS2
  refine tkR (n := 3) [7, 8, 9] rfl (by decide +kernel) hS ?_
  iterate 3 ((try simp only [Act.put, s1, s2, s3, s4, s5, s6]); refine ⟨_, ?_, rfl, Or.inl ⟨by kernel_rfl, fun w hSw => ok_of fun z hz => ?_⟩, ?_⟩; rotate_left; · (go_simp; exact hz))
  refine RunOK.done ?_
  try simp only [Act.put, s1, s2, s3, s4, s5, s6]
  refine rd1 11 (by decide +kernel) rfl (fun K hK => ?_)
  have y0 : w8.heap[WL.heap.size]? = some (.cells #[.int .i64 0, .int .i64 0, .int .i64 0, .int .u64 0] 54) := (hb8.block _ (by rw [alloc_size]; exact Nat.lt_succ_self _)).trans (alloc_new (World.drew WL) _)
  have hb10 := hb9;have l10 : WL.heap.size ≤ WL.heap.size := Nat.le_refl _;have f0 := froz0 y0 0;have c0 : w8.cell? ⟨WL.heap.size, 0, none⟩ = some (.int .i64 0) := cl0 y0 0 rfl;have f1 := froz0 y0 1;have c1 : w8.cell? ⟨WL.heap.size, 1, none⟩ = some (.int .i64 0) := cl0 y0 1 rfl;have f2 := froz0 y0 2;have c2 : w8.cell? ⟨WL.heap.size, 2, none⟩ = some (.int .i64 0) := cl0 y0 2 rfl;have f3 := froz0 y0 3;have c3 : w8.cell? ⟨WL.heap.size, 3, none⟩ = some (.int .u64 0) := cl0 y0 3 rfl;go_simp;refine Shut.out hK _ _ ((set4_below (.int .i64 m.dot.rep) (.int .i64 m.dot.ctr) (.int .i64 m.qty) (.int .u64 m.time) hb10 l10)) (fun hS2 => ?_); clear hK K hS; have hS := hS2; clear hS2
  refine tkR (n := 1) [12] rfl (by decide +kernel) hS ?_
  ((try simp only [Act.put, s1, s2, s3, s4, s5, s6]); refine ⟨_, ?_, rfl, Or.inl ⟨by kernel_rfl, fun w hSw => ok_of fun z hz => ?_⟩, ?_⟩; rotate_left; · (go_simp; exact hz))
  refine RunOK.done ?_
  try simp only [Act.put, s1, s2, s3, s4, s5, s6]
  refine wpAnyH_done (by kernel_rfl) ?_ _
  try simp only [Act.put, s1, s2, s3, s4, s5, s6]
  simp only [NQ];exact hQ _ _ _ _ _ _ _ _ _ _ _ _ (set4_below (.int .i64 m.dot.rep) (.int .i64 m.dot.ctr) (.int .i64 m.qty) (.int .u64 m.time) hb10 l10) (set4_same (.int .i64 m.dot.rep) (.int .i64 m.dot.ctr) (.int .i64 m.qty) (.int .u64 m.time) y0)
end Go.Proofs.YtemfaojmelljpaaGreatDoor
namespace Go.Proofs.YtemfaojmelljpaaGreatDoor
open Go.RowKit Go.Maps

theorem refOwner_tuple (o : Option ByteArray) : refOwnerV o = .tuple #[.string (o.getD ⟨#[]⟩), .bool o.isSome] := by cases o <;> rfl
theorem r11Fits_any (a b : CartD) (x1 x2 x3 y1 y2 y3 : Value) (w : World) (h : CartA w x1 x2 x3 a) (g : CartA w y1 y2 y3 b) (hla : Lt a.items) (hlb : Lt b.items) :
  Calls Tryz.prog 22 #[.agg #[x1, x2, x3], .agg #[y1, y2, y3]] w fun e w' => e = .returned (.bool (fitsR a b)) ∧ Below w.heap.size w w' := by
 obtain ⟨o1, n1, k1, o2, n2, k2, o3, n3, k3, rfl, rfl, rfl, hn1, hn2, hn3⟩ := opn h;obtain ⟨o4, n4, k4, o5, n5, k5, o6, n6, k6, rfl, rfl, rfl, hn4, hn5, hn6⟩ := opn g;obtain ⟨W1, HW, HB, HS, HK0, HK1⟩ := box2 w #[.slice o1 n1 k1, .slice o2 n2 k2, .slice o3 n3 k3] 28 #[.slice o4 n4 k4, .slice o5 n5 k5, .slice o6 n6 k6] 28;have HC := Hd (fun wz (hz : Below W1.heap.size W1 wz) => And.intro (cel3 (HK0.out wz hz)) (cel3 (HK1.out wz hz)))
 have hbb1 := HB.out;have HA := Hd (h.below hbb1);have HG := Hd (g.below hbb1);have HD0 : Hid (Below W1.heap.size W1 W1.drew) := Hd bdr;have HDA : Hid (∀ wz, Below W1.heap.size W1 wz → Calls Tryz.prog 30 #[.slice o3 n3 k3] wz fun e w' => ∃ v', e = .returned v' ∧ Arr DotR 2 w' v' (setD (allDots a.items)) ∧ Below wz.heap.size wz w') := Hd (fun wz hz => r9Dots_any a.items _ wz (HA.out.below hz).2.2 hla)
 have HDB : Hid (∀ wz, Below W1.heap.size W1 wz → Calls Tryz.prog 30 #[.slice o6 n6 k6] wz fun e w' => ∃ v', e = .returned v' ∧ Arr DotR 2 w' v' (setD (allDots b.items)) ∧ Below wz.heap.size wz w') := Hd (fun wz hz => r9Dots_any b.items _ wz (HG.out.below hz).2.2 hlb)
 have hsl : (setD (allDots a.items)).length ≤ 1000000 := Nat.le_trans (setD_leL _) hla.dots;have HBO : Hid (∀ wz z1 z2, Arr DotR 2 wz z1 (setD (allDots a.items)) → Arr DotR 2 wz z2 (setD (allDots b.items)) → Calls Tryz.prog 47 #[z1, z2] wz fun e w' => ∃ v', e = .returned v' ∧ Arr DotR 2 w' v' (bothD (setD (allDots a.items)) (setD (allDots b.items))) ∧ Below wz.heap.size wz w') := Hd (fun wz z1 z2 g1 g2 => r1Both_any _ _ _ _ wz g1 g2 hsl)
 have HFR : Hid (fitsR a b = (bothD (setD (allDots a.items)) (setD (allDots b.items))).all (fitR1 a b)) := Hd rfl;have HBW := Hd HB.out;clear HB hbb1 h g hn1 hn2 hn3 hn4 hn5 hn6 hla hlb hsl
 go_enter Tryz.func22, Tryz.ntmps22
 go_upto_region 1 with fail
 rw [← HW.out];refine NQ.to ?_;refine wp_region_held_drew (S := (fun wz => Below W1.heap.size W1 wz)) (by kernel_rfl) (bdr) (fun hS => ?_)
 refine tkR (n := 4) [0, 1, 3, 4] rfl (by decide +kernel) hS ?_
 iterate 4 ((try simp only [Act.put, s1, s2, s3, s4, s5, s6]); refine ⟨_, ?_, rfl, Or.inl ⟨by kernel_rfl, fun w hSw => ok_of fun z hz => ?_⟩, ?_⟩; rotate_left; · (have HBX := HC.out _ hSw; obtain ⟨⟨f0, f1, f2⟩, f3, f4, f5⟩ := HBX; go_simp; exact hz))
 refine RunOK.done ?_
 try simp only [Act.put, s1, s2, s3, s4, s5, s6]
 refine rd1 2 (by decide +kernel) rfl (fun K hK => ?_)
 go_simp
 go_at_call 30
 refine (HDA.out _ bdr).mono ?_;rintro e w2 ⟨v2, rfl, h2, hb2⟩;have hb2 := Below.trans HD0.out (hb2.mono HD0.out.size);go_simp;refine Shut.out hK _ _ (hb2) (fun hS2 => ?_); clear hK K hS; have hS := hS2; clear hS2
 try simp only [Act.put, s1, s2, s3, s4, s5, s6]
 refine rd1 5 (by decide +kernel) rfl (fun K hK => ?_)
 go_simp
 go_at_call 30
 refine (HDB.out w2 hb2).mono ?_;rintro e w3 ⟨v3, rfl, h3, hb3⟩;have hb23 := btr hb2 hb3;have h23 := h2.dots hb3;go_simp;refine Shut.out hK _ _ (hb23) (fun hS2 => ?_); clear hK K hS; have hS := hS2; clear hS2
 try simp only [Act.put, s1, s2, s3, s4, s5, s6]
 refine rd1 6 (by decide +kernel) rfl (fun K hK => ?_)
 go_simp
 go_at_call 47
 refine (HBO.out w3 _ _ h23 h3).mono ?_;rintro e w4 ⟨v4, rfl, h4, hb4⟩;have hb24 := btr hb23 hb4;go_simp;refine Shut.out hK _ _ (hb24) (fun hS2 => ?_); clear hK K hS; have hS := hS2; clear hS2
 refine tkR (n := 1) [7] rfl (by decide +kernel) hS ?_
 ((try simp only [Act.put, s1, s2, s3, s4, s5, s6]); refine ⟨_, ?_, rfl, Or.inl ⟨by kernel_rfl, fun w hSw => ok_of fun z hz => ?_⟩, ?_⟩; rotate_left; · (go_simp; exact hz))
 refine RunOK.done ?_
 try simp only [Act.put, s1, s2, s3, s4, s5, s6]
 refine wpAnyH_done (by kernel_rfl) ?_ _
 try simp only [Act.put, s1, s2, s3, s4, s5, s6]
 simp only [NQ];obtain ⟨D, hD⟩ : ∃ D, D = bothD (setD (allDots a.items)) (setD (allDots b.items)) := ⟨_, rfl⟩;rw [← hD] at h4 HFR;have hlnD := h4.len;obtain ⟨od, cd, rfl, hel⟩ := h4.dotAt;have HEL := Hd hel;have HB4 := Hd hb24;clear hel h4 hb24 hb2 hb23 h2 h3 h23 hD hS HDA HDB HBO
 go_wp2_with fail
 go_loopw [6] (fun i wr => ∃ k : Nat, k ≤ D.length ∧ i = .int .i64 k ∧ (D.take k).all (fitR1 a b) = true ∧ Below w4.heap.size w4 wr) (fun i _ => D.length - (intOf i).toNat)
 case atStart => exact ⟨0, Nat.zero_le _, rfl, rfl, Below.refl _ _⟩
 case round =>
  obtain ⟨k, hk, rfl, hall, hB⟩ := hrel;have HALL := Hd hall;have HB := Hd hB;have HBR := Hd (btr HB4.out hB);clear hall hB
  by_cases hlt : k < D.length
  ·obtain ⟨bd, off, rfl, hbl, e0, e1⟩ := HEL.out k hlt
   have HXE : Hid (∀ wz, Below w4.heap.size w4 wz → wz.cell? ⟨bd, off + k * 2, none⟩ = some (.int .i64 D[k].rep) ∧ wz.cell? ⟨bd, off + k * 2 + 1, none⟩ = some (.int .i64 D[k].ctr)) := Hd (fun wz hz => ⟨by rw [hz.cell (p := ⟨_, _, _⟩) hbl]; exact e0, by rw [hz.cell (p := ⟨_, _, _⟩) hbl]; exact e1⟩)
   have HOW := Hd ((r9Owner_any a.items D[k] _ wr.drew (HA.out.below (below_drew1 HBR.out)).2.2).mono (R' := fun e w' => e = .returned (refOwnerV (ownerI a.items D[k])) ∧ Below wr.heap.size wr w') (fun _ _ ⟨a1, a2⟩ => ⟨a1, bdr.trans a2⟩))
   rw [refOwner_tuple] at HOW;have HS1 := Hd (all_take_snoc (fitR1 a b) D k hlt);have HBAD : Hid (fitR1 a b D[k] = false → fitsR a b = false) := Hd (fun h => by rw [HFR.out]; exact List.all_eq_false.2 ⟨_, List.getElem_mem hlt, by simp [h]⟩)
   generalize D[k] = x at *
   obtain ⟨nm, hnm⟩ : ∃ q, q = (ownerI a.items x).getD ⟨#[]⟩ := ⟨_, rfl⟩;rw [← hnm] at HOW;have HNM : Hid ((ownerI a.items x).getD ⟨#[]⟩ = nm) := Hd hnm.symm;obtain ⟨ob, hob⟩ : ∃ q, q = (ownerI a.items x).isSome := ⟨_, rfl⟩;rw [← hob] at HOW;have a0 : (0 : Int) ≤ k := by omega
   have a1 : (k : Int) < D.length := by omega
   have hkw := wr1 k (by omega)
   unfold dotV at HOW;clear e0 e1 hnm hob
   go_upto_region 5 with fail
   refine NQ.to ?_;refine wp_region_held_drew (S := (fun wz => Below W1.heap.size W1 wz ∧ Below w4.heap.size w4 wz)) (by kernel_rfl) (⟨below_drew1 HBR.out, below_drew1 HB.out⟩) (fun hS => ?_)
   refine tkR (n := 6) [0, 1, 2, 3, 4, 5] rfl (by decide +kernel) hS ?_
   iterate 6 ((try simp only [Act.put, s1, s2, s3, s4, s5, s6]); refine ⟨_, ?_, rfl, Or.inl ⟨by kernel_rfl, fun w hSw => ok_of fun z hz => ?_⟩, ?_⟩; rotate_left; · (have HBX := HC.out _ hSw.1; obtain ⟨⟨f0, f1, f2⟩, f3, f4, f5⟩ := HBX; obtain ⟨f6, f7⟩ := HXE.out _ hSw.2; go_simp; exact hz))
   refine RunOK.done ?_
   try simp only [Act.put, s1, s2, s3, s4, s5, s6]
   refine rd1 6 (by decide +kernel) rfl (fun K hK => ?_)
   go_simp
   go_at_call 48
   refine HOW.out.mono ?_;rintro e w6 ⟨rfl, hb6⟩;go_simp;refine Shut.out hK _ _ (⟨btr HBR.out hb6, btr HB.out hb6⟩) (fun hS2 => ?_); clear hK K hS; have hS := hS2; clear hS2
   refine tkR (n := 5) [7, 8, 9, 10, 11] rfl (by decide +kernel) hS ?_
   iterate 5 ((try simp only [Act.put, s1, s2, s3, s4, s5, s6]); refine ⟨_, ?_, rfl, Or.inl ⟨by kernel_rfl, fun w hSw => ok_of fun z hz => ?_⟩, ?_⟩; rotate_left; · (go_simp; exact hz))
   refine RunOK.done ?_
   try simp only [Act.put, s1, s2, s3, s4, s5, s6]
   refine wpAnyH_done (by kernel_rfl) ?_ _
   try simp only [Act.put, s1, s2, s3, s4, s5, s6]
   simp only [NQ];clear hS;have HB6 := Hd (btr HB.out hb6);have HBR6 := Hd (btr HBR.out hb6);clear hb6
   rcases hmx : markAt a.items nm x with _ | m
   ·go_upto_region 6 with fail
    refine NQ.to (fitf6 o1 n1 k1 o2 n2 k2 o3 n3 k3 bd off k D.length cd nm x zeroM false w.heap.size a _ _ _ _ _ _ _ _ _ _ _ _ _ _ _ _ _ _ _ _ _ _ _ _ _ _ _ _ _ _ _ _ _ _ _ _ _ _ _ _ _ _ _ _ _ _ _ _ _ _ _ _ _ _ _ _ _ _ _ w6 (HA.out.below HBR6.out) (HK0.out _ HBR6.out) (HXE.out _ HB6.out).1 (HXE.out _ HB6.out).2 hlt (by rw [hmx]; rfl) _ ?_)
    intro v6_0 v6_1 v6_2 v6_3 v6_4 v6_5 v6_6 v6_7 v6_8 v6_9 g7 w7 hb7 hg7;have HB7 := Hd (btr HB6.out hb7);have HBR7 := Hd (btr HBR6.out hb7);have HG7 := Hd hg7;clear hb7 hg7
    rcases hmy : markAt b.items nm x with _ | y
    ·go_upto_region 7 with fail
     refine NQ.to (fitf7 o4 n4 k4 o5 n5 k5 o6 n6 k6 bd off k D.length cd nm x zeroM false (w.heap.size + 1) b _ _ _ _ _ _ _ _ _ _ _ _ _ _ _ _ _ _ _ _ _ _ _ _ _ _ _ _ _ _ _ _ _ _ _ _ _ _ _ _ _ _ _ _ _ _ _ _ _ _ _ _ _ _ _ _ _ _ _ w7 (HG.out.below HBR7.out) (HK1.out _ HBR7.out) (HXE.out _ HB7.out).1 (HXE.out _ HB7.out).2 hlt (by rw [hmy]; rfl) _ ?_)
     intro v7_0 v7_1 v7_2 v7_3 v7_4 v7_5 v7_6 v7_7 v7_8 v7_9 g8 w8 hb8 hg8;have HB8 := Hd (btr HB7.out hb8);have q1 := (hb8.block _ (lt_of_heap HG7.out)).trans HG7.out;have q2 := hg8;have s1_0 : w8.cell? ⟨g7, 0, none⟩ = some (.int .i64 0) := cl0 q1 0 rfl;have s1_1 : w8.cell? ⟨g7, 1, none⟩ = some (.int .i64 0) := cl0 q1 1 rfl;have s1_2 : w8.cell? ⟨g7, 2, none⟩ = some (.int .i64 0) := cl0 q1 2 rfl;have s1_3 : w8.cell? ⟨g7, 3, none⟩ = some (.int .u64 0) := cl0 q1 3 rfl;have s2_0 : w8.cell? ⟨g8, 0, none⟩ = some (.int .i64 0) := cl0 q2 0 rfl;have s2_1 : w8.cell? ⟨g8, 1, none⟩ = some (.int .i64 0) := cl0 q2 1 rfl;have s2_2 : w8.cell? ⟨g8, 2, none⟩ = some (.int .i64 0) := cl0 q2 2 rfl;have s2_3 : w8.cell? ⟨g8, 3, none⟩ = some (.int .u64 0) := cl0 q2 3 rfl;have HF1 : Hid (fitR1 a b x = false) := Hd (by unfold fitR1; rw [HNM.out, hmy, hmx])
     clear hb8 hg8 q1 q2 hmx hmy;have HF := Hd (HBAD.out HF1.out)
     go_wp2_with fail
     go_ret
     exact ⟨by rw [HF.out]; rfl, HBW.out.trans ((HB4.out.trans (HB8.out.mono HB4.out.size)).mono HBW.out.size)⟩
    ·go_upto_region 7 with fail
     refine NQ.to (fitf7 o4 n4 k4 o5 n5 k5 o6 n6 k6 bd off k D.length cd nm x y true (w.heap.size + 1) b _ _ _ _ _ _ _ _ _ _ _ _ _ _ _ _ _ _ _ _ _ _ _ _ _ _ _ _ _ _ _ _ _ _ _ _ _ _ _ _ _ _ _ _ _ _ _ _ _ _ _ _ _ _ _ _ _ _ _ w7 (HG.out.below HBR7.out) (HK1.out _ HBR7.out) (HXE.out _ HB7.out).1 (HXE.out _ HB7.out).2 hlt (by rw [hmy]; rfl) _ ?_)
     intro v7_0 v7_1 v7_2 v7_3 v7_4 v7_5 v7_6 v7_7 v7_8 v7_9 g8 w8 hb8 hg8;have HB8 := Hd (btr HB7.out hb8);have q1 := (hb8.block _ (lt_of_heap HG7.out)).trans HG7.out;have q2 := hg8;have s1_0 : w8.cell? ⟨g7, 0, none⟩ = some (.int .i64 0) := cl0 q1 0 rfl;have s1_1 : w8.cell? ⟨g7, 1, none⟩ = some (.int .i64 0) := cl0 q1 1 rfl;have s1_2 : w8.cell? ⟨g7, 2, none⟩ = some (.int .i64 0) := cl0 q1 2 rfl;have s1_3 : w8.cell? ⟨g7, 3, none⟩ = some (.int .u64 0) := cl0 q1 3 rfl;have s2_0 : w8.cell? ⟨g8, 0, none⟩ = some (.int .i64 y.dot.rep) := cl0 q2 0 rfl;have s2_1 : w8.cell? ⟨g8, 1, none⟩ = some (.int .i64 y.dot.ctr) := cl0 q2 1 rfl;have s2_2 : w8.cell? ⟨g8, 2, none⟩ = some (.int .i64 y.qty) := cl0 q2 2 rfl;have s2_3 : w8.cell? ⟨g8, 3, none⟩ = some (.int .u64 y.time) := cl0 q2 3 rfl;have HF1 : Hid (fitR1 a b x = decide (zeroM = y)) := Hd (by unfold fitR1; rw [HNM.out, hmy, hmx]; rfl)
     clear hb8 hg8 q1 q2 hmx hmy;have heq : ∀ wz : World, Sem.run Tryz.prog (binOp .neq 54 (.agg #[.int .i64 0, .int .i64 0, .int .i64 0, .int .u64 0]) (.agg #[.int .i64 y.dot.rep, .int .i64 y.dot.ctr, .int .i64 y.qty, .int .u64 y.time])) wz = .ok (.bool (!decide (zeroM = y))) wz := fun wz => neqMark zeroM y wz
     have hgd : ∀ (op : BinOp) (p q : Operand) (wz : World), Sem.run Tryz.prog (eqGuard op 54 p q (.agg #[.int .i64 0, .int .i64 0, .int .i64 0, .int .u64 0]) (.agg #[.int .i64 y.dot.rep, .int .i64 y.dot.ctr, .int .i64 y.qty, .int .u64 y.time])) wz = .ok () wz := fun op p q wz => run_eqGuard_agg wz op 54 p q _ _ (by kernel_rfl)
     obtain ⟨r, hr⟩ : ∃ r, r = decide (zeroM = y) := ⟨_, rfl⟩;rw [← hr] at HF1 heq;have HR := Hd hr;clear hr
     cases r with
     | false =>
      have HF := Hd (HBAD.out HF1.out)
      go_wp2_with fail
      go_ret
      exact ⟨by rw [HF.out]; rfl, HBW.out.trans ((HB4.out.trans (HB8.out.mono HB4.out.size)).mono HBW.out.size)⟩
     | true =>
      have HF : Hid ((D.take (k + 1)).all (fitR1 a b) = true) := Hd (by rw [HS1.out, HALL.out, HF1.out]; rfl)
      go_wp2_with fail
      go_roundw
      case rel => exact ⟨k + 1, by omega, by go_num, HF.out, HB8.out⟩
      case measure => simp [intOf]; omega
   ·go_upto_region 6 with fail
    refine NQ.to (fitf6 o1 n1 k1 o2 n2 k2 o3 n3 k3 bd off k D.length cd nm x m true w.heap.size a _ _ _ _ _ _ _ _ _ _ _ _ _ _ _ _ _ _ _ _ _ _ _ _ _ _ _ _ _ _ _ _ _ _ _ _ _ _ _ _ _ _ _ _ _ _ _ _ _ _ _ _ _ _ _ _ _ _ _ w6 (HA.out.below HBR6.out) (HK0.out _ HBR6.out) (HXE.out _ HB6.out).1 (HXE.out _ HB6.out).2 hlt (by rw [hmx]; rfl) _ ?_)
    intro v6_0 v6_1 v6_2 v6_3 v6_4 v6_5 v6_6 v6_7 v6_8 v6_9 g7 w7 hb7 hg7;have HB7 := Hd (btr HB6.out hb7);have HBR7 := Hd (btr HBR6.out hb7);have HG7 := Hd hg7;clear hb7 hg7
    rcases hmy : markAt b.items nm x with _ | y
    ·go_upto_region 7 with fail
     refine NQ.to (fitf7 o4 n4 k4 o5 n5 k5 o6 n6 k6 bd off k D.length cd nm x zeroM false (w.heap.size + 1) b _ _ _ _ _ _ _ _ _ _ _ _ _ _ _ _ _ _ _ _ _ _ _ _ _ _ _ _ _ _ _ _ _ _ _ _ _ _ _ _ _ _ _ _ _ _ _ _ _ _ _ _ _ _ _ _ _ _ _ w7 (HG.out.below HBR7.out) (HK1.out _ HBR7.out) (HXE.out _ HB7.out).1 (HXE.out _ HB7.out).2 hlt (by rw [hmy]; rfl) _ ?_)
     intro v7_0 v7_1 v7_2 v7_3 v7_4 v7_5 v7_6 v7_7 v7_8 v7_9 g8 w8 hb8 hg8;have HB8 := Hd (btr HB7.out hb8);have q1 := (hb8.block _ (lt_of_heap HG7.out)).trans HG7.out;have q2 := hg8;have s1_0 : w8.cell? ⟨g7, 0, none⟩ = some (.int .i64 m.dot.rep) := cl0 q1 0 rfl;have s1_1 : w8.cell? ⟨g7, 1, none⟩ = some (.int .i64 m.dot.ctr) := cl0 q1 1 rfl;have s1_2 : w8.cell? ⟨g7, 2, none⟩ = some (.int .i64 m.qty) := cl0 q1 2 rfl;have s1_3 : w8.cell? ⟨g7, 3, none⟩ = some (.int .u64 m.time) := cl0 q1 3 rfl;have s2_0 : w8.cell? ⟨g8, 0, none⟩ = some (.int .i64 0) := cl0 q2 0 rfl;have s2_1 : w8.cell? ⟨g8, 1, none⟩ = some (.int .i64 0) := cl0 q2 1 rfl;have s2_2 : w8.cell? ⟨g8, 2, none⟩ = some (.int .i64 0) := cl0 q2 2 rfl;have s2_3 : w8.cell? ⟨g8, 3, none⟩ = some (.int .u64 0) := cl0 q2 3 rfl;have HF1 : Hid (fitR1 a b x = false) := Hd (by unfold fitR1; rw [HNM.out, hmy, hmx])
     clear hb8 hg8 q1 q2 hmx hmy;have HF := Hd (HBAD.out HF1.out)
     go_wp2_with fail
     go_ret
     exact ⟨by rw [HF.out]; rfl, HBW.out.trans ((HB4.out.trans (HB8.out.mono HB4.out.size)).mono HBW.out.size)⟩
    ·go_upto_region 7 with fail
     refine NQ.to (fitf7 o4 n4 k4 o5 n5 k5 o6 n6 k6 bd off k D.length cd nm x y true (w.heap.size + 1) b _ _ _ _ _ _ _ _ _ _ _ _ _ _ _ _ _ _ _ _ _ _ _ _ _ _ _ _ _ _ _ _ _ _ _ _ _ _ _ _ _ _ _ _ _ _ _ _ _ _ _ _ _ _ _ _ _ _ _ w7 (HG.out.below HBR7.out) (HK1.out _ HBR7.out) (HXE.out _ HB7.out).1 (HXE.out _ HB7.out).2 hlt (by rw [hmy]; rfl) _ ?_)
     intro v7_0 v7_1 v7_2 v7_3 v7_4 v7_5 v7_6 v7_7 v7_8 v7_9 g8 w8 hb8 hg8;have HB8 := Hd (btr HB7.out hb8);have q1 := (hb8.block _ (lt_of_heap HG7.out)).trans HG7.out;have q2 := hg8;have s1_0 : w8.cell? ⟨g7, 0, none⟩ = some (.int .i64 m.dot.rep) := cl0 q1 0 rfl;have s1_1 : w8.cell? ⟨g7, 1, none⟩ = some (.int .i64 m.dot.ctr) := cl0 q1 1 rfl;have s1_2 : w8.cell? ⟨g7, 2, none⟩ = some (.int .i64 m.qty) := cl0 q1 2 rfl;have s1_3 : w8.cell? ⟨g7, 3, none⟩ = some (.int .u64 m.time) := cl0 q1 3 rfl;have s2_0 : w8.cell? ⟨g8, 0, none⟩ = some (.int .i64 y.dot.rep) := cl0 q2 0 rfl;have s2_1 : w8.cell? ⟨g8, 1, none⟩ = some (.int .i64 y.dot.ctr) := cl0 q2 1 rfl;have s2_2 : w8.cell? ⟨g8, 2, none⟩ = some (.int .i64 y.qty) := cl0 q2 2 rfl;have s2_3 : w8.cell? ⟨g8, 3, none⟩ = some (.int .u64 y.time) := cl0 q2 3 rfl;have HF1 : Hid (fitR1 a b x = decide (m = y)) := Hd (by unfold fitR1; rw [HNM.out, hmy, hmx]; rfl)
     clear hb8 hg8 q1 q2 hmx hmy;have heq : ∀ wz : World, Sem.run Tryz.prog (binOp .neq 54 (.agg #[.int .i64 m.dot.rep, .int .i64 m.dot.ctr, .int .i64 m.qty, .int .u64 m.time]) (.agg #[.int .i64 y.dot.rep, .int .i64 y.dot.ctr, .int .i64 y.qty, .int .u64 y.time])) wz = .ok (.bool (!decide (m = y))) wz := fun wz => neqMark m y wz
     have hgd : ∀ (op : BinOp) (p q : Operand) (wz : World), Sem.run Tryz.prog (eqGuard op 54 p q (.agg #[.int .i64 m.dot.rep, .int .i64 m.dot.ctr, .int .i64 m.qty, .int .u64 m.time]) (.agg #[.int .i64 y.dot.rep, .int .i64 y.dot.ctr, .int .i64 y.qty, .int .u64 y.time])) wz = .ok () wz := fun op p q wz => run_eqGuard_agg wz op 54 p q _ _ (by kernel_rfl)
     obtain ⟨r, hr⟩ : ∃ r, r = decide (m = y) := ⟨_, rfl⟩;rw [← hr] at HF1 heq;have HR := Hd hr;clear hr
     cases r with
     | false =>
      have HF := Hd (HBAD.out HF1.out)
      go_wp2_with fail
      go_ret
      exact ⟨by rw [HF.out]; rfl, HBW.out.trans ((HB4.out.trans (HB8.out.mono HB4.out.size)).mono HBW.out.size)⟩
     | true =>
      have HF : Hid ((D.take (k + 1)).all (fitR1 a b) = true) := Hd (by rw [HS1.out, HALL.out, HF1.out]; rfl)
      go_wp2_with fail
      go_roundw
      case rel => exact ⟨k + 1, by omega, by go_num, HF.out, HB8.out⟩
      case measure => simp [intOf]; omega
  ·have hke : k = D.length := by omega
   have HF : Hid (fitsR a b = true) := Hd (by have := HALL.out; rw [hke, List.take_length] at this; rw [HFR.out]; exact this)
   have a1 : ¬ ((k : Int) < D.length) := by omega
   clear HALL
   go_wp2_with fail
   go_ret
   exact ⟨by rw [HF.out]; rfl, HBW.out.trans ((HB4.out.trans (HB.out.mono HB4.out.size)).mono HBW.out.size)⟩
end Go.Proofs.YtemfaojmelljpaaGreatDoor

