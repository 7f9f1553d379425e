/- Law 11's known: its regions 4 and 6. -/
import Derived.Test.YtemfaojmelljpaaGreatDoorC24
import Derived.Test.YtemfaojmelljpaaGreatDoorRegC
set_option linter.unusedSimpArgs false
set_option linter.unusedVariables false
set_option maxRecDepth 100000
set_option maxHeartbeats 16000000
namespace Go.Proofs.YtemfaojmelljpaaGreatDoor
open Go.RowKit Go.Maps Go.Sort Go.Shelf

theorem rk1 {n : Nat} {fr : (Nat → Value) → Act} {S : World → Prop} {V : Nat → Value → World → Prop} {al : Nat → Bool} {listed : Array Bool} {w : World} {u : Nat → Value} {a' : Act} (i : Nat) {v : Value}
 (hP : ∀ j, j < n → listed.getD j false = true → V j (u j) w)
 (hD : ∀ i j, i ≠ j → i < n → j < n → al i = true → al j = true → listed.getD i false = true → listed.getD j false = true → u i ≠ u j)
 (hS : S w) (hv : V i v w) (ha : a' = fr (upd u i v)) (hf : al i = false := by rfl) : RegI n fr S V al (listed.setIfInBounds i true) a' w :=
 RegI.keep i _ hP hD (fun _ _ h => h) hS hv (fun h => by rw [hf] at h; cases h) ha
theorem pairs_nil (w : World) : PairsIs w (.slice none 0 0) [] := ⟨none, 0, rfl, fun k hk => absurd hk (Nat.not_lt_zero k)⟩
theorem mi_all {l : List MarkD} (h : l.all (fun m => decide ((-9223372036854775808 ≤ m.dot.rep ∧ m.dot.rep ≤ 9223372036854775807) ∧ (-9223372036854775808 ≤ m.dot.ctr ∧ m.dot.ctr ≤ 9223372036854775807) ∧ (-9223372036854775808 ≤ m.qty ∧ m.qty ≤ 9223372036854775807) ∧ (0 ≤ m.time ∧ m.time ≤ 18446744073709551615))) = true) : ∀ m ∈ l, MI m := fun m hm => by
 have h2 := List.all_eq_true.1 h m hm;simp only [decide_eq_true_eq] at h2;exact h2
theorem di_all {l : List DotD} (h : l.all (fun d => decide ((-9223372036854775808 ≤ d.rep ∧ d.rep ≤ 9223372036854775807) ∧ (-9223372036854775808 ≤ d.ctr ∧ d.ctr ≤ 9223372036854775807))) = true) : ∀ d ∈ l, DI d := fun d hd => by
 have h2 := List.all_eq_true.1 h d hd;simp only [decide_eq_true_eq] at h2;exact h2
def kd4 (j : Nat) : Kd := [.cart jX, .cart jY, .cart jXY, .val (.bool true), .val (.bool false), .val (.bool false), .cart jX, .cart jZ, .cart jZ, .val (.bool true), .val (.bool false), .val (.bool false), .val (.bool false), .cart jXY, .cart jZ, .cart jZ, .val (.bool true), .val (.bool false), .val (.bool false), .val (.bool false), .cart jX, .cart zeroC, .cart jX, .val (.bool true), .val (.bool false), .val (.bool false), .val (.bool false), .cart jX, .cart jT, .cart jT, .val (.bool true), .val (.bool false), .val (.bool false), .val (.bool false), .cart jY, .cart jX, .cart jY, .cart jZ, .carts [jY, jX, jY, jZ], .cart jZ, .val (.bool true), .val (.bool false), .val (.bool false), .val (.bool false), .cart jY, .pairs [⟨1, 1⟩], .cart jO, .pairs [⟨1, 1⟩, ⟨2, 1⟩], .val (.agg #[.int .i64 2, .int .i64 1, .int .i64 7, .int .u64 4]), .row [j2], .cart jOY, .val (.bool true), .val (.bool false), .val (.bool false)].getD j .free
theorem known4 (WL : World) (b1 b2 b3 b4 b5 b6 b7 b8 : Nat) (z9 z10 z11 z12 z13 z14 z15 z16 z17 z18 z19 z20 z21 z22 z23 z24 z25 z26 z27 z28 z29 z30 : Value) (hG : GlobIs WL) (m1 : MarkB WL b1 j1) (m2 : MarkB WL b2 j2) (h3 : CartB WL b3 jX) (h4 : CartB WL b4 jY) (h5 : CartB WL b5 jZ) (h6 : CartB WL b6 jT) (h7 : CartB WL b7 zeroC) (h8 : CartB WL b8 jXY) (R : Act → World → Prop) (hQ : ∀ (u : Nat → Value) (w : World), u 53 = .bool false → Below WL.heap.size WL w → R { tmps := #[.bool false, .pointer (some ⟨b1, 0, none⟩), .pointer (some ⟨b2, 0, none⟩), .pointer (some ⟨b3, 0, none⟩), .pointer (some ⟨b4, 0, none⟩), .pointer (some ⟨b5, 0, none⟩), .pointer (some ⟨b6, 0, none⟩), .pointer (some ⟨b7, 0, none⟩), .pointer (some ⟨b8, 0, none⟩), z9, z10, z11, z12, z13, z14, z15, z16, z17, z18, z19, z20, z21, z22, z23, z24, z25, z26, z27, z28, z29, z30, u 0, u 1, u 2, u 3, u 4, u 5, u 6, u 7, u 8, u 9, u 10, u 11, u 12, u 13, u 14, u 15, u 16, u 17, u 18, u 19, u 20, u 21, u 22, u 23, u 24, u 25, u 26, u 27, u 28, u 29, u 30, u 31, u 32, u 33, u 34, u 35, u 36, u 37, u 38, u 39, u 40, u 41, u 42, u 43, u 44, u 45, u 46, u 47, u 48, u 49, u 50, u 51, u 52, u 53, undef, undef, undef, undef, undef, undef, undef, undef, undef, undef, undef, undef, undef, undef, undef, undef, undef, undef, undef, undef, undef, undef, undef, undef, undef, undef, undef, undef, undef, undef, undef, undef, undef, undef, undef, undef], defers := [] } w) :
  (codeAt [1, 1, 1, 1, 0, 0] (Tryz.f9.body.getD .skip)).wp Tryz.prog (NQ R) { tmps := #[.bool false, .pointer (some ⟨b1, 0, none⟩), .pointer (some ⟨b2, 0, none⟩), .pointer (some ⟨b3, 0, none⟩), .pointer (some ⟨b4, 0, none⟩), .pointer (some ⟨b5, 0, none⟩), .pointer (some ⟨b6, 0, none⟩), .pointer (some ⟨b7, 0, none⟩), .pointer (some ⟨b8, 0, none⟩), z9, z10, z11, z12, z13, z14, z15, z16, z17, z18, z19, z20, z21, z22, z23, z24, z25, z26, z27, z28, z29, z30, undef, undef, undef, undef, undef, undef, undef, undef, undef, undef, undef, undef, undef, undef, undef, undef, undef, undef, undef, undef, undef, undef, undef, undef, undef, undef, undef, undef, undef, undef, undef, undef, undef, undef, undef, undef, undef, undef, undef, undef, undef, undef, undef, undef, undef, undef, undef, undef, undef, undef, undef, undef, undef, undef, undef, undef, undef, undef, undef, undef, undef, undef, undef, undef, undef, undef, undef, undef, undef, undef, undef, undef, undef, undef, undef, undef, undef, undef, undef, undef, undef, undef, undef, undef, undef, undef, undef, undef, undef, undef], defers := [] } WL := by
 have HB1 : Hid (∀ wz, Below WL.heap.size WL wz → wz.cell? ⟨b1, 0, none⟩ = some (.int .i64 1) ∧ wz.cell? ⟨b1, 1, none⟩ = some (.int .i64 1) ∧ wz.cell? ⟨b1, 2, none⟩ = some (.int .i64 5) ∧ wz.cell? ⟨b1, 3, none⟩ = some (.int .u64 3)) := Hd (fun wz hz => by
  have z : wz.heap[b1]? = _ := (hz.block _ (lt_of_heap m1)).trans m1;exact ⟨cl0 z 0 rfl, cl0 z 1 rfl, cl0 z 2 rfl, cl0 z 3 rfl⟩)
 have HB2 : Hid (∀ wz, Below WL.heap.size WL wz → wz.cell? ⟨b2, 0, none⟩ = some (.int .i64 2) ∧ wz.cell? ⟨b2, 1, none⟩ = some (.int .i64 1) ∧ wz.cell? ⟨b2, 2, none⟩ = some (.int .i64 7) ∧ wz.cell? ⟨b2, 3, none⟩ = some (.int .u64 4)) := Hd (fun wz hz => by
  have z : wz.heap[b2]? = _ := (hz.block _ (lt_of_heap m2)).trans m2;exact ⟨cl0 z 0 rfl, cl0 z 1 rfl, cl0 z 2 rfl, cl0 z 3 rfl⟩)
 obtain ⟨o31, n31, k31, o32, n32, k32, o33, n33, k33, q3, v3⟩ := h3;have HB3 : Hid (∀ wz, Below WL.heap.size WL wz → wz.cell? ⟨b3, 0, none⟩ = some (.slice o31 n31 k31) ∧ wz.cell? ⟨b3, 1, none⟩ = some (.slice o32 n32 k32) ∧ wz.cell? ⟨b3, 2, none⟩ = some (.slice o33 n33 k33)) := Hd (fun wz hz => by
  have z : wz.heap[b3]? = _ := (hz.block _ (lt_of_heap q3)).trans q3;exact ⟨cl0 z 0 rfl, cl0 z 1 rfl, cl0 z 2 rfl⟩)
 have HV3 := Hd (fun wz (hz : Below WL.heap.size WL wz) => v3.below hz)
 clear q3 v3;obtain ⟨o41, n41, k41, o42, n42, k42, o43, n43, k43, q4, v4⟩ := h4;have HB4 : Hid (∀ wz, Below WL.heap.size WL wz → wz.cell? ⟨b4, 0, none⟩ = some (.slice o41 n41 k41) ∧ wz.cell? ⟨b4, 1, none⟩ = some (.slice o42 n42 k42) ∧ wz.cell? ⟨b4, 2, none⟩ = some (.slice o43 n43 k43)) := Hd (fun wz hz => by
  have z : wz.heap[b4]? = _ := (hz.block _ (lt_of_heap q4)).trans q4;exact ⟨cl0 z 0 rfl, cl0 z 1 rfl, cl0 z 2 rfl⟩)
 have HV4 := Hd (fun wz (hz : Below WL.heap.size WL wz) => v4.below hz)
 clear q4 v4;obtain ⟨o51, n51, k51, o52, n52, k52, o53, n53, k53, q5, v5⟩ := h5;have HB5 : Hid (∀ wz, Below WL.heap.size WL wz → wz.cell? ⟨b5, 0, none⟩ = some (.slice o51 n51 k51) ∧ wz.cell? ⟨b5, 1, none⟩ = some (.slice o52 n52 k52) ∧ wz.cell? ⟨b5, 2, none⟩ = some (.slice o53 n53 k53)) := Hd (fun wz hz => by
  have z : wz.heap[b5]? = _ := (hz.block _ (lt_of_heap q5)).trans q5;exact ⟨cl0 z 0 rfl, cl0 z 1 rfl, cl0 z 2 rfl⟩)
 have HV5 := Hd (fun wz (hz : Below WL.heap.size WL wz) => v5.below hz)
 clear q5 v5;obtain ⟨o61, n61, k61, o62, n62, k62, o63, n63, k63, q6, v6⟩ := h6;have HB6 : Hid (∀ wz, Below WL.heap.size WL wz → wz.cell? ⟨b6, 0, none⟩ = some (.slice o61 n61 k61) ∧ wz.cell? ⟨b6, 1, none⟩ = some (.slice o62 n62 k62) ∧ wz.cell? ⟨b6, 2, none⟩ = some (.slice o63 n63 k63)) := Hd (fun wz hz => by
  have z : wz.heap[b6]? = _ := (hz.block _ (lt_of_heap q6)).trans q6;exact ⟨cl0 z 0 rfl, cl0 z 1 rfl, cl0 z 2 rfl⟩)
 have HV6 := Hd (fun wz (hz : Below WL.heap.size WL wz) => v6.below hz)
 clear q6 v6;obtain ⟨o71, n71, k71, o72, n72, k72, o73, n73, k73, q7, v7⟩ := h7;have HB7 : Hid (∀ wz, Below WL.heap.size WL wz → wz.cell? ⟨b7, 0, none⟩ = some (.slice o71 n71 k71) ∧ wz.cell? ⟨b7, 1, none⟩ = some (.slice o72 n72 k72) ∧ wz.cell? ⟨b7, 2, none⟩ = some (.slice o73 n73 k73)) := Hd (fun wz hz => by
  have z : wz.heap[b7]? = _ := (hz.block _ (lt_of_heap q7)).trans q7;exact ⟨cl0 z 0 rfl, cl0 z 1 rfl, cl0 z 2 rfl⟩)
 have HV7 := Hd (fun wz (hz : Below WL.heap.size WL wz) => v7.below hz)
 clear q7 v7;obtain ⟨o81, n81, k81, o82, n82, k82, o83, n83, k83, q8, v8⟩ := h8;have HB8 : Hid (∀ wz, Below WL.heap.size WL wz → wz.cell? ⟨b8, 0, none⟩ = some (.slice o81 n81 k81) ∧ wz.cell? ⟨b8, 1, none⟩ = some (.slice o82 n82 k82) ∧ wz.cell? ⟨b8, 2, none⟩ = some (.slice o83 n83 k83)) := Hd (fun wz hz => by
  have z : wz.heap[b8]? = _ := (hz.block _ (lt_of_heap q8)).trans q8;exact ⟨cl0 z 0 rfl, cl0 z 1 rfl, cl0 z 2 rfl⟩)
 have HV8 := Hd (fun wz (hz : Below WL.heap.size WL wz) => v8.below hz)
 clear q8 v8;have HGL := Hd hG;clear hG;simp only [codeAt, codeL, codeR, Tryz.f9, Option.getD_some];refine wp_region_any (by kernel_rfl) ?_
 try (change wpAny _ _ _ _ _ _ _ (World.drew _))
 refine wpAny_invB 54 #[true, true, true, true, true, true, true, true, true, true, true, true, true, true, true, true, true, true, true, true, true, true, true, true, true, true, true, true, true, true, true, true, true, true, true, true, true, true, true, true, true, true, true, true, true, true, true, true, true, true, true, true, true, true] (RegI 54 (fun u => { tmps := #[.bool false, .pointer (some ⟨b1, 0, none⟩), .pointer (some ⟨b2, 0, none⟩), .pointer (some ⟨b3, 0, none⟩), .pointer (some ⟨b4, 0, none⟩), .pointer (some ⟨b5, 0, none⟩), .pointer (some ⟨b6, 0, none⟩), .pointer (some ⟨b7, 0, none⟩), .pointer (some ⟨b8, 0, none⟩), z9, z10, z11, z12, z13, z14, z15, z16, z17, z18, z19, z20, z21, z22, z23, z24, z25, z26, z27, z28, z29, z30, u 0, u 1, u 2, u 3, u 4, u 5, u 6, u 7, u 8, u 9, u 10, u 11, u 12, u 13, u 14, u 15, u 16, u 17, u 18, u 19, u 20, u 21, u 22, u 23, u 24, u 25, u 26, u 27, u 28, u 29, u 30, u 31, u 32, u 33, u 34, u 35, u 36, u 37, u 38, u 39, u 40, u 41, u 42, u 43, u 44, u 45, u 46, u 47, u 48, u 49, u 50, u 51, u 52, u 53, undef, undef, undef, undef, undef, undef, undef, undef, undef, undef, undef, undef, undef, undef, undef, undef, undef, undef, undef, undef, undef, undef, undef, undef, undef, undef, undef, undef, undef, undef, undef, undef, undef, undef, undef, undef], defers := [] }) (fun w => Below WL.heap.size WL w) (fun j => (kd4 j).holds 0) (fun _ => false)) (by decide +kernel) (by decide +kernel) (by decide +kernel) (by decide +kernel) (by decide +kernel) ?_ ?_ _ _ (RegI.start (fun _ => undef) rfl bdr)
 ·intro i hi listed a w hl hI K hK
  obtain ⟨u, rfl, hS, hP, hD⟩ := hI
  have X := fun j (c : (decide (j < 54) && waitsB _ _ i j) = true) => hP j (of_decide_eq_true (Bool.and_eq_true_iff.1 c).1) (hl j (Bool.and_eq_true_iff.1 c).2);have hcase : i = 0 ∨ i = 1 ∨ i = 2 ∨ i = 3 ∨ i = 4 ∨ i = 5 ∨ i = 6 ∨ i = 7 ∨ i = 8 ∨ i = 9 ∨ i = 10 ∨ i = 11 ∨ i = 12 ∨ i = 13 ∨ i = 14 ∨ i = 15 ∨ i = 16 ∨ i = 17 ∨ i = 18 ∨ i = 19 ∨ i = 20 ∨ i = 21 ∨ i = 22 ∨ i = 23 ∨ i = 24 ∨ i = 25 ∨ i = 26 ∨ i = 27 ∨ i = 28 ∨ i = 29 ∨ i = 30 ∨ i = 31 ∨ i = 32 ∨ i = 33 ∨ i = 34 ∨ i = 35 ∨ i = 36 ∨ i = 37 ∨ i = 38 ∨ i = 39 ∨ i = 40 ∨ i = 41 ∨ i = 42 ∨ i = 43 ∨ i = 44 ∨ i = 45 ∨ i = 46 ∨ i = 47 ∨ i = 48 ∨ i = 49 ∨ i = 50 ∨ i = 51 ∨ i = 52 ∨ i = 53 := by omega
  clear hi
  rcases hcase with rfl | rfl | rfl | rfl | rfl | rfl | rfl | rfl | rfl | rfl | rfl | rfl | rfl | rfl | rfl | rfl | rfl | rfl | rfl | rfl | rfl | rfl | rfl | rfl | rfl | rfl | rfl | rfl | rfl | rfl | rfl | rfl | rfl | rfl | rfl | rfl | rfl | rfl | rfl | rfl | rfl | rfl | rfl | rfl | rfl | rfl | rfl | rfl | rfl | rfl | rfl | rfl | rfl | rfl
  ·clear hl X
   refine wpOp_of rfl ?_;obtain ⟨f0, f1, f2⟩ := HB3.out w hS;go_simp;refine hK _ _ (rk1 0 hP hD hS (HV3.out w hS) ?_);simp only [Act.put, s1, s2, s3, upd, Nat.reduceEqDiff, reduceIte]
  ·clear hl X
   refine wpOp_of rfl ?_;obtain ⟨f0, f1, f2⟩ := HB4.out w hS;go_simp;refine hK _ _ (rk1 1 hP hD hS (HV4.out w hS) ?_);simp only [Act.put, s1, s2, s3, upd, Nat.reduceEqDiff, reduceIte]
  ·clear hl X
   refine wpOp_of rfl ?_;obtain ⟨f0, f1, f2⟩ := HB8.out w hS;go_simp;refine hK _ _ (rk1 2 hP hD hS (HV8.out w hS) ?_);simp only [Act.put, s1, s2, s3, upd, Nat.reduceEqDiff, reduceIte]
  ·have h0 : Kd.holds 0 (.cart jX) (u 0) w := X 0 (by decide +kernel)
   have h1 : Kd.holds 0 (.cart jY) (u 1) w := X 1 (by decide +kernel)
   have h2 : Kd.holds 0 (.cart jXY) (u 2) w := X 2 (by decide +kernel)
   clear hl X;refine wpOp_of rfl ?_;go_simp
   go_at_call 11
   refine (joinsV h0 h1 h2 (ksz _ (by simp)) (ksz _ (by simp)) (HGL.out.below hS) k1).mono ?_
   rintro e w1 ⟨rfl, hb1⟩;go_simp;refine hK _ _ ?_;refine RegI.keep 3 _ hP hD (fun j v h => Kd.below hb1 (kd4 j) v h) (btr hS hb1) (rfl) (fun h => by simp at h) ?_
   simp only [Act.put, s1, s2, s3, upd, Nat.reduceEqDiff, reduceIte]
  ·have e3 : u 3 = .bool true := X 3 (by decide +kernel)
   clear hl X;simp only [e3];refine wpOp_of rfl ?_;go_simp;refine hK _ _ (rk1 4 hP hD hS (rfl) ?_);simp only [Act.put, s1, s2, s3, upd, Nat.reduceEqDiff, reduceIte, e3]
  ·have e4 : u 4 = .bool false := X 4 (by decide +kernel)
   clear hl X;simp only [e4];refine wpOp_of rfl ?_;go_simp;refine hK _ _ (rk1 5 hP hD hS (rfl) ?_);simp only [Act.put, s1, s2, s3, upd, Nat.reduceEqDiff, reduceIte, e4]
  ·have e5 : u 5 = .bool false := X 5 (by decide +kernel)
   clear hl X;simp only [e5];refine wpOp_of rfl ?_;obtain ⟨f0, f1, f2⟩ := HB3.out w hS;go_simp;refine hK _ _ (rk1 6 hP hD hS (HV3.out w hS) ?_);simp only [Act.put, s1, s2, s3, upd, Nat.reduceEqDiff, reduceIte, e5]
  ·have e5 : u 5 = .bool false := X 5 (by decide +kernel)
   clear hl X;simp only [e5];refine wpOp_of rfl ?_;obtain ⟨f0, f1, f2⟩ := HB5.out w hS;go_simp;refine hK _ _ (rk1 7 hP hD hS (HV5.out w hS) ?_);simp only [Act.put, s1, s2, s3, upd, Nat.reduceEqDiff, reduceIte, e5]
  ·have e5 : u 5 = .bool false := X 5 (by decide +kernel)
   clear hl X;simp only [e5];refine wpOp_of rfl ?_;obtain ⟨f0, f1, f2⟩ := HB5.out w hS;go_simp;refine hK _ _ (rk1 8 hP hD hS (HV5.out w hS) ?_);simp only [Act.put, s1, s2, s3, upd, Nat.reduceEqDiff, reduceIte, e5]
  ·have h6 : Kd.holds 0 (.cart jX) (u 6) w := X 6 (by decide +kernel)
   have h7 : Kd.holds 0 (.cart jZ) (u 7) w := X 7 (by decide +kernel)
   have h8 : Kd.holds 0 (.cart jZ) (u 8) w := X 8 (by decide +kernel)
   have e5 : u 5 = .bool false := X 5 (by decide +kernel)
   clear hl X;simp only [e5];refine wpOp_of rfl ?_;go_simp
   go_at_call 11
   refine (joinsV h6 h7 h8 (ksz _ (by simp)) (ksz _ (by simp)) (HGL.out.below hS) k2).mono ?_
   rintro e w1 ⟨rfl, hb1⟩;go_simp;refine hK _ _ ?_;refine RegI.keep 9 _ hP hD (fun j v h => Kd.below hb1 (kd4 j) v h) (btr hS hb1) (rfl) (fun h => by simp at h) ?_
   simp only [Act.put, s1, s2, s3, upd, Nat.reduceEqDiff, reduceIte, e5]
  ·have e9 : u 9 = .bool true := X 9 (by decide +kernel)
   have e5 : u 5 = .bool false := X 5 (by decide +kernel)
   clear hl X;simp only [e9, e5];refine wpOp_of rfl ?_;go_simp;refine hK _ _ (rk1 10 hP hD hS (rfl) ?_);simp only [Act.put, s1, s2, s3, upd, Nat.reduceEqDiff, reduceIte, e9, e5]
  ·have e5 : u 5 = .bool false := X 5 (by decide +kernel)
   have e10 : u 10 = .bool false := X 10 (by decide +kernel)
   clear hl X;simp only [e5, e10];refine wpOp_of rfl ?_;go_simp;refine hK _ _ (rk1 11 hP hD hS (rfl) ?_);simp only [Act.put, s1, s2, s3, upd, Nat.reduceEqDiff, reduceIte, e5, e10]
  ·have e11 : u 11 = .bool false := X 11 (by decide +kernel)
   clear hl X;simp only [e11];refine wpOp_of rfl ?_;go_simp;refine hK _ _ (rk1 12 hP hD hS (rfl) ?_);simp only [Act.put, s1, s2, s3, upd, Nat.reduceEqDiff, reduceIte, e11]
  ·have e12 : u 12 = .bool false := X 12 (by decide +kernel)
   clear hl X;simp only [e12];refine wpOp_of rfl ?_;obtain ⟨f0, f1, f2⟩ := HB8.out w hS;go_simp;refine hK _ _ (rk1 13 hP hD hS (HV8.out w hS) ?_);simp only [Act.put, s1, s2, s3, upd, Nat.reduceEqDiff, reduceIte, e12]
  ·have e12 : u 12 = .bool false := X 12 (by decide +kernel)
   clear hl X;simp only [e12];refine wpOp_of rfl ?_;obtain ⟨f0, f1, f2⟩ := HB5.out w hS;go_simp;refine hK _ _ (rk1 14 hP hD hS (HV5.out w hS) ?_);simp only [Act.put, s1, s2, s3, upd, Nat.reduceEqDiff, reduceIte, e12]
  ·have e12 : u 12 = .bool false := X 12 (by decide +kernel)
   clear hl X;simp only [e12];refine wpOp_of rfl ?_;obtain ⟨f0, f1, f2⟩ := HB5.out w hS;go_simp;refine hK _ _ (rk1 15 hP hD hS (HV5.out w hS) ?_);simp only [Act.put, s1, s2, s3, upd, Nat.reduceEqDiff, reduceIte, e12]
  ·have h13 : Kd.holds 0 (.cart jXY) (u 13) w := X 13 (by decide +kernel)
   have h14 : Kd.holds 0 (.cart jZ) (u 14) w := X 14 (by decide +kernel)
   have h15 : Kd.holds 0 (.cart jZ) (u 15) w := X 15 (by decide +kernel)
   have e12 : u 12 = .bool false := X 12 (by decide +kernel)
   clear hl X;simp only [e12];refine wpOp_of rfl ?_;go_simp
   go_at_call 11
   refine (joinsV h13 h14 h15 (ksz _ (by simp)) (ksz _ (by simp)) (HGL.out.below hS) k3).mono ?_
   rintro e w1 ⟨rfl, hb1⟩;go_simp;refine hK _ _ ?_;refine RegI.keep 16 _ hP hD (fun j v h => Kd.below hb1 (kd4 j) v h) (btr hS hb1) (rfl) (fun h => by simp at h) ?_
   simp only [Act.put, s1, s2, s3, upd, Nat.reduceEqDiff, reduceIte, e12]
  ·have e16 : u 16 = .bool true := X 16 (by decide +kernel)
   have e12 : u 12 = .bool false := X 12 (by decide +kernel)
   clear hl X;simp only [e16, e12];refine wpOp_of rfl ?_;go_simp;refine hK _ _ (rk1 17 hP hD hS (rfl) ?_);simp only [Act.put, s1, s2, s3, upd, Nat.reduceEqDiff, reduceIte, e16, e12]
  ·have e12 : u 12 = .bool false := X 12 (by decide +kernel)
   have e17 : u 17 = .bool false := X 17 (by decide +kernel)
   clear hl X;simp only [e12, e17];refine wpOp_of rfl ?_;go_simp;refine hK _ _ (rk1 18 hP hD hS (rfl) ?_);simp only [Act.put, s1, s2, s3, upd, Nat.reduceEqDiff, reduceIte, e12, e17]
  ·have e18 : u 18 = .bool false := X 18 (by decide +kernel)
   clear hl X;simp only [e18];refine wpOp_of rfl ?_;go_simp;refine hK _ _ (rk1 19 hP hD hS (rfl) ?_);simp only [Act.put, s1, s2, s3, upd, Nat.reduceEqDiff, reduceIte, e18]
  ·have e19 : u 19 = .bool false := X 19 (by decide +kernel)
   clear hl X;simp only [e19];refine wpOp_of rfl ?_;obtain ⟨f0, f1, f2⟩ := HB3.out w hS;go_simp;refine hK _ _ (rk1 20 hP hD hS (HV3.out w hS) ?_);simp only [Act.put, s1, s2, s3, upd, Nat.reduceEqDiff, reduceIte, e19]
  ·have e19 : u 19 = .bool false := X 19 (by decide +kernel)
   clear hl X;simp only [e19];refine wpOp_of rfl ?_;obtain ⟨f0, f1, f2⟩ := HB7.out w hS;go_simp;refine hK _ _ (rk1 21 hP hD hS (HV7.out w hS) ?_);simp only [Act.put, s1, s2, s3, upd, Nat.reduceEqDiff, reduceIte, e19]
  ·have e19 : u 19 = .bool false := X 19 (by decide +kernel)
   clear hl X;simp only [e19];refine wpOp_of rfl ?_;obtain ⟨f0, f1, f2⟩ := HB3.out w hS;go_simp;refine hK _ _ (rk1 22 hP hD hS (HV3.out w hS) ?_);simp only [Act.put, s1, s2, s3, upd, Nat.reduceEqDiff, reduceIte, e19]
  ·have h20 : Kd.holds 0 (.cart jX) (u 20) w := X 20 (by decide +kernel)
   have h21 : Kd.holds 0 (.cart zeroC) (u 21) w := X 21 (by decide +kernel)
   have h22 : Kd.holds 0 (.cart jX) (u 22) w := X 22 (by decide +kernel)
   have e19 : u 19 = .bool false := X 19 (by decide +kernel)
   clear hl X;simp only [e19];refine wpOp_of rfl ?_;go_simp
   go_at_call 11
   refine (joinsV h20 h21 h22 (ksz _ (by simp)) (ksz _ (by simp)) (HGL.out.below hS) k4).mono ?_
   rintro e w1 ⟨rfl, hb1⟩;go_simp;refine hK _ _ ?_;refine RegI.keep 23 _ hP hD (fun j v h => Kd.below hb1 (kd4 j) v h) (btr hS hb1) (rfl) (fun h => by simp at h) ?_
   simp only [Act.put, s1, s2, s3, upd, Nat.reduceEqDiff, reduceIte, e19]
  ·have e23 : u 23 = .bool true := X 23 (by decide +kernel)
   have e19 : u 19 = .bool false := X 19 (by decide +kernel)
   clear hl X;simp only [e23, e19];refine wpOp_of rfl ?_;go_simp;refine hK _ _ (rk1 24 hP hD hS (rfl) ?_);simp only [Act.put, s1, s2, s3, upd, Nat.reduceEqDiff, reduceIte, e23, e19]
  ·have e19 : u 19 = .bool false := X 19 (by decide +kernel)
   have e24 : u 24 = .bool false := X 24 (by decide +kernel)
   clear hl X;simp only [e19, e24];refine wpOp_of rfl ?_;go_simp;refine hK _ _ (rk1 25 hP hD hS (rfl) ?_);simp only [Act.put, s1, s2, s3, upd, Nat.reduceEqDiff, reduceIte, e19, e24]
  ·have e25 : u 25 = .bool false := X 25 (by decide +kernel)
   clear hl X;simp only [e25];refine wpOp_of rfl ?_;go_simp;refine hK _ _ (rk1 26 hP hD hS (rfl) ?_);simp only [Act.put, s1, s2, s3, upd, Nat.reduceEqDiff, reduceIte, e25]
  ·have e26 : u 26 = .bool false := X 26 (by decide +kernel)
   clear hl X;simp only [e26];refine wpOp_of rfl ?_;obtain ⟨f0, f1, f2⟩ := HB3.out w hS;go_simp;refine hK _ _ (rk1 27 hP hD hS (HV3.out w hS) ?_);simp only [Act.put, s1, s2, s3, upd, Nat.reduceEqDiff, reduceIte, e26]
  ·have e26 : u 26 = .bool false := X 26 (by decide +kernel)
   clear hl X;simp only [e26];refine wpOp_of rfl ?_;obtain ⟨f0, f1, f2⟩ := HB6.out w hS;go_simp;refine hK _ _ (rk1 28 hP hD hS (HV6.out w hS) ?_);simp only [Act.put, s1, s2, s3, upd, Nat.reduceEqDiff, reduceIte, e26]
  ·have e26 : u 26 = .bool false := X 26 (by decide +kernel)
   clear hl X;simp only [e26];refine wpOp_of rfl ?_;obtain ⟨f0, f1, f2⟩ := HB6.out w hS;go_simp;refine hK _ _ (rk1 29 hP hD hS (HV6.out w hS) ?_);simp only [Act.put, s1, s2, s3, upd, Nat.reduceEqDiff, reduceIte, e26]
  ·have h27 : Kd.holds 0 (.cart jX) (u 27) w := X 27 (by decide +kernel)
   have h28 : Kd.holds 0 (.cart jT) (u 28) w := X 28 (by decide +kernel)
   have h29 : Kd.holds 0 (.cart jT) (u 29) w := X 29 (by decide +kernel)
   have e26 : u 26 = .bool false := X 26 (by decide +kernel)
   clear hl X;simp only [e26];refine wpOp_of rfl ?_;go_simp
   go_at_call 11
   refine (joinsV h27 h28 h29 (ksz _ (by simp)) (ksz _ (by simp)) (HGL.out.below hS) k5).mono ?_
   rintro e w1 ⟨rfl, hb1⟩;go_simp;refine hK _ _ ?_;refine RegI.keep 30 _ hP hD (fun j v h => Kd.below hb1 (kd4 j) v h) (btr hS hb1) (rfl) (fun h => by simp at h) ?_
   simp only [Act.put, s1, s2, s3, upd, Nat.reduceEqDiff, reduceIte, e26]
  ·have e30 : u 30 = .bool true := X 30 (by decide +kernel)
   have e26 : u 26 = .bool false := X 26 (by decide +kernel)
   clear hl X;simp only [e30, e26];refine wpOp_of rfl ?_;go_simp;refine hK _ _ (rk1 31 hP hD hS (rfl) ?_);simp only [Act.put, s1, s2, s3, upd, Nat.reduceEqDiff, reduceIte, e30, e26]
  ·have e26 : u 26 = .bool false := X 26 (by decide +kernel)
   have e31 : u 31 = .bool false := X 31 (by decide +kernel)
   clear hl X;simp only [e26, e31];refine wpOp_of rfl ?_;go_simp;refine hK _ _ (rk1 32 hP hD hS (rfl) ?_);simp only [Act.put, s1, s2, s3, upd, Nat.reduceEqDiff, reduceIte, e26, e31]
  ·have e32 : u 32 = .bool false := X 32 (by decide +kernel)
   clear hl X;simp only [e32];refine wpOp_of rfl ?_;go_simp;refine hK _ _ (rk1 33 hP hD hS (rfl) ?_);simp only [Act.put, s1, s2, s3, upd, Nat.reduceEqDiff, reduceIte, e32]
  ·have e33 : u 33 = .bool false := X 33 (by decide +kernel)
   clear hl X;simp only [e33];refine wpOp_of rfl ?_;obtain ⟨f0, f1, f2⟩ := HB4.out w hS;go_simp;refine hK _ _ (rk1 34 hP hD hS (HV4.out w hS) ?_);simp only [Act.put, s1, s2, s3, upd, Nat.reduceEqDiff, reduceIte, e33]
  ·have e33 : u 33 = .bool false := X 33 (by decide +kernel)
   clear hl X;simp only [e33];refine wpOp_of rfl ?_;obtain ⟨f0, f1, f2⟩ := HB3.out w hS;go_simp;refine hK _ _ (rk1 35 hP hD hS (HV3.out w hS) ?_);simp only [Act.put, s1, s2, s3, upd, Nat.reduceEqDiff, reduceIte, e33]
  ·have e33 : u 33 = .bool false := X 33 (by decide +kernel)
   clear hl X;simp only [e33];refine wpOp_of rfl ?_;obtain ⟨f0, f1, f2⟩ := HB4.out w hS;go_simp;refine hK _ _ (rk1 36 hP hD hS (HV4.out w hS) ?_);simp only [Act.put, s1, s2, s3, upd, Nat.reduceEqDiff, reduceIte, e33]
  ·have e33 : u 33 = .bool false := X 33 (by decide +kernel)
   clear hl X;simp only [e33];refine wpOp_of rfl ?_;obtain ⟨f0, f1, f2⟩ := HB5.out w hS;go_simp;refine hK _ _ (rk1 37 hP hD hS (HV5.out w hS) ?_);simp only [Act.put, s1, s2, s3, upd, Nat.reduceEqDiff, reduceIte, e33]
  ·have h34 : Kd.holds 0 (.cart jY) (u 34) w := X 34 (by decide +kernel)
   have h35 : Kd.holds 0 (.cart jX) (u 35) w := X 35 (by decide +kernel)
   have h36 : Kd.holds 0 (.cart jY) (u 36) w := X 36 (by decide +kernel)
   have h37 : Kd.holds 0 (.cart jZ) (u 37) w := X 37 (by decide +kernel)
   have e33 : u 33 = .bool false := X 33 (by decide +kernel)
   clear hl X;simp only [e33];refine wpOp_of rfl ?_;obtain ⟨_, _, _, _, _, _, _, _, _, e34, g34, -⟩ := h34;obtain ⟨_, _, _, _, _, _, _, _, _, e35, g35, -⟩ := h35;obtain ⟨_, _, _, _, _, _, _, _, _, e36, g36, -⟩ := h36;obtain ⟨_, _, _, _, _, _, _, _, _, e37, g37, -⟩ := h37;simp only [e34, e35, e36, e37];go_simp;refine hK _ _ ?_;refine RegI.keep 38 _ hP hD (fun j v h => Kd.below (bal) (kd4 j) v h) (hS.alloc hS.size _) (carts_lit4 w _ g34 g35 g36 g37) (fun h => by simp at h) ?_
   simp only [Act.put, s1, s2, s3, upd, Nat.reduceEqDiff, reduceIte, e33, e34, e35, e36, e37]
  ·have e33 : u 33 = .bool false := X 33 (by decide +kernel)
   clear hl X;simp only [e33];refine wpOp_of rfl ?_;obtain ⟨f0, f1, f2⟩ := HB5.out w hS;go_simp;refine hK _ _ (rk1 39 hP hD hS (HV5.out w hS) ?_);simp only [Act.put, s1, s2, s3, upd, Nat.reduceEqDiff, reduceIte, e33]
  ·have h38 : Kd.holds 0 (.carts [jY, jX, jY, jZ]) (u 38) w := X 38 (by decide +kernel)
   have h39 : Kd.holds 0 (.cart jZ) (u 39) w := X 39 (by decide +kernel)
   have e33 : u 33 = .bool false := X 33 (by decide +kernel)
   clear hl X;simp only [e33];refine wpOp_of rfl ?_;go_simp
   go_at_call 17
   refine (allV' h38 h39 (by decide) kcl (HGL.out.below hS) k6).mono ?_
   rintro e w1 ⟨rfl, hb1⟩;go_simp;refine hK _ _ ?_;refine RegI.keep 40 _ hP hD (fun j v h => Kd.below hb1 (kd4 j) v h) (btr hS hb1) (rfl) (fun h => by simp at h) ?_
   simp only [Act.put, s1, s2, s3, upd, Nat.reduceEqDiff, reduceIte, e33]
  ·have e40 : u 40 = .bool true := X 40 (by decide +kernel)
   have e33 : u 33 = .bool false := X 33 (by decide +kernel)
   clear hl X;simp only [e40, e33];refine wpOp_of rfl ?_;go_simp;refine hK _ _ (rk1 41 hP hD hS (rfl) ?_);simp only [Act.put, s1, s2, s3, upd, Nat.reduceEqDiff, reduceIte, e40, e33]
  ·have e33 : u 33 = .bool false := X 33 (by decide +kernel)
   have e41 : u 41 = .bool false := X 41 (by decide +kernel)
   clear hl X;simp only [e33, e41];refine wpOp_of rfl ?_;go_simp;refine hK _ _ (rk1 42 hP hD hS (rfl) ?_);simp only [Act.put, s1, s2, s3, upd, Nat.reduceEqDiff, reduceIte, e33, e41]
  ·have e42 : u 42 = .bool false := X 42 (by decide +kernel)
   clear hl X;simp only [e42];refine wpOp_of rfl ?_;go_simp;refine hK _ _ (rk1 43 hP hD hS (rfl) ?_);simp only [Act.put, s1, s2, s3, upd, Nat.reduceEqDiff, reduceIte, e42]
  ·have e43 : u 43 = .bool false := X 43 (by decide +kernel)
   clear hl X;simp only [e43];refine wpOp_of rfl ?_;obtain ⟨f0, f1, f2⟩ := HB4.out w hS;go_simp;refine hK _ _ (rk1 44 hP hD hS (HV4.out w hS) ?_);simp only [Act.put, s1, s2, s3, upd, Nat.reduceEqDiff, reduceIte, e43]
  ·have e43 : u 43 = .bool false := X 43 (by decide +kernel)
   clear hl X;simp only [e43];refine wpOp_of rfl ?_;go_simp;refine hK _ _ ?_;refine RegI.keep 45 _ hP hD (fun j v h => Kd.below (bal) (kd4 j) v h) (hS.alloc hS.size _) (pairs_lit1 w 1 1 _) (fun h => by simp at h) ?_
   simp only [Act.put, s1, s2, s3, upd, Nat.reduceEqDiff, reduceIte, e43]
  ·have h45 : Kd.holds 0 (.pairs [⟨1, 1⟩]) (u 45) w := X 45 (by decide +kernel)
   have e43 : u 43 = .bool false := X 43 (by decide +kernel)
   clear hl X;simp only [e43];refine wpOp_of rfl ?_;go_simp
   go_at_call 26
   refine (ofV h45 (Enc.Row.nil _ _) (mi_all (by decide)) (di_all (by decide)) (by decide) (show _ = jO by decide)).mono ?_
   rintro e w1 ⟨v1, rfl, hv1, hb1⟩;go_simp;refine hK _ _ ?_;refine RegI.keep 46 _ hP hD (fun j v h => Kd.below hb1 (kd4 j) v h) (btr hS hb1) (hv1) (fun h => by simp at h) ?_
   simp only [Act.put, s1, s2, s3, upd, Nat.reduceEqDiff, reduceIte, e43]
  ·have e43 : u 43 = .bool false := X 43 (by decide +kernel)
   clear hl X;simp only [e43];refine wpOp_of rfl ?_;go_simp;refine hK _ _ ?_;refine RegI.keep 47 _ hP hD (fun j v h => Kd.below (bal) (kd4 j) v h) (hS.alloc hS.size _) (pairs_lit2 w 1 1 2 1 _) (fun h => by simp at h) ?_
   simp only [Act.put, s1, s2, s3, upd, Nat.reduceEqDiff, reduceIte, e43]
  ·have e43 : u 43 = .bool false := X 43 (by decide +kernel)
   clear hl X;simp only [e43];refine wpOp_of rfl ?_;obtain ⟨f0, f1, f2, f3⟩ := HB2.out w hS;go_simp;refine hK _ _ (rk1 48 hP hD hS (rfl) ?_);simp only [Act.put, s1, s2, s3, upd, Nat.reduceEqDiff, reduceIte, e43]
  ·have e48 : u 48 = .agg #[.int .i64 2, .int .i64 1, .int .i64 7, .int .u64 4] := X 48 (by decide +kernel)
   have e43 : u 43 = .bool false := X 43 (by decide +kernel)
   clear hl X;simp only [e48, e43];refine wpOp_of rfl ?_;go_simp;refine hK _ _ ?_;refine RegI.keep 49 _ hP hD (fun j v h => Kd.below (bal) (kd4 j) v h) (hS.alloc hS.size _) (marks_lit w [j2] _ 1 rfl rfl (by decide)) (fun h => by simp at h) ?_
   simp only [Act.put, s1, s2, s3, upd, Nat.reduceEqDiff, reduceIte, e48, e43]
  ·have h47 : Kd.holds 0 (.pairs [⟨1, 1⟩, ⟨2, 1⟩]) (u 47) w := X 47 (by decide +kernel)
   have h49 : Kd.holds 0 (.row [j2]) (u 49) w := X 49 (by decide +kernel)
   have e43 : u 43 = .bool false := X 43 (by decide +kernel)
   clear hl X;simp only [e43];refine wpOp_of rfl ?_;go_simp
   go_at_call 26
   refine (ofV h47 h49 (mi_all (by decide)) (di_all (by decide)) (by decide) (show _ = jOY by decide)).mono ?_
   rintro e w1 ⟨v1, rfl, hv1, hb1⟩;go_simp;refine hK _ _ ?_;refine RegI.keep 50 _ hP hD (fun j v h => Kd.below hb1 (kd4 j) v h) (btr hS hb1) (hv1) (fun h => by simp at h) ?_
   simp only [Act.put, s1, s2, s3, upd, Nat.reduceEqDiff, reduceIte, e43]
  ·have h44 : Kd.holds 0 (.cart jY) (u 44) w := X 44 (by decide +kernel)
   have h46 : Kd.holds 0 (.cart jO) (u 46) w := X 46 (by decide +kernel)
   have h50 : Kd.holds 0 (.cart jOY) (u 50) w := X 50 (by decide +kernel)
   have e43 : u 43 = .bool false := X 43 (by decide +kernel)
   clear hl X;simp only [e43];refine wpOp_of rfl ?_;go_simp
   go_at_call 11
   refine (joinsV h44 h46 h50 (ksz _ (by simp)) (ksz _ (by simp)) (HGL.out.below hS) k7).mono ?_
   rintro e w1 ⟨rfl, hb1⟩;go_simp;refine hK _ _ ?_;refine RegI.keep 51 _ hP hD (fun j v h => Kd.below hb1 (kd4 j) v h) (btr hS hb1) (rfl) (fun h => by simp at h) ?_
   simp only [Act.put, s1, s2, s3, upd, Nat.reduceEqDiff, reduceIte, e43]
  ·have e51 : u 51 = .bool true := X 51 (by decide +kernel)
   have e43 : u 43 = .bool false := X 43 (by decide +kernel)
   clear hl X;simp only [e51, e43];refine wpOp_of rfl ?_;go_simp;refine hK _ _ (rk1 52 hP hD hS (rfl) ?_);simp only [Act.put, s1, s2, s3, upd, Nat.reduceEqDiff, reduceIte, e51, e43]
  ·have e43 : u 43 = .bool false := X 43 (by decide +kernel)
   have e52 : u 52 = .bool false := X 52 (by decide +kernel)
   clear hl X;simp only [e43, e52];refine wpOp_of rfl ?_;go_simp;refine hK _ _ (rk1 53 hP hD hS (rfl) ?_);simp only [Act.put, s1, s2, s3, upd, Nat.reduceEqDiff, reduceIte, e43, e52]
 ·intro a w hI
  obtain ⟨u, rfl, hS, hP, hD⟩ := hI;refine wpAny_done (by kernel_rfl) ?_ _
  simp only [NQ];exact hQ u w (hP 53 (by decide) (by decide +kernel)) hS
def kd6 (j : Nat) : Kd := [.cart jX, .cart jXY, .val (.bool true), .val (.bool true), .cart jX, .cart jY, .val (.bool true), .val (.bool true), .val (.bool true), .cart jX, .cart jZ, .val (.bool true), .val (.bool true), .val (.bool true), .cart jX, .cart jY, .val (.bool true), .val (.bool true), .val (.bool true), .cart jX, .cart jT, .val (.bool true), .val (.bool true), .val (.bool true), .cart jX, .cart jZ, .val (.bool true), .val (.bool true), .val (.bool true), .cart jX, .val (.agg #[.int .i64 1, .int .i64 1, .int .i64 5, .int .u64 3]), .row [j1], .cart jB, .cart zeroC, .val (.bool true), .val (.bool true), .val (.bool true)].getD j .free
theorem known6 (WL : World) (b1 b2 b3 b4 b5 b6 b7 b8 : Nat) (z9 z10 z11 z12 z13 z14 z15 z16 z17 z18 z19 z20 z21 z22 z23 z24 z25 z26 z27 z28 z29 z30 z31 z32 z33 z34 z35 z36 z37 z38 z39 z40 z41 z42 z43 z44 z45 z46 z47 z48 z49 z50 z51 z52 z53 z54 z55 z56 z57 z58 z59 z60 z61 z62 z63 z64 z65 z66 z67 z68 z69 z70 z71 z72 z73 z74 z75 z76 z77 z78 z79 z80 z81 z82 z83 z84 : Value) (hG : GlobIs WL) (m1 : MarkB WL b1 j1) (m2 : MarkB WL b2 j2) (h3 : CartB WL b3 jX) (h4 : CartB WL b4 jY) (h5 : CartB WL b5 jZ) (h6 : CartB WL b6 jT) (h7 : CartB WL b7 zeroC) (h8 : CartB WL b8 jXY) (R : Act → World → Prop) (hQ : ∀ (u : Nat → Value) (w : World), u 36 = .bool true → Below WL.heap.size WL w → R { tmps := #[u 36, .pointer (some ⟨b1, 0, none⟩), .pointer (some ⟨b2, 0, none⟩), .pointer (some ⟨b3, 0, none⟩), .pointer (some ⟨b4, 0, none⟩), .pointer (some ⟨b5, 0, none⟩), .pointer (some ⟨b6, 0, none⟩), .pointer (some ⟨b7, 0, none⟩), .pointer (some ⟨b8, 0, none⟩), z9, z10, z11, z12, z13, z14, z15, z16, z17, z18, z19, z20, z21, z22, z23, z24, z25, z26, z27, z28, z29, z30, z31, z32, z33, z34, z35, z36, z37, z38, z39, z40, z41, z42, z43, z44, z45, z46, z47, z48, z49, z50, z51, z52, z53, z54, z55, z56, z57, z58, z59, z60, z61, z62, z63, z64, z65, z66, z67, z68, z69, z70, z71, z72, z73, z74, z75, z76, z77, z78, z79, z80, z81, z82, z83, z84, u 0, u 1, u 2, u 3, u 4, u 5, u 6, u 7, u 8, u 9, u 10, u 11, u 12, u 13, u 14, u 15, u 16, u 17, u 18, u 19, u 20, u 21, u 22, u 23, u 24, u 25, u 26, u 27, u 28, u 29, u 30, u 31, u 32, u 33, u 34, u 35], defers := [] } w) :
  (codeAt [1, 1, 1, 1, 1, 0] (Tryz.f9.body.getD .skip)).wp Tryz.prog (NQ R) { tmps := #[.bool false, .pointer (some ⟨b1, 0, none⟩), .pointer (some ⟨b2, 0, none⟩), .pointer (some ⟨b3, 0, none⟩), .pointer (some ⟨b4, 0, none⟩), .pointer (some ⟨b5, 0, none⟩), .pointer (some ⟨b6, 0, none⟩), .pointer (some ⟨b7, 0, none⟩), .pointer (some ⟨b8, 0, none⟩), z9, z10, z11, z12, z13, z14, z15, z16, z17, z18, z19, z20, z21, z22, z23, z24, z25, z26, z27, z28, z29, z30, z31, z32, z33, z34, z35, z36, z37, z38, z39, z40, z41, z42, z43, z44, z45, z46, z47, z48, z49, z50, z51, z52, z53, z54, z55, z56, z57, z58, z59, z60, z61, z62, z63, z64, z65, z66, z67, z68, z69, z70, z71, z72, z73, z74, z75, z76, z77, z78, z79, z80, z81, z82, z83, z84, undef, undef, undef, undef, undef, undef, undef, undef, undef, undef, undef, undef, undef, undef, undef, undef, undef, undef, undef, undef, undef, undef, undef, undef, undef, undef, undef, undef, undef, undef, undef, undef, undef, undef, undef, undef], defers := [] } WL := by
 have HB1 : Hid (∀ wz, Below WL.heap.size WL wz → wz.cell? ⟨b1, 0, none⟩ = some (.int .i64 1) ∧ wz.cell? ⟨b1, 1, none⟩ = some (.int .i64 1) ∧ wz.cell? ⟨b1, 2, none⟩ = some (.int .i64 5) ∧ wz.cell? ⟨b1, 3, none⟩ = some (.int .u64 3)) := Hd (fun wz hz => by
  have z : wz.heap[b1]? = _ := (hz.block _ (lt_of_heap m1)).trans m1;exact ⟨cl0 z 0 rfl, cl0 z 1 rfl, cl0 z 2 rfl, cl0 z 3 rfl⟩)
 have HB2 : Hid (∀ wz, Below WL.heap.size WL wz → wz.cell? ⟨b2, 0, none⟩ = some (.int .i64 2) ∧ wz.cell? ⟨b2, 1, none⟩ = some (.int .i64 1) ∧ wz.cell? ⟨b2, 2, none⟩ = some (.int .i64 7) ∧ wz.cell? ⟨b2, 3, none⟩ = some (.int .u64 4)) := Hd (fun wz hz => by
  have z : wz.heap[b2]? = _ := (hz.block _ (lt_of_heap m2)).trans m2;exact ⟨cl0 z 0 rfl, cl0 z 1 rfl, cl0 z 2 rfl, cl0 z 3 rfl⟩)
 obtain ⟨o31, n31, k31, o32, n32, k32, o33, n33, k33, q3, v3⟩ := h3;have HB3 : Hid (∀ wz, Below WL.heap.size WL wz → wz.cell? ⟨b3, 0, none⟩ = some (.slice o31 n31 k31) ∧ wz.cell? ⟨b3, 1, none⟩ = some (.slice o32 n32 k32) ∧ wz.cell? ⟨b3, 2, none⟩ = some (.slice o33 n33 k33)) := Hd (fun wz hz => by
  have z : wz.heap[b3]? = _ := (hz.block _ (lt_of_heap q3)).trans q3;exact ⟨cl0 z 0 rfl, cl0 z 1 rfl, cl0 z 2 rfl⟩)
 have HV3 := Hd (fun wz (hz : Below WL.heap.size WL wz) => v3.below hz)
 clear q3 v3;obtain ⟨o41, n41, k41, o42, n42, k42, o43, n43, k43, q4, v4⟩ := h4;have HB4 : Hid (∀ wz, Below WL.heap.size WL wz → wz.cell? ⟨b4, 0, none⟩ = some (.slice o41 n41 k41) ∧ wz.cell? ⟨b4, 1, none⟩ = some (.slice o42 n42 k42) ∧ wz.cell? ⟨b4, 2, none⟩ = some (.slice o43 n43 k43)) := Hd (fun wz hz => by
  have z : wz.heap[b4]? = _ := (hz.block _ (lt_of_heap q4)).trans q4;exact ⟨cl0 z 0 rfl, cl0 z 1 rfl, cl0 z 2 rfl⟩)
 have HV4 := Hd (fun wz (hz : Below WL.heap.size WL wz) => v4.below hz)
 clear q4 v4;obtain ⟨o51, n51, k51, o52, n52, k52, o53, n53, k53, q5, v5⟩ := h5;have HB5 : Hid (∀ wz, Below WL.heap.size WL wz → wz.cell? ⟨b5, 0, none⟩ = some (.slice o51 n51 k51) ∧ wz.cell? ⟨b5, 1, none⟩ = some (.slice o52 n52 k52) ∧ wz.cell? ⟨b5, 2, none⟩ = some (.slice o53 n53 k53)) := Hd (fun wz hz => by
  have z : wz.heap[b5]? = _ := (hz.block _ (lt_of_heap q5)).trans q5;exact ⟨cl0 z 0 rfl, cl0 z 1 rfl, cl0 z 2 rfl⟩)
 have HV5 := Hd (fun wz (hz : Below WL.heap.size WL wz) => v5.below hz)
 clear q5 v5;obtain ⟨o61, n61, k61, o62, n62, k62, o63, n63, k63, q6, v6⟩ := h6;have HB6 : Hid (∀ wz, Below WL.heap.size WL wz → wz.cell? ⟨b6, 0, none⟩ = some (.slice o61 n61 k61) ∧ wz.cell? ⟨b6, 1, none⟩ = some (.slice o62 n62 k62) ∧ wz.cell? ⟨b6, 2, none⟩ = some (.slice o63 n63 k63)) := Hd (fun wz hz => by
  have z : wz.heap[b6]? = _ := (hz.block _ (lt_of_heap q6)).trans q6;exact ⟨cl0 z 0 rfl, cl0 z 1 rfl, cl0 z 2 rfl⟩)
 have HV6 := Hd (fun wz (hz : Below WL.heap.size WL wz) => v6.below hz)
 clear q6 v6;obtain ⟨o71, n71, k71, o72, n72, k72, o73, n73, k73, q7, v7⟩ := h7;have HB7 : Hid (∀ wz, Below WL.heap.size WL wz → wz.cell? ⟨b7, 0, none⟩ = some (.slice o71 n71 k71) ∧ wz.cell? ⟨b7, 1, none⟩ = some (.slice o72 n72 k72) ∧ wz.cell? ⟨b7, 2, none⟩ = some (.slice o73 n73 k73)) := Hd (fun wz hz => by
  have z : wz.heap[b7]? = _ := (hz.block _ (lt_of_heap q7)).trans q7;exact ⟨cl0 z 0 rfl, cl0 z 1 rfl, cl0 z 2 rfl⟩)
 have HV7 := Hd (fun wz (hz : Below WL.heap.size WL wz) => v7.below hz)
 clear q7 v7;obtain ⟨o81, n81, k81, o82, n82, k82, o83, n83, k83, q8, v8⟩ := h8;have HB8 : Hid (∀ wz, Below WL.heap.size WL wz → wz.cell? ⟨b8, 0, none⟩ = some (.slice o81 n81 k81) ∧ wz.cell? ⟨b8, 1, none⟩ = some (.slice o82 n82 k82) ∧ wz.cell? ⟨b8, 2, none⟩ = some (.slice o83 n83 k83)) := Hd (fun wz hz => by
  have z : wz.heap[b8]? = _ := (hz.block _ (lt_of_heap q8)).trans q8;exact ⟨cl0 z 0 rfl, cl0 z 1 rfl, cl0 z 2 rfl⟩)
 have HV8 := Hd (fun wz (hz : Below WL.heap.size WL wz) => v8.below hz)
 clear q8 v8;have HGL := Hd hG;clear hG;simp only [codeAt, codeL, codeR, Tryz.f9, Option.getD_some];refine wp_region_any (by kernel_rfl) ?_
 try (change wpAny _ _ _ _ _ _ _ (World.drew _))
 refine wpAny_invB 37 #[true, true, true, true, true, true, true, true, true, true, true, true, true, true, true, true, true, true, true, true, true, true, true, true, true, true, true, true, true, true, true, true, true, true, true, true, true] (RegI 37 (fun u => { tmps := #[u 36, .pointer (some ⟨b1, 0, none⟩), .pointer (some ⟨b2, 0, none⟩), .pointer (some ⟨b3, 0, none⟩), .pointer (some ⟨b4, 0, none⟩), .pointer (some ⟨b5, 0, none⟩), .pointer (some ⟨b6, 0, none⟩), .pointer (some ⟨b7, 0, none⟩), .pointer (some ⟨b8, 0, none⟩), z9, z10, z11, z12, z13, z14, z15, z16, z17, z18, z19, z20, z21, z22, z23, z24, z25, z26, z27, z28, z29, z30, z31, z32, z33, z34, z35, z36, z37, z38, z39, z40, z41, z42, z43, z44, z45, z46, z47, z48, z49, z50, z51, z52, z53, z54, z55, z56, z57, z58, z59, z60, z61, z62, z63, z64, z65, z66, z67, z68, z69, z70, z71, z72, z73, z74, z75, z76, z77, z78, z79, z80, z81, z82, z83, z84, u 0, u 1, u 2, u 3, u 4, u 5, u 6, u 7, u 8, u 9, u 10, u 11, u 12, u 13, u 14, u 15, u 16, u 17, u 18, u 19, u 20, u 21, u 22, u 23, u 24, u 25, u 26, u 27, u 28, u 29, u 30, u 31, u 32, u 33, u 34, u 35], defers := [] }) (fun w => Below WL.heap.size WL w) (fun j => (kd6 j).holds 0) (fun _ => false)) (by decide +kernel) (by decide +kernel) (by decide +kernel) (by decide +kernel) (by decide +kernel) ?_ ?_ _ _ (RegI.start (fun j => if j = 36 then .bool false else undef) rfl bdr)
 ·intro i hi listed a w hl hI K hK
  obtain ⟨u, rfl, hS, hP, hD⟩ := hI
  have X := fun j (c : (decide (j < 37) && waitsB _ _ i j) = true) => hP j (of_decide_eq_true (Bool.and_eq_true_iff.1 c).1) (hl j (Bool.and_eq_true_iff.1 c).2);have hcase : i = 0 ∨ i = 1 ∨ i = 2 ∨ i = 3 ∨ i = 4 ∨ i = 5 ∨ i = 6 ∨ i = 7 ∨ i = 8 ∨ i = 9 ∨ i = 10 ∨ i = 11 ∨ i = 12 ∨ i = 13 ∨ i = 14 ∨ i = 15 ∨ i = 16 ∨ i = 17 ∨ i = 18 ∨ i = 19 ∨ i = 20 ∨ i = 21 ∨ i = 22 ∨ i = 23 ∨ i = 24 ∨ i = 25 ∨ i = 26 ∨ i = 27 ∨ i = 28 ∨ i = 29 ∨ i = 30 ∨ i = 31 ∨ i = 32 ∨ i = 33 ∨ i = 34 ∨ i = 35 ∨ i = 36 := by omega
  clear hi
  rcases hcase with rfl | rfl | rfl | rfl | rfl | rfl | rfl | rfl | rfl | rfl | rfl | rfl | rfl | rfl | rfl | rfl | rfl | rfl | rfl | rfl | rfl | rfl | rfl | rfl | rfl | rfl | rfl | rfl | rfl | rfl | rfl | rfl | rfl | rfl | rfl | rfl | rfl
  ·clear hl X
   refine wpOp_of rfl ?_;obtain ⟨f0, f1, f2⟩ := HB3.out w hS;go_simp;refine hK _ _ (rk1 0 hP hD hS (HV3.out w hS) ?_);simp only [Act.put, s1, s2, s3, upd, Nat.reduceEqDiff, reduceIte]
  ·clear hl X
   refine wpOp_of rfl ?_;obtain ⟨f0, f1, f2⟩ := HB8.out w hS;go_simp;refine hK _ _ (rk1 1 hP hD hS (HV8.out w hS) ?_);simp only [Act.put, s1, s2, s3, upd, Nat.reduceEqDiff, reduceIte]
  ·have h0 : Kd.holds 0 (.cart jX) (u 0) w := X 0 (by decide +kernel)
   have h1 : Kd.holds 0 (.cart jXY) (u 1) w := X 1 (by decide +kernel)
   clear hl X;refine wpOp_of rfl ?_;go_simp
   go_at_call 19
   refine (withinV h0 h1 (ksz _ (by simp)) (ksz _ (by simp)) (HGL.out.below hS) k8).mono ?_
   rintro e w1 ⟨rfl, hb1⟩;go_simp;refine hK _ _ ?_;refine RegI.keep 2 _ hP hD (fun j v h => Kd.below hb1 (kd6 j) v h) (btr hS hb1) (rfl) (fun h => by simp at h) ?_
   simp only [Act.put, s1, s2, s3, upd, Nat.reduceEqDiff, reduceIte]
  ·have e2 : u 2 = .bool true := X 2 (by decide +kernel)
   clear hl X;simp only [e2];refine wpOp_of rfl ?_;go_simp;refine hK _ _ (rk1 3 hP hD hS (rfl) ?_);simp only [Act.put, s1, s2, s3, upd, Nat.reduceEqDiff, reduceIte, e2]
  ·have e3 : u 3 = .bool true := X 3 (by decide +kernel)
   clear hl X;simp only [e3];refine wpOp_of rfl ?_;obtain ⟨f0, f1, f2⟩ := HB3.out w hS;go_simp;refine hK _ _ (rk1 4 hP hD hS (HV3.out w hS) ?_);simp only [Act.put, s1, s2, s3, upd, Nat.reduceEqDiff, reduceIte, e3]
  ·have e3 : u 3 = .bool true := X 3 (by decide +kernel)
   clear hl X;simp only [e3];refine wpOp_of rfl ?_;obtain ⟨f0, f1, f2⟩ := HB4.out w hS;go_simp;refine hK _ _ (rk1 5 hP hD hS (HV4.out w hS) ?_);simp only [Act.put, s1, s2, s3, upd, Nat.reduceEqDiff, reduceIte, e3]
  ·have h4 : Kd.holds 0 (.cart jX) (u 4) w := X 4 (by decide +kernel)
   have h5 : Kd.holds 0 (.cart jY) (u 5) w := X 5 (by decide +kernel)
   have e3 : u 3 = .bool true := X 3 (by decide +kernel)
   clear hl X;simp only [e3];refine wpOp_of rfl ?_;go_simp
   go_at_call 19
   refine (withinV h4 h5 (ksz _ (by simp)) (ksz _ (by simp)) (HGL.out.below hS) k9).mono ?_
   rintro e w1 ⟨rfl, hb1⟩;go_simp;refine hK _ _ ?_;refine RegI.keep 6 _ hP hD (fun j v h => Kd.below hb1 (kd6 j) v h) (btr hS hb1) (rfl) (fun h => by simp at h) ?_
   simp only [Act.put, s1, s2, s3, upd, Nat.reduceEqDiff, reduceIte, e3]
  ·have e3 : u 3 = .bool true := X 3 (by decide +kernel)
   have e6 : u 6 = .bool true := X 6 (by decide +kernel)
   clear hl X;simp only [e3, e6];refine wpOp_of rfl ?_;go_simp;refine hK _ _ (rk1 7 hP hD hS (rfl) ?_);simp only [Act.put, s1, s2, s3, upd, Nat.reduceEqDiff, reduceIte, e3, e6]
  ·have e7 : u 7 = .bool true := X 7 (by decide +kernel)
   clear hl X;simp only [e7];refine wpOp_of rfl ?_;go_simp;refine hK _ _ (rk1 8 hP hD hS (rfl) ?_);simp only [Act.put, s1, s2, s3, upd, Nat.reduceEqDiff, reduceIte, e7]
  ·have e8 : u 8 = .bool true := X 8 (by decide +kernel)
   clear hl X;simp only [e8];refine wpOp_of rfl ?_;obtain ⟨f0, f1, f2⟩ := HB3.out w hS;go_simp;refine hK _ _ (rk1 9 hP hD hS (HV3.out w hS) ?_);simp only [Act.put, s1, s2, s3, upd, Nat.reduceEqDiff, reduceIte, e8]
  ·have e8 : u 8 = .bool true := X 8 (by decide +kernel)
   clear hl X;simp only [e8];refine wpOp_of rfl ?_;obtain ⟨f0, f1, f2⟩ := HB5.out w hS;go_simp;refine hK _ _ (rk1 10 hP hD hS (HV5.out w hS) ?_);simp only [Act.put, s1, s2, s3, upd, Nat.reduceEqDiff, reduceIte, e8]
  ·have h9 : Kd.holds 0 (.cart jX) (u 9) w := X 9 (by decide +kernel)
   have h10 : Kd.holds 0 (.cart jZ) (u 10) w := X 10 (by decide +kernel)
   have e8 : u 8 = .bool true := X 8 (by decide +kernel)
   clear hl X;simp only [e8];refine wpOp_of rfl ?_;go_simp
   go_at_call 19
   refine (withinV h9 h10 (ksz _ (by simp)) (ksz _ (by simp)) (HGL.out.below hS) k10).mono ?_
   rintro e w1 ⟨rfl, hb1⟩;go_simp;refine hK _ _ ?_;refine RegI.keep 11 _ hP hD (fun j v h => Kd.below hb1 (kd6 j) v h) (btr hS hb1) (rfl) (fun h => by simp at h) ?_
   simp only [Act.put, s1, s2, s3, upd, Nat.reduceEqDiff, reduceIte, e8]
  ·have e8 : u 8 = .bool true := X 8 (by decide +kernel)
   have e11 : u 11 = .bool true := X 11 (by decide +kernel)
   clear hl X;simp only [e8, e11];refine wpOp_of rfl ?_;go_simp;refine hK _ _ (rk1 12 hP hD hS (rfl) ?_);simp only [Act.put, s1, s2, s3, upd, Nat.reduceEqDiff, reduceIte, e8, e11]
  ·have e12 : u 12 = .bool true := X 12 (by decide +kernel)
   clear hl X;simp only [e12];refine wpOp_of rfl ?_;go_simp;refine hK _ _ (rk1 13 hP hD hS (rfl) ?_);simp only [Act.put, s1, s2, s3, upd, Nat.reduceEqDiff, reduceIte, e12]
  ·have e13 : u 13 = .bool true := X 13 (by decide +kernel)
   clear hl X;simp only [e13];refine wpOp_of rfl ?_;obtain ⟨f0, f1, f2⟩ := HB3.out w hS;go_simp;refine hK _ _ (rk1 14 hP hD hS (HV3.out w hS) ?_);simp only [Act.put, s1, s2, s3, upd, Nat.reduceEqDiff, reduceIte, e13]
  ·have e13 : u 13 = .bool true := X 13 (by decide +kernel)
   clear hl X;simp only [e13];refine wpOp_of rfl ?_;obtain ⟨f0, f1, f2⟩ := HB4.out w hS;go_simp;refine hK _ _ (rk1 15 hP hD hS (HV4.out w hS) ?_);simp only [Act.put, s1, s2, s3, upd, Nat.reduceEqDiff, reduceIte, e13]
  ·have h14 : Kd.holds 0 (.cart jX) (u 14) w := X 14 (by decide +kernel)
   have h15 : Kd.holds 0 (.cart jY) (u 15) w := X 15 (by decide +kernel)
   have e13 : u 13 = .bool true := X 13 (by decide +kernel)
   clear hl X;simp only [e13];refine wpOp_of rfl ?_;go_simp
   go_at_call 20
   refine (fitsV h14 h15 (ksz _ (by simp)) (ksz _ (by simp)) (HGL.out.below hS) k11).mono ?_
   rintro e w1 ⟨rfl, hb1⟩;go_simp;refine hK _ _ ?_;refine RegI.keep 16 _ hP hD (fun j v h => Kd.below hb1 (kd6 j) v h) (btr hS hb1) (rfl) (fun h => by simp at h) ?_
   simp only [Act.put, s1, s2, s3, upd, Nat.reduceEqDiff, reduceIte, e13]
  ·have e13 : u 13 = .bool true := X 13 (by decide +kernel)
   have e16 : u 16 = .bool true := X 16 (by decide +kernel)
   clear hl X;simp only [e13, e16];refine wpOp_of rfl ?_;go_simp;refine hK _ _ (rk1 17 hP hD hS (rfl) ?_);simp only [Act.put, s1, s2, s3, upd, Nat.reduceEqDiff, reduceIte, e13, e16]
  ·have e17 : u 17 = .bool true := X 17 (by decide +kernel)
   clear hl X;simp only [e17];refine wpOp_of rfl ?_;go_simp;refine hK _ _ (rk1 18 hP hD hS (rfl) ?_);simp only [Act.put, s1, s2, s3, upd, Nat.reduceEqDiff, reduceIte, e17]
  ·have e18 : u 18 = .bool true := X 18 (by decide +kernel)
   clear hl X;simp only [e18];refine wpOp_of rfl ?_;obtain ⟨f0, f1, f2⟩ := HB3.out w hS;go_simp;refine hK _ _ (rk1 19 hP hD hS (HV3.out w hS) ?_);simp only [Act.put, s1, s2, s3, upd, Nat.reduceEqDiff, reduceIte, e18]
  ·have e18 : u 18 = .bool true := X 18 (by decide +kernel)
   clear hl X;simp only [e18];refine wpOp_of rfl ?_;obtain ⟨f0, f1, f2⟩ := HB6.out w hS;go_simp;refine hK _ _ (rk1 20 hP hD hS (HV6.out w hS) ?_);simp only [Act.put, s1, s2, s3, upd, Nat.reduceEqDiff, reduceIte, e18]
  ·have h19 : Kd.holds 0 (.cart jX) (u 19) w := X 19 (by decide +kernel)
   have h20 : Kd.holds 0 (.cart jT) (u 20) w := X 20 (by decide +kernel)
   have e18 : u 18 = .bool true := X 18 (by decide +kernel)
   clear hl X;simp only [e18];refine wpOp_of rfl ?_;go_simp
   go_at_call 20
   refine (fitsV h19 h20 (ksz _ (by simp)) (ksz _ (by simp)) (HGL.out.below hS) k12).mono ?_
   rintro e w1 ⟨rfl, hb1⟩;go_simp;refine hK _ _ ?_;refine RegI.keep 21 _ hP hD (fun j v h => Kd.below hb1 (kd6 j) v h) (btr hS hb1) (rfl) (fun h => by simp at h) ?_
   simp only [Act.put, s1, s2, s3, upd, Nat.reduceEqDiff, reduceIte, e18]
  ·have e18 : u 18 = .bool true := X 18 (by decide +kernel)
   have e21 : u 21 = .bool true := X 21 (by decide +kernel)
   clear hl X;simp only [e18, e21];refine wpOp_of rfl ?_;go_simp;refine hK _ _ (rk1 22 hP hD hS (rfl) ?_);simp only [Act.put, s1, s2, s3, upd, Nat.reduceEqDiff, reduceIte, e18, e21]
  ·have e22 : u 22 = .bool true := X 22 (by decide +kernel)
   clear hl X;simp only [e22];refine wpOp_of rfl ?_;go_simp;refine hK _ _ (rk1 23 hP hD hS (rfl) ?_);simp only [Act.put, s1, s2, s3, upd, Nat.reduceEqDiff, reduceIte, e22]
  ·have e23 : u 23 = .bool true := X 23 (by decide +kernel)
   clear hl X;simp only [e23];refine wpOp_of rfl ?_;obtain ⟨f0, f1, f2⟩ := HB3.out w hS;go_simp;refine hK _ _ (rk1 24 hP hD hS (HV3.out w hS) ?_);simp only [Act.put, s1, s2, s3, upd, Nat.reduceEqDiff, reduceIte, e23]
  ·have e23 : u 23 = .bool true := X 23 (by decide +kernel)
   clear hl X;simp only [e23];refine wpOp_of rfl ?_;obtain ⟨f0, f1, f2⟩ := HB5.out w hS;go_simp;refine hK _ _ (rk1 25 hP hD hS (HV5.out w hS) ?_);simp only [Act.put, s1, s2, s3, upd, Nat.reduceEqDiff, reduceIte, e23]
  ·have h24 : Kd.holds 0 (.cart jX) (u 24) w := X 24 (by decide +kernel)
   have h25 : Kd.holds 0 (.cart jZ) (u 25) w := X 25 (by decide +kernel)
   have e23 : u 23 = .bool true := X 23 (by decide +kernel)
   clear hl X;simp only [e23];refine wpOp_of rfl ?_;go_simp
   go_at_call 20
   refine (fitsV h24 h25 (ksz _ (by simp)) (ksz _ (by simp)) (HGL.out.below hS) k13).mono ?_
   rintro e w1 ⟨rfl, hb1⟩;go_simp;refine hK _ _ ?_;refine RegI.keep 26 _ hP hD (fun j v h => Kd.below hb1 (kd6 j) v h) (btr hS hb1) (rfl) (fun h => by simp at h) ?_
   simp only [Act.put, s1, s2, s3, upd, Nat.reduceEqDiff, reduceIte, e23]
  ·have e23 : u 23 = .bool true := X 23 (by decide +kernel)
   have e26 : u 26 = .bool true := X 26 (by decide +kernel)
   clear hl X;simp only [e23, e26];refine wpOp_of rfl ?_;go_simp;refine hK _ _ (rk1 27 hP hD hS (rfl) ?_);simp only [Act.put, s1, s2, s3, upd, Nat.reduceEqDiff, reduceIte, e23, e26]
  ·have e27 : u 27 = .bool true := X 27 (by decide +kernel)
   clear hl X;simp only [e27];refine wpOp_of rfl ?_;go_simp;refine hK _ _ (rk1 28 hP hD hS (rfl) ?_);simp only [Act.put, s1, s2, s3, upd, Nat.reduceEqDiff, reduceIte, e27]
  ·have e28 : u 28 = .bool true := X 28 (by decide +kernel)
   clear hl X;simp only [e28];refine wpOp_of rfl ?_;obtain ⟨f0, f1, f2⟩ := HB3.out w hS;go_simp;refine hK _ _ (rk1 29 hP hD hS (HV3.out w hS) ?_);simp only [Act.put, s1, s2, s3, upd, Nat.reduceEqDiff, reduceIte, e28]
  ·have e28 : u 28 = .bool true := X 28 (by decide +kernel)
   clear hl X;simp only [e28];refine wpOp_of rfl ?_;obtain ⟨f0, f1, f2, f3⟩ := HB1.out w hS;go_simp;refine hK _ _ (rk1 30 hP hD hS (rfl) ?_);simp only [Act.put, s1, s2, s3, upd, Nat.reduceEqDiff, reduceIte, e28]
  ·have e30 : u 30 = .agg #[.int .i64 1, .int .i64 1, .int .i64 5, .int .u64 3] := X 30 (by decide +kernel)
   have e28 : u 28 = .bool true := X 28 (by decide +kernel)
   clear hl X;simp only [e30, e28];refine wpOp_of rfl ?_;go_simp;refine hK _ _ ?_;refine RegI.keep 31 _ hP hD (fun j v h => Kd.below (bal) (kd6 j) v h) (hS.alloc hS.size _) (marks_lit w [j1] _ 1 rfl rfl (by decide)) (fun h => by simp at h) ?_
   simp only [Act.put, s1, s2, s3, upd, Nat.reduceEqDiff, reduceIte, e30, e28]
  ·have h31 : Kd.holds 0 (.row [j1]) (u 31) w := X 31 (by decide +kernel)
   have e28 : u 28 = .bool true := X 28 (by decide +kernel)
   clear hl X;simp only [e28];refine wpOp_of rfl ?_;go_simp
   go_at_call 26
   refine (ofV (pairs_nil _) h31 (mi_all (by decide)) (di_all (by decide)) (by decide) (show _ = jB by decide)).mono ?_
   rintro e w1 ⟨v1, rfl, hv1, hb1⟩;go_simp;refine hK _ _ ?_;refine RegI.keep 32 _ hP hD (fun j v h => Kd.below hb1 (kd6 j) v h) (btr hS hb1) (hv1) (fun h => by simp at h) ?_
   simp only [Act.put, s1, s2, s3, upd, Nat.reduceEqDiff, reduceIte, e28]
  ·have e28 : u 28 = .bool true := X 28 (by decide +kernel)
   clear hl X;simp only [e28];refine wpOp_of rfl ?_;obtain ⟨f0, f1, f2⟩ := HB7.out w hS;go_simp;refine hK _ _ (rk1 33 hP hD hS (HV7.out w hS) ?_);simp only [Act.put, s1, s2, s3, upd, Nat.reduceEqDiff, reduceIte, e28]
  ·have h29 : Kd.holds 0 (.cart jX) (u 29) w := X 29 (by decide +kernel)
   have h32 : Kd.holds 0 (.cart jB) (u 32) w := X 32 (by decide +kernel)
   have h33 : Kd.holds 0 (.cart zeroC) (u 33) w := X 33 (by decide +kernel)
   have e28 : u 28 = .bool true := X 28 (by decide +kernel)
   clear hl X;simp only [e28];refine wpOp_of rfl ?_;go_simp
   go_at_call 11
   refine (joinsV h29 h32 h33 (ksz _ (by simp)) (ksz _ (by simp)) (HGL.out.below hS) k14).mono ?_
   rintro e w1 ⟨rfl, hb1⟩;go_simp;refine hK _ _ ?_;refine RegI.keep 34 _ hP hD (fun j v h => Kd.below hb1 (kd6 j) v h) (btr hS hb1) (rfl) (fun h => by simp at h) ?_
   simp only [Act.put, s1, s2, s3, upd, Nat.reduceEqDiff, reduceIte, e28]
  ·have e28 : u 28 = .bool true := X 28 (by decide +kernel)
   have e34 : u 34 = .bool true := X 34 (by decide +kernel)
   clear hl X;simp only [e28, e34];refine wpOp_of rfl ?_;go_simp;refine hK _ _ (rk1 35 hP hD hS (rfl) ?_);simp only [Act.put, s1, s2, s3, upd, Nat.reduceEqDiff, reduceIte, e28, e34]
  ·have e35 : u 35 = .bool true := X 35 (by decide +kernel)
   clear hl X;simp only [e35];refine wpOp_of rfl ?_;go_simp;refine hK _ _ (rk1 36 hP hD hS (rfl) ?_);simp only [Act.put, s1, s2, s3, upd, Nat.reduceEqDiff, reduceIte, e35]
 ·intro a w hI
  obtain ⟨u, rfl, hS, hP, hD⟩ := hI;refine wpAny_done (by kernel_rfl) ?_ _
  simp only [NQ];exact hQ u w (hP 36 (by decide) (by decide +kernel)) hS
def kd2 (j : Nat) : Kd := [.pairs [⟨1, 1⟩], .val (.agg #[.int .i64 1, .int .i64 1, .int .i64 5, .int .u64 3]), .row [j1], .cart jX, .pairs [⟨2, 1⟩], .val (.agg #[.int .i64 2, .int .i64 1, .int .i64 7, .int .u64 4]), .row [j2], .cart jY, .pairs [⟨1, 1⟩, ⟨2, 1⟩], .cart jZ, .pairs [⟨1, 1⟩], .val (.agg #[.int .i64 1, .int .i64 1, .int .i64 6, .int .u64 3]), .row [t3M], .cart jT, .val (.agg #[.slice none 0 0, .slice none 0 0, .slice none 0 0]), .box, .box, .box, .box, .box].getD j .free
theorem kd_boxkd2 {j B : Nat} {x : Value} {w : World} (hj : decide (15 ≤ j ∧ j < 20) = true) (hx : (kd2 j).holds B x w) : ∃ b, x = .pointer (some ⟨b, 0, none⟩) ∧ B ≤ b ∧ w.heap[b]? = some (.cells #[.slice none 0 0, .slice none 0 0, .slice none 0 0] 28) := by
 have h := of_decide_eq_true hj;have hc : j = 15 ∨ j = 16 ∨ j = 17 ∨ j = 18 ∨ j = 19 := by omega
 rcases hc with rfl | rfl | rfl | rfl | rfl <;> exact hx
theorem known2 (WL : World) (b1 b2 : Nat) (m1 : MarkB WL b1 j1) (m2 : MarkB WL b2 j2) (R : Act → World → Prop) (hQ : ∀ (u : Nat → Value) (b3 b4 b5 b6 b7 : Nat) (w : World), Below WL.heap.size WL w → CartB w b3 jX → CartB w b4 jY → CartB w b5 jZ → CartB w b6 jT → CartB w b7 zeroC → R { tmps := #[.bool false, .pointer (some ⟨b1, 0, none⟩), .pointer (some ⟨b2, 0, none⟩), .pointer (some ⟨b3, 0, none⟩), .pointer (some ⟨b4, 0, none⟩), .pointer (some ⟨b5, 0, none⟩), .pointer (some ⟨b6, 0, none⟩), .pointer (some ⟨b7, 0, none⟩), undef, .agg #[.int .i64 1, .int .i64 1, .int .i64 5, .int .u64 3], .agg #[.int .i64 2, .int .i64 1, .int .i64 7, .int .u64 4], u 0, u 1, u 2, u 3, u 4, u 5, u 6, u 7, u 8, u 9, u 10, u 11, u 12, u 13, u 14, undef, undef, undef, undef, undef, undef, undef, undef, undef, undef, undef, undef, undef, undef, undef, undef, undef, undef, undef, undef, undef, undef, undef, undef, undef, undef, undef, undef, undef, undef, undef, undef, undef, undef, undef, undef, undef, undef, undef, undef, undef, undef, undef, undef, undef, undef, undef, undef, undef, undef, undef, undef, undef, undef, undef, undef, undef, undef, undef, undef, undef, undef, undef, undef, undef, undef, undef, undef, undef, undef, undef, undef, undef, undef, undef, undef, undef, undef, undef, undef, undef, undef, undef, undef, undef, undef, undef, undef, undef, undef, undef, undef, undef, undef, undef], defers := [] } w) :
  (codeAt [1, 1, 0] (Tryz.f9.body.getD .skip)).wp Tryz.prog (NQ R) { tmps := #[.bool false, .pointer (some ⟨b1, 0, none⟩), .pointer (some ⟨b2, 0, none⟩), undef, undef, undef, undef, undef, undef, .agg #[.int .i64 1, .int .i64 1, .int .i64 5, .int .u64 3], .agg #[.int .i64 2, .int .i64 1, .int .i64 7, .int .u64 4], undef, undef, undef, undef, undef, undef, undef, undef, undef, undef, undef, undef, undef, undef, undef, undef, undef, undef, undef, undef, undef, undef, undef, undef, undef, undef, undef, undef, undef, undef, undef, undef, undef, undef, undef, undef, undef, undef, undef, undef, undef, undef, undef, undef, undef, undef, undef, undef, undef, undef, undef, undef, undef, undef, undef, undef, undef, undef, undef, undef, undef, undef, undef, undef, undef, undef, undef, undef, undef, undef, undef, undef, undef, undef, undef, undef, undef, undef, undef, undef, undef, undef, undef, undef, undef, undef, undef, undef, undef, undef, undef, undef, undef, undef, undef, undef, undef, undef, undef, undef, undef, undef, undef, undef, undef, undef, undef, undef, undef, undef], defers := [] } WL := by
 have HB1 : Hid (∀ wz, Below WL.heap.size WL wz → wz.cell? ⟨b1, 0, none⟩ = some (.int .i64 1) ∧ wz.cell? ⟨b1, 1, none⟩ = some (.int .i64 1) ∧ wz.cell? ⟨b1, 2, none⟩ = some (.int .i64 5) ∧ wz.cell? ⟨b1, 3, none⟩ = some (.int .u64 3)) := Hd (fun wz hz => by
  have z : wz.heap[b1]? = _ := (hz.block _ (lt_of_heap m1)).trans m1;exact ⟨cl0 z 0 rfl, cl0 z 1 rfl, cl0 z 2 rfl, cl0 z 3 rfl⟩)
 have HB2 : Hid (∀ wz, Below WL.heap.size WL wz → wz.cell? ⟨b2, 0, none⟩ = some (.int .i64 2) ∧ wz.cell? ⟨b2, 1, none⟩ = some (.int .i64 1) ∧ wz.cell? ⟨b2, 2, none⟩ = some (.int .i64 7) ∧ wz.cell? ⟨b2, 3, none⟩ = some (.int .u64 4)) := Hd (fun wz hz => by
  have z : wz.heap[b2]? = _ := (hz.block _ (lt_of_heap m2)).trans m2;exact ⟨cl0 z 0 rfl, cl0 z 1 rfl, cl0 z 2 rfl, cl0 z 3 rfl⟩)
 simp only [codeAt, codeL, codeR, Tryz.f9, Option.getD_some];refine wp_region_any (by kernel_rfl) ?_
 try (change wpAny _ _ _ _ _ _ _ (World.drew _))
 refine wpAny_take (i := 14) (v := .agg #[.slice none 0 0, .slice none 0 0, .slice none 0 0]) rfl (by decide +kernel) (by decide +kernel) (by decide +kernel) (fun _ _ _ h => h) (Or.inl ⟨by kernel_rfl, fun w => by go_simp⟩) ?_
 refine wpAny_invC 20 12 #[true, true, true, true, true, true, true, true, true, true, true, true, true, true, true, true, true, true, true, true, false, false, false, false, false] _ (RegI 20 (fun u => { tmps := #[.bool false, .pointer (some ⟨b1, 0, none⟩), .pointer (some ⟨b2, 0, none⟩), u 15, u 16, u 17, u 18, u 19, undef, .agg #[.int .i64 1, .int .i64 1, .int .i64 5, .int .u64 3], .agg #[.int .i64 2, .int .i64 1, .int .i64 7, .int .u64 4], u 0, u 1, u 2, u 3, u 4, u 5, u 6, u 7, u 8, u 9, u 10, u 11, u 12, u 13, u 14, undef, undef, undef, undef, undef, undef, undef, undef, undef, undef, undef, undef, undef, undef, undef, undef, undef, undef, undef, undef, undef, undef, undef, undef, undef, undef, undef, undef, undef, undef, undef, undef, undef, undef, undef, undef, undef, undef, undef, undef, undef, undef, undef, undef, undef, undef, undef, undef, undef, undef, undef, undef, undef, undef, undef, undef, undef, undef, undef, undef, undef, undef, undef, undef, undef, undef, undef, undef, undef, undef, undef, undef, undef, undef, undef, undef, undef, undef, undef, undef, undef, undef, undef, undef, undef, undef, undef, undef, undef, undef, undef, undef, undef, undef, undef], defers := [] }) (fun w => Below WL.heap.size WL w) (fun j => (kd2 j).holds WL.heap.size) (fun j => decide (15 ≤ j ∧ j < 20))) (by decide +kernel) (by decide +kernel) (by decide +kernel) (by decide +kernel) (by decide +kernel) (by decide +kernel) (by decide +kernel) (by decide +kernel) (by decide +kernel) ?_ ?_ _ (by decide +kernel) _ _ ⟨fun j => if j = 14 then .agg #[.slice none 0 0, .slice none 0 0, .slice none 0 0] else undef, ?_, bdr, fun j hj hl => ?_, fun i j hij hi hj ha hb hli hlj => ?_⟩
 rotate_left 2
 ·try simp only [Act.put, s1, s2, s3]
  rfl
 ·have hx : ∀ j : Nat, j < 20 → ((Array.replicate 25 false).setIfInBounds 14 true).getD j false = true → j = 14 := by decide +kernel
  have := hx j hj hl;subst this;exact rfl
 ·have hx : ∀ j : Nat, j < 20 → ((Array.replicate 25 false).setIfInBounds 14 true).getD j false = true → j = 14 := by decide +kernel
  exact absurd ((hx i hi hli).trans (hx j hj hlj).symm) hij
 ·intro i hi listed a w hl hI K hK
  obtain ⟨u, rfl, hS, hP, hD⟩ := hI
  have X := fun j (c : (decide (j < 20) && waitsB _ _ i j) = true) => hP j (of_decide_eq_true (Bool.and_eq_true_iff.1 c).1) (hl j (Bool.and_eq_true_iff.1 c).2);have hcase : i = 0 ∨ i = 1 ∨ i = 2 ∨ i = 3 ∨ i = 4 ∨ i = 5 ∨ i = 6 ∨ i = 7 ∨ i = 8 ∨ i = 9 ∨ i = 10 ∨ i = 11 ∨ i = 12 ∨ i = 13 ∨ i = 14 ∨ i = 15 ∨ i = 16 ∨ i = 17 ∨ i = 18 ∨ i = 19 := by omega
  clear hi
  rcases hcase with rfl | rfl | rfl | rfl | rfl | rfl | rfl | rfl | rfl | rfl | rfl | rfl | rfl | rfl | rfl | rfl | rfl | rfl | rfl | rfl
  ·clear hl X
   refine wpOp_of rfl ?_;go_simp;refine hK _ _ ?_;refine RegI.keep 0 _ hP hD (fun j v h => Kd.below (bal) (kd2 j) v h) (hS.alloc hS.size _) (pairs_lit1 w 1 1 _) (fun h => by simp at h) ?_
   simp only [Act.put, s1, s2, s3, upd, Nat.reduceEqDiff, reduceIte]
  ·clear hl X
   refine wpOp_of rfl ?_;obtain ⟨f0, f1, f2, f3⟩ := HB1.out w hS;go_simp;refine hK _ _ (rk1 1 hP hD hS (rfl) ?_);simp only [Act.put, s1, s2, s3, upd, Nat.reduceEqDiff, reduceIte]
  ·have e1 : u 1 = .agg #[.int .i64 1, .int .i64 1, .int .i64 5, .int .u64 3] := X 1 (by decide +kernel)
   clear hl X;simp only [e1];refine wpOp_of rfl ?_;go_simp;refine hK _ _ ?_;refine RegI.keep 2 _ hP hD (fun j v h => Kd.below (bal) (kd2 j) v h) (hS.alloc hS.size _) (marks_lit w [j1] _ 1 rfl rfl (by decide)) (fun h => by simp at h) ?_
   simp only [Act.put, s1, s2, s3, upd, Nat.reduceEqDiff, reduceIte, e1]
  ·have h0 : Kd.holds WL.heap.size (.pairs [⟨1, 1⟩]) (u 0) w := X 0 (by decide +kernel)
   have h2 : Kd.holds WL.heap.size (.row [j1]) (u 2) w := X 2 (by decide +kernel)
   clear hl X;refine wpOp_of rfl ?_;go_simp
   go_at_call 26
   refine (ofV h0 h2 (mi_all (by decide)) (di_all (by decide)) (by decide) (show _ = jX by decide)).mono ?_
   rintro e w1 ⟨v1, rfl, hv1, hb1⟩;go_simp;refine hK _ _ ?_;refine RegI.keep 3 _ hP hD (fun j v h => Kd.below hb1 (kd2 j) v h) (btr hS hb1) (hv1) (fun h => by simp at h) ?_
   simp only [Act.put, s1, s2, s3, upd, Nat.reduceEqDiff, reduceIte]
  ·clear hl X
   refine wpOp_of rfl ?_;go_simp;refine hK _ _ ?_;refine RegI.keep 4 _ hP hD (fun j v h => Kd.below (bal) (kd2 j) v h) (hS.alloc hS.size _) (pairs_lit1 w 2 1 _) (fun h => by simp at h) ?_
   simp only [Act.put, s1, s2, s3, upd, Nat.reduceEqDiff, reduceIte]
  ·clear hl X
   refine wpOp_of rfl ?_;obtain ⟨f0, f1, f2, f3⟩ := HB2.out w hS;go_simp;refine hK _ _ (rk1 5 hP hD hS (rfl) ?_);simp only [Act.put, s1, s2, s3, upd, Nat.reduceEqDiff, reduceIte]
  ·have e5 : u 5 = .agg #[.int .i64 2, .int .i64 1, .int .i64 7, .int .u64 4] := X 5 (by decide +kernel)
   clear hl X;simp only [e5];refine wpOp_of rfl ?_;go_simp;refine hK _ _ ?_;refine RegI.keep 6 _ hP hD (fun j v h => Kd.below (bal) (kd2 j) v h) (hS.alloc hS.size _) (marks_lit w [j2] _ 1 rfl rfl (by decide)) (fun h => by simp at h) ?_
   simp only [Act.put, s1, s2, s3, upd, Nat.reduceEqDiff, reduceIte, e5]
  ·have h4 : Kd.holds WL.heap.size (.pairs [⟨2, 1⟩]) (u 4) w := X 4 (by decide +kernel)
   have h6 : Kd.holds WL.heap.size (.row [j2]) (u 6) w := X 6 (by decide +kernel)
   clear hl X;refine wpOp_of rfl ?_;go_simp
   go_at_call 26
   refine (ofV h4 h6 (mi_all (by decide)) (di_all (by decide)) (by decide) (show _ = jY by decide)).mono ?_
   rintro e w1 ⟨v1, rfl, hv1, hb1⟩;go_simp;refine hK _ _ ?_;refine RegI.keep 7 _ hP hD (fun j v h => Kd.below hb1 (kd2 j) v h) (btr hS hb1) (hv1) (fun h => by simp at h) ?_
   simp only [Act.put, s1, s2, s3, upd, Nat.reduceEqDiff, reduceIte]
  ·clear hl X
   refine wpOp_of rfl ?_;go_simp;refine hK _ _ ?_;refine RegI.keep 8 _ hP hD (fun j v h => Kd.below (bal) (kd2 j) v h) (hS.alloc hS.size _) (pairs_lit2 w 1 1 2 1 _) (fun h => by simp at h) ?_
   simp only [Act.put, s1, s2, s3, upd, Nat.reduceEqDiff, reduceIte]
  ·have h8 : Kd.holds WL.heap.size (.pairs [⟨1, 1⟩, ⟨2, 1⟩]) (u 8) w := X 8 (by decide +kernel)
   clear hl X;refine wpOp_of rfl ?_;go_simp
   go_at_call 26
   refine (ofV h8 (Enc.Row.nil _ _) (mi_all (by decide)) (di_all (by decide)) (by decide) (show _ = jZ by decide)).mono ?_
   rintro e w1 ⟨v1, rfl, hv1, hb1⟩;go_simp;refine hK _ _ ?_;refine RegI.keep 9 _ hP hD (fun j v h => Kd.below hb1 (kd2 j) v h) (btr hS hb1) (hv1) (fun h => by simp at h) ?_
   simp only [Act.put, s1, s2, s3, upd, Nat.reduceEqDiff, reduceIte]
  ·clear hl X
   refine wpOp_of rfl ?_;go_simp;refine hK _ _ ?_;refine RegI.keep 10 _ hP hD (fun j v h => Kd.below (bal) (kd2 j) v h) (hS.alloc hS.size _) (pairs_lit1 w 1 1 _) (fun h => by simp at h) ?_
   simp only [Act.put, s1, s2, s3, upd, Nat.reduceEqDiff, reduceIte]
  ·clear hl X
   refine wpOp_of rfl ?_;go_simp
   go_at_call 25
   refine (l11mark_any 1 1 6 3 w).mono ?_;rintro e w1 ⟨rfl, hb1⟩;go_simp;refine hK _ _ ?_;refine RegI.keep 11 _ hP hD (fun j v h => Kd.below hb1 (kd2 j) v h) (btr hS hb1) (rfl) (fun h => by simp at h) ?_
   simp only [Act.put, s1, s2, s3, upd, Nat.reduceEqDiff, reduceIte]
  ·have e11 : u 11 = .agg #[.int .i64 1, .int .i64 1, .int .i64 6, .int .u64 3] := X 11 (by decide +kernel)
   clear hl X;simp only [e11];refine wpOp_of rfl ?_;go_simp;refine hK _ _ ?_;refine RegI.keep 12 _ hP hD (fun j v h => Kd.below (bal) (kd2 j) v h) (hS.alloc hS.size _) (marks_lit w [t3M] _ 1 rfl rfl (by decide)) (fun h => by simp at h) ?_
   simp only [Act.put, s1, s2, s3, upd, Nat.reduceEqDiff, reduceIte, e11]
  ·have h10 : Kd.holds WL.heap.size (.pairs [⟨1, 1⟩]) (u 10) w := X 10 (by decide +kernel)
   have h12 : Kd.holds WL.heap.size (.row [t3M]) (u 12) w := X 12 (by decide +kernel)
   clear hl X;refine wpOp_of rfl ?_;go_simp
   go_at_call 26
   refine (ofV h10 h12 (mi_all (by decide)) (di_all (by decide)) (by decide) (show _ = jT by decide)).mono ?_
   rintro e w1 ⟨v1, rfl, hv1, hb1⟩;go_simp;refine hK _ _ ?_;refine RegI.keep 13 _ hP hD (fun j v h => Kd.below hb1 (kd2 j) v h) (btr hS hb1) (hv1) (fun h => by simp at h) ?_
   simp only [Act.put, s1, s2, s3, upd, Nat.reduceEqDiff, reduceIte]
  ·clear hl X
   refine wpOp_of rfl ?_;go_simp;refine hK _ _ (rk1 14 hP hD hS (rfl) ?_);simp only [Act.put, s1, s2, s3, upd, Nat.reduceEqDiff, reduceIte]
  ·clear hl X
   refine wpOp_of rfl ?_;go_simp;refine hK _ _ ?_;refine RegI.keep 15 _ hP hD (fun j v h => Kd.below (bal) (kd2 j) v h) (hS.alloc hS.size _) (⟨w.heap.size, rfl, hS.size, alloc_new _ _⟩) ?_ ?_
   ·intro _ j hj x hx e
    obtain ⟨b, rfl, -, hb⟩ := kd_boxkd2 hj hx;have := lt_of_heap hb;injection e with e; injection e with e; injection e with e
    omega
   simp only [Act.put, s1, s2, s3, upd, Nat.reduceEqDiff, reduceIte]
  ·clear hl X
   refine wpOp_of rfl ?_;go_simp;refine hK _ _ ?_;refine RegI.keep 16 _ hP hD (fun j v h => Kd.below (bal) (kd2 j) v h) (hS.alloc hS.size _) (⟨w.heap.size, rfl, hS.size, alloc_new _ _⟩) ?_ ?_
   ·intro _ j hj x hx e
    obtain ⟨b, rfl, -, hb⟩ := kd_boxkd2 hj hx;have := lt_of_heap hb;injection e with e; injection e with e; injection e with e
    omega
   simp only [Act.put, s1, s2, s3, upd, Nat.reduceEqDiff, reduceIte]
  ·clear hl X
   refine wpOp_of rfl ?_;go_simp;refine hK _ _ ?_;refine RegI.keep 17 _ hP hD (fun j v h => Kd.below (bal) (kd2 j) v h) (hS.alloc hS.size _) (⟨w.heap.size, rfl, hS.size, alloc_new _ _⟩) ?_ ?_
   ·intro _ j hj x hx e
    obtain ⟨b, rfl, -, hb⟩ := kd_boxkd2 hj hx;have := lt_of_heap hb;injection e with e; injection e with e; injection e with e
    omega
   simp only [Act.put, s1, s2, s3, upd, Nat.reduceEqDiff, reduceIte]
  ·clear hl X
   refine wpOp_of rfl ?_;go_simp;refine hK _ _ ?_;refine RegI.keep 18 _ hP hD (fun j v h => Kd.below (bal) (kd2 j) v h) (hS.alloc hS.size _) (⟨w.heap.size, rfl, hS.size, alloc_new _ _⟩) ?_ ?_
   ·intro _ j hj x hx e
    obtain ⟨b, rfl, -, hb⟩ := kd_boxkd2 hj hx;have := lt_of_heap hb;injection e with e; injection e with e; injection e with e
    omega
   simp only [Act.put, s1, s2, s3, upd, Nat.reduceEqDiff, reduceIte]
  ·clear hl X
   refine wpOp_of rfl ?_;go_simp;refine hK _ _ ?_;refine RegI.keep 19 _ hP hD (fun j v h => Kd.below (bal) (kd2 j) v h) (hS.alloc hS.size _) (⟨w.heap.size, rfl, hS.size, alloc_new _ _⟩) ?_ ?_
   ·intro _ j hj x hx e
    obtain ⟨b, rfl, -, hb⟩ := kd_boxkd2 hj hx;have := lt_of_heap hb;injection e with e; injection e with e; injection e with e
    omega
   simp only [Act.put, s1, s2, s3, upd, Nat.reduceEqDiff, reduceIte]
 ·intro a w hI
  obtain ⟨u, rfl, hS, hP, hD⟩ := hI;obtain ⟨b3, e15, l3, y3_0⟩ := (hP 15 (by omega) (by decide +kernel) : Kd.holds WL.heap.size .box (u 15) w)
  obtain ⟨b4, e16, l4, y4_0⟩ := (hP 16 (by omega) (by decide +kernel) : Kd.holds WL.heap.size .box (u 16) w)
  obtain ⟨b5, e17, l5, y5_0⟩ := (hP 17 (by omega) (by decide +kernel) : Kd.holds WL.heap.size .box (u 17) w)
  obtain ⟨b6, e18, l6, y6_0⟩ := (hP 18 (by omega) (by decide +kernel) : Kd.holds WL.heap.size .box (u 18) w)
  obtain ⟨b7, e19, l7, y7_0⟩ := (hP 19 (by omega) (by decide +kernel) : Kd.holds WL.heap.size .box (u 19) w)
  have d34 : b3 ≠ b4 := fun e => hD 15 16 (by omega) (by omega) (by omega) (by decide) (by decide) (by decide +kernel) (by decide +kernel) (by rw [e15, e16, e])
  have d43 : b4 ≠ b3 := fun e => d34 e.symm
  have d35 : b3 ≠ b5 := fun e => hD 15 17 (by omega) (by omega) (by omega) (by decide) (by decide) (by decide +kernel) (by decide +kernel) (by rw [e15, e17, e])
  have d53 : b5 ≠ b3 := fun e => d35 e.symm
  have d36 : b3 ≠ b6 := fun e => hD 15 18 (by omega) (by omega) (by omega) (by decide) (by decide) (by decide +kernel) (by decide +kernel) (by rw [e15, e18, e])
  have d63 : b6 ≠ b3 := fun e => d36 e.symm
  have d37 : b3 ≠ b7 := fun e => hD 15 19 (by omega) (by omega) (by omega) (by decide) (by decide) (by decide +kernel) (by decide +kernel) (by rw [e15, e19, e])
  have d73 : b7 ≠ b3 := fun e => d37 e.symm
  have d45 : b4 ≠ b5 := fun e => hD 16 17 (by omega) (by omega) (by omega) (by decide) (by decide) (by decide +kernel) (by decide +kernel) (by rw [e16, e17, e])
  have d54 : b5 ≠ b4 := fun e => d45 e.symm
  have d46 : b4 ≠ b6 := fun e => hD 16 18 (by omega) (by omega) (by omega) (by decide) (by decide) (by decide +kernel) (by decide +kernel) (by rw [e16, e18, e])
  have d64 : b6 ≠ b4 := fun e => d46 e.symm
  have d47 : b4 ≠ b7 := fun e => hD 16 19 (by omega) (by omega) (by omega) (by decide) (by decide) (by decide +kernel) (by decide +kernel) (by rw [e16, e19, e])
  have d74 : b7 ≠ b4 := fun e => d47 e.symm
  have d56 : b5 ≠ b6 := fun e => hD 17 18 (by omega) (by omega) (by omega) (by decide) (by decide) (by decide +kernel) (by decide +kernel) (by rw [e17, e18, e])
  have d65 : b6 ≠ b5 := fun e => d56 e.symm
  have d57 : b5 ≠ b7 := fun e => hD 17 19 (by omega) (by omega) (by omega) (by decide) (by decide) (by decide +kernel) (by decide +kernel) (by rw [e17, e19, e])
  have d75 : b7 ≠ b5 := fun e => d57 e.symm
  have d67 : b6 ≠ b7 := fun e => hD 18 19 (by omega) (by omega) (by omega) (by decide) (by decide) (by decide +kernel) (by decide +kernel) (by rw [e18, e19, e])
  have d76 : b7 ≠ b6 := fun e => d67 e.symm
  have v3 : CartV w (u 3) jX := hP 3 (by omega) (by decide +kernel)
  obtain ⟨o31, n31, k31, o32, n32, k32, o33, n33, k33, e3, -, -⟩ := id v3;rw [e3] at v3;have v4 : CartV w (u 7) jY := hP 7 (by omega) (by decide +kernel)
  obtain ⟨o41, n41, k41, o42, n42, k42, o43, n43, k43, e7, -, -⟩ := id v4;rw [e7] at v4;have v5 : CartV w (u 9) jZ := hP 9 (by omega) (by decide +kernel)
  obtain ⟨o51, n51, k51, o52, n52, k52, o53, n53, k53, e9, -, -⟩ := id v5;rw [e9] at v5;have v6 : CartV w (u 13) jT := hP 13 (by omega) (by decide +kernel)
  obtain ⟨o61, n61, k61, o62, n62, k62, o63, n63, k63, e13, -, -⟩ := id v6;rw [e13] at v6;have e14 : u 14 = .agg #[.slice none 0 0, .slice none 0 0, .slice none 0 0] := hP 14 (by omega) (by decide +kernel)
  have v7 : CartV w (.agg #[.slice none 0 0, .slice none 0 0, .slice none 0 0]) zeroC := CartV.zero w;have HV3 := Hd v3;have HV4 := Hd v4;have HV5 := Hd v5;have HV6 := Hd v6;have HV7 := Hd v7;clear v3 v4 v5 v6 v7 hP hD;obtain ⟨w0, hw0⟩ : ∃ x, x = w := ⟨_, rfl⟩;have kk0 : KeepC w w := KeepC.refl w;have B0 := hS
  show wpAny _ _ _ _ 5 _ _ _
  simp only [e3, e7, e9, e13, e14, e15, e16, e17, e18, e19]
  try simp only [Act.put, s1, s2, s3, s4, s5, s6]
  refine wpAny_ready (rs := [20]) (by decide +kernel) (by simp) ?_
  refine (AllReady.cons rfl (fun K hK => ?_) AllReady.nil)
  have f0 := froz0 y3_0 0;have f1 := froz0 y3_0 1;have f2 := froz0 y3_0 2;have c0 : World.cell? w ⟨b3, 0, none⟩ = some (.slice none 0 0) := cl0 y3_0 0 rfl;have c1 : World.cell? w ⟨b3, 1, none⟩ = some (.slice none 0 0) := cl0 y3_0 1 rfl;have c2 : World.cell? w ⟨b3, 2, none⟩ = some (.slice none 0 0) := cl0 y3_0 2 rfl;go_simp;refine hK _ _ ?_;clear hK K f0 f1 f2 c0 c1 c2;change wpAny _ _ _ _ _ _ _ (store3 w b3 (.slice o31 n31 k31) (.slice o32 n32 k32) (.slice o33 n33 k33));obtain ⟨W1, hW1⟩ : ∃ x, x = store3 w b3 (.slice o31 n31 k31) (.slice o32 n32 k32) (.slice o33 n33 k33) := ⟨_, rfl⟩;rw [← hW1];have y3_1 : W1.heap[b3]? = some (.cells #[.slice o31 n31 k31, .slice o32 n32 k32, .slice o33 n33 k33] 28) := by rw [hW1]; exact store3_same y3_0
  have y4_1 : W1.heap[b4]? = some (.cells #[.slice none 0 0, .slice none 0 0, .slice none 0 0] 28) := by rw [hW1]; exact (store3_other d43).trans y4_0
  have y5_1 : W1.heap[b5]? = some (.cells #[.slice none 0 0, .slice none 0 0, .slice none 0 0] 28) := by rw [hW1]; exact (store3_other d53).trans y5_0
  have y6_1 : W1.heap[b6]? = some (.cells #[.slice none 0 0, .slice none 0 0, .slice none 0 0] 28) := by rw [hW1]; exact (store3_other d63).trans y6_0
  have y7_1 : W1.heap[b7]? = some (.cells #[.slice none 0 0, .slice none 0 0, .slice none 0 0] 28) := by rw [hW1]; exact (store3_other d73).trans y7_0
  have kk1 : KeepC w W1 := kk0.trans (by rw [hW1]; exact store3_keep _ _ _ y3_0)
  have B1 : Below WL.heap.size WL W1 := by rw [hW1]; exact store3_below _ _ _ B0 l3
  clear hW1 y3_0 y4_0 y5_0 y6_0 y7_0
  try simp only [Act.put, s1, s2, s3, s4, s5, s6]
  refine wpAny_ready (rs := [21]) (by decide +kernel) (by simp) ?_
  refine (AllReady.cons rfl (fun K hK => ?_) AllReady.nil)
  have f0 := froz0 y4_1 0;have f1 := froz0 y4_1 1;have f2 := froz0 y4_1 2;have c0 : World.cell? W1 ⟨b4, 0, none⟩ = some (.slice none 0 0) := cl0 y4_1 0 rfl;have c1 : World.cell? W1 ⟨b4, 1, none⟩ = some (.slice none 0 0) := cl0 y4_1 1 rfl;have c2 : World.cell? W1 ⟨b4, 2, none⟩ = some (.slice none 0 0) := cl0 y4_1 2 rfl;go_simp;refine hK _ _ ?_;clear hK K f0 f1 f2 c0 c1 c2;change wpAny _ _ _ _ _ _ _ (store3 W1 b4 (.slice o41 n41 k41) (.slice o42 n42 k42) (.slice o43 n43 k43));obtain ⟨W2, hW2⟩ : ∃ x, x = store3 W1 b4 (.slice o41 n41 k41) (.slice o42 n42 k42) (.slice o43 n43 k43) := ⟨_, rfl⟩;rw [← hW2];have y3_2 : W2.heap[b3]? = some (.cells #[.slice o31 n31 k31, .slice o32 n32 k32, .slice o33 n33 k33] 28) := by rw [hW2]; exact (store3_other d34).trans y3_1
  have y4_2 : W2.heap[b4]? = some (.cells #[.slice o41 n41 k41, .slice o42 n42 k42, .slice o43 n43 k43] 28) := by rw [hW2]; exact store3_same y4_1
  have y5_2 : W2.heap[b5]? = some (.cells #[.slice none 0 0, .slice none 0 0, .slice none 0 0] 28) := by rw [hW2]; exact (store3_other d54).trans y5_1
  have y6_2 : W2.heap[b6]? = some (.cells #[.slice none 0 0, .slice none 0 0, .slice none 0 0] 28) := by rw [hW2]; exact (store3_other d64).trans y6_1
  have y7_2 : W2.heap[b7]? = some (.cells #[.slice none 0 0, .slice none 0 0, .slice none 0 0] 28) := by rw [hW2]; exact (store3_other d74).trans y7_1
  have kk2 : KeepC w W2 := kk1.trans (by rw [hW2]; exact store3_keep _ _ _ y4_1)
  have B2 : Below WL.heap.size WL W2 := by rw [hW2]; exact store3_below _ _ _ B1 l4
  clear hW2 y3_1 y4_1 y5_1 y6_1 y7_1
  try simp only [Act.put, s1, s2, s3, s4, s5, s6]
  refine wpAny_ready (rs := [22]) (by decide +kernel) (by simp) ?_
  refine (AllReady.cons rfl (fun K hK => ?_) AllReady.nil)
  have f0 := froz0 y5_2 0;have f1 := froz0 y5_2 1;have f2 := froz0 y5_2 2;have c0 : World.cell? W2 ⟨b5, 0, none⟩ = some (.slice none 0 0) := cl0 y5_2 0 rfl;have c1 : World.cell? W2 ⟨b5, 1, none⟩ = some (.slice none 0 0) := cl0 y5_2 1 rfl;have c2 : World.cell? W2 ⟨b5, 2, none⟩ = some (.slice none 0 0) := cl0 y5_2 2 rfl;go_simp;refine hK _ _ ?_;clear hK K f0 f1 f2 c0 c1 c2;change wpAny _ _ _ _ _ _ _ (store3 W2 b5 (.slice o51 n51 k51) (.slice o52 n52 k52) (.slice o53 n53 k53));obtain ⟨W3, hW3⟩ : ∃ x, x = store3 W2 b5 (.slice o51 n51 k51) (.slice o52 n52 k52) (.slice o53 n53 k53) := ⟨_, rfl⟩;rw [← hW3];have y3_3 : W3.heap[b3]? = some (.cells #[.slice o31 n31 k31, .slice o32 n32 k32, .slice o33 n33 k33] 28) := by rw [hW3]; exact (store3_other d35).trans y3_2
  have y4_3 : W3.heap[b4]? = some (.cells #[.slice o41 n41 k41, .slice o42 n42 k42, .slice o43 n43 k43] 28) := by rw [hW3]; exact (store3_other d45).trans y4_2
  have y5_3 : W3.heap[b5]? = some (.cells #[.slice o51 n51 k51, .slice o52 n52 k52, .slice o53 n53 k53] 28) := by rw [hW3]; exact store3_same y5_2
  have y6_3 : W3.heap[b6]? = some (.cells #[.slice none 0 0, .slice none 0 0, .slice none 0 0] 28) := by rw [hW3]; exact (store3_other d65).trans y6_2
  have y7_3 : W3.heap[b7]? = some (.cells #[.slice none 0 0, .slice none 0 0, .slice none 0 0] 28) := by rw [hW3]; exact (store3_other d75).trans y7_2
  have kk3 : KeepC w W3 := kk2.trans (by rw [hW3]; exact store3_keep _ _ _ y5_2)
  have B3 : Below WL.heap.size WL W3 := by rw [hW3]; exact store3_below _ _ _ B2 l5
  clear hW3 y3_2 y4_2 y5_2 y6_2 y7_2
  try simp only [Act.put, s1, s2, s3, s4, s5, s6]
  refine wpAny_ready (rs := [23]) (by decide +kernel) (by simp) ?_
  refine (AllReady.cons rfl (fun K hK => ?_) AllReady.nil)
  have f0 := froz0 y6_3 0;have f1 := froz0 y6_3 1;have f2 := froz0 y6_3 2;have c0 : World.cell? W3 ⟨b6, 0, none⟩ = some (.slice none 0 0) := cl0 y6_3 0 rfl;have c1 : World.cell? W3 ⟨b6, 1, none⟩ = some (.slice none 0 0) := cl0 y6_3 1 rfl;have c2 : World.cell? W3 ⟨b6, 2, none⟩ = some (.slice none 0 0) := cl0 y6_3 2 rfl;go_simp;refine hK _ _ ?_;clear hK K f0 f1 f2 c0 c1 c2;change wpAny _ _ _ _ _ _ _ (store3 W3 b6 (.slice o61 n61 k61) (.slice o62 n62 k62) (.slice o63 n63 k63));obtain ⟨W4, hW4⟩ : ∃ x, x = store3 W3 b6 (.slice o61 n61 k61) (.slice o62 n62 k62) (.slice o63 n63 k63) := ⟨_, rfl⟩;rw [← hW4];have y3_4 : W4.heap[b3]? = some (.cells #[.slice o31 n31 k31, .slice o32 n32 k32, .slice o33 n33 k33] 28) := by rw [hW4]; exact (store3_other d36).trans y3_3
  have y4_4 : W4.heap[b4]? = some (.cells #[.slice o41 n41 k41, .slice o42 n42 k42, .slice o43 n43 k43] 28) := by rw [hW4]; exact (store3_other d46).trans y4_3
  have y5_4 : W4.heap[b5]? = some (.cells #[.slice o51 n51 k51, .slice o52 n52 k52, .slice o53 n53 k53] 28) := by rw [hW4]; exact (store3_other d56).trans y5_3
  have y6_4 : W4.heap[b6]? = some (.cells #[.slice o61 n61 k61, .slice o62 n62 k62, .slice o63 n63 k63] 28) := by rw [hW4]; exact store3_same y6_3
  have y7_4 : W4.heap[b7]? = some (.cells #[.slice none 0 0, .slice none 0 0, .slice none 0 0] 28) := by rw [hW4]; exact (store3_other d76).trans y7_3
  have kk4 : KeepC w W4 := kk3.trans (by rw [hW4]; exact store3_keep _ _ _ y6_3)
  have B4 : Below WL.heap.size WL W4 := by rw [hW4]; exact store3_below _ _ _ B3 l6
  clear hW4 y3_3 y4_3 y5_3 y6_3 y7_3
  try simp only [Act.put, s1, s2, s3, s4, s5, s6]
  refine wpAny_ready (rs := [24]) (by decide +kernel) (by simp) ?_
  refine (AllReady.cons rfl (fun K hK => ?_) AllReady.nil)
  have f0 := froz0 y7_4 0;have f1 := froz0 y7_4 1;have f2 := froz0 y7_4 2;have c0 : World.cell? W4 ⟨b7, 0, none⟩ = some (.slice none 0 0) := cl0 y7_4 0 rfl;have c1 : World.cell? W4 ⟨b7, 1, none⟩ = some (.slice none 0 0) := cl0 y7_4 1 rfl;have c2 : World.cell? W4 ⟨b7, 2, none⟩ = some (.slice none 0 0) := cl0 y7_4 2 rfl;go_simp;refine hK _ _ ?_;clear hK K f0 f1 f2 c0 c1 c2;change wpAny _ _ _ _ _ _ _ (store3 W4 b7 (.slice none 0 0) (.slice none 0 0) (.slice none 0 0));obtain ⟨W5, hW5⟩ : ∃ x, x = store3 W4 b7 (.slice none 0 0) (.slice none 0 0) (.slice none 0 0) := ⟨_, rfl⟩;rw [← hW5];have y3_5 : W5.heap[b3]? = some (.cells #[.slice o31 n31 k31, .slice o32 n32 k32, .slice o33 n33 k33] 28) := by rw [hW5]; exact (store3_other d37).trans y3_4
  have y4_5 : W5.heap[b4]? = some (.cells #[.slice o41 n41 k41, .slice o42 n42 k42, .slice o43 n43 k43] 28) := by rw [hW5]; exact (store3_other d47).trans y4_4
  have y5_5 : W5.heap[b5]? = some (.cells #[.slice o51 n51 k51, .slice o52 n52 k52, .slice o53 n53 k53] 28) := by rw [hW5]; exact (store3_other d57).trans y5_4
  have y6_5 : W5.heap[b6]? = some (.cells #[.slice o61 n61 k61, .slice o62 n62 k62, .slice o63 n63 k63] 28) := by rw [hW5]; exact (store3_other d67).trans y6_4
  have y7_5 : W5.heap[b7]? = some (.cells #[.slice none 0 0, .slice none 0 0, .slice none 0 0] 28) := by rw [hW5]; exact store3_same y7_4
  have kk5 : KeepC w W5 := kk4.trans (by rw [hW5]; exact store3_keep _ _ _ y7_4)
  have B5 : Below WL.heap.size WL W5 := by rw [hW5]; exact store3_below _ _ _ B4 l7
  clear hW5 y3_4 y4_4 y5_4 y6_4 y7_4
  try simp only [Act.put, s1, s2, s3, s4, s5, s6]
  refine wpAny_done (by kernel_rfl) ?_ _
  simp only [NQ]
  try simp only [Act.put, s1, s2, s3, s4, s5, s6]
  have hq := hQ u b3 b4 b5 b6 b7 W5 B5 ⟨_, _, _, _, _, _, _, _, _, y3_5, kk5.cart kv.1 HV3.out⟩ ⟨_, _, _, _, _, _, _, _, _, y4_5, kk5.cart kv.2.1 HV4.out⟩ ⟨_, _, _, _, _, _, _, _, _, y5_5, kk5.cart kv.2.2.1 HV5.out⟩ ⟨_, _, _, _, _, _, _, _, _, y6_5, kk5.cart kv.2.2.2.1 HV6.out⟩ ⟨_, _, _, _, _, _, _, _, _, y7_5, kk5.cart kv.2.2.2.2.2.2.2.1 HV7.out⟩;simp only [e3, e7, e9, e13, e14] at hq;exact hq
theorem l11known_any (w : World) (hG : GlobIs w) : Calls Tryz.prog 9 #[] w fun e w' => e = .returned (.bool true) ∧ Below w.heap.size w w' := by
 have HGL := Hd hG;clear hG
 go_enter Tryz.func9, Tryz.ntmps9
 go_wp2_with fail
 refine (l11mark_any 1 1 5 3 w).mono ?_;rintro e w1 ⟨rfl, hb1⟩
 go_wp2_with fail
 refine (l11mark_any 2 1 7 4 w1).mono ?_;rintro e w2 ⟨rfl, hb2⟩;obtain ⟨WA, hWA⟩ : ∃ x, x = w2.alloc (.cells #[.int .i64 1, .int .i64 1, .int .i64 5, .int .u64 3] 54) := ⟨_, rfl⟩;obtain ⟨WL, hWL⟩ : ∃ x, x = WA.alloc (.cells #[.int .i64 2, .int .i64 1, .int .i64 7, .int .u64 4] 54) := ⟨_, rfl⟩;have hsA : WA.heap.size = w2.heap.size + 1 := by rw [hWA, alloc_size]
 have hbA : Below w2.heap.size w2 WA := by rw [hWA]; exact bal
 have hbL : Below WA.heap.size WA WL := by rw [hWL]; exact bal
 have x1 : WA.heap[w2.heap.size]? = some (.cells #[.int .i64 1, .int .i64 1, .int .i64 5, .int .u64 3] 54) := by rw [hWA]; exact alloc_new _ _
 have m1 : MarkB WL w2.heap.size j1 := (hbL.block _ (lt_of_heap x1)).trans x1;have m2 : MarkB WL (w2.heap.size + 1) j2 := by
  have : WL.heap[WA.heap.size]? = some (.cells #[.int .i64 2, .int .i64 1, .int .i64 7, .int .u64 4] 54) := by rw [hWL]; exact alloc_new _ _
  rw [hsA] at this;exact this
 have HB2 := Hd ((btr hb1 hb2).trans ((btr hbA hbL).mono (Nat.le_trans hb1.size hb2.size)));have HWL : Hid (WL = (w2.alloc (.cells #[.int .i64 1, .int .i64 1, .int .i64 5, .int .u64 3] 54)).alloc (.cells #[.int .i64 2, .int .i64 1, .int .i64 7, .int .u64 4] 54)) := Hd (by rw [hWL, hWA])
 clear hb1 hb2 hWA hWL hsA hbA hbL x1
 go_upto_region 2 with fail
 rw [← HWL.out];clear HWL;generalize w2.heap.size + 1 = b2 at *
 generalize w2.heap.size = b1 at *
 refine NQ.to (known2 WL b1 b2 m1 m2 _ ?_);intro u b3 b4 b5 b6 b7 w3 hb3 h3 h4 h5 h6 h7;have n1 := m1.below hb3;have n2 := m2.below hb3;have hl1 : b1 < w3.heap.size := lt_of_heap n1;have hl2 : b2 < w3.heap.size := lt_of_heap n2;have c0 : w3.cell? ⟨b1, 0, none⟩ = some (.int .i64 1) := cl0 n1 0 rfl;have c1 : w3.cell? ⟨b1, 1, none⟩ = some (.int .i64 1) := cl0 n1 1 rfl;have c2 : w3.cell? ⟨b1, 2, none⟩ = some (.int .i64 5) := cl0 n1 2 rfl;have c3 : w3.cell? ⟨b1, 3, none⟩ = some (.int .u64 3) := cl0 n1 3 rfl;have d0 : w3.cell? ⟨b2, 0, none⟩ = some (.int .i64 2) := cl0 n2 0 rfl;have d1 : w3.cell? ⟨b2, 1, none⟩ = some (.int .i64 1) := cl0 n2 1 rfl;have d2 : w3.cell? ⟨b2, 2, none⟩ = some (.int .i64 7) := cl0 n2 2 rfl;have d3 : w3.cell? ⟨b2, 3, none⟩ = some (.int .u64 4) := cl0 n2 3 rfl;obtain ⟨WB, hWB⟩ : ∃ x, x = w3.alloc (.cells #[.int .i64 1, .int .i64 1, .int .i64 2, .int .i64 1] 3) := ⟨_, rfl⟩;obtain ⟨WC, hWC⟩ : ∃ x, x = WB.alloc (.cells #[.int .i64 1, .int .i64 1, .int .i64 5, .int .u64 3, .int .i64 2, .int .i64 1, .int .i64 7, .int .u64 4] 54) := ⟨_, rfl⟩;have hbB : Below w3.heap.size w3 WB := by rw [hWB]; exact bal
 have hbC : Below WB.heap.size WB WC := by rw [hWC]; exact bal
 have hsB : WB.heap.size = w3.heap.size + 1 := by rw [hWB, alloc_size]
 have hp : PairsIs WC (.slice (some ⟨w3.heap.size, 0, none⟩) 4 4) [⟨1, 1⟩, ⟨2, 1⟩] := by
  have := pairs_lit2 w3 1 1 2 1 3;rw [← hWB] at this;exact this.below hbC
 have hr : EMark.Row 0 WC (.slice (some ⟨w3.heap.size + 1, 0, none⟩) 2 2) [j1, j2] := by
  have := marks_lit WB [j1, j2] #[.int .i64 1, .int .i64 1, .int .i64 5, .int .u64 3, .int .i64 2, .int .i64 1, .int .i64 7, .int .u64 4] 2 rfl rfl (by decide)
  rw [← hWC, hsB] at this;exact this
 have HOF := Hd (ofV hp hr (mi_all (by decide)) (di_all (by decide)) (by decide) (show _ = jXY by decide))
 have HWC : Hid (WC = (w3.alloc (.cells #[.int .i64 1, .int .i64 1, .int .i64 2, .int .i64 1] 3)).alloc (.cells #[.int .i64 1, .int .i64 1, .int .i64 5, .int .u64 3, .int .i64 2, .int .i64 1, .int .i64 7, .int .u64 4] 54)) := Hd (by rw [hWC, hWB])
 have HB3 := Hd (HB2.out.trans ((hb3.trans ((btr hbB hbC).mono hb3.size)).mono HB2.out.size));have hbC3 := btr hbB hbC;have HN1 := Hd (n1.below hbC3);have HN2 := Hd (n2.below hbC3);have H3 := Hd (h3.below hbC3);have H4 := Hd (h4.below hbC3);have H5 := Hd (h5.below hbC3);have H6 := Hd (h6.below hbC3);have H7 := Hd (h7.below hbC3);have HG3 := Hd (HGL.out.below HB3.out);clear m1 m2 n1 n2 h3 h4 h5 h6 h7 hp hr hWB hWC hbB hbC hsB hb3 hbC3
 go_wp2_with fail
 rw [← HWC.out];refine HOF.out.mono ?_;rintro e w5 ⟨v, rfl, hv, hb5⟩;have hv2 := hv;obtain ⟨o1, q1, k1, o2, q2, k2, o3, q3, k3, rfl, -, -⟩ := hv2;obtain ⟨WD, hWD⟩ : ∃ x, x = w5.alloc (.cells #[.slice o1 q1 k1, .slice o2 q2 k2, .slice o3 q3 k3] 28) := ⟨_, rfl⟩;have hbD : Below w5.heap.size w5 WD := by rw [hWD]; exact bal
 have h8 : CartB WD w5.heap.size jXY := ⟨_, _, _, _, _, _, _, _, _, by rw [hWD]; exact alloc_new _ _, hv.below hbD⟩
 have hb5D := btr hb5 hbD;have HB5 := Hd (btr HB3.out hb5D);have HWD := Hd hWD;have HG5 := Hd (HGL.out.below HB5.out);have n1 := HN1.out.below hb5D;have n2 := HN2.out.below hb5D;have h3 := H3.out.below hb5D;have h4 := H4.out.below hb5D;have h5 := H5.out.below hb5D;have h6 := H6.out.below hb5D;have h7 := H7.out.below hb5D;have HN1 := Hd n1;have HN2 := Hd n2;have H3 := Hd h3;have H4 := Hd h4;have H5 := Hd h5;have H6 := Hd h6;have H7 := Hd h7;have H8 := Hd h8;clear hv hb5 hbD hWD n1 n2 h3 h4 h5 h6 h7 h8 hb5D HOF HWC c0 c1 c2 c3 d0 d1 d2 d3
 go_upto_region 4 with fail
 rw [← HWD.out];clear HWD;generalize w5.heap.size = b8 at *
 refine NQ.to (known4 WD b1 b2 b3 b4 b5 b6 b7 b8 _ _ _ _ _ _ _ _ _ _ _ _ _ _ _ _ _ _ _ _ _ _ HG5.out HN1.out HN2.out H3.out H4.out H5.out H6.out H7.out H8.out _ ?_);intro y w7 e53 hb7;rw [e53]
 go_upto_region 6 with fail
 refine NQ.to (known6 w7 b1 b2 b3 b4 b5 b6 b7 b8 _ _ _ _ _ _ _ _ _ _ _ _ _ _ _ _ _ _ _ _ _ _ _ _ _ _ _ _ _ _ _ _ _ _ _ _ _ _ _ _ _ _ _ _ _ _ _ _ _ _ _ _ _ _ _ _ _ _ _ _ _ _ _ _ _ _ _ _ _ _ _ _ _ _ _ _ (HG5.out.below hb7) (HN1.out.below hb7) (HN2.out.below hb7) (H3.out.below hb7) (H4.out.below hb7) (H5.out.below hb7) (H6.out.below hb7) (H7.out.below hb7) (H8.out.below hb7) _ ?_);intro z w9 e36 hb9;rw [e36];have HBF := Hd (HB5.out.trans ((btr hb7 hb9).mono HB5.out.size));clear hb7 hb9
 go_wp2_with fail
 go_ret
 exact ⟨rfl, HBF.out⟩
end Go.Proofs.YtemfaojmelljpaaGreatDoor

