/- DeltaMany inside. -/
import Derived.Test.YtfnfbcaoihhbpaaGreatDoorE11a
import Derived.Laws.BytesArg
set_option linter.unusedSimpArgs false
set_option linter.unusedVariables false
set_option maxRecDepth 100000
set_option maxHeartbeats 16000000
namespace Go.Proofs.YtfnfbcaoihhbpaaGreatDoor
open Go.RowKit Go.Maps Go.Sort Go.Shelf
theorem many_conv (w : World) (b k : Nat) (h : w.heap[b]? = some (.cells #[.int .u8 (97 + (k : Int) / 16), .int .u8 (97 + (k : Int) % 16)] 5)) :
  (convert 52 9 (.slice (some ⟨b, 0, none⟩) 2 2)).run Tryz.prog w = .ok (.string (manyName k)) w := by
 rw [run_convert_bytes_arg w 52 5 Tryz.underlying52 Tryz.underlying5 b 0 2 2 [97 + (k : Int) / 16, 97 + (k : Int) % 16] rfl (fun i hi => by
  rw [cell0 h]
  match i, hi with
  | 0, _ => rfl
  | 1, _ => rfl) 9 Tryz.underlying9]
 have e : strOfNums [97 + (k : Int) / 16, 97 + (k : Int) % 16] = manyName k := by
  unfold strOfNums manyName
  simp only [List.map_cons, List.map_nil]
  rw [show (97 + (k : Int) / 16).toNat = 97 + k / 16 by omega, show (97 + (k : Int) % 16).toNat = 97 + k % 16 by omega]
 rw [e]
inductive Km where
 | val (v : Value)
 | mrow
 | itm
 | itms
 | bytes
 | free
def Km.holds (k B : Nat) : Km → Value → World → Prop
 | .val x, v, _ => v = x
 | .mrow, v, w => ∃ b, v = .slice (some ⟨b, 0, none⟩) 1 1 ∧ EMark.Row B w (.slice (some ⟨b, 0, none⟩) 1 1) [⟨⟨1, (k : Int) + 1⟩, 5, 7⟩]
 | .itm, v, w => ∃ b, v = .agg #[.string (manyName k), .slice (some ⟨b, 0, none⟩) 1 1] ∧ EMark.Row B w (.slice (some ⟨b, 0, none⟩) 1 1) [⟨⟨1, (k : Int) + 1⟩, 5, 7⟩]
 | .itms, v, w => ∃ q : ItW, q.x = manyItem k ∧ FreshI B w v [q]
 | .bytes, v, w => ∃ b, v = .slice (some ⟨b, 0, none⟩) 2 2 ∧ w.heap[b]? = some (.cells #[.int .u8 (97 + (k : Int) / 16), .int .u8 (97 + (k : Int) % 16)] 5)
 | .free, _, _ => True
theorem Km.below {k B : Nat} {w w' : World} (hb : Below w.heap.size w w') : ∀ (x : Km) (v : Value), x.holds k B v w → x.holds k B v w'
 | .val _, _, h => h
 | .mrow, _, ⟨b, e, h⟩ => ⟨b, e, h.below hb⟩
 | .itm, _, ⟨b, e, h⟩ => ⟨b, e, h.below hb⟩
 | .itms, _, ⟨q, e, h⟩ => ⟨q, e, h.below hb⟩
 | .bytes, _, ⟨b, e, h⟩ => ⟨b, e, (hb.block _ (lt_of_heap h)).trans h⟩
 | .free, _, _ => trivial
theorem many_lit {k B : Nat} {w : World} {b : Nat} (hB : B ≤ w.heap.size) (h : EMark.Row B w (.slice (some ⟨b, 0, none⟩) 1 1) [⟨⟨1, (k : Int) + 1⟩, 5, 7⟩]) (hk : k < 258) : ∃ q : ItW, q.x = manyItem k ∧ FreshI B (w.alloc (.cells #[.string (manyName k), .slice (some ⟨b, 0, none⟩) 1 1] 50)) (.slice (some ⟨w.heap.size, 0, none⟩) 1 1) [q] := by
 have hbb : Below w.heap.size w (w.alloc (.cells #[.string (manyName k), .slice (some ⟨b, 0, none⟩) 1 1] 50)) := bal
 have hr : EItem.Row B (w.alloc (.cells #[.string (manyName k), .slice (some ⟨b, 0, none⟩) 1 1] 50)) (.slice (some ⟨w.heap.size, 0, none⟩) 1 1) [⟨manyItem k, some ⟨b, 0, none⟩, 1⟩] := (row_lit EItem [⟨manyItem k, some ⟨b, 0, none⟩, 1⟩] w (by unfold maxLen; simp)).mono hB
 have hok : ItOk B (w.alloc (.cells #[.string (manyName k), .slice (some ⟨b, 0, none⟩) 1 1] 50)) ⟨manyItem k, some ⟨b, 0, none⟩, 1⟩ := ⟨by show (manyName k).size ≤ maxLen; unfold maxLen; show 2 ≤ _; omega, h.below hbb, fun m hm => by
  have e : m = ⟨⟨1, (k : Int) + 1⟩, 5, 7⟩ := List.mem_singleton.1 hm
  rw [e]
  exact ⟨⟨show (-9223372036854775808 : Int) ≤ 1 by decide, show (1 : Int) ≤ 9223372036854775807 by decide⟩, ⟨by show -9223372036854775808 ≤ (k : Int) + 1; omega, by show (k : Int) + 1 ≤ 9223372036854775807; omega⟩, ⟨show (-9223372036854775808 : Int) ≤ 5 by decide, show (5 : Int) ≤ 9223372036854775807 by decide⟩, ⟨show (0 : Int) ≤ 7 by decide, show (7 : Int) ≤ 18446744073709551615 by decide⟩⟩⟩
 exact ⟨_, rfl, hr, fun p hp => by rw [List.mem_singleton.1 hp]; exact ⟨hok, apart_types hr hok.2.1⟩, List.pairwise_singleton _ _⟩
theorem alloc_at {w : World} {o : Obj} {k : Nat} (h : w.heap.size = k) : (w.alloc o).heap[k]? = some o := by subst h; exact alloc_new _ _
theorem many_di {x : Int} (h : 0 ≤ x ∧ x ≤ 1000) : ∀ d ∈ ([⟨1, x⟩] : List DotD), DI d := fun d hd => by
 rw [List.mem_singleton.1 hd]
 exact ⟨⟨show (-9223372036854775808 : Int) ≤ 1 by decide, show (1 : Int) ≤ 9223372036854775807 by decide⟩, ⟨by show -9223372036854775808 ≤ x; omega, by show x ≤ 9223372036854775807; omega⟩⟩
theorem many_di2 {x : Int} (h : 0 ≤ x ∧ x ≤ 1000) : ∀ d ∈ ([⟨1, 1⟩, ⟨1, x⟩] : List DotD), DI d := fun d hd => by
 rcases List.mem_cons.1 hd with rfl | hd
 ·exact many_di (x := 1) (by omega) _ (List.mem_singleton.2 rfl)
 ·exact many_di h d hd
theorem many_mi {x q t : Int} (h : 0 ≤ x ∧ x ≤ 1000) (hq : 0 ≤ q ∧ q ≤ 1000) (ht : 0 ≤ t ∧ t ≤ 1000) : ∀ m ∈ ([⟨⟨1, x⟩, q, t⟩] : List MarkD), MI m := fun m hm => by
 rw [List.mem_singleton.1 hm]
 have := many_di h ⟨1, x⟩ (List.mem_singleton.2 rfl)
 exact ⟨this.1, this.2, ⟨by show -9223372036854775808 ≤ q; omega, by show q ≤ 9223372036854775807; omega⟩, ⟨by show 0 ≤ t; omega, by show t ≤ 18446744073709551615; omega⟩⟩
theorem manyC_sz {n : Nat} (h : n ≤ 258) : Lt (manyC n).items ∧ (allDots (manyC n).items).length ≤ 9000 := by
 have hl : (manyC n).items.length = n := manyI_len n
 have hm : ∀ x ∈ (manyC n).items, x.marks.length ≤ 1 := fun x hx => by
  obtain ⟨i, -, rfl⟩ := many_mem hx
  exact Nat.le_refl _
 have := allDots_mul (n := 1) (manyC n).items hm
 exact ⟨⟨by omega, fun x hx => by have := hm x hx; omega⟩, by omega⟩
def km7 (bC k k3 : Nat) (o3 : Option Addr) (j : Nat) : Km := [.val (.pointer (some ⟨bC, 2, none⟩)), .val (.slice o3 k k3), .val (.int .i64 (k : Int)), .val (.int .i64 ((k : Int) / 16)), .val (.int .i64 (97 + (k : Int) / 16)), .val (.int .u8 (97 + (k : Int) / 16)), .val (.int .i64 (k : Int)), .val (.int .i64 ((k : Int) % 16)), .val (.int .i64 (97 + (k : Int) % 16)), .val (.int .u8 (97 + (k : Int) % 16)), .bytes, .val (.string (manyName k)), .val (.int .i64 (k : Int)), .val (.int .i64 ((k : Int) + 1)), .val (.agg #[.int .i64 1, .int .i64 ((k : Int) + 1), .int .i64 5, .int .u64 7]), .mrow, .itm, .itms].getD j .free
set_option linter.unusedSimpArgs false in
set_option linter.unusedVariables false in
set_option maxRecDepth 100000 in
set_option maxHeartbeats 16000000 in
theorem many7 (k bC Bs : Nat) (hk : k < 258) (ps : List ItW) (WL : World) (y1 y2 : Value) (o3 : Option Addr) (k3 : Nat) (a0 a2 z5 z6 z7 z8 z9 z10 z11 z12 z13 z14 z15 z16 z17 z18 z19 z20 z21 z22 z23 z24 z25 z26 z27 z28 z29 z30 z31 z32 z33 z34 z35 z36 z37 z38 z39 z40 z41 z42 z43 z44 z45 z46 z47 z48 z49 z50 z51 z52 z53 z54 z55 z56 z57 z58 z59 z60 z61 z62 z63 z64 z65 z66 z67 z68 z69 z70 z71 z72 z73 z74 z75 z76 z77 z78 z79 z80 z81 z82 z83 z84 z85 z86 z87 z88 z89 z90 z91 z92 z93 z94 z95 z96 z97 z98 z99 z100 z101 z102 z103 z104 z105 z106 z107 z108 z109 : Value) (hps : ps.length = k) (hx : WL.heap[bC]? = some (.cells #[y1, y2, .slice o3 k k3] 28)) (hF : FreshI Bs WL (.slice o3 k k3) ps) (hB : Bs ≤ WL.heap.size) (hbC : bC < Bs) (R : Act → World → Prop)
  (hQ : ∀ (y27 y28 y29 y30 y31 y32 y33 y34 y35 y36 y37 y38 y39 y40 y41 y42 y43 y44 y45 y46 : Value) (w : World) (o4 : Option Addr) (k4 : Nat) (q : ItW), q.x = manyItem k → FreshI Bs w (.slice o4 (k + 1) k4) (ps ++ [q]) → w.heap[bC]? = some (.cells #[y1, y2, .slice o4 (k + 1) k4] 28) → Below bC WL w → Bs ≤ w.heap.size → R { tmps := #[a0, undef, a2, .pointer (some ⟨bC, 0, none⟩), .int .i64 (k : Int), z5, z6, z7, z8, z9, z10, z11, z12, z13, z14, z15, z16, z17, z18, z19, z20, z21, z22, z23, z24, z25, z26, y27, y28, y29, y30, y31, y32, y33, y34, y35, y36, y37, y38, y39, y40, y41, y42, y43, y44, y45, y46, z47, z48, z49, z50, z51, z52, z53, z54, z55, z56, z57, z58, z59, z60, z61, z62, z63, z64, z65, z66, z67, z68, z69, z70, z71, z72, z73, z74, z75, z76, z77, z78, z79, z80, z81, z82, z83, z84, z85, z86, z87, z88, z89, z90, z91, z92, z93, z94, z95, z96, z97, z98, z99, z100, z101, z102, z103, z104, z105, z106, z107, z108, z109], defers := [] } w) :
  (codeAt [1, 1, 1, 0, 1, 0, 0, 1, 0, 0] (Tryz.f5.body.getD .skip)).wp Tryz.prog (NQ R) { tmps := #[a0, undef, a2, .pointer (some ⟨bC, 0, none⟩), .int .i64 (k : Int), z5, z6, z7, z8, z9, z10, z11, z12, z13, z14, z15, z16, z17, z18, z19, z20, z21, z22, z23, z24, z25, z26, z27, z28, z29, z30, z31, z32, z33, z34, z35, z36, z37, z38, z39, z40, z41, z42, z43, z44, z45, z46, z47, z48, z49, z50, z51, z52, z53, z54, z55, z56, z57, z58, z59, z60, z61, z62, z63, z64, z65, z66, z67, z68, z69, z70, z71, z72, z73, z74, z75, z76, z77, z78, z79, z80, z81, z82, z83, z84, z85, z86, z87, z88, z89, z90, z91, z92, z93, z94, z95, z96, z97, z98, z99, z100, z101, z102, z103, z104, z105, z106, z107, z108, z109], defers := [] } WL := by
 have HXC := Hd (fun wz (hz : Below WL.heap.size WL wz) => (hz.block _ (lt_of_heap hx)).trans hx)
 have HC := Hd (fun wz (hz : Below WL.heap.size WL wz) => cl0 (HXC.out wz hz) 2 rfl)
 have HF := Hd hF
 have HBs := Hd hB
 have HBC := Hd hbC
 have HPS := Hd hps
 have hq0 : (0 : Int) ≤ (k : Int) := by omega
 have kw1 : IntKind.i64.wrap (97 + (k : Int) / 16) = 97 + (k : Int) / 16 := by rw [IntKind.wrap_i64]; omega
 have kw2 : IntKind.i64.wrap (97 + (k : Int) % 16) = 97 + (k : Int) % 16 := by rw [IntKind.wrap_i64]; omega
 have kw3 : IntKind.u8.wrap (97 + (k : Int) / 16) = 97 + (k : Int) / 16 := by rw [IntKind.wrap_u8]; omega
 have kw4 : IntKind.u8.wrap (97 + (k : Int) % 16) = 97 + (k : Int) % 16 := by rw [IntKind.wrap_u8]; omega
 have kw5 : IntKind.i64.wrap ((k : Int) + 1) = (k : Int) + 1 := by rw [IntKind.wrap_i64]; omega
 have kw6 : IntKind.i64.wrap ((k : Int) / 16) = (k : Int) / 16 := by rw [IntKind.wrap_i64]; omega
 have kw7 : ((k : Int)).tmod 16 = (k : Int) % 16 := Int.tmod_eq_emod_of_nonneg hq0
 clear hx hF hB hbC hps
 simp only [codeAt, codeL, codeR, Tryz.f5, Option.getD_some]
 refine wp_region_any (by kernel_rfl) ?_
 try (change wpAny _ _ _ _ _ _ _ (World.drew _))
 refine wpAny_invC 18 12 #[true, true, true, true, true, true, true, true, true, true, true, true, true, true, true, true, true, true, false, false, false] _ (RegI 18 (fun u => { tmps := #[a0, undef, a2, .pointer (some ⟨bC, 0, none⟩), .int .i64 (k : Int), z5, z6, z7, z8, z9, z10, z11, z12, z13, z14, z15, z16, z17, z18, z19, z20, z21, z22, z23, z24, z25, z26, u 0, u 1, u 2, u 3, u 4, u 5, u 6, u 7, u 8, u 9, u 10, u 11, u 12, u 13, u 14, u 15, u 16, u 17, z45, z46, z47, z48, z49, z50, z51, z52, z53, z54, z55, z56, z57, z58, z59, z60, z61, z62, z63, z64, z65, z66, z67, z68, z69, z70, z71, z72, z73, z74, z75, z76, z77, z78, z79, z80, z81, z82, z83, z84, z85, z86, z87, z88, z89, z90, z91, z92, z93, z94, z95, z96, z97, z98, z99, z100, z101, z102, z103, z104, z105, z106, z107, z108, z109], defers := [] }) (fun wz => Below WL.heap.size WL wz) (fun j => ((km7 bC k k3 o3) j).holds k WL.heap.size) (fun _ => false)) (by decide +kernel) (by decide +kernel) (by decide +kernel) (by decide +kernel) (by decide +kernel) (by decide +kernel) (by decide +kernel) (by decide +kernel) (by decide +kernel) ?_ ?_ _ (by decide +kernel) _ _ (RegI.start (fun j => [z27, z28, z29, z30, z31, z32, z33, z34, z35, z36, z37, z38, z39, z40, z41, z42, z43, z44].getD j undef) rfl bdr)
 · intro i hi listed a w hl hI K hK
   obtain ⟨u, rfl, hS, hP, hD⟩ := hI
   have hcase : i = 0 ∨ i = 1 ∨ i = 2 ∨ i = 3 ∨ i = 4 ∨ i = 5 ∨ i = 6 ∨ i = 7 ∨ i = 8 ∨ i = 9 ∨ i = 10 ∨ i = 11 ∨ i = 12 ∨ i = 13 ∨ i = 14 ∨ i = 15 ∨ i = 16 ∨ i = 17 := by omega
   clear hi
   rcases hcase with rfl | rfl | rfl | rfl | rfl | rfl | rfl | rfl | rfl | rfl | rfl | rfl | rfl | rfl | rfl | rfl | rfl | rfl
   · clear hl
     refine wpOp_of rfl ?_
     go_simp
     refine hK _ _ ?_
     refine RegI.keep 0 _ hP hD (fun _ _ h => h) hS (rfl) (fun h => by simp at h) ?_
     simp only [Act.put, s1, s2, s3, upd, Nat.reduceEqDiff, reduceIte]
   · have e0 : u 0 = .pointer (some ⟨bC, 2, none⟩) := hP 0 (by omega) (hl 0 (by decide +kernel))
     clear hl
     simp only [e0]
     refine wpOp_of rfl ?_
     have hcc := HC.out w hS
     go_simp
     refine hK _ _ ?_
     refine RegI.keep 1 _ hP hD (fun _ _ h => h) hS (rfl) (fun h => by simp at h) ?_
     simp only [Act.put, s1, s2, s3, upd, Nat.reduceEqDiff, reduceIte, e0]
   · clear hl
     refine wpOp_of rfl ?_
     go_simp
     refine hK _ _ ?_
     refine RegI.keep 2 _ hP hD (fun _ _ h => h) hS (rfl) (fun h => by simp at h) ?_
     simp only [Act.put, s1, s2, s3, upd, Nat.reduceEqDiff, reduceIte]
   · have e2 : u 2 = .int .i64 (k : Int) := hP 2 (by omega) (hl 2 (by decide +kernel))
     clear hl
     simp only [e2]
     refine wpOp_of rfl ?_
     go_simp
     refine hK _ _ ?_
     refine RegI.keep 3 _ hP hD (fun _ _ h => h) hS (rfl) (fun h => by simp at h) ?_
     simp only [Act.put, s1, s2, s3, upd, Nat.reduceEqDiff, reduceIte, e2]
   · have e3 : u 3 = .int .i64 ((k : Int) / 16) := hP 3 (by omega) (hl 3 (by decide +kernel))
     clear hl
     simp only [e3]
     refine wpOp_of rfl ?_
     go_simp
     refine hK _ _ ?_
     refine RegI.keep 4 _ hP hD (fun _ _ h => h) hS (rfl) (fun h => by simp at h) ?_
     simp only [Act.put, s1, s2, s3, upd, Nat.reduceEqDiff, reduceIte, e3]
   · have e4 : u 4 = .int .i64 (97 + (k : Int) / 16) := hP 4 (by omega) (hl 4 (by decide +kernel))
     clear hl
     simp only [e4]
     refine wpOp_of rfl ?_
     go_simp
     refine hK _ _ ?_
     refine RegI.keep 5 _ hP hD (fun _ _ h => h) hS (rfl) (fun h => by simp at h) ?_
     simp only [Act.put, s1, s2, s3, upd, Nat.reduceEqDiff, reduceIte, e4]
   · clear hl
     refine wpOp_of rfl ?_
     go_simp
     refine hK _ _ ?_
     refine RegI.keep 6 _ hP hD (fun _ _ h => h) hS (rfl) (fun h => by simp at h) ?_
     simp only [Act.put, s1, s2, s3, upd, Nat.reduceEqDiff, reduceIte]
   · have e6 : u 6 = .int .i64 (k : Int) := hP 6 (by omega) (hl 6 (by decide +kernel))
     clear hl
     simp only [e6]
     refine wpOp_of rfl ?_
     go_simp
     refine hK _ _ ?_
     refine RegI.keep 7 _ hP hD (fun _ _ h => h) hS (rfl) (fun h => by simp at h) ?_
     simp only [Act.put, s1, s2, s3, upd, Nat.reduceEqDiff, reduceIte, e6]
   · have e7 : u 7 = .int .i64 ((k : Int) % 16) := hP 7 (by omega) (hl 7 (by decide +kernel))
     clear hl
     simp only [e7]
     refine wpOp_of rfl ?_
     go_simp
     refine hK _ _ ?_
     refine RegI.keep 8 _ hP hD (fun _ _ h => h) hS (rfl) (fun h => by simp at h) ?_
     simp only [Act.put, s1, s2, s3, upd, Nat.reduceEqDiff, reduceIte, e7]
   · have e8 : u 8 = .int .i64 (97 + (k : Int) % 16) := hP 8 (by omega) (hl 8 (by decide +kernel))
     clear hl
     simp only [e8]
     refine wpOp_of rfl ?_
     go_simp
     refine hK _ _ ?_
     refine RegI.keep 9 _ hP hD (fun _ _ h => h) hS (rfl) (fun h => by simp at h) ?_
     simp only [Act.put, s1, s2, s3, upd, Nat.reduceEqDiff, reduceIte, e8]
   · have e5 : u 5 = .int .u8 (97 + (k : Int) / 16) := hP 5 (by omega) (hl 5 (by decide +kernel))
     have e9 : u 9 = .int .u8 (97 + (k : Int) % 16) := hP 9 (by omega) (hl 9 (by decide +kernel))
     clear hl
     simp only [e5, e9]
     refine wpOp_of rfl ?_
     go_simp
     refine hK _ _ ?_
     refine RegI.keep 10 _ hP hD (fun j v h => Km.below ((Below.refl _ _).alloc (Nat.le_refl _) _) ((km7 bC k k3 o3) j) v h) (hS.alloc hS.size _) (⟨w.heap.size, rfl, alloc_new _ _⟩) (fun h => by simp at h) ?_
     simp only [Act.put, s1, s2, s3, upd, Nat.reduceEqDiff, reduceIte, e5, e9]
   · have h10 : Km.holds k WL.heap.size (.bytes) (u 10) w := hP 10 (by omega) (hl 10 (by decide +kernel))
     clear hl
     refine wpOp_of rfl ?_
     obtain ⟨b10, e10, g10⟩ := h10
     simp only [e10]
     have hcv := many_conv w b10 k g10
     go_simp
     refine hK _ _ ?_
     refine RegI.keep 11 _ hP hD (fun _ _ h => h) hS (rfl) (fun h => by simp at h) ?_
     simp only [Act.put, s1, s2, s3, upd, Nat.reduceEqDiff, reduceIte, e10]
   · clear hl
     refine wpOp_of rfl ?_
     go_simp
     refine hK _ _ ?_
     refine RegI.keep 12 _ hP hD (fun _ _ h => h) hS (rfl) (fun h => by simp at h) ?_
     simp only [Act.put, s1, s2, s3, upd, Nat.reduceEqDiff, reduceIte]
   · have e12 : u 12 = .int .i64 (k : Int) := hP 12 (by omega) (hl 12 (by decide +kernel))
     clear hl
     simp only [e12]
     refine wpOp_of rfl ?_
     go_simp
     refine hK _ _ ?_
     refine RegI.keep 13 _ hP hD (fun _ _ h => h) hS (rfl) (fun h => by simp at h) ?_
     simp only [Act.put, s1, s2, s3, upd, Nat.reduceEqDiff, reduceIte, e12]
   · have e13 : u 13 = .int .i64 ((k : Int) + 1) := hP 13 (by omega) (hl 13 (by decide +kernel))
     clear hl
     simp only [e13]
     refine wpOp_of rfl ?_
     go_simp
     go_at_call 27
     refine (l12mark_any 1 ((k : Int) + 1) 5 7 w).mono ?_
     rintro e w1 ⟨rfl, hb1⟩
     go_simp
     refine hK _ _ ?_
     refine RegI.keep 14 _ hP hD (fun j v h => Km.below hb1 ((km7 bC k k3 o3) j) v h) (hS.trans (hb1.mono hS.size)) (rfl) (fun h => by simp at h) ?_
     simp only [Act.put, s1, s2, s3, upd, Nat.reduceEqDiff, reduceIte, e13]
   · have e14 : u 14 = .agg #[.int .i64 1, .int .i64 ((k : Int) + 1), .int .i64 5, .int .u64 7] := hP 14 (by omega) (hl 14 (by decide +kernel))
     clear hl
     simp only [e14]
     refine wpOp_of rfl ?_
     go_simp
     refine hK _ _ ?_
     refine RegI.keep 15 _ hP hD (fun j v h => Km.below ((Below.refl _ _).alloc (Nat.le_refl _) _) ((km7 bC k k3 o3) j) v h) (hS.alloc hS.size _) (⟨w.heap.size, rfl, (row_lit EMark [⟨⟨1, (k : Int) + 1⟩, 5, 7⟩] w (by unfold maxLen; simp)).mono hS.size⟩) (fun h => by simp at h) ?_
     simp only [Act.put, s1, s2, s3, upd, Nat.reduceEqDiff, reduceIte, e14]
   · have e11 : u 11 = .string (manyName k) := hP 11 (by omega) (hl 11 (by decide +kernel))
     have h15 : Km.holds k WL.heap.size (.mrow) (u 15) w := hP 15 (by omega) (hl 15 (by decide +kernel))
     clear hl
     simp only [e11]
     refine wpOp_of rfl ?_
     obtain ⟨b15, e15, g15⟩ := h15
     simp only [e15]
     go_simp
     go_at_call 26
     refine (l12item_any (manyName k) (some ⟨b15, 0, none⟩) 1 1 w).mono ?_
     rintro e w1 ⟨rfl, hb1⟩
     go_simp
     refine hK _ _ ?_
     refine RegI.keep 16 _ hP hD (fun j v h => Km.below hb1 ((km7 bC k k3 o3) j) v h) (hS.trans (hb1.mono hS.size)) (⟨b15, rfl, g15.below hb1⟩) (fun h => by simp at h) ?_
     simp only [Act.put, s1, s2, s3, upd, Nat.reduceEqDiff, reduceIte, e11, e15]
   · have h16 : Km.holds k WL.heap.size (.itm) (u 16) w := hP 16 (by omega) (hl 16 (by decide +kernel))
     clear hl
     refine wpOp_of rfl ?_
     obtain ⟨b16, e16, g16⟩ := h16
     simp only [e16]
     go_simp
     refine hK _ _ ?_
     refine RegI.keep 17 _ hP hD (fun j v h => Km.below ((Below.refl _ _).alloc (Nat.le_refl _) _) ((km7 bC k k3 o3) j) v h) (hS.alloc hS.size _) (many_lit hS.size g16 hk) (fun h => by simp at h) ?_
     simp only [Act.put, s1, s2, s3, upd, Nat.reduceEqDiff, reduceIte, e16]
 · intro a w hI
   obtain ⟨u, rfl, hS, hP, hD⟩ := hI
   obtain ⟨q, hq, hfq⟩ := (hP 17 (by omega) (by decide +kernel) : Km.holds k WL.heap.size .itms (u 17) w)
   have e1 : u 1 = .slice o3 k k3 := hP 1 (by omega) (by decide +kernel)
   obtain ⟨oq, cq, eq17⟩ := hfq.1.slice
   have hFw := HF.out.below hS
   have hx := HXC.out w hS
   show wpAny _ _ _ _ 3 _ _ _
   rw [eq17] at hfq
   simp only [e1, eq17]
   refine wpAny_ready (rs := [18]) (by decide +kernel) (by simp) ?_
   refine (AllReady.cons rfl (fun K hK => ?_) AllReady.nil)
   refine step_append_row rfl _ _ 26 rfl EItem Bs (.agg #[.string ⟨#[]⟩, .slice none 0 0]) 40 Tryz.underlying26 infoItem (by decide) (by decide) (.slice o3 k k3) ps (by first | rfl | (simp only [e1])) hFw.1 (.slice oq 1 cq) [q] rfl hfq.1.toSrc (by rw [HPS.out]; simp; omega) (Nat.le_trans HBs.out hS.size) ?_
   intro v8 w8 hrow hgr
   have hF8 := fresh_append hFw hfq HBs.out (fun p hp j hj => (HF.out.2.1 p hp).1.2.1.lt j hj |>.2) (fun j hj => (HF.out.1.lt j hj).2) hrow hgr
   have hx8 := (hgr.block _ (lt_of_heap hx) (fun e => by have := (hFw.1.lt _ e.symm).1; have := HBC.out; omega)).trans hx
   have hln : (ps ++ [q]).length = k + 1 := by rw [List.length_append, HPS.out]; rfl
   obtain ⟨o4, k4, rfl⟩ := hrow.slice
   rw [hln] at hF8 hrow ⊢
   refine hK _ _ ?_
   clear hK K
   try simp only [Act.put, s1, s2, s3, List.getElem_toArray, List.getElem_cons_succ, List.getElem_cons_zero]
   refine wpAny_take (i := 19) (v := .pointer (some ⟨bC, 2, none⟩)) rfl (by decide +kernel) (by decide +kernel) (by decide +kernel) (fun _ _ _ h => h) (Or.inl ⟨by kernel_rfl, fun w => by go_simp⟩) ?_
   try simp only [Act.put, s1, s2, s3, List.getElem_toArray, List.getElem_cons_succ, List.getElem_cons_zero]
   refine wpAny_ready (rs := [20]) (by decide +kernel) (by simp) ?_
   refine (AllReady.cons rfl (fun K hK => ?_) AllReady.nil)
   have t2 : w8.cell? ⟨bC, 2, none⟩ = some (.slice o3 k k3) := cl0 hx8 2 rfl
   have f2 := froz0 hx8 2
   go_simp
   refine hK _ _ ?_
   clear hK K t2 f2
   try simp only [Act.put, s1, s2, s3, List.getElem_toArray, List.getElem_cons_succ, List.getElem_cons_zero]
   refine wpAny_done (by kernel_rfl) ?_ _
   simp only [NQ]
   try simp only [Act.put, s1, s2, s3, List.getElem_toArray, List.getElem_cons_succ, List.getElem_cons_zero]
   have hne : ∀ j, Bs ≤ j → j ≠ bC := fun j hj => by have := HBC.out; omega
   have hbW : Below bC WL w8 := (hS.mono (by have := HBs.out; have := HBC.out; omega)).grown hgr (by have := HBs.out; have := HBC.out; have := hS.size; omega) (fun j hj => by have := (hFw.1.lt _ hj).1; have := HBC.out; omega)
   exact hQ _ _ _ _ _ _ _ _ _ _ _ _ _ _ _ _ _ _ _ _ (w8.setCell ⟨bC, 2, none⟩ (.slice o4 (k + 1) k4)) o4 k4 q hq (hF8.stayF (fun j hj _ _ => setCell_other (hne j hj))) (setCell_same hx8 2 _) (hbW.setCell (p := ⟨bC, 2, none⟩) (Nat.le_refl _) _) (by rw [setCell_size]; have := hgr.size; have := HBs.out; have := hS.size; omega)
set_option linter.unusedSimpArgs false in
set_option linter.unusedVariables false in
set_option maxRecDepth 100000 in
set_option maxHeartbeats 16000000 in
theorem many12 (more : Int) (n : Nat) (hn : (n : Int) = 256 + more) (hn2 : n ≤ 258) (WL : World) (bD : Nat) (a2 a3 a4 a6 z8 z9 z10 z11 z12 z13 z14 z15 z16 z17 z18 z19 z20 z21 z22 z23 z24 z25 z26 z27 z28 z29 z30 z31 z32 z33 z34 z35 z36 z37 z38 z39 z40 z41 z42 z43 z44 z45 z46 z47 z48 z49 z50 z51 z52 z53 z54 z55 z56 z57 z58 z59 z60 z61 z62 z63 z64 z65 z66 z67 z68 z69 z70 z71 z72 z73 z74 z75 z76 z77 z78 z79 : Value) (h5 : WL.heap[bD]? = some (.cells #[.int .i64 1, .int .i64 ((n : Int) + 1)] 30)) (R : Act → World → Prop)
  (hQ : ∀ (y80 y81 y82 y83 y84 y85 y86 y87 y88 y89 y90 : Value) (bo : Nat) (w : World) (p1 p2 p3 : Option Addr) (m1 m2 m3 l1 l2 l3 : Nat), Below WL.heap.size WL w → WL.heap.size ≤ bo → w.heap[bo]? = some (.cells #[.slice p1 m1 l1, .slice p2 m2 l2, .slice p3 m3 l3] 28) → CartA w (.slice p1 m1 l1) (.slice p2 m2 l2) (.slice p3 m3 l3) ⟨[⟨1, 1⟩], [⟨1, (n : Int) + 1⟩], [⟨tAA, [⟨⟨1, (n : Int) + 1⟩, 3, 8⟩]⟩]⟩ → R { tmps := #[.int .i64 more, undef, a2, a3, a4, .pointer (some ⟨bD, 0, none⟩), a6, .pointer (some ⟨bo, 0, none⟩), z8, z9, z10, z11, z12, z13, z14, z15, z16, z17, z18, z19, z20, z21, z22, z23, z24, z25, z26, z27, z28, z29, z30, z31, z32, z33, z34, z35, z36, z37, z38, z39, z40, z41, z42, z43, z44, z45, z46, z47, z48, z49, z50, z51, z52, z53, z54, z55, z56, z57, z58, z59, z60, z61, z62, z63, z64, z65, z66, z67, z68, z69, z70, z71, z72, z73, z74, z75, z76, z77, z78, z79, y80, y81, y82, y83, y84, y85, y86, y87, y88, y89, y90, undef, undef, undef, undef, undef, undef, undef, undef, undef, undef, undef, undef, undef, undef, undef, undef, undef, undef, undef], defers := [] } w) :
  (codeAt [1, 1, 1, 1, 1, 1, 1, 0] (Tryz.f5.body.getD .skip)).wp Tryz.prog (NQ R) { tmps := #[.int .i64 more, undef, a2, a3, a4, .pointer (some ⟨bD, 0, none⟩), a6, undef, z8, z9, z10, z11, z12, z13, z14, z15, z16, z17, z18, z19, z20, z21, z22, z23, z24, z25, z26, z27, z28, z29, z30, z31, z32, z33, z34, z35, z36, z37, z38, z39, z40, z41, z42, z43, z44, z45, z46, z47, z48, z49, z50, z51, z52, z53, z54, z55, z56, z57, z58, z59, z60, z61, z62, z63, z64, z65, z66, z67, z68, z69, z70, z71, z72, z73, z74, z75, z76, z77, z78, z79, undef, undef, undef, undef, undef, undef, undef, undef, undef, undef, undef, undef, undef, undef, undef, undef, undef, undef, undef, undef, undef, undef, undef, undef, undef, undef, undef, undef, undef, undef], defers := [] } WL := by
 have HCR := Hd (fun wz (hz : Below WL.heap.size WL wz) => cel2 ((hz.block _ (lt_of_heap h5)).trans h5))
 have kw1 : IntKind.i64.wrap (257 + more) = (n : Int) + 1 := by rw [IntKind.wrap_i64]; omega
 have HN : Hid (0 ≤ (n : Int) + 1 ∧ (n : Int) + 1 ≤ 1000) := Hd (by omega)
 clear h5 hn hn2
 simp only [codeAt, codeL, codeR, Tryz.f5, Option.getD_some]
 refine wp_region_held_drew (S := (fun wz => Below WL.heap.size WL wz)) (by kernel_rfl) (bdr) (fun hS => ?_)
 try simp only [Act.put, s1, s2, s3, List.getElem_toArray, List.getElem_cons_succ, List.getElem_cons_zero]
 refine tkN (i := 1) (v := ?v1) rfl (by decide +kernel) (Or.inl ⟨by kernel_rfl, fun w hSw => ok_of fun z hz => ?h1⟩) hS ?_; (case h1 => (obtain ⟨f0, f1⟩ := HCR.out _ hSw; go_simp; exact hz))
 try simp only [Act.put, s1, s2, s3, List.getElem_toArray, List.getElem_cons_succ, List.getElem_cons_zero]
 refine tkN (i := 4) (v := ?v2) rfl (by decide +kernel) (Or.inl ⟨by kernel_rfl, fun w hSw => ok_of fun z hz => ?h2⟩) hS ?_; (case h2 => (go_simp; exact hz))
 try simp only [Act.put, s1, s2, s3, List.getElem_toArray, List.getElem_cons_succ, List.getElem_cons_zero]
 refine tkN (i := 5) (v := ?v3) rfl (by decide +kernel) (Or.inl ⟨by kernel_rfl, fun w hSw => ok_of fun z hz => ?h3⟩) hS ?_; (case h3 => (go_simp; exact hz))
 try simp only [Act.put, s1, s2, s3, List.getElem_toArray, List.getElem_cons_succ, List.getElem_cons_zero]
 refine wpAnyH_ready (rs := [0, 11]) (by decide +kernel) (by simp) ?_
 refine (AllReadyH.cons rfl (fun K hK => ?_) (AllReadyH.cons rfl (fun K hK => ?_) AllReadyH.nil))
 · go_simp
   go_at_call 25
   have HEE := l12at_any (1) (1) (WL.drew)
   refine HEE.mono ?_
   rintro e q1 ⟨rfl, h0⟩
   clear HEE
   have hq1 := btr (bdr : Below WL.heap.size WL WL.drew) h0
   clear h0
   go_simp
   refine Shut.out hK _ _ (hq1) (fun hS2 => ?_)
   clear hK K hS
   have hS := hS2
   clear hS2
   try simp only [Act.put, s1, s2, s3, List.getElem_toArray, List.getElem_cons_succ, List.getElem_cons_zero]
   refine wpAnyH_ready (rs := [2, 11]) (by decide +kernel) (by simp) ?_
   refine (AllReadyH.cons rfl (fun K hK => ?_) (AllReadyH.cons rfl (fun K hK => ?_) AllReadyH.nil))
   · go_simp
     have h0 : Below q1.heap.size q1 (q1.alloc (.cells #[.int .i64 (1), .int .i64 (1), .int .i64 (1), .int .i64 ((n : Int) + 1)] 30)) := bal
     have hq2 := btr hq1 h0
     have dd : Arr DotR 2 (q1.alloc (.cells #[.int .i64 (1), .int .i64 (1), .int .i64 (1), .int .i64 ((n : Int) + 1)] 30)) (.slice (some ⟨q1.heap.size, 0, none⟩) 2 2) [⟨1, 1⟩, ⟨1, (n : Int) + 1⟩] := lit_dots [⟨1, 1⟩, ⟨1, (n : Int) + 1⟩] (by unfold maxLen; simp) (many_di2 HN.out)
     clear h0
     refine Shut.out hK _ _ (hq2) (fun hS2 => ?_)
     clear hK K hS
     have hS := hS2
     clear hS2
     try simp only [Act.put, s1, s2, s3, List.getElem_toArray, List.getElem_cons_succ, List.getElem_cons_zero]
     refine wpAnyH_ready (rs := [3, 11]) (by decide +kernel) (by simp) ?_
     refine (AllReadyH.cons rfl (fun K hK => ?_) (AllReadyH.cons rfl (fun K hK => ?_) AllReadyH.nil))
     · go_simp
       go_at_call 24
       have HEE := l12con_any 1 1 rfl [⟨1, 1⟩, ⟨1, (n : Int) + 1⟩] _ _ _ _ dd (by first | decide | simp)
       refine HEE.mono ?_
       rintro e q3 ⟨vc, rfl, ⟨c1_a, c1_b, c1_c, c1_d, c1_e, c1_f, rfl, ca, cb⟩, h0⟩
       clear HEE
       have hq3 := btr hq2 h0
       clear dd
       have ca : Arr DotR 2 _ _ ([⟨1, 1⟩] : List DotD) := ca
       have cb : Arr DotR 2 _ _ ([⟨1, (n : Int) + 1⟩] : List DotD) := cb
       clear h0
       go_simp
       refine Shut.out hK _ _ (hq3) (fun hS2 => ?_)
       clear hK K hS
       have hS := hS2
       clear hS2
       try simp only [Act.put, s1, s2, s3, List.getElem_toArray, List.getElem_cons_succ, List.getElem_cons_zero]
       refine wpAnyH_ready (rs := [6, 11]) (by decide +kernel) (by simp) ?_
       refine (AllReadyH.cons rfl (fun K hK => ?_) (AllReadyH.cons rfl (fun K hK => ?_) AllReadyH.nil))
       · go_simp
         go_at_call 27
         have HEE := l12mark_any (1) ((n : Int) + 1) (3) (8) (q3)
         refine HEE.mono ?_
         rintro e q4 ⟨rfl, h0⟩
         clear HEE
         have hq4 := btr hq3 h0
         have ca := ca.dots h0
         have cb := cb.dots h0
         clear h0
         go_simp
         refine Shut.out hK _ _ (hq4) (fun hS2 => ?_)
         clear hK K hS
         have hS := hS2
         clear hS2
         try simp only [Act.put, s1, s2, s3, List.getElem_toArray, List.getElem_cons_succ, List.getElem_cons_zero]
         refine wpAnyH_ready (rs := [7, 11]) (by decide +kernel) (by simp) ?_
         refine (AllReadyH.cons rfl (fun K hK => ?_) (AllReadyH.cons rfl (fun K hK => ?_) AllReadyH.nil))
         · go_simp
           have h0 : Below q4.heap.size q4 (q4.alloc (.cells #[.int .i64 (1), .int .i64 ((n : Int) + 1), .int .i64 (3), .int .u64 (8)] 55)) := bal
           have hq5 := btr hq4 h0
           have ca := ca.dots h0
           have cb := cb.dots h0
           have mk : Arr MarkR 4 (q4.alloc (.cells #[.int .i64 (1), .int .i64 ((n : Int) + 1), .int .i64 (3), .int .u64 (8)] 55)) (.slice (some ⟨q4.heap.size, 0, none⟩) 1 1) [⟨⟨1, (n : Int) + 1⟩, 3, 8⟩] := lit_marks [⟨⟨1, (n : Int) + 1⟩, 3, 8⟩] (by unfold maxLen; simp) (many_mi HN.out (by omega) (by omega))
           clear h0
           refine Shut.out hK _ _ (hq5) (fun hS2 => ?_)
           clear hK K hS
           have hS := hS2
           clear hS2
           try simp only [Act.put, s1, s2, s3, List.getElem_toArray, List.getElem_cons_succ, List.getElem_cons_zero]
           refine wpAnyH_ready (rs := [8, 11]) (by decide +kernel) (by simp) ?_
           refine (AllReadyH.cons rfl (fun K hK => ?_) (AllReadyH.cons rfl (fun K hK => ?_) AllReadyH.nil))
           · go_simp
             go_at_call 26
             have HEE := l12item_any tAA (some ⟨q4.heap.size, 0, none⟩) 1 1 ((q4.alloc (.cells #[.int .i64 (1), .int .i64 ((n : Int) + 1), .int .i64 (3), .int .u64 (8)] 55)))
             refine HEE.mono ?_
             rintro e q6 ⟨rfl, h0⟩
             clear HEE
             have hq6 := btr hq5 h0
             have ca := ca.dots h0
             have cb := cb.dots h0
             have mk := mk.marks h0
             clear h0
             go_simp
             refine Shut.out hK _ _ (hq6) (fun hS2 => ?_)
             clear hK K hS
             have hS := hS2
             clear hS2
             try simp only [Act.put, s1, s2, s3, List.getElem_toArray, List.getElem_cons_succ, List.getElem_cons_zero]
             refine wpAnyH_ready (rs := [9, 11]) (by decide +kernel) (by simp) ?_
             refine (AllReadyH.cons rfl (fun K hK => ?_) (AllReadyH.cons rfl (fun K hK => ?_) AllReadyH.nil))
             · go_simp
               have h0 : Below q6.heap.size q6 (q6.alloc (.cells #[.string tAA, .slice (some ⟨q4.heap.size, 0, none⟩) 1 1] 50)) := bal
               have hq7 := btr hq6 h0
               have ca := ca.dots h0
               have cb := cb.dots h0
               have its : Arr ItemR 2 (q6.alloc (.cells #[.string tAA, .slice (some ⟨q4.heap.size, 0, none⟩) 1 1] 50)) (.slice (some ⟨q6.heap.size, 0, none⟩) 1 1) [⟨tAA, [⟨⟨1, (n : Int) + 1⟩, 3, 8⟩]⟩] := lit_items [⟨⟨tAA, [⟨⟨1, (n : Int) + 1⟩, 3, 8⟩]⟩, some ⟨q4.heap.size, 0, none⟩, 1⟩] (by unfold maxLen; simp) (by
                 intro p hp
                 simp only [List.mem_cons, List.not_mem_nil, or_false] at hp
                 rcases hp with rfl
                 ·exact ⟨show ByteArray.size tAA ≤ maxLen by decide, mk⟩)
               clear h0
               refine Shut.out hK _ _ (hq7) (fun hS2 => ?_)
               clear hK K hS
               have hS := hS2
               clear hS2
               try simp only [Act.put, s1, s2, s3, List.getElem_toArray, List.getElem_cons_succ, List.getElem_cons_zero]
               refine tkN (i := 10) (v := ?v4) rfl (by decide +kernel) (Or.inl ⟨by kernel_rfl, fun w hSw => ok_of fun z hz => ?h4⟩) hS ?_; (case h4 => (go_simp; exact hz))
               try simp only [Act.put, s1, s2, s3, List.getElem_toArray, List.getElem_cons_succ, List.getElem_cons_zero]
               refine wpAnyH_ready (rs := [11]) (by decide +kernel) (by simp) ?_
               refine (AllReadyH.cons rfl (fun K hK => ?_) AllReadyH.nil)
               go_simp
               have h0 : Below (q6.alloc (.cells #[.string tAA, .slice (some ⟨q4.heap.size, 0, none⟩) 1 1] 50)).heap.size (q6.alloc (.cells #[.string tAA, .slice (some ⟨q4.heap.size, 0, none⟩) 1 1] 50)) ((q6.alloc (.cells #[.string tAA, .slice (some ⟨q4.heap.size, 0, none⟩) 1 1] 50)).alloc (.cells #[.slice none 0 0, .slice none 0 0, .slice none 0 0] 28)) := bal
               have hq0 := hq7
               have ca_0 := ca
               have cb_0 := cb
               have its_0 := its
               have ca := ca.dots h0
               have cb := cb.dots h0
               have its := its.items h0
               have hx : ((q6.alloc (.cells #[.string tAA, .slice (some ⟨q4.heap.size, 0, none⟩) 1 1] 50)).alloc (.cells #[.slice none 0 0, .slice none 0 0, .slice none 0 0] 28)).heap[(q6.alloc (.cells #[.string tAA, .slice (some ⟨q4.heap.size, 0, none⟩) 1 1] 50)).heap.size]? = some (.cells #[.slice none 0 0, .slice none 0 0, .slice none 0 0] 28) := alloc_new _ _
               have hbx : WL.heap.size ≤ (q6.alloc (.cells #[.string tAA, .slice (some ⟨q4.heap.size, 0, none⟩) 1 1] 50)).heap.size := hq0.size
               have hq8 := btr hq7 h0
               clear h0
               have e9 : (q6.alloc (.cells #[.string tAA, .slice (some ⟨q4.heap.size, 0, none⟩) 1 1] 50)).heap.size = q6.heap.size + 1 := by simp only [alloc_size]
               rw [e9] at hx hbx
               clear e9
               refine Shut.out hK _ _ (hq8) (fun hS2 => ?_)
               clear hK K hS
               have hS := hS2
               clear hS2
               try simp only [Act.put, s1, s2, s3, List.getElem_toArray, List.getElem_cons_succ, List.getElem_cons_zero]
               refine wpAnyH_ready (rs := [12]) (by decide +kernel) (by simp) ?_
               refine (AllReadyH.cons rfl (fun K hK => ?_) AllReadyH.nil)
               have g0 := froz0 hx 0
               have g1 := froz0 hx 1
               have g2 := froz0 hx 2
               obtain ⟨e0, e1, e2⟩ := cel3 hx
               go_simp
               refine Shut.out hK _ _ (by first | (rw [← set3c_eq]; exact set3c_below _ _ _ hq8 hbx) | exact btr hq0 bal | exact btr hq0 (btr bal bal)) (fun hS2 => ?_)
               clear hK K hS
               have hS := hS2
               clear hS2
               try simp only [Act.put, s1, s2, s3, List.getElem_toArray, List.getElem_cons_succ, List.getElem_cons_zero]
               refine wpAnyH_done (by kernel_rfl) ?_ _
               try simp only [Act.put, s1, s2, s3, List.getElem_toArray, List.getElem_cons_succ, List.getElem_cons_zero]
               simp only [NQ]
               first
               | exact hQ _ _ _ _ _ _ _ _ _ _ _ _ (set3c _ _ _ _ _) _ _ _ _ _ _ _ _ _ (set3c_below _ _ _ hq8 hbx) hbx (set3c_same _ _ _ hx) ⟨set3c_dots ca hx, set3c_dots cb hx, set3c_items its hx⟩
               | exact hQ _ _ _ _ _ _ _ _ _ _ _ _ _ _ _ _ _ _ _ _ _ _ (btr hq0 bal) hbx (alloc_at (by first | rfl | simp only [alloc_size])) ⟨ca_0.dots bal, cb_0.dots bal, its_0.items bal⟩
               | (refine cast (congrArg (R _) ?_) (hQ _ _ _ _ _ _ _ _ _ _ _ _ (set3c _ _ _ _ _) _ _ _ _ _ _ _ _ _ (set3c_below _ _ _ hq8 hbx) hbx (set3c_same _ _ _ hx) ⟨set3c_dots ca hx, set3c_dots cb hx, set3c_items its hx⟩)
                  unfold set3c
                  first
                  | rfl
                  | (simp [World.setCell_alloc_past, World.setCell_alloc_at, alloc_size]; done)
                  | (rw [World.setCell_alloc_past _ _ _ _ (by simp only [alloc_size]; omega), World.setCell_alloc_at _ _ _ _ _ rfl, World.setCell_alloc_past _ _ _ _ (by simp only [alloc_size]; omega), World.setCell_alloc_at _ _ _ _ _ rfl, World.setCell_alloc_past _ _ _ _ (by simp only [alloc_size]; omega), World.setCell_alloc_at _ _ _ _ _ rfl]; rfl))
             · go_simp
               have h0 : Below q6.heap.size q6 (q6.alloc (.cells #[.slice none 0 0, .slice none 0 0, .slice none 0 0] 28)) := bal
               have hq0 := hq6
               have ca_0 := ca
               have cb_0 := cb
               have mk_0 := mk
               have ca := ca.dots h0
               have cb := cb.dots h0
               have mk := mk.marks h0
               have hx : (q6.alloc (.cells #[.slice none 0 0, .slice none 0 0, .slice none 0 0] 28)).heap[q6.heap.size]? = some (.cells #[.slice none 0 0, .slice none 0 0, .slice none 0 0] 28) := alloc_new _ _
               have hbx : WL.heap.size ≤ q6.heap.size := hq0.size
               have hq7 := btr hq6 h0
               clear h0
               refine Shut.out hK _ _ (hq7) (fun hS2 => ?_)
               clear hK K hS
               have hS := hS2
               clear hS2
               try simp only [Act.put, s1, s2, s3, List.getElem_toArray, List.getElem_cons_succ, List.getElem_cons_zero]
               refine wpAnyH_ready (rs := [9]) (by decide +kernel) (by simp) ?_
               refine (AllReadyH.cons rfl (fun K hK => ?_) AllReadyH.nil)
               go_simp
               have h0 : Below (q6.alloc (.cells #[.slice none 0 0, .slice none 0 0, .slice none 0 0] 28)).heap.size (q6.alloc (.cells #[.slice none 0 0, .slice none 0 0, .slice none 0 0] 28)) ((q6.alloc (.cells #[.slice none 0 0, .slice none 0 0, .slice none 0 0] 28)).alloc (.cells #[.string tAA, .slice (some ⟨q4.heap.size, 0, none⟩) 1 1] 50)) := bal
               have hq8 := btr hq7 h0
               have ca := ca.dots h0
               have cb := cb.dots h0
               have hx := (h0.block _ (lt_of_heap hx)).trans hx
               have its : Arr ItemR 2 ((q6.alloc (.cells #[.slice none 0 0, .slice none 0 0, .slice none 0 0] 28)).alloc (.cells #[.string tAA, .slice (some ⟨q4.heap.size, 0, none⟩) 1 1] 50)) (.slice (some ⟨(q6.alloc (.cells #[.slice none 0 0, .slice none 0 0, .slice none 0 0] 28)).heap.size, 0, none⟩) 1 1) [⟨tAA, [⟨⟨1, (n : Int) + 1⟩, 3, 8⟩]⟩] := lit_items [⟨⟨tAA, [⟨⟨1, (n : Int) + 1⟩, 3, 8⟩]⟩, some ⟨q4.heap.size, 0, none⟩, 1⟩] (by unfold maxLen; simp) (by
                 intro p hp
                 simp only [List.mem_cons, List.not_mem_nil, or_false] at hp
                 rcases hp with rfl
                 ·exact ⟨show ByteArray.size tAA ≤ maxLen by decide, mk⟩)
               clear h0
               have e9 : (q6.alloc (.cells #[.slice none 0 0, .slice none 0 0, .slice none 0 0] 28)).heap.size = q6.heap.size + 1 := by simp only [alloc_size]
               rw [e9] at its
               clear e9
               refine Shut.out hK _ _ (hq8) (fun hS2 => ?_)
               clear hK K hS
               have hS := hS2
               clear hS2
               try simp only [Act.put, s1, s2, s3, List.getElem_toArray, List.getElem_cons_succ, List.getElem_cons_zero]
               refine tkN (i := 10) (v := ?v5) rfl (by decide +kernel) (Or.inl ⟨by kernel_rfl, fun w hSw => ok_of fun z hz => ?h5⟩) hS ?_; (case h5 => (go_simp; exact hz))
               try simp only [Act.put, s1, s2, s3, List.getElem_toArray, List.getElem_cons_succ, List.getElem_cons_zero]
               refine wpAnyH_ready (rs := [12]) (by decide +kernel) (by simp) ?_
               refine (AllReadyH.cons rfl (fun K hK => ?_) AllReadyH.nil)
               have g0 := froz0 hx 0
               have g1 := froz0 hx 1
               have g2 := froz0 hx 2
               obtain ⟨e0, e1, e2⟩ := cel3 hx
               go_simp
               refine Shut.out hK _ _ (by first | (rw [← set3c_eq]; exact set3c_below _ _ _ hq8 hbx) | exact btr hq0 bal | exact btr hq0 (btr bal bal)) (fun hS2 => ?_)
               clear hK K hS
               have hS := hS2
               clear hS2
               try simp only [Act.put, s1, s2, s3, List.getElem_toArray, List.getElem_cons_succ, List.getElem_cons_zero]
               refine wpAnyH_done (by kernel_rfl) ?_ _
               try simp only [Act.put, s1, s2, s3, List.getElem_toArray, List.getElem_cons_succ, List.getElem_cons_zero]
               simp only [NQ]
               first
               | exact hQ _ _ _ _ _ _ _ _ _ _ _ _ (set3c _ _ _ _ _) _ _ _ _ _ _ _ _ _ (set3c_below _ _ _ hq8 hbx) hbx (set3c_same _ _ _ hx) ⟨set3c_dots ca hx, set3c_dots cb hx, set3c_items its hx⟩
               | exact hQ _ _ _ _ _ _ _ _ _ _ _ _ _ _ _ _ _ _ _ _ _ _ (btr hq0 bal) hbx (alloc_at (by first | rfl | simp only [alloc_size])) ⟨ca_0.dots bal, cb_0.dots bal, its_0.items bal⟩
               | (refine cast (congrArg (R _) ?_) (hQ _ _ _ _ _ _ _ _ _ _ _ _ (set3c _ _ _ _ _) _ _ _ _ _ _ _ _ _ (set3c_below _ _ _ hq8 hbx) hbx (set3c_same _ _ _ hx) ⟨set3c_dots ca hx, set3c_dots cb hx, set3c_items its hx⟩)
                  unfold set3c
                  first
                  | rfl
                  | (simp [World.setCell_alloc_past, World.setCell_alloc_at, alloc_size]; done)
                  | (rw [World.setCell_alloc_past _ _ _ _ (by simp only [alloc_size]; omega), World.setCell_alloc_at _ _ _ _ _ rfl, World.setCell_alloc_past _ _ _ _ (by simp only [alloc_size]; omega), World.setCell_alloc_at _ _ _ _ _ rfl, World.setCell_alloc_past _ _ _ _ (by simp only [alloc_size]; omega), World.setCell_alloc_at _ _ _ _ _ rfl]; rfl))
           · go_simp
             have h0 : Below (q4.alloc (.cells #[.int .i64 (1), .int .i64 ((n : Int) + 1), .int .i64 (3), .int .u64 (8)] 55)).heap.size (q4.alloc (.cells #[.int .i64 (1), .int .i64 ((n : Int) + 1), .int .i64 (3), .int .u64 (8)] 55)) ((q4.alloc (.cells #[.int .i64 (1), .int .i64 ((n : Int) + 1), .int .i64 (3), .int .u64 (8)] 55)).alloc (.cells #[.slice none 0 0, .slice none 0 0, .slice none 0 0] 28)) := bal
             have hq0 := hq5
             have ca_0 := ca
             have cb_0 := cb
             have mk_0 := mk
             have ca := ca.dots h0
             have cb := cb.dots h0
             have mk := mk.marks h0
             have hx : ((q4.alloc (.cells #[.int .i64 (1), .int .i64 ((n : Int) + 1), .int .i64 (3), .int .u64 (8)] 55)).alloc (.cells #[.slice none 0 0, .slice none 0 0, .slice none 0 0] 28)).heap[(q4.alloc (.cells #[.int .i64 (1), .int .i64 ((n : Int) + 1), .int .i64 (3), .int .u64 (8)] 55)).heap.size]? = some (.cells #[.slice none 0 0, .slice none 0 0, .slice none 0 0] 28) := alloc_new _ _
             have hbx : WL.heap.size ≤ (q4.alloc (.cells #[.int .i64 (1), .int .i64 ((n : Int) + 1), .int .i64 (3), .int .u64 (8)] 55)).heap.size := hq0.size
             have hq6 := btr hq5 h0
             clear h0
             have e9 : (q4.alloc (.cells #[.int .i64 (1), .int .i64 ((n : Int) + 1), .int .i64 (3), .int .u64 (8)] 55)).heap.size = q4.heap.size + 1 := by simp only [alloc_size]
             rw [e9] at hx hbx
             clear e9
             refine Shut.out hK _ _ (hq6) (fun hS2 => ?_)
             clear hK K hS
             have hS := hS2
             clear hS2
             try simp only [Act.put, s1, s2, s3, List.getElem_toArray, List.getElem_cons_succ, List.getElem_cons_zero]
             refine wpAnyH_ready (rs := [8]) (by decide +kernel) (by simp) ?_
             refine (AllReadyH.cons rfl (fun K hK => ?_) AllReadyH.nil)
             go_simp
             go_at_call 26
             have HEE := l12item_any tAA (some ⟨q4.heap.size, 0, none⟩) 1 1 (((q4.alloc (.cells #[.int .i64 (1), .int .i64 ((n : Int) + 1), .int .i64 (3), .int .u64 (8)] 55)).alloc (.cells #[.slice none 0 0, .slice none 0 0, .slice none 0 0] 28)))
             refine HEE.mono ?_
             rintro e q7 ⟨rfl, h0⟩
             clear HEE
             have hq7 := btr hq6 h0
             have ca := ca.dots h0
             have cb := cb.dots h0
             have mk := mk.marks h0
             have hx := (h0.block _ (lt_of_heap hx)).trans hx
             clear h0
             go_simp
             refine Shut.out hK _ _ (hq7) (fun hS2 => ?_)
             clear hK K hS
             have hS := hS2
             clear hS2
             try simp only [Act.put, s1, s2, s3, List.getElem_toArray, List.getElem_cons_succ, List.getElem_cons_zero]
             refine wpAnyH_ready (rs := [9]) (by decide +kernel) (by simp) ?_
             refine (AllReadyH.cons rfl (fun K hK => ?_) AllReadyH.nil)
             go_simp
             have h0 : Below q7.heap.size q7 (q7.alloc (.cells #[.string tAA, .slice (some ⟨q4.heap.size, 0, none⟩) 1 1] 50)) := bal
             have hq8 := btr hq7 h0
             have ca := ca.dots h0
             have cb := cb.dots h0
             have hx := (h0.block _ (lt_of_heap hx)).trans hx
             have its : Arr ItemR 2 (q7.alloc (.cells #[.string tAA, .slice (some ⟨q4.heap.size, 0, none⟩) 1 1] 50)) (.slice (some ⟨q7.heap.size, 0, none⟩) 1 1) [⟨tAA, [⟨⟨1, (n : Int) + 1⟩, 3, 8⟩]⟩] := lit_items [⟨⟨tAA, [⟨⟨1, (n : Int) + 1⟩, 3, 8⟩]⟩, some ⟨q4.heap.size, 0, none⟩, 1⟩] (by unfold maxLen; simp) (by
               intro p hp
               simp only [List.mem_cons, List.not_mem_nil, or_false] at hp
               rcases hp with rfl
               ·exact ⟨show ByteArray.size tAA ≤ maxLen by decide, mk⟩)
             clear h0
             refine Shut.out hK _ _ (hq8) (fun hS2 => ?_)
             clear hK K hS
             have hS := hS2
             clear hS2
             try simp only [Act.put, s1, s2, s3, List.getElem_toArray, List.getElem_cons_succ, List.getElem_cons_zero]
             refine tkN (i := 10) (v := ?v6) rfl (by decide +kernel) (Or.inl ⟨by kernel_rfl, fun w hSw => ok_of fun z hz => ?h6⟩) hS ?_; (case h6 => (go_simp; exact hz))
             try simp only [Act.put, s1, s2, s3, List.getElem_toArray, List.getElem_cons_succ, List.getElem_cons_zero]
             refine wpAnyH_ready (rs := [12]) (by decide +kernel) (by simp) ?_
             refine (AllReadyH.cons rfl (fun K hK => ?_) AllReadyH.nil)
             have g0 := froz0 hx 0
             have g1 := froz0 hx 1
             have g2 := froz0 hx 2
             obtain ⟨e0, e1, e2⟩ := cel3 hx
             go_simp
             refine Shut.out hK _ _ (by first | (rw [← set3c_eq]; exact set3c_below _ _ _ hq8 hbx) | exact btr hq0 bal | exact btr hq0 (btr bal bal)) (fun hS2 => ?_)
             clear hK K hS
             have hS := hS2
             clear hS2
             try simp only [Act.put, s1, s2, s3, List.getElem_toArray, List.getElem_cons_succ, List.getElem_cons_zero]
             refine wpAnyH_done (by kernel_rfl) ?_ _
             try simp only [Act.put, s1, s2, s3, List.getElem_toArray, List.getElem_cons_succ, List.getElem_cons_zero]
             simp only [NQ]
             first
             | exact hQ _ _ _ _ _ _ _ _ _ _ _ _ (set3c _ _ _ _ _) _ _ _ _ _ _ _ _ _ (set3c_below _ _ _ hq8 hbx) hbx (set3c_same _ _ _ hx) ⟨set3c_dots ca hx, set3c_dots cb hx, set3c_items its hx⟩
             | exact hQ _ _ _ _ _ _ _ _ _ _ _ _ _ _ _ _ _ _ _ _ _ _ (btr hq0 bal) hbx (alloc_at (by first | rfl | simp only [alloc_size])) ⟨ca_0.dots bal, cb_0.dots bal, its_0.items bal⟩
             | (refine cast (congrArg (R _) ?_) (hQ _ _ _ _ _ _ _ _ _ _ _ _ (set3c _ _ _ _ _) _ _ _ _ _ _ _ _ _ (set3c_below _ _ _ hq8 hbx) hbx (set3c_same _ _ _ hx) ⟨set3c_dots ca hx, set3c_dots cb hx, set3c_items its hx⟩)
                unfold set3c
                first
                | rfl
                | (simp [World.setCell_alloc_past, World.setCell_alloc_at, alloc_size]; done)
                | (rw [World.setCell_alloc_past _ _ _ _ (by simp only [alloc_size]; omega), World.setCell_alloc_at _ _ _ _ _ rfl, World.setCell_alloc_past _ _ _ _ (by simp only [alloc_size]; omega), World.setCell_alloc_at _ _ _ _ _ rfl, World.setCell_alloc_past _ _ _ _ (by simp only [alloc_size]; omega), World.setCell_alloc_at _ _ _ _ _ rfl]; rfl))
         · go_simp
           have h0 : Below q4.heap.size q4 (q4.alloc (.cells #[.slice none 0 0, .slice none 0 0, .slice none 0 0] 28)) := bal
           have hq0 := hq4
           have ca_0 := ca
           have cb_0 := cb
           have ca := ca.dots h0
           have cb := cb.dots h0
           have hx : (q4.alloc (.cells #[.slice none 0 0, .slice none 0 0, .slice none 0 0] 28)).heap[q4.heap.size]? = some (.cells #[.slice none 0 0, .slice none 0 0, .slice none 0 0] 28) := alloc_new _ _
           have hbx : WL.heap.size ≤ q4.heap.size := hq0.size
           have hq5 := btr hq4 h0
           clear h0
           refine Shut.out hK _ _ (hq5) (fun hS2 => ?_)
           clear hK K hS
           have hS := hS2
           clear hS2
           try simp only [Act.put, s1, s2, s3, List.getElem_toArray, List.getElem_cons_succ, List.getElem_cons_zero]
           refine wpAnyH_ready (rs := [7]) (by decide +kernel) (by simp) ?_
           refine (AllReadyH.cons rfl (fun K hK => ?_) AllReadyH.nil)
           go_simp
           have h0 : Below (q4.alloc (.cells #[.slice none 0 0, .slice none 0 0, .slice none 0 0] 28)).heap.size (q4.alloc (.cells #[.slice none 0 0, .slice none 0 0, .slice none 0 0] 28)) ((q4.alloc (.cells #[.slice none 0 0, .slice none 0 0, .slice none 0 0] 28)).alloc (.cells #[.int .i64 (1), .int .i64 ((n : Int) + 1), .int .i64 (3), .int .u64 (8)] 55)) := bal
           have hq6 := btr hq5 h0
           have ca := ca.dots h0
           have cb := cb.dots h0
           have hx := (h0.block _ (lt_of_heap hx)).trans hx
           have mk : Arr MarkR 4 ((q4.alloc (.cells #[.slice none 0 0, .slice none 0 0, .slice none 0 0] 28)).alloc (.cells #[.int .i64 (1), .int .i64 ((n : Int) + 1), .int .i64 (3), .int .u64 (8)] 55)) (.slice (some ⟨(q4.alloc (.cells #[.slice none 0 0, .slice none 0 0, .slice none 0 0] 28)).heap.size, 0, none⟩) 1 1) [⟨⟨1, (n : Int) + 1⟩, 3, 8⟩] := lit_marks [⟨⟨1, (n : Int) + 1⟩, 3, 8⟩] (by unfold maxLen; simp) (many_mi HN.out (by omega) (by omega))
           clear h0
           have e9 : (q4.alloc (.cells #[.slice none 0 0, .slice none 0 0, .slice none 0 0] 28)).heap.size = q4.heap.size + 1 := by simp only [alloc_size]
           rw [e9] at mk
           clear e9
           refine Shut.out hK _ _ (hq6) (fun hS2 => ?_)
           clear hK K hS
           have hS := hS2
           clear hS2
           try simp only [Act.put, s1, s2, s3, List.getElem_toArray, List.getElem_cons_succ, List.getElem_cons_zero]
           refine wpAnyH_ready (rs := [8]) (by decide +kernel) (by simp) ?_
           refine (AllReadyH.cons rfl (fun K hK => ?_) AllReadyH.nil)
           go_simp
           go_at_call 26
           have HEE := l12item_any tAA (some ⟨q4.heap.size + 1, 0, none⟩) 1 1 (((q4.alloc (.cells #[.slice none 0 0, .slice none 0 0, .slice none 0 0] 28)).alloc (.cells #[.int .i64 (1), .int .i64 ((n : Int) + 1), .int .i64 (3), .int .u64 (8)] 55)))
           refine HEE.mono ?_
           rintro e q7 ⟨rfl, h0⟩
           clear HEE
           have hq7 := btr hq6 h0
           have ca := ca.dots h0
           have cb := cb.dots h0
           have hx := (h0.block _ (lt_of_heap hx)).trans hx
           have mk := mk.marks h0
           clear h0
           go_simp
           refine Shut.out hK _ _ (hq7) (fun hS2 => ?_)
           clear hK K hS
           have hS := hS2
           clear hS2
           try simp only [Act.put, s1, s2, s3, List.getElem_toArray, List.getElem_cons_succ, List.getElem_cons_zero]
           refine wpAnyH_ready (rs := [9]) (by decide +kernel) (by simp) ?_
           refine (AllReadyH.cons rfl (fun K hK => ?_) AllReadyH.nil)
           go_simp
           have h0 : Below q7.heap.size q7 (q7.alloc (.cells #[.string tAA, .slice (some ⟨q4.heap.size + 1, 0, none⟩) 1 1] 50)) := bal
           have hq8 := btr hq7 h0
           have ca := ca.dots h0
           have cb := cb.dots h0
           have hx := (h0.block _ (lt_of_heap hx)).trans hx
           have its : Arr ItemR 2 (q7.alloc (.cells #[.string tAA, .slice (some ⟨q4.heap.size + 1, 0, none⟩) 1 1] 50)) (.slice (some ⟨q7.heap.size, 0, none⟩) 1 1) [⟨tAA, [⟨⟨1, (n : Int) + 1⟩, 3, 8⟩]⟩] := lit_items [⟨⟨tAA, [⟨⟨1, (n : Int) + 1⟩, 3, 8⟩]⟩, some ⟨q4.heap.size + 1, 0, none⟩, 1⟩] (by unfold maxLen; simp) (by
             intro p hp
             simp only [List.mem_cons, List.not_mem_nil, or_false] at hp
             rcases hp with rfl
             ·exact ⟨show ByteArray.size tAA ≤ maxLen by decide, mk⟩)
           clear h0
           refine Shut.out hK _ _ (hq8) (fun hS2 => ?_)
           clear hK K hS
           have hS := hS2
           clear hS2
           try simp only [Act.put, s1, s2, s3, List.getElem_toArray, List.getElem_cons_succ, List.getElem_cons_zero]
           refine tkN (i := 10) (v := ?v7) rfl (by decide +kernel) (Or.inl ⟨by kernel_rfl, fun w hSw => ok_of fun z hz => ?h7⟩) hS ?_; (case h7 => (go_simp; exact hz))
           try simp only [Act.put, s1, s2, s3, List.getElem_toArray, List.getElem_cons_succ, List.getElem_cons_zero]
           refine wpAnyH_ready (rs := [12]) (by decide +kernel) (by simp) ?_
           refine (AllReadyH.cons rfl (fun K hK => ?_) AllReadyH.nil)
           have g0 := froz0 hx 0
           have g1 := froz0 hx 1
           have g2 := froz0 hx 2
           obtain ⟨e0, e1, e2⟩ := cel3 hx
           go_simp
           refine Shut.out hK _ _ (by first | (rw [← set3c_eq]; exact set3c_below _ _ _ hq8 hbx) | exact btr hq0 bal | exact btr hq0 (btr bal bal)) (fun hS2 => ?_)
           clear hK K hS
           have hS := hS2
           clear hS2
           try simp only [Act.put, s1, s2, s3, List.getElem_toArray, List.getElem_cons_succ, List.getElem_cons_zero]
           refine wpAnyH_done (by kernel_rfl) ?_ _
           try simp only [Act.put, s1, s2, s3, List.getElem_toArray, List.getElem_cons_succ, List.getElem_cons_zero]
           simp only [NQ]
           first
           | exact hQ _ _ _ _ _ _ _ _ _ _ _ _ (set3c _ _ _ _ _) _ _ _ _ _ _ _ _ _ (set3c_below _ _ _ hq8 hbx) hbx (set3c_same _ _ _ hx) ⟨set3c_dots ca hx, set3c_dots cb hx, set3c_items its hx⟩
           | exact hQ _ _ _ _ _ _ _ _ _ _ _ _ _ _ _ _ _ _ _ _ _ _ (btr hq0 bal) hbx (alloc_at (by first | rfl | simp only [alloc_size])) ⟨ca_0.dots bal, cb_0.dots bal, its_0.items bal⟩
           | (refine cast (congrArg (R _) ?_) (hQ _ _ _ _ _ _ _ _ _ _ _ _ (set3c _ _ _ _ _) _ _ _ _ _ _ _ _ _ (set3c_below _ _ _ hq8 hbx) hbx (set3c_same _ _ _ hx) ⟨set3c_dots ca hx, set3c_dots cb hx, set3c_items its hx⟩)
              unfold set3c
              first
              | rfl
              | (simp [World.setCell_alloc_past, World.setCell_alloc_at, alloc_size]; done)
              | (rw [World.setCell_alloc_past _ _ _ _ (by simp only [alloc_size]; omega), World.setCell_alloc_at _ _ _ _ _ rfl, World.setCell_alloc_past _ _ _ _ (by simp only [alloc_size]; omega), World.setCell_alloc_at _ _ _ _ _ rfl, World.setCell_alloc_past _ _ _ _ (by simp only [alloc_size]; omega), World.setCell_alloc_at _ _ _ _ _ rfl]; rfl))
       · go_simp
         have h0 : Below q3.heap.size q3 (q3.alloc (.cells #[.slice none 0 0, .slice none 0 0, .slice none 0 0] 28)) := bal
         have hq0 := hq3
         have ca_0 := ca
         have cb_0 := cb
         have ca := ca.dots h0
         have cb := cb.dots h0
         have hx : (q3.alloc (.cells #[.slice none 0 0, .slice none 0 0, .slice none 0 0] 28)).heap[q3.heap.size]? = some (.cells #[.slice none 0 0, .slice none 0 0, .slice none 0 0] 28) := alloc_new _ _
         have hbx : WL.heap.size ≤ q3.heap.size := hq0.size
         have hq4 := btr hq3 h0
         clear h0
         refine Shut.out hK _ _ (hq4) (fun hS2 => ?_)
         clear hK K hS
         have hS := hS2
         clear hS2
         try simp only [Act.put, s1, s2, s3, List.getElem_toArray, List.getElem_cons_succ, List.getElem_cons_zero]
         refine wpAnyH_ready (rs := [6]) (by decide +kernel) (by simp) ?_
         refine (AllReadyH.cons rfl (fun K hK => ?_) AllReadyH.nil)
         go_simp
         go_at_call 27
         have HEE := l12mark_any (1) ((n : Int) + 1) (3) (8) ((q3.alloc (.cells #[.slice none 0 0, .slice none 0 0, .slice none 0 0] 28)))
         refine HEE.mono ?_
         rintro e q5 ⟨rfl, h0⟩
         clear HEE
         have hq5 := btr hq4 h0
         have ca := ca.dots h0
         have cb := cb.dots h0
         have hx := (h0.block _ (lt_of_heap hx)).trans hx
         clear h0
         go_simp
         refine Shut.out hK _ _ (hq5) (fun hS2 => ?_)
         clear hK K hS
         have hS := hS2
         clear hS2
         try simp only [Act.put, s1, s2, s3, List.getElem_toArray, List.getElem_cons_succ, List.getElem_cons_zero]
         refine wpAnyH_ready (rs := [7]) (by decide +kernel) (by simp) ?_
         refine (AllReadyH.cons rfl (fun K hK => ?_) AllReadyH.nil)
         go_simp
         have h0 : Below q5.heap.size q5 (q5.alloc (.cells #[.int .i64 (1), .int .i64 ((n : Int) + 1), .int .i64 (3), .int .u64 (8)] 55)) := bal
         have hq6 := btr hq5 h0
         have ca := ca.dots h0
         have cb := cb.dots h0
         have hx := (h0.block _ (lt_of_heap hx)).trans hx
         have mk : Arr MarkR 4 (q5.alloc (.cells #[.int .i64 (1), .int .i64 ((n : Int) + 1), .int .i64 (3), .int .u64 (8)] 55)) (.slice (some ⟨q5.heap.size, 0, none⟩) 1 1) [⟨⟨1, (n : Int) + 1⟩, 3, 8⟩] := lit_marks [⟨⟨1, (n : Int) + 1⟩, 3, 8⟩] (by unfold maxLen; simp) (many_mi HN.out (by omega) (by omega))
         clear h0
         refine Shut.out hK _ _ (hq6) (fun hS2 => ?_)
         clear hK K hS
         have hS := hS2
         clear hS2
         try simp only [Act.put, s1, s2, s3, List.getElem_toArray, List.getElem_cons_succ, List.getElem_cons_zero]
         refine wpAnyH_ready (rs := [8]) (by decide +kernel) (by simp) ?_
         refine (AllReadyH.cons rfl (fun K hK => ?_) AllReadyH.nil)
         go_simp
         go_at_call 26
         have HEE := l12item_any tAA (some ⟨q5.heap.size, 0, none⟩) 1 1 ((q5.alloc (.cells #[.int .i64 (1), .int .i64 ((n : Int) + 1), .int .i64 (3), .int .u64 (8)] 55)))
         refine HEE.mono ?_
         rintro e q7 ⟨rfl, h0⟩
         clear HEE
         have hq7 := btr hq6 h0
         have ca := ca.dots h0
         have cb := cb.dots h0
         have hx := (h0.block _ (lt_of_heap hx)).trans hx
         have mk := mk.marks h0
         clear h0
         go_simp
         refine Shut.out hK _ _ (hq7) (fun hS2 => ?_)
         clear hK K hS
         have hS := hS2
         clear hS2
         try simp only [Act.put, s1, s2, s3, List.getElem_toArray, List.getElem_cons_succ, List.getElem_cons_zero]
         refine wpAnyH_ready (rs := [9]) (by decide +kernel) (by simp) ?_
         refine (AllReadyH.cons rfl (fun K hK => ?_) AllReadyH.nil)
         go_simp
         have h0 : Below q7.heap.size q7 (q7.alloc (.cells #[.string tAA, .slice (some ⟨q5.heap.size, 0, none⟩) 1 1] 50)) := bal
         have hq8 := btr hq7 h0
         have ca := ca.dots h0
         have cb := cb.dots h0
         have hx := (h0.block _ (lt_of_heap hx)).trans hx
         have its : Arr ItemR 2 (q7.alloc (.cells #[.string tAA, .slice (some ⟨q5.heap.size, 0, none⟩) 1 1] 50)) (.slice (some ⟨q7.heap.size, 0, none⟩) 1 1) [⟨tAA, [⟨⟨1, (n : Int) + 1⟩, 3, 8⟩]⟩] := lit_items [⟨⟨tAA, [⟨⟨1, (n : Int) + 1⟩, 3, 8⟩]⟩, some ⟨q5.heap.size, 0, none⟩, 1⟩] (by unfold maxLen; simp) (by
           intro p hp
           simp only [List.mem_cons, List.not_mem_nil, or_false] at hp
           rcases hp with rfl
           ·exact ⟨show ByteArray.size tAA ≤ maxLen by decide, mk⟩)
         clear h0
         refine Shut.out hK _ _ (hq8) (fun hS2 => ?_)
         clear hK K hS
         have hS := hS2
         clear hS2
         try simp only [Act.put, s1, s2, s3, List.getElem_toArray, List.getElem_cons_succ, List.getElem_cons_zero]
         refine tkN (i := 10) (v := ?v8) rfl (by decide +kernel) (Or.inl ⟨by kernel_rfl, fun w hSw => ok_of fun z hz => ?h8⟩) hS ?_; (case h8 => (go_simp; exact hz))
         try simp only [Act.put, s1, s2, s3, List.getElem_toArray, List.getElem_cons_succ, List.getElem_cons_zero]
         refine wpAnyH_ready (rs := [12]) (by decide +kernel) (by simp) ?_
         refine (AllReadyH.cons rfl (fun K hK => ?_) AllReadyH.nil)
         have g0 := froz0 hx 0
         have g1 := froz0 hx 1
         have g2 := froz0 hx 2
         obtain ⟨e0, e1, e2⟩ := cel3 hx
         go_simp
         refine Shut.out hK _ _ (by first | (rw [← set3c_eq]; exact set3c_below _ _ _ hq8 hbx) | exact btr hq0 bal | exact btr hq0 (btr bal bal)) (fun hS2 => ?_)
         clear hK K hS
         have hS := hS2
         clear hS2
         try simp only [Act.put, s1, s2, s3, List.getElem_toArray, List.getElem_cons_succ, List.getElem_cons_zero]
         refine wpAnyH_done (by kernel_rfl) ?_ _
         try simp only [Act.put, s1, s2, s3, List.getElem_toArray, List.getElem_cons_succ, List.getElem_cons_zero]
         simp only [NQ]
         first
         | exact hQ _ _ _ _ _ _ _ _ _ _ _ _ (set3c _ _ _ _ _) _ _ _ _ _ _ _ _ _ (set3c_below _ _ _ hq8 hbx) hbx (set3c_same _ _ _ hx) ⟨set3c_dots ca hx, set3c_dots cb hx, set3c_items its hx⟩
         | exact hQ _ _ _ _ _ _ _ _ _ _ _ _ _ _ _ _ _ _ _ _ _ _ (btr hq0 bal) hbx (alloc_at (by first | rfl | simp only [alloc_size])) ⟨ca_0.dots bal, cb_0.dots bal, its_0.items bal⟩
         | (refine cast (congrArg (R _) ?_) (hQ _ _ _ _ _ _ _ _ _ _ _ _ (set3c _ _ _ _ _) _ _ _ _ _ _ _ _ _ (set3c_below _ _ _ hq8 hbx) hbx (set3c_same _ _ _ hx) ⟨set3c_dots ca hx, set3c_dots cb hx, set3c_items its hx⟩)
            unfold set3c
            first
            | rfl
            | (simp [World.setCell_alloc_past, World.setCell_alloc_at, alloc_size]; done)
            | (rw [World.setCell_alloc_past _ _ _ _ (by simp only [alloc_size]; omega), World.setCell_alloc_at _ _ _ _ _ rfl, World.setCell_alloc_past _ _ _ _ (by simp only [alloc_size]; omega), World.setCell_alloc_at _ _ _ _ _ rfl, World.setCell_alloc_past _ _ _ _ (by simp only [alloc_size]; omega), World.setCell_alloc_at _ _ _ _ _ rfl]; rfl))
     · go_simp
       have h0 : Below (q1.alloc (.cells #[.int .i64 (1), .int .i64 (1), .int .i64 (1), .int .i64 ((n : Int) + 1)] 30)).heap.size (q1.alloc (.cells #[.int .i64 (1), .int .i64 (1), .int .i64 (1), .int .i64 ((n : Int) + 1)] 30)) ((q1.alloc (.cells #[.int .i64 (1), .int .i64 (1), .int .i64 (1), .int .i64 ((n : Int) + 1)] 30)).alloc (.cells #[.slice none 0 0, .slice none 0 0, .slice none 0 0] 28)) := bal
       have hq0 := hq2
       have dd_0 := dd
       have dd := dd.dots h0
       have hx : ((q1.alloc (.cells #[.int .i64 (1), .int .i64 (1), .int .i64 (1), .int .i64 ((n : Int) + 1)] 30)).alloc (.cells #[.slice none 0 0, .slice none 0 0, .slice none 0 0] 28)).heap[(q1.alloc (.cells #[.int .i64 (1), .int .i64 (1), .int .i64 (1), .int .i64 ((n : Int) + 1)] 30)).heap.size]? = some (.cells #[.slice none 0 0, .slice none 0 0, .slice none 0 0] 28) := alloc_new _ _
       have hbx : WL.heap.size ≤ (q1.alloc (.cells #[.int .i64 (1), .int .i64 (1), .int .i64 (1), .int .i64 ((n : Int) + 1)] 30)).heap.size := hq0.size
       have hq3 := btr hq2 h0
       clear h0
       have e9 : (q1.alloc (.cells #[.int .i64 (1), .int .i64 (1), .int .i64 (1), .int .i64 ((n : Int) + 1)] 30)).heap.size = q1.heap.size + 1 := by simp only [alloc_size]
       rw [e9] at hx hbx
       clear e9
       refine Shut.out hK _ _ (hq3) (fun hS2 => ?_)
       clear hK K hS
       have hS := hS2
       clear hS2
       try simp only [Act.put, s1, s2, s3, List.getElem_toArray, List.getElem_cons_succ, List.getElem_cons_zero]
       refine wpAnyH_ready (rs := [3]) (by decide +kernel) (by simp) ?_
       refine (AllReadyH.cons rfl (fun K hK => ?_) AllReadyH.nil)
       go_simp
       go_at_call 24
       have HEE := l12con_any 1 1 rfl [⟨1, 1⟩, ⟨1, (n : Int) + 1⟩] _ _ _ _ dd (by first | decide | simp)
       refine HEE.mono ?_
       rintro e q4 ⟨vc, rfl, ⟨c1_a, c1_b, c1_c, c1_d, c1_e, c1_f, rfl, ca, cb⟩, h0⟩
       clear HEE
       have hq4 := btr hq3 h0
       have hx := (h0.block _ (lt_of_heap hx)).trans hx
       clear dd
       have ca : Arr DotR 2 _ _ ([⟨1, 1⟩] : List DotD) := ca
       have cb : Arr DotR 2 _ _ ([⟨1, (n : Int) + 1⟩] : List DotD) := cb
       clear h0
       go_simp
       refine Shut.out hK _ _ (hq4) (fun hS2 => ?_)
       clear hK K hS
       have hS := hS2
       clear hS2
       try simp only [Act.put, s1, s2, s3, List.getElem_toArray, List.getElem_cons_succ, List.getElem_cons_zero]
       refine wpAnyH_ready (rs := [6]) (by decide +kernel) (by simp) ?_
       refine (AllReadyH.cons rfl (fun K hK => ?_) AllReadyH.nil)
       go_simp
       go_at_call 27
       have HEE := l12mark_any (1) ((n : Int) + 1) (3) (8) (q4)
       refine HEE.mono ?_
       rintro e q5 ⟨rfl, h0⟩
       clear HEE
       have hq5 := btr hq4 h0
       have hx := (h0.block _ (lt_of_heap hx)).trans hx
       have ca := ca.dots h0
       have cb := cb.dots h0
       clear h0
       go_simp
       refine Shut.out hK _ _ (hq5) (fun hS2 => ?_)
       clear hK K hS
       have hS := hS2
       clear hS2
       try simp only [Act.put, s1, s2, s3, List.getElem_toArray, List.getElem_cons_succ, List.getElem_cons_zero]
       refine wpAnyH_ready (rs := [7]) (by decide +kernel) (by simp) ?_
       refine (AllReadyH.cons rfl (fun K hK => ?_) AllReadyH.nil)
       go_simp
       have h0 : Below q5.heap.size q5 (q5.alloc (.cells #[.int .i64 (1), .int .i64 ((n : Int) + 1), .int .i64 (3), .int .u64 (8)] 55)) := bal
       have hq6 := btr hq5 h0
       have hx := (h0.block _ (lt_of_heap hx)).trans hx
       have ca := ca.dots h0
       have cb := cb.dots h0
       have mk : Arr MarkR 4 (q5.alloc (.cells #[.int .i64 (1), .int .i64 ((n : Int) + 1), .int .i64 (3), .int .u64 (8)] 55)) (.slice (some ⟨q5.heap.size, 0, none⟩) 1 1) [⟨⟨1, (n : Int) + 1⟩, 3, 8⟩] := lit_marks [⟨⟨1, (n : Int) + 1⟩, 3, 8⟩] (by unfold maxLen; simp) (many_mi HN.out (by omega) (by omega))
       clear h0
       refine Shut.out hK _ _ (hq6) (fun hS2 => ?_)
       clear hK K hS
       have hS := hS2
       clear hS2
       try simp only [Act.put, s1, s2, s3, List.getElem_toArray, List.getElem_cons_succ, List.getElem_cons_zero]
       refine wpAnyH_ready (rs := [8]) (by decide +kernel) (by simp) ?_
       refine (AllReadyH.cons rfl (fun K hK => ?_) AllReadyH.nil)
       go_simp
       go_at_call 26
       have HEE := l12item_any tAA (some ⟨q5.heap.size, 0, none⟩) 1 1 ((q5.alloc (.cells #[.int .i64 (1), .int .i64 ((n : Int) + 1), .int .i64 (3), .int .u64 (8)] 55)))
       refine HEE.mono ?_
       rintro e q7 ⟨rfl, h0⟩
       clear HEE
       have hq7 := btr hq6 h0
       have hx := (h0.block _ (lt_of_heap hx)).trans hx
       have ca := ca.dots h0
       have cb := cb.dots h0
       have mk := mk.marks h0
       clear h0
       go_simp
       refine Shut.out hK _ _ (hq7) (fun hS2 => ?_)
       clear hK K hS
       have hS := hS2
       clear hS2
       try simp only [Act.put, s1, s2, s3, List.getElem_toArray, List.getElem_cons_succ, List.getElem_cons_zero]
       refine wpAnyH_ready (rs := [9]) (by decide +kernel) (by simp) ?_
       refine (AllReadyH.cons rfl (fun K hK => ?_) AllReadyH.nil)
       go_simp
       have h0 : Below q7.heap.size q7 (q7.alloc (.cells #[.string tAA, .slice (some ⟨q5.heap.size, 0, none⟩) 1 1] 50)) := bal
       have hq8 := btr hq7 h0
       have hx := (h0.block _ (lt_of_heap hx)).trans hx
       have ca := ca.dots h0
       have cb := cb.dots h0
       have its : Arr ItemR 2 (q7.alloc (.cells #[.string tAA, .slice (some ⟨q5.heap.size, 0, none⟩) 1 1] 50)) (.slice (some ⟨q7.heap.size, 0, none⟩) 1 1) [⟨tAA, [⟨⟨1, (n : Int) + 1⟩, 3, 8⟩]⟩] := lit_items [⟨⟨tAA, [⟨⟨1, (n : Int) + 1⟩, 3, 8⟩]⟩, some ⟨q5.heap.size, 0, none⟩, 1⟩] (by unfold maxLen; simp) (by
         intro p hp
         simp only [List.mem_cons, List.not_mem_nil, or_false] at hp
         rcases hp with rfl
         ·exact ⟨show ByteArray.size tAA ≤ maxLen by decide, mk⟩)
       clear h0
       refine Shut.out hK _ _ (hq8) (fun hS2 => ?_)
       clear hK K hS
       have hS := hS2
       clear hS2
       try simp only [Act.put, s1, s2, s3, List.getElem_toArray, List.getElem_cons_succ, List.getElem_cons_zero]
       refine tkN (i := 10) (v := ?v9) rfl (by decide +kernel) (Or.inl ⟨by kernel_rfl, fun w hSw => ok_of fun z hz => ?h9⟩) hS ?_; (case h9 => (go_simp; exact hz))
       try simp only [Act.put, s1, s2, s3, List.getElem_toArray, List.getElem_cons_succ, List.getElem_cons_zero]
       refine wpAnyH_ready (rs := [12]) (by decide +kernel) (by simp) ?_
       refine (AllReadyH.cons rfl (fun K hK => ?_) AllReadyH.nil)
       have g0 := froz0 hx 0
       have g1 := froz0 hx 1
       have g2 := froz0 hx 2
       obtain ⟨e0, e1, e2⟩ := cel3 hx
       go_simp
       refine Shut.out hK _ _ (by first | (rw [← set3c_eq]; exact set3c_below _ _ _ hq8 hbx) | exact btr hq0 bal | exact btr hq0 (btr bal bal)) (fun hS2 => ?_)
       clear hK K hS
       have hS := hS2
       clear hS2
       try simp only [Act.put, s1, s2, s3, List.getElem_toArray, List.getElem_cons_succ, List.getElem_cons_zero]
       refine wpAnyH_done (by kernel_rfl) ?_ _
       try simp only [Act.put, s1, s2, s3, List.getElem_toArray, List.getElem_cons_succ, List.getElem_cons_zero]
       simp only [NQ]
       first
       | exact hQ _ _ _ _ _ _ _ _ _ _ _ _ (set3c _ _ _ _ _) _ _ _ _ _ _ _ _ _ (set3c_below _ _ _ hq8 hbx) hbx (set3c_same _ _ _ hx) ⟨set3c_dots ca hx, set3c_dots cb hx, set3c_items its hx⟩
       | exact hQ _ _ _ _ _ _ _ _ _ _ _ _ _ _ _ _ _ _ _ _ _ _ (btr hq0 bal) hbx (alloc_at (by first | rfl | simp only [alloc_size])) ⟨ca_0.dots bal, cb_0.dots bal, its_0.items bal⟩
       | (refine cast (congrArg (R _) ?_) (hQ _ _ _ _ _ _ _ _ _ _ _ _ (set3c _ _ _ _ _) _ _ _ _ _ _ _ _ _ (set3c_below _ _ _ hq8 hbx) hbx (set3c_same _ _ _ hx) ⟨set3c_dots ca hx, set3c_dots cb hx, set3c_items its hx⟩)
          unfold set3c
          first
          | rfl
          | (simp [World.setCell_alloc_past, World.setCell_alloc_at, alloc_size]; done)
          | (rw [World.setCell_alloc_past _ _ _ _ (by simp only [alloc_size]; omega), World.setCell_alloc_at _ _ _ _ _ rfl, World.setCell_alloc_past _ _ _ _ (by simp only [alloc_size]; omega), World.setCell_alloc_at _ _ _ _ _ rfl, World.setCell_alloc_past _ _ _ _ (by simp only [alloc_size]; omega), World.setCell_alloc_at _ _ _ _ _ rfl]; rfl))
   · go_simp
     have h0 : Below q1.heap.size q1 (q1.alloc (.cells #[.slice none 0 0, .slice none 0 0, .slice none 0 0] 28)) := bal
     have hq0 := hq1
     have hx : (q1.alloc (.cells #[.slice none 0 0, .slice none 0 0, .slice none 0 0] 28)).heap[q1.heap.size]? = some (.cells #[.slice none 0 0, .slice none 0 0, .slice none 0 0] 28) := alloc_new _ _
     have hbx : WL.heap.size ≤ q1.heap.size := hq0.size
     have hq2 := btr hq1 h0
     clear h0
     refine Shut.out hK _ _ (hq2) (fun hS2 => ?_)
     clear hK K hS
     have hS := hS2
     clear hS2
     try simp only [Act.put, s1, s2, s3, List.getElem_toArray, List.getElem_cons_succ, List.getElem_cons_zero]
     refine wpAnyH_ready (rs := [2]) (by decide +kernel) (by simp) ?_
     refine (AllReadyH.cons rfl (fun K hK => ?_) AllReadyH.nil)
     go_simp
     have h0 : Below (q1.alloc (.cells #[.slice none 0 0, .slice none 0 0, .slice none 0 0] 28)).heap.size (q1.alloc (.cells #[.slice none 0 0, .slice none 0 0, .slice none 0 0] 28)) ((q1.alloc (.cells #[.slice none 0 0, .slice none 0 0, .slice none 0 0] 28)).alloc (.cells #[.int .i64 (1), .int .i64 (1), .int .i64 (1), .int .i64 ((n : Int) + 1)] 30)) := bal
     have hq3 := btr hq2 h0
     have hx := (h0.block _ (lt_of_heap hx)).trans hx
     have dd : Arr DotR 2 ((q1.alloc (.cells #[.slice none 0 0, .slice none 0 0, .slice none 0 0] 28)).alloc (.cells #[.int .i64 (1), .int .i64 (1), .int .i64 (1), .int .i64 ((n : Int) + 1)] 30)) (.slice (some ⟨(q1.alloc (.cells #[.slice none 0 0, .slice none 0 0, .slice none 0 0] 28)).heap.size, 0, none⟩) 2 2) [⟨1, 1⟩, ⟨1, (n : Int) + 1⟩] := lit_dots [⟨1, 1⟩, ⟨1, (n : Int) + 1⟩] (by unfold maxLen; simp) (many_di2 HN.out)
     clear h0
     have e9 : (q1.alloc (.cells #[.slice none 0 0, .slice none 0 0, .slice none 0 0] 28)).heap.size = q1.heap.size + 1 := by simp only [alloc_size]
     rw [e9] at dd
     clear e9
     refine Shut.out hK _ _ (hq3) (fun hS2 => ?_)
     clear hK K hS
     have hS := hS2
     clear hS2
     try simp only [Act.put, s1, s2, s3, List.getElem_toArray, List.getElem_cons_succ, List.getElem_cons_zero]
     refine wpAnyH_ready (rs := [3]) (by decide +kernel) (by simp) ?_
     refine (AllReadyH.cons rfl (fun K hK => ?_) AllReadyH.nil)
     go_simp
     go_at_call 24
     have HEE := l12con_any 1 1 rfl [⟨1, 1⟩, ⟨1, (n : Int) + 1⟩] _ _ _ _ dd (by first | decide | simp)
     refine HEE.mono ?_
     rintro e q4 ⟨vc, rfl, ⟨c1_a, c1_b, c1_c, c1_d, c1_e, c1_f, rfl, ca, cb⟩, h0⟩
     clear HEE
     have hq4 := btr hq3 h0
     have hx := (h0.block _ (lt_of_heap hx)).trans hx
     clear dd
     have ca : Arr DotR 2 _ _ ([⟨1, 1⟩] : List DotD) := ca
     have cb : Arr DotR 2 _ _ ([⟨1, (n : Int) + 1⟩] : List DotD) := cb
     clear h0
     go_simp
     refine Shut.out hK _ _ (hq4) (fun hS2 => ?_)
     clear hK K hS
     have hS := hS2
     clear hS2
     try simp only [Act.put, s1, s2, s3, List.getElem_toArray, List.getElem_cons_succ, List.getElem_cons_zero]
     refine wpAnyH_ready (rs := [6]) (by decide +kernel) (by simp) ?_
     refine (AllReadyH.cons rfl (fun K hK => ?_) AllReadyH.nil)
     go_simp
     go_at_call 27
     have HEE := l12mark_any (1) ((n : Int) + 1) (3) (8) (q4)
     refine HEE.mono ?_
     rintro e q5 ⟨rfl, h0⟩
     clear HEE
     have hq5 := btr hq4 h0
     have hx := (h0.block _ (lt_of_heap hx)).trans hx
     have ca := ca.dots h0
     have cb := cb.dots h0
     clear h0
     go_simp
     refine Shut.out hK _ _ (hq5) (fun hS2 => ?_)
     clear hK K hS
     have hS := hS2
     clear hS2
     try simp only [Act.put, s1, s2, s3, List.getElem_toArray, List.getElem_cons_succ, List.getElem_cons_zero]
     refine wpAnyH_ready (rs := [7]) (by decide +kernel) (by simp) ?_
     refine (AllReadyH.cons rfl (fun K hK => ?_) AllReadyH.nil)
     go_simp
     have h0 : Below q5.heap.size q5 (q5.alloc (.cells #[.int .i64 (1), .int .i64 ((n : Int) + 1), .int .i64 (3), .int .u64 (8)] 55)) := bal
     have hq6 := btr hq5 h0
     have hx := (h0.block _ (lt_of_heap hx)).trans hx
     have ca := ca.dots h0
     have cb := cb.dots h0
     have mk : Arr MarkR 4 (q5.alloc (.cells #[.int .i64 (1), .int .i64 ((n : Int) + 1), .int .i64 (3), .int .u64 (8)] 55)) (.slice (some ⟨q5.heap.size, 0, none⟩) 1 1) [⟨⟨1, (n : Int) + 1⟩, 3, 8⟩] := lit_marks [⟨⟨1, (n : Int) + 1⟩, 3, 8⟩] (by unfold maxLen; simp) (many_mi HN.out (by omega) (by omega))
     clear h0
     refine Shut.out hK _ _ (hq6) (fun hS2 => ?_)
     clear hK K hS
     have hS := hS2
     clear hS2
     try simp only [Act.put, s1, s2, s3, List.getElem_toArray, List.getElem_cons_succ, List.getElem_cons_zero]
     refine wpAnyH_ready (rs := [8]) (by decide +kernel) (by simp) ?_
     refine (AllReadyH.cons rfl (fun K hK => ?_) AllReadyH.nil)
     go_simp
     go_at_call 26
     have HEE := l12item_any tAA (some ⟨q5.heap.size, 0, none⟩) 1 1 ((q5.alloc (.cells #[.int .i64 (1), .int .i64 ((n : Int) + 1), .int .i64 (3), .int .u64 (8)] 55)))
     refine HEE.mono ?_
     rintro e q7 ⟨rfl, h0⟩
     clear HEE
     have hq7 := btr hq6 h0
     have hx := (h0.block _ (lt_of_heap hx)).trans hx
     have ca := ca.dots h0
     have cb := cb.dots h0
     have mk := mk.marks h0
     clear h0
     go_simp
     refine Shut.out hK _ _ (hq7) (fun hS2 => ?_)
     clear hK K hS
     have hS := hS2
     clear hS2
     try simp only [Act.put, s1, s2, s3, List.getElem_toArray, List.getElem_cons_succ, List.getElem_cons_zero]
     refine wpAnyH_ready (rs := [9]) (by decide +kernel) (by simp) ?_
     refine (AllReadyH.cons rfl (fun K hK => ?_) AllReadyH.nil)
     go_simp
     have h0 : Below q7.heap.size q7 (q7.alloc (.cells #[.string tAA, .slice (some ⟨q5.heap.size, 0, none⟩) 1 1] 50)) := bal
     have hq8 := btr hq7 h0
     have hx := (h0.block _ (lt_of_heap hx)).trans hx
     have ca := ca.dots h0
     have cb := cb.dots h0
     have its : Arr ItemR 2 (q7.alloc (.cells #[.string tAA, .slice (some ⟨q5.heap.size, 0, none⟩) 1 1] 50)) (.slice (some ⟨q7.heap.size, 0, none⟩) 1 1) [⟨tAA, [⟨⟨1, (n : Int) + 1⟩, 3, 8⟩]⟩] := lit_items [⟨⟨tAA, [⟨⟨1, (n : Int) + 1⟩, 3, 8⟩]⟩, some ⟨q5.heap.size, 0, none⟩, 1⟩] (by unfold maxLen; simp) (by
       intro p hp
       simp only [List.mem_cons, List.not_mem_nil, or_false] at hp
       rcases hp with rfl
       ·exact ⟨show ByteArray.size tAA ≤ maxLen by decide, mk⟩)
     clear h0
     refine Shut.out hK _ _ (hq8) (fun hS2 => ?_)
     clear hK K hS
     have hS := hS2
     clear hS2
     try simp only [Act.put, s1, s2, s3, List.getElem_toArray, List.getElem_cons_succ, List.getElem_cons_zero]
     refine tkN (i := 10) (v := ?v10) rfl (by decide +kernel) (Or.inl ⟨by kernel_rfl, fun w hSw => ok_of fun z hz => ?h10⟩) hS ?_; (case h10 => (go_simp; exact hz))
     try simp only [Act.put, s1, s2, s3, List.getElem_toArray, List.getElem_cons_succ, List.getElem_cons_zero]
     refine wpAnyH_ready (rs := [12]) (by decide +kernel) (by simp) ?_
     refine (AllReadyH.cons rfl (fun K hK => ?_) AllReadyH.nil)
     have g0 := froz0 hx 0
     have g1 := froz0 hx 1
     have g2 := froz0 hx 2
     obtain ⟨e0, e1, e2⟩ := cel3 hx
     go_simp
     refine Shut.out hK _ _ (by first | (rw [← set3c_eq]; exact set3c_below _ _ _ hq8 hbx) | exact btr hq0 bal | exact btr hq0 (btr bal bal)) (fun hS2 => ?_)
     clear hK K hS
     have hS := hS2
     clear hS2
     try simp only [Act.put, s1, s2, s3, List.getElem_toArray, List.getElem_cons_succ, List.getElem_cons_zero]
     refine wpAnyH_done (by kernel_rfl) ?_ _
     try simp only [Act.put, s1, s2, s3, List.getElem_toArray, List.getElem_cons_succ, List.getElem_cons_zero]
     simp only [NQ]
     first
     | exact hQ _ _ _ _ _ _ _ _ _ _ _ _ (set3c _ _ _ _ _) _ _ _ _ _ _ _ _ _ (set3c_below _ _ _ hq8 hbx) hbx (set3c_same _ _ _ hx) ⟨set3c_dots ca hx, set3c_dots cb hx, set3c_items its hx⟩
     | exact hQ _ _ _ _ _ _ _ _ _ _ _ _ _ _ _ _ _ _ _ _ _ _ (btr hq0 bal) hbx (alloc_at (by first | rfl | simp only [alloc_size])) ⟨ca_0.dots bal, cb_0.dots bal, its_0.items bal⟩
     | (refine cast (congrArg (R _) ?_) (hQ _ _ _ _ _ _ _ _ _ _ _ _ (set3c _ _ _ _ _) _ _ _ _ _ _ _ _ _ (set3c_below _ _ _ hq8 hbx) hbx (set3c_same _ _ _ hx) ⟨set3c_dots ca hx, set3c_dots cb hx, set3c_items its hx⟩)
        unfold set3c
        first
        | rfl
        | (simp [World.setCell_alloc_past, World.setCell_alloc_at, alloc_size]; done)
        | (rw [World.setCell_alloc_past _ _ _ _ (by simp only [alloc_size]; omega), World.setCell_alloc_at _ _ _ _ _ rfl, World.setCell_alloc_past _ _ _ _ (by simp only [alloc_size]; omega), World.setCell_alloc_at _ _ _ _ _ rfl, World.setCell_alloc_past _ _ _ _ (by simp only [alloc_size]; omega), World.setCell_alloc_at _ _ _ _ _ rfl]; rfl))
 · go_simp
   have h0 : Below WL.drew.heap.size WL.drew (WL.drew.alloc (.cells #[.slice none 0 0, .slice none 0 0, .slice none 0 0] 28)) := bal
   have hq0 := (bdr : Below WL.heap.size WL WL.drew)
   have hx : (WL.drew.alloc (.cells #[.slice none 0 0, .slice none 0 0, .slice none 0 0] 28)).heap[WL.drew.heap.size]? = some (.cells #[.slice none 0 0, .slice none 0 0, .slice none 0 0] 28) := alloc_new _ _
   have hbx : WL.heap.size ≤ WL.drew.heap.size := hq0.size
   have hq1 := btr (bdr : Below WL.heap.size WL WL.drew) h0
   clear h0
   have e9 : WL.drew.heap.size = WL.heap.size := rfl
   rw [e9] at hx hbx
   clear e9
   refine Shut.out hK _ _ (hq1) (fun hS2 => ?_)
   clear hK K hS
   have hS := hS2
   clear hS2
   try simp only [Act.put, s1, s2, s3, List.getElem_toArray, List.getElem_cons_succ, List.getElem_cons_zero]
   refine wpAnyH_ready (rs := [0]) (by decide +kernel) (by simp) ?_
   refine (AllReadyH.cons rfl (fun K hK => ?_) AllReadyH.nil)
   go_simp
   go_at_call 25
   have HEE := l12at_any (1) (1) ((WL.drew.alloc (.cells #[.slice none 0 0, .slice none 0 0, .slice none 0 0] 28)))
   refine HEE.mono ?_
   rintro e q2 ⟨rfl, h0⟩
   clear HEE
   have hq2 := btr hq1 h0
   have hx := (h0.block _ (lt_of_heap hx)).trans hx
   clear h0
   go_simp
   refine Shut.out hK _ _ (hq2) (fun hS2 => ?_)
   clear hK K hS
   have hS := hS2
   clear hS2
   try simp only [Act.put, s1, s2, s3, List.getElem_toArray, List.getElem_cons_succ, List.getElem_cons_zero]
   refine wpAnyH_ready (rs := [2]) (by decide +kernel) (by simp) ?_
   refine (AllReadyH.cons rfl (fun K hK => ?_) AllReadyH.nil)
   go_simp
   have h0 : Below q2.heap.size q2 (q2.alloc (.cells #[.int .i64 (1), .int .i64 (1), .int .i64 (1), .int .i64 ((n : Int) + 1)] 30)) := bal
   have hq3 := btr hq2 h0
   have hx := (h0.block _ (lt_of_heap hx)).trans hx
   have dd : Arr DotR 2 (q2.alloc (.cells #[.int .i64 (1), .int .i64 (1), .int .i64 (1), .int .i64 ((n : Int) + 1)] 30)) (.slice (some ⟨q2.heap.size, 0, none⟩) 2 2) [⟨1, 1⟩, ⟨1, (n : Int) + 1⟩] := lit_dots [⟨1, 1⟩, ⟨1, (n : Int) + 1⟩] (by unfold maxLen; simp) (many_di2 HN.out)
   clear h0
   refine Shut.out hK _ _ (hq3) (fun hS2 => ?_)
   clear hK K hS
   have hS := hS2
   clear hS2
   try simp only [Act.put, s1, s2, s3, List.getElem_toArray, List.getElem_cons_succ, List.getElem_cons_zero]
   refine wpAnyH_ready (rs := [3]) (by decide +kernel) (by simp) ?_
   refine (AllReadyH.cons rfl (fun K hK => ?_) AllReadyH.nil)
   go_simp
   go_at_call 24
   have HEE := l12con_any 1 1 rfl [⟨1, 1⟩, ⟨1, (n : Int) + 1⟩] _ _ _ _ dd (by first | decide | simp)
   refine HEE.mono ?_
   rintro e q4 ⟨vc, rfl, ⟨c1_a, c1_b, c1_c, c1_d, c1_e, c1_f, rfl, ca, cb⟩, h0⟩
   clear HEE
   have hq4 := btr hq3 h0
   have hx := (h0.block _ (lt_of_heap hx)).trans hx
   clear dd
   have ca : Arr DotR 2 _ _ ([⟨1, 1⟩] : List DotD) := ca
   have cb : Arr DotR 2 _ _ ([⟨1, (n : Int) + 1⟩] : List DotD) := cb
   clear h0
   go_simp
   refine Shut.out hK _ _ (hq4) (fun hS2 => ?_)
   clear hK K hS
   have hS := hS2
   clear hS2
   try simp only [Act.put, s1, s2, s3, List.getElem_toArray, List.getElem_cons_succ, List.getElem_cons_zero]
   refine wpAnyH_ready (rs := [6]) (by decide +kernel) (by simp) ?_
   refine (AllReadyH.cons rfl (fun K hK => ?_) AllReadyH.nil)
   go_simp
   go_at_call 27
   have HEE := l12mark_any (1) ((n : Int) + 1) (3) (8) (q4)
   refine HEE.mono ?_
   rintro e q5 ⟨rfl, h0⟩
   clear HEE
   have hq5 := btr hq4 h0
   have hx := (h0.block _ (lt_of_heap hx)).trans hx
   have ca := ca.dots h0
   have cb := cb.dots h0
   clear h0
   go_simp
   refine Shut.out hK _ _ (hq5) (fun hS2 => ?_)
   clear hK K hS
   have hS := hS2
   clear hS2
   try simp only [Act.put, s1, s2, s3, List.getElem_toArray, List.getElem_cons_succ, List.getElem_cons_zero]
   refine wpAnyH_ready (rs := [7]) (by decide +kernel) (by simp) ?_
   refine (AllReadyH.cons rfl (fun K hK => ?_) AllReadyH.nil)
   go_simp
   have h0 : Below q5.heap.size q5 (q5.alloc (.cells #[.int .i64 (1), .int .i64 ((n : Int) + 1), .int .i64 (3), .int .u64 (8)] 55)) := bal
   have hq6 := btr hq5 h0
   have hx := (h0.block _ (lt_of_heap hx)).trans hx
   have ca := ca.dots h0
   have cb := cb.dots h0
   have mk : Arr MarkR 4 (q5.alloc (.cells #[.int .i64 (1), .int .i64 ((n : Int) + 1), .int .i64 (3), .int .u64 (8)] 55)) (.slice (some ⟨q5.heap.size, 0, none⟩) 1 1) [⟨⟨1, (n : Int) + 1⟩, 3, 8⟩] := lit_marks [⟨⟨1, (n : Int) + 1⟩, 3, 8⟩] (by unfold maxLen; simp) (many_mi HN.out (by omega) (by omega))
   clear h0
   refine Shut.out hK _ _ (hq6) (fun hS2 => ?_)
   clear hK K hS
   have hS := hS2
   clear hS2
   try simp only [Act.put, s1, s2, s3, List.getElem_toArray, List.getElem_cons_succ, List.getElem_cons_zero]
   refine wpAnyH_ready (rs := [8]) (by decide +kernel) (by simp) ?_
   refine (AllReadyH.cons rfl (fun K hK => ?_) AllReadyH.nil)
   go_simp
   go_at_call 26
   have HEE := l12item_any tAA (some ⟨q5.heap.size, 0, none⟩) 1 1 ((q5.alloc (.cells #[.int .i64 (1), .int .i64 ((n : Int) + 1), .int .i64 (3), .int .u64 (8)] 55)))
   refine HEE.mono ?_
   rintro e q7 ⟨rfl, h0⟩
   clear HEE
   have hq7 := btr hq6 h0
   have hx := (h0.block _ (lt_of_heap hx)).trans hx
   have ca := ca.dots h0
   have cb := cb.dots h0
   have mk := mk.marks h0
   clear h0
   go_simp
   refine Shut.out hK _ _ (hq7) (fun hS2 => ?_)
   clear hK K hS
   have hS := hS2
   clear hS2
   try simp only [Act.put, s1, s2, s3, List.getElem_toArray, List.getElem_cons_succ, List.getElem_cons_zero]
   refine wpAnyH_ready (rs := [9]) (by decide +kernel) (by simp) ?_
   refine (AllReadyH.cons rfl (fun K hK => ?_) AllReadyH.nil)
   go_simp
   have h0 : Below q7.heap.size q7 (q7.alloc (.cells #[.string tAA, .slice (some ⟨q5.heap.size, 0, none⟩) 1 1] 50)) := bal
   have hq8 := btr hq7 h0
   have hx := (h0.block _ (lt_of_heap hx)).trans hx
   have ca := ca.dots h0
   have cb := cb.dots h0
   have its : Arr ItemR 2 (q7.alloc (.cells #[.string tAA, .slice (some ⟨q5.heap.size, 0, none⟩) 1 1] 50)) (.slice (some ⟨q7.heap.size, 0, none⟩) 1 1) [⟨tAA, [⟨⟨1, (n : Int) + 1⟩, 3, 8⟩]⟩] := lit_items [⟨⟨tAA, [⟨⟨1, (n : Int) + 1⟩, 3, 8⟩]⟩, some ⟨q5.heap.size, 0, none⟩, 1⟩] (by unfold maxLen; simp) (by
     intro p hp
     simp only [List.mem_cons, List.not_mem_nil, or_false] at hp
     rcases hp with rfl
     ·exact ⟨show ByteArray.size tAA ≤ maxLen by decide, mk⟩)
   clear h0
   refine Shut.out hK _ _ (hq8) (fun hS2 => ?_)
   clear hK K hS
   have hS := hS2
   clear hS2
   try simp only [Act.put, s1, s2, s3, List.getElem_toArray, List.getElem_cons_succ, List.getElem_cons_zero]
   refine tkN (i := 10) (v := ?v11) rfl (by decide +kernel) (Or.inl ⟨by kernel_rfl, fun w hSw => ok_of fun z hz => ?h11⟩) hS ?_; (case h11 => (go_simp; exact hz))
   try simp only [Act.put, s1, s2, s3, List.getElem_toArray, List.getElem_cons_succ, List.getElem_cons_zero]
   refine wpAnyH_ready (rs := [12]) (by decide +kernel) (by simp) ?_
   refine (AllReadyH.cons rfl (fun K hK => ?_) AllReadyH.nil)
   have g0 := froz0 hx 0
   have g1 := froz0 hx 1
   have g2 := froz0 hx 2
   obtain ⟨e0, e1, e2⟩ := cel3 hx
   go_simp
   refine Shut.out hK _ _ (by first | (rw [← set3c_eq]; exact set3c_below _ _ _ hq8 hbx) | exact btr hq0 bal | exact btr hq0 (btr bal bal)) (fun hS2 => ?_)
   clear hK K hS
   have hS := hS2
   clear hS2
   try simp only [Act.put, s1, s2, s3, List.getElem_toArray, List.getElem_cons_succ, List.getElem_cons_zero]
   refine wpAnyH_done (by kernel_rfl) ?_ _
   try simp only [Act.put, s1, s2, s3, List.getElem_toArray, List.getElem_cons_succ, List.getElem_cons_zero]
   simp only [NQ]
   first
   | exact hQ _ _ _ _ _ _ _ _ _ _ _ _ (set3c _ _ _ _ _) _ _ _ _ _ _ _ _ _ (set3c_below _ _ _ hq8 hbx) hbx (set3c_same _ _ _ hx) ⟨set3c_dots ca hx, set3c_dots cb hx, set3c_items its hx⟩
   | exact hQ _ _ _ _ _ _ _ _ _ _ _ _ _ _ _ _ _ _ _ _ _ _ (btr hq0 bal) hbx (alloc_at (by first | rfl | simp only [alloc_size])) ⟨ca_0.dots bal, cb_0.dots bal, its_0.items bal⟩
   | (refine cast (congrArg (R _) ?_) (hQ _ _ _ _ _ _ _ _ _ _ _ _ (set3c _ _ _ _ _) _ _ _ _ _ _ _ _ _ (set3c_below _ _ _ hq8 hbx) hbx (set3c_same _ _ _ hx) ⟨set3c_dots ca hx, set3c_dots cb hx, set3c_items its hx⟩)
      unfold set3c
      first
      | rfl
      | (simp [World.setCell_alloc_past, World.setCell_alloc_at, alloc_size]; done)
      | (rw [World.setCell_alloc_past _ _ _ _ (by simp only [alloc_size]; omega), World.setCell_alloc_at _ _ _ _ _ rfl, World.setCell_alloc_past _ _ _ _ (by simp only [alloc_size]; omega), World.setCell_alloc_at _ _ _ _ _ rfl, World.setCell_alloc_past _ _ _ _ (by simp only [alloc_size]; omega), World.setCell_alloc_at _ _ _ _ _ rfl]; rfl))
set_option linter.unusedSimpArgs false in
set_option linter.unusedVariables false in
set_option maxRecDepth 100000 in
set_option maxHeartbeats 16000000 in
theorem l12Many_any (more : Int) (w : World)  (hG : GlobIs w) :
    Calls Tryz.prog 5 #[.int .i64 more] w fun e w' => e = .returned (.bool true) ∧ Below w.heap.size w w' := by
  have HB : Hid (Below w.heap.size w w) := Hd brf
  have HB0 : Hid (Below w.heap.size w w) := Hd brf
  have HGL := Hd hG
  clear hG
  go_enter Tryz.func5, Tryz.ntmps5
  by_cases h1 : more < -2
  ·skip
   have HX := Lib.hid (l12known_any w (HGL.out.below HB0.out))
   go_wp2_with fail
   refine HX.out.mono ?_
   rintro e wk ⟨rfl, hbk⟩
   clear HX
   have HBK := Lib.hid (HB0.out.trans (hbk.mono HB0.out.size))
   clear hbk
   go_wp2_with fail
   go_ret
   exact ⟨rfl, HB.out.trans (HBK.out.mono HB.out.size)⟩
  by_cases h2 : 2 < more
  ·skip
   have HX := Lib.hid (l12known_any w (HGL.out.below HB0.out))
   go_wp2_with fail
   refine HX.out.mono ?_
   rintro e wk ⟨rfl, hbk⟩
   clear HX
   have HBK := Lib.hid (HB0.out.trans (hbk.mono HB0.out.size))
   clear hbk
   go_wp2_with fail
   go_ret
   exact ⟨rfl, HB.out.trans (HBK.out.mono HB.out.size)⟩
  obtain ⟨n, hn⟩ : ∃ n : Nat, (n : Int) = 256 + more := ⟨(256 + more).toNat, by omega⟩
  have hnb : 254 ≤ n ∧ n ≤ 258 := by omega
  have HNB := Hd hnb
  have HNE := Hd hn
  have kw0 : IntKind.i64.wrap (256 + more) = (n : Int) := by rw [IntKind.wrap_i64]; omega
  have kw1 : IntKind.i64.wrap (257 + more) = (n : Int) + 1 := by rw [IntKind.wrap_i64]; omega
  have HR1 : Hid (0 ≤ (n : Int) ∧ (n : Int) ≤ 1000) := Hd (by omega)
  have HR2 : Hid (0 ≤ (n : Int) + 1 ∧ (n : Int) + 1 ≤ 1000) := Hd (by omega)
  have HSZ := Hd (manyC_sz hnb.2)
  clear hn hnb
  go_wp2_with fail
  have HEE := l12at_any (1) ((n : Int)) (w)
  refine HEE.mono ?_
  rintro e q1 ⟨rfl, h0⟩
  clear HEE
  have hq1 := btr (Below.refl _ _ : Below w.heap.size w w) h0
  clear h0
  have h0 : Below q1.heap.size q1 (q1.alloc (.cells #[.int .i64 (1), .int .i64 ((n : Int))] 30)) := bal
  have hq2 := btr hq1 h0
  have d1 : Arr DotR 2 (q1.alloc (.cells #[.int .i64 (1), .int .i64 ((n : Int))] 30)) (.slice (some ⟨q1.heap.size, 0, none⟩) 1 1) [⟨1, (n : Int)⟩] := lit_dots [⟨1, (n : Int)⟩] (by unfold maxLen; simp) (many_di HR1.out)
  clear h0
  go_wp2_with fail
  have HEE := l12con_any 1 1 rfl [⟨1, (n : Int)⟩] _ _ _ _ d1 (by first | decide | simp)
  refine HEE.mono ?_
  rintro e q3 ⟨vc, rfl, ⟨c1_a, c1_b, c1_c, c1_d, c1_e, c1_f, rfl, ca, cb⟩, h0⟩
  clear HEE
  have hq3 := btr hq2 h0
  clear d1
  have ca : Arr DotR 2 _ _ ([⟨1, (n : Int)⟩] : List DotD) := ca
  have cb : Arr DotR 2 _ _ ([] : List DotD) := cb
  clear h0
  obtain ⟨WC, HWC, HBC0, HSC, HKC⟩ := box1 q3 #[.slice c1_a c1_b c1_c, .slice c1_d c1_e c1_f, .slice none 0 0] 28
  have HCA := Hd (And.intro ca cb)
  have HQ0 := Hd hq3
  have HX0 := Hd (HKC.out WC brf)
  have hsc := HSC.out
  have HSC' := Hd hsc
  clear ca cb
  go_upto_region 4 with fail
  rw [← HWC.out]
  clear HWC
  go_wp2_with fail
  go_loopw [4] (fun iv wr => ∃ (k : Nat) (ps : List ItW) (o3 : Option Addr) (k3 : Nat), k ≤ n ∧ iv = .int .i64 (k : Int) ∧ ps.length = k ∧ ps.map (·.x) = manyI k ∧ FreshI WC.heap.size wr (.slice o3 k k3) ps ∧ wr.heap[q3.heap.size]? = some (.cells #[.slice c1_a c1_b c1_c, .slice c1_d c1_e c1_f, .slice o3 k k3] 28) ∧ Below q3.heap.size WC wr ∧ WC.heap.size ≤ wr.heap.size) (fun iv _ => n - (intOf iv).toNat)
  case atStart => exact ⟨0, [], none, 0, Nat.zero_le _, rfl, rfl, rfl, ⟨Enc.Row.nil _ _, fun p hp => (by cases hp), List.Pairwise.nil⟩, HX0.out, Below.refl _ _, Nat.le_refl _⟩
  case round =>
    obtain ⟨k, ps, o3, k3, hk, rfl, hps, hmp, hF, hx, hb, hsz⟩ := hrel
    have HF := Hd hF
    have HX := Hd hx
    have HBR := Hd hb
    have HSZR := Hd hsz
    have HPS := Hd hps
    have HMP := Hd hmp
    clear hF hx hb hsz hps hmp
    by_cases hlt : k < n
    ·have a1 : (k : Int) < (n : Int) := by omega
     have a0 : (0 : Int) ≤ (k : Int) := by omega
     have kw5 : IntKind.i64.wrap ((k : Int) + 1) = (k : Int) + 1 := by have := HNB.out; rw [IntKind.wrap_i64]; omega
     go_upto_region 7 with fail
     refine NQ.to (many7 k q3.heap.size WC.heap.size (by have := HNB.out; omega) ps wr _ _ o3 k3 _ _ _ _ _ _ _ _ _ _ _ _ _ _ _ _ _ _ _ _ _ _ _ _ _ _ _ _ _ _ _ _ _ _ _ _ _ _ _ _ _ _ _ _ _ _ _ _ _ _ _ _ _ _ _ _ _ _ _ _ _ _ _ _ _ _ _ _ _ _ _ _ _ _ _ _ _ _ _ _ _ _ _ _ _ _ _ _ _ _ _ _ _ _ _ _ _ _ _ _ _ _ _ _ _ _ _ HPS.out HX.out HF.out HSZR.out (by have := HSC'.out; omega) _ ?_)
     intro y27 y28 y29 y30 y31 y32 y33 y34 y35 y36 y37 y38 y39 y40 y41 y42 y43 y44 y45 y46 w7 o4 k4 q9 hq9 hF7 hx7 hb7 hs7
     have hmp2 : (ps ++ [q9]).map (·.x) = manyI (k + 1) := by rw [List.map_append, HMP.out, manyI_succ]; simp [hq9]
     have hln : (ps ++ [q9]).length = k + 1 := by rw [List.length_append, HPS.out]; rfl
     have HFIN : Hid (∃ (k' : Nat) (ps' : List ItW) (o3' : Option Addr) (k3' : Nat), k' ≤ n ∧ (.int .i64 ((k : Int) + 1) : Value) = .int .i64 (k' : Int) ∧ ps'.length = k' ∧ ps'.map (·.x) = manyI k' ∧ FreshI WC.heap.size w7 (.slice o3' k' k3') ps' ∧ w7.heap[q3.heap.size]? = some (.cells #[.slice c1_a c1_b c1_c, .slice c1_d c1_e c1_f, .slice o3' k' k3'] 28) ∧ Below q3.heap.size WC w7 ∧ WC.heap.size ≤ w7.heap.size) := Hd ⟨k + 1, ps ++ [q9], o4, k4, by omega, by go_num, hln, hmp2, hF7, hx7, HBR.out.trans hb7, hs7⟩
     clear hmp2 hln hF7 hx7 hb7 hs7 HF HX HBR
     go_wp2_with fail
     go_roundw
     case rel => exact HFIN.out
     case measure => simp [intOf]; omega
    have hke : k = n := by omega
    subst hke
    have a1 : ¬ ((k : Int) < (k : Int)) := by omega
    have hbq : Below q3.heap.size q3 wr := HBC0.out.trans HBR.out
    have har := HF.out.arr
    rw [HMP.out] at har
    have HAC : Hid (CartA wr (.slice c1_a c1_b c1_c) (.slice c1_d c1_e c1_f) (.slice o3 k k3) (manyC k)) := Hd ⟨HCA.out.1.dots hbq, HCA.out.2.dots hbq, har⟩
    have HXC := HX
    have HBWR := Hd (btr HQ0.out hbq)
    clear hbq har hlt hk
    have HCC := Hd (fun wz (hz : Below wr.heap.size wr wz) => cel3 ((hz.block _ (lt_of_heap HXC.out)).trans HXC.out))
    obtain ⟨eC0_0, eC0_1, eC0_2⟩ := HCC.out wr brf
    have HDC0 : Hid (Below wr.heap.size wr wr) := Hd brf
    have HBl := HBWR
    go_wp2_with fail
    have HEE := l12at_any (1) ((k : Int) + 1) (wr)
    refine HEE.mono ?_
    rintro e q1 ⟨rfl, h0⟩
    clear HEE
    have hq1 := btr (Below.refl _ _ : Below wr.heap.size wr wr) h0
    clear h0
    obtain ⟨WD, HWD, HBD0, HSD, HKD⟩ := box1 q1 #[.int .i64 1, .int .i64 ((k : Int) + 1)] 30
    have hb := btr hq1 HBD0.out
    have HXD := Hd (HKD.out WD brf)
    have HB1 := Lib.hid (HBl.out.trans (hb.mono HBl.out.size))
    have HDC1 := Lib.hid (HDC0.out.trans (hb.mono HDC0.out.size))
    clear eC0_0 eC0_1 eC0_2
    obtain ⟨eC1_0, eC1_1, eC1_2⟩ := HCC.out WD HDC1.out
    have HCD := Hd (fun wz (hz : Below WD.heap.size WD wz) => cel2 ((hz.block _ (lt_of_heap HXD.out)).trans HXD.out))
    have HDD1 : Hid (Below WD.heap.size WD WD) := Hd brf
    obtain ⟨eD1_0, eD1_1⟩ := HCD.out WD brf
    clear hb
    go_upto_region 9 with fail
    rw [← HWD.out]
    have h0 : Below WD.heap.size WD (WD.alloc (.cells #[.int .i64 (1), .int .i64 ((k : Int) + 1)] 30)) := bal
    have hq1 := btr (Below.refl _ _ : Below WD.heap.size WD WD) h0
    have d2 : Arr DotR 2 (WD.alloc (.cells #[.int .i64 (1), .int .i64 ((k : Int) + 1)] 30)) (.slice (some ⟨WD.heap.size, 0, none⟩) 1 1) [⟨1, (k : Int) + 1⟩] := lit_dots [⟨1, (k : Int) + 1⟩] (by unfold maxLen; simp) (many_di HR2.out)
    clear h0
    go_wp2_with fail
    have HEE := l12con_any 0 0 rfl [⟨1, (k : Int) + 1⟩] _ _ _ _ d2 (by first | decide | simp)
    refine HEE.mono ?_
    rintro e q2 ⟨vc, rfl, ⟨c1_a, c1_b, c1_c, c1_d, c1_e, c1_f, rfl, ca, cb⟩, h0⟩
    clear HEE
    have hq2 := btr hq1 h0
    clear d2
    have ca : Arr DotR 2 _ _ ([] : List DotD) := ca
    have cb : Arr DotR 2 _ _ ([⟨1, (k : Int) + 1⟩] : List DotD) := cb
    clear h0
    go_wp2_with fail
    have HEE := l12mark_any (1) ((k : Int) + 1) (3) (8) (q2)
    refine HEE.mono ?_
    rintro e q3 ⟨rfl, h0⟩
    clear HEE
    have hq3 := btr hq2 h0
    have ca := ca.dots h0
    have cb := cb.dots h0
    clear h0
    have h0 : Below q3.heap.size q3 (q3.alloc (.cells #[.int .i64 (1), .int .i64 ((k : Int) + 1), .int .i64 (3), .int .u64 (8)] 55)) := bal
    have hq4 := btr hq3 h0
    have ca := ca.dots h0
    have cb := cb.dots h0
    have mk : Arr MarkR 4 (q3.alloc (.cells #[.int .i64 (1), .int .i64 ((k : Int) + 1), .int .i64 (3), .int .u64 (8)] 55)) (.slice (some ⟨q3.heap.size, 0, none⟩) 1 1) [⟨⟨1, (k : Int) + 1⟩, 3, 8⟩] := lit_marks [⟨⟨1, (k : Int) + 1⟩, 3, 8⟩] (by unfold maxLen; simp) (many_mi HR2.out (by omega) (by omega))
    clear h0
    go_wp2_with fail
    have HEE := l12item_any tTil (some ⟨q3.heap.size, 0, none⟩) 1 1 ((q3.alloc (.cells #[.int .i64 (1), .int .i64 ((k : Int) + 1), .int .i64 (3), .int .u64 (8)] 55)))
    refine HEE.mono ?_
    rintro e q5 ⟨rfl, h0⟩
    clear HEE
    have hq5 := btr hq4 h0
    have ca := ca.dots h0
    have cb := cb.dots h0
    have mk := mk.marks h0
    clear h0
    have h0 : Below q5.heap.size q5 (q5.alloc (.cells #[.string tTil, .slice (some ⟨q3.heap.size, 0, none⟩) 1 1] 50)) := bal
    have hq6 := btr hq5 h0
    have ca := ca.dots h0
    have cb := cb.dots h0
    have its : Arr ItemR 2 (q5.alloc (.cells #[.string tTil, .slice (some ⟨q3.heap.size, 0, none⟩) 1 1] 50)) (.slice (some ⟨q5.heap.size, 0, none⟩) 1 1) [⟨tTil, [⟨⟨1, (k : Int) + 1⟩, 3, 8⟩]⟩] := lit_items [⟨⟨tTil, [⟨⟨1, (k : Int) + 1⟩, 3, 8⟩]⟩, some ⟨q3.heap.size, 0, none⟩, 1⟩] (by unfold maxLen; simp) (by
      intro p hp
      simp only [List.mem_cons, List.not_mem_nil, or_false] at hp
      rcases hp with rfl
      ·exact ⟨show ByteArray.size tTil ≤ maxLen by decide, mk⟩)
    clear h0
    obtain ⟨WO, HWO, HBO0, HSWO, HCO⟩ := box1 (q5.alloc (.cells #[.string tTil, .slice (some ⟨q3.heap.size, 0, none⟩) 1 1] 50)) #[.slice c1_a c1_b c1_c, .slice c1_d c1_e c1_f, .slice (some ⟨q5.heap.size, 0, none⟩) 1 1] 28
    have hAO : CartA WO (.slice c1_a c1_b c1_c) (.slice c1_d c1_e c1_f) (.slice (some ⟨q5.heap.size, 0, none⟩) 1 1) ⟨[], [⟨1, (k : Int) + 1⟩], [⟨tTil, [⟨⟨1, (k : Int) + 1⟩, 3, 8⟩]⟩]⟩ := (show CartA (q5.alloc (.cells #[.string tTil, .slice (some ⟨q3.heap.size, 0, none⟩) 1 1] 50)) (.slice c1_a c1_b c1_c) (.slice c1_d c1_e c1_f) (.slice (some ⟨q5.heap.size, 0, none⟩) 1 1) ⟨[], [⟨1, (k : Int) + 1⟩], [⟨tTil, [⟨⟨1, (k : Int) + 1⟩, 3, 8⟩]⟩]⟩ from ⟨ca, cb, its⟩).below HBO0.out
    have HAO := Hd hAO
    clear hAO
    have hb := btr hq6 HBO0.out
    have HXBO := Hd (HCO.out WO brf)
    have HCO := Hd (fun wz hz => cel3 (HCO.out wz hz))
    try simp only [alloc_size] at HCO HXBO
    have HB2 := Lib.hid (HB1.out.trans (hb.mono HB1.out.size))
    have HDC2 := Lib.hid (HDC1.out.trans (hb.mono HDC1.out.size))
    have HDD2 := Lib.hid (HDD1.out.trans (hb.mono HDD1.out.size))
    have HDO2 : Hid (Below WO.heap.size WO WO) := Lib.hid (Below.refl _ _)
    clear hb HBO0
    clear eC1_0 eC1_1 eC1_2
    obtain ⟨eC2_0, eC2_1, eC2_2⟩ := HCC.out WO HDC2.out
    clear eD1_0 eD1_1
    obtain ⟨eD2_0, eD2_1⟩ := HCD.out WO HDD2.out
    obtain ⟨eO2_0, eO2_1, eO2_2⟩ := HCO.out WO HDO2.out
    have P1 := puts_true (c := manyC k) (x := zeroC) (d := ⟨1, (k : Int) + 1⟩) (nm := tTil) (q := 3) (no := 9) (set := true) ⟨many_put2 HNB.out.1 HNB.out.2, by rw [if_neg (by decide)]⟩
    have P2 := puts_true (c := manyC k) (x := ⟨[⟨1, 1⟩], [⟨1, (k : Int) + 1⟩], [⟨tAA, [⟨⟨1, (k : Int) + 1⟩, 3, 8⟩]⟩]⟩) (d := ⟨1, (k : Int) + 1⟩) (nm := tAA) (q := 3) (no := 0) (set := false) ⟨many_put3 HNB.out.1 HNB.out.2 false, by rw [if_pos rfl]; exact many_new2 HNB.out.1 HNB.out.2⟩
    have P3 := puts_true (c := manyC k) (x := ⟨[⟨1, 1⟩], [⟨1, (k : Int) + 1⟩], [⟨tAA, [⟨⟨1, (k : Int) + 1⟩, 3, 8⟩]⟩]⟩) (d := ⟨1, (k : Int) + 1⟩) (nm := tAA) (q := 3) (no := 0) (set := true) ⟨many_put3 HNB.out.1 HNB.out.2 true, by rw [if_pos rfl]; exact many_new2 HNB.out.1 HNB.out.2⟩
    have HP1 := Hd P1
    have HP2 := Hd P2
    have HP3 := Hd P3
    clear P1 P2 P3
    rcases Nat.lt_or_ge k 256 with hm | hm
    case' inl =>
     have p0 : ¬ ((0 : Int) ≤ more) := by have := HNE.out; omega
     have p1 : more < 0 := by have := HNE.out; omega
     have P4 := puts_true (c := manyC k) (x := ⟨[], [⟨1, (k : Int) + 1⟩], [⟨tTil, [⟨⟨1, (k : Int) + 1⟩, 3, 8⟩]⟩]⟩) (d := ⟨1, (k : Int) + 1⟩) (nm := tTil) (q := 3) (no := 0) (set := false) ⟨by rw [many_put1 HNB.out.1 HNB.out.2, if_neg (by omega)], by rw [if_pos rfl]; exact many_new1 HNB.out.1 HNB.out.2⟩
     have HX := Lib.hid (l12adds_any (manyC k) ⟨[], [⟨1, (k : Int) + 1⟩], [⟨tTil, [⟨⟨1, (k : Int) + 1⟩, 3, 8⟩]⟩]⟩ ⟨1, (k : Int) + 1⟩ tTil 3 0 _ _ _ _ _ _ WO (HAC.out.below HDC2.out) (HAO.out.below HDO2.out) HSZ.out.1 HSZ.out.2 (by decide) (HGL.out.below HB2.out))
     rw [P4] at HX
     simp only [dotV] at HX
     go_wp2_with (go_loud (rw [← HWO.out]))
     refine HX.out.mono ?_
     rintro e w3 ⟨rfl, hb⟩
     clear HX
     have HB3 := Lib.hid (HB2.out.trans (hb.mono HB2.out.size))
     have HDC3 := Lib.hid (HDC2.out.trans (hb.mono HDC2.out.size))
     clear eC2_0 eC2_1 eC2_2
     obtain ⟨eC3_0, eC3_1, eC3_2⟩ := HCC.out w3 HDC3.out
     have HDD3 := Lib.hid (HDD2.out.trans (hb.mono HDD2.out.size))
     clear eD2_0 eD2_1
     obtain ⟨eD3_0, eD3_1⟩ := HCD.out w3 HDD3.out
     have HDO3 := Lib.hid (HDO2.out.trans (hb.mono HDO2.out.size))
     clear eO2_0 eO2_1 eO2_2
     obtain ⟨eO3_0, eO3_1, eO3_2⟩ := HCO.out w3 HDO3.out
     clear hb
     clear P4
    case' inr =>
     have p0 : (0 : Int) ≤ more := by have := HNE.out; omega
     have p1 : ¬ (more < 0) := by have := HNE.out; omega
     have P4 := puts_true (c := manyC k) (x := zeroC) (d := ⟨1, (k : Int) + 1⟩) (nm := tTil) (q := 3) (no := 13) (set := false) ⟨by rw [many_put1 HNB.out.1 HNB.out.2, if_pos (by omega)], by rw [if_neg (by decide)]⟩
     have HX := Lib.hid (l12adds_any (manyC k) zeroC ⟨1, (k : Int) + 1⟩ tTil 3 13 _ _ _ (.slice none 0 0) (.slice none 0 0) (.slice none 0 0) WO (HAC.out.below HDC2.out) (cartA_zero _) HSZ.out.1 HSZ.out.2 (by decide) (HGL.out.below HB2.out))
     rw [P4] at HX
     simp only [dotV] at HX
     go_wp2_with (go_loud (rw [← HWO.out]))
     refine HX.out.mono ?_
     rintro e w3 ⟨rfl, hb⟩
     clear HX
     have HB3 := Lib.hid (HB2.out.trans (hb.mono HB2.out.size))
     have HDC3 := Lib.hid (HDC2.out.trans (hb.mono HDC2.out.size))
     clear eC2_0 eC2_1 eC2_2
     obtain ⟨eC3_0, eC3_1, eC3_2⟩ := HCC.out w3 HDC3.out
     have HDD3 := Lib.hid (HDD2.out.trans (hb.mono HDD2.out.size))
     clear eD2_0 eD2_1
     obtain ⟨eD3_0, eD3_1⟩ := HCD.out w3 HDD3.out
     have HDO3 := Lib.hid (HDO2.out.trans (hb.mono HDO2.out.size))
     clear eO2_0 eO2_1 eO2_2
     obtain ⟨eO3_0, eO3_1, eO3_2⟩ := HCO.out w3 HDO3.out
     clear hb
     clear P4
    all_goals
     have hxd := (HDD3.out.block _ (lt_of_heap HXD.out)).trans HXD.out
     go_upto_region 12 with fail
     refine NQ.to (many12 more k HNE.out HNB.out.2 _ _ _ _ _ _ _ _ _ _ _ _ _ _ _ _ _ _ _ _ _ _ _ _ _ _ _ _ _ _ _ _ _ _ _ _ _ _ _ _ _ _ _ _ _ _ _ _ _ _ _ _ _ _ _ _ _ _ _ _ _ _ _ _ _ _ _ _ _ _ _ _ _ _ _ _ _ _ hxd _ ?_)
     intro y80 y81 y82 y83 y84 y85 y86 y87 y88 y89 y90 bo w12 p1 p2 p3 m1 m2 m3 l1 l2 l3 hb12 hge hx12 hc12
     have HX12 := Hd hx12
     have HAA := Hd hc12
     have HB12 := Hd hb12
     clear hxd hx12 hc12 hb12 hge
     have HB4 := Lib.hid (HB3.out.trans (HB12.out.mono HB3.out.size))
     have HDC4 := Lib.hid (HDC3.out.trans (HB12.out.mono HDC3.out.size))
     clear eC3_0 eC3_1 eC3_2
     obtain ⟨eC4_0, eC4_1, eC4_2⟩ := HCC.out w12 HDC4.out
     have HDD4 := Lib.hid (HDD3.out.trans (HB12.out.mono HDD3.out.size))
     clear eD3_0 eD3_1
     obtain ⟨eD4_0, eD4_1⟩ := HCD.out w12 HDD4.out
     have HDO4 := Lib.hid (HDO3.out.trans (HB12.out.mono HDO3.out.size))
     clear eO3_0 eO3_1 eO3_2
     obtain ⟨eO4_0, eO4_1, eO4_2⟩ := HCO.out w12 HDO4.out
     have HCA2 := Hd (fun wz (hz : Below w12.heap.size w12 wz) => cel3 ((hz.block _ (lt_of_heap HX12.out)).trans HX12.out))
     have HDA4 : Hid (Below w12.heap.size w12 w12) := Hd brf
     obtain ⟨eA4_0, eA4_1, eA4_2⟩ := HCA2.out w12 brf
     have HX := Lib.hid (l12adds_any (manyC k) ⟨[⟨1, 1⟩], [⟨1, (k : Int) + 1⟩], [⟨tAA, [⟨⟨1, (k : Int) + 1⟩, 3, 8⟩]⟩]⟩ ⟨1, (k : Int) + 1⟩ tAA 3 0 _ _ _ _ _ _ w12 (HAC.out.below HDC4.out) (HAA.out.below HDA4.out) HSZ.out.1 HSZ.out.2 (by decide) (HGL.out.below HB4.out))
     rw [HP2.out] at HX
     simp only [dotV] at HX
     go_wp2_with fail
     refine HX.out.mono ?_
     rintro e w5 ⟨rfl, hb⟩
     clear HX
     have HB5 := Lib.hid (HB4.out.trans (hb.mono HB4.out.size))
     have HDC5 := Lib.hid (HDC4.out.trans (hb.mono HDC4.out.size))
     clear eC4_0 eC4_1 eC4_2
     obtain ⟨eC5_0, eC5_1, eC5_2⟩ := HCC.out w5 HDC5.out
     have HDD5 := Lib.hid (HDD4.out.trans (hb.mono HDD4.out.size))
     clear eD4_0 eD4_1
     obtain ⟨eD5_0, eD5_1⟩ := HCD.out w5 HDD5.out
     have HDO5 := Lib.hid (HDO4.out.trans (hb.mono HDO4.out.size))
     clear eO4_0 eO4_1 eO4_2
     obtain ⟨eO5_0, eO5_1, eO5_2⟩ := HCO.out w5 HDO5.out
     have HDA5 := Lib.hid (HDA4.out.trans (hb.mono HDA4.out.size))
     clear eA4_0 eA4_1 eA4_2
     obtain ⟨eA5_0, eA5_1, eA5_2⟩ := HCA2.out w5 HDA5.out
     clear hb
     have HX := Lib.hid (l12sets_any (manyC k) ⟨[⟨1, 1⟩], [⟨1, (k : Int) + 1⟩], [⟨tAA, [⟨⟨1, (k : Int) + 1⟩, 3, 8⟩]⟩]⟩ ⟨1, (k : Int) + 1⟩ tAA 3 0 _ _ _ _ _ _ w5 (HAC.out.below HDC5.out) (HAA.out.below HDA5.out) HSZ.out.1 HSZ.out.2 (by decide) (HGL.out.below HB5.out))
     rw [HP3.out] at HX
     simp only [dotV] at HX
     go_wp2_with fail
     refine HX.out.mono ?_
     rintro e w6 ⟨rfl, hb⟩
     clear HX
     have HB6 := Lib.hid (HB5.out.trans (hb.mono HB5.out.size))
     have HDC6 := Lib.hid (HDC5.out.trans (hb.mono HDC5.out.size))
     clear eC5_0 eC5_1 eC5_2
     obtain ⟨eC6_0, eC6_1, eC6_2⟩ := HCC.out w6 HDC6.out
     have HDD6 := Lib.hid (HDD5.out.trans (hb.mono HDD5.out.size))
     clear eD5_0 eD5_1
     obtain ⟨eD6_0, eD6_1⟩ := HCD.out w6 HDD6.out
     have HDO6 := Lib.hid (HDO5.out.trans (hb.mono HDO5.out.size))
     clear eO5_0 eO5_1 eO5_2
     obtain ⟨eO6_0, eO6_1, eO6_2⟩ := HCO.out w6 HDO6.out
     have HDA6 := Lib.hid (HDA5.out.trans (hb.mono HDA5.out.size))
     clear eA5_0 eA5_1 eA5_2
     obtain ⟨eA6_0, eA6_1, eA6_2⟩ := HCA2.out w6 HDA6.out
     clear hb
     have HX := Lib.hid (l12sets_any (manyC k) zeroC ⟨1, (k : Int) + 1⟩ tTil 3 9 _ _ _ (.slice none 0 0) (.slice none 0 0) (.slice none 0 0) w6 (HAC.out.below HDC6.out) (cartA_zero _) HSZ.out.1 HSZ.out.2 (by decide) (HGL.out.below HB6.out))
     rw [HP1.out] at HX
     simp only [dotV] at HX
     go_wp2_with fail
     refine HX.out.mono ?_
     rintro e w7 ⟨rfl, hb⟩
     clear HX
     have HB7 := Lib.hid (HB6.out.trans (hb.mono HB6.out.size))
     have HDC7 := Lib.hid (HDC6.out.trans (hb.mono HDC6.out.size))
     clear eC6_0 eC6_1 eC6_2
     obtain ⟨eC7_0, eC7_1, eC7_2⟩ := HCC.out w7 HDC7.out
     have HDD7 := Lib.hid (HDD6.out.trans (hb.mono HDD6.out.size))
     clear eD6_0 eD6_1
     obtain ⟨eD7_0, eD7_1⟩ := HCD.out w7 HDD7.out
     have HDO7 := Lib.hid (HDO6.out.trans (hb.mono HDO6.out.size))
     clear eO6_0 eO6_1 eO6_2
     obtain ⟨eO7_0, eO7_1, eO7_2⟩ := HCO.out w7 HDO7.out
     have HDA7 := Lib.hid (HDA6.out.trans (hb.mono HDA6.out.size))
     clear eA6_0 eA6_1 eA6_2
     obtain ⟨eA7_0, eA7_1, eA7_2⟩ := HCA2.out w7 HDA7.out
     clear hb
     have HX := Lib.hid (l12known_any w7 (HGL.out.below HB7.out))
     go_wp2_with fail
     refine HX.out.mono ?_
     rintro e wk ⟨rfl, hbk⟩
     clear HX
     have HBK := Lib.hid (HB7.out.trans (hbk.mono HB7.out.size))
     clear hbk
     go_wp2_with fail
     go_ret
     exact ⟨rfl, HB.out.trans (HBK.out.mono HB.out.size)⟩
end Go.Proofs.YtfnfbcaoihhbpaaGreatDoor
