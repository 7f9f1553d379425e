/- slices.SortFunc at Vector: by place's number. -/
import Derived.Test.YtemfaojmelljpaaGreatDoorC5
import Derived.Test.YtemfaojmelljpaaGreatDoorGrow
import Derived.Test.YtemfaojmelljpaaGreatDoorDot2
import Derived.Test.YtemfaojmelljpaaGreatDoorRow
set_option linter.unusedSimpArgs false
set_option linter.unusedVariables false
set_option maxRecDepth 1000000
set_option maxHeartbeats 4000000
namespace Go.Proofs.YtemfaojmelljpaaGreatDoor
open Go.RowKit Go.Maps Go.Sort Go.Shelf

theorem concatVec_two (l1 l2 : List DotD) (v1 v2 : Value) (b : Nat) (w : World) (h1 : Arr DotR 2 w v1 l1) (h2 : Arr DotR 2 w v2 l2) (x0 : w.cell? ⟨b, 0, none⟩ = some v1) (x1 : w.cell? ⟨b, 1, none⟩ = some v2) (n1 : l1.length ≤ 100000) (n2 : l2.length ≤ 100000) : Calls Tryz.prog 120 #[.slice (some ⟨b, 0, none⟩) 2 2] w fun e w' => ∃ v', e = .returned v' ∧ EDot.Row w.heap.size w' v' (l1 ++ l2) ∧ Below w.heap.size w w' := by
 obtain ⟨o1, k1, rfl⟩ := h1.slice;obtain ⟨o2, k2, rfl⟩ := h2.slice;have HG := Hd (growVec_any (l1.length + l2.length) w (by omega))
 have hk1 : IntKind.i64.wrap ((0 : Int) + l1.length) = l1.length := by rw [IntKind.wrap_i64]; omega
 have hk2 : IntKind.i64.wrap ((l1.length : Int) + l2.length) = ((l1.length + l2.length : Nat) : Int) := by rw [IntKind.wrap_i64]; omega
 have hlt1 : decide ((l1.length : Int) < 0) = false := decide_eq_false (by omega)
 have hlt2 : decide ((((l1.length + l2.length : Nat)) : Int) < 0) = false := decide_eq_false (by omega)
 go_enter Tryz.func120, Tryz.ntmps120
 go_wp2_with fail
 go_loopw [3, 11] (fun s i wr => wr = w ∧ ((i = .int .i64 0 ∧ s = .int .i64 0) ∨ (i = .int .i64 1 ∧ s = .int .i64 l1.length) ∨ (i = .int .i64 2 ∧ s = .int .i64 ((l1.length + l2.length : Nat) : Int)))) (fun _ i _ => 2 - (intOf i).toNat)
 case atStart => exact ⟨rfl, Or.inl ⟨rfl, rfl⟩⟩
 case round =>
  obtain ⟨rfl, ⟨rfl, rfl⟩ | ⟨rfl, rfl⟩ | ⟨rfl, rfl⟩⟩ := hrel
  ·go_wp2_with fail
   go_roundw
   case rel => exact ⟨trivial, Or.inr (Or.inl ⟨rfl, rfl⟩)⟩
   case measure => simp [intOf]
  ·go_wp2_with fail
   go_roundw
   case rel => exact ⟨trivial, Or.inr (Or.inr ⟨rfl, rfl⟩)⟩
   case measure => simp [intOf]
  ·go_wp2_with fail
   refine HG.out.mono ?_;rintro e w2 ⟨v2, rfl, hrow2, hb2⟩;have hB0 : b < wr.heap.size := by
    obtain ⟨b', off, e, hlt⟩ := addr_plain x0
    cases e
    exact hlt
   obtain ⟨w0, hw0⟩ : ∃ w0, w0 = wr := ⟨_, rfl⟩;subst hw0;have HX0 := Hd x0;have HX1 := Hd x1;have HROW2 := Hd hrow2;have HB2 := Hd hb2;have HSA : Hid (∀ wz, Below w0.heap.size w0 wz → Enc.Src EDot wz (.slice o1 l1.length k1) l1 ∧ Enc.Src EDot wz (.slice o2 l2.length k2) l2) := Hd (fun wz hz => ⟨Arr.toSrc (E := EDot) (R := DotR) (h1.dots hz) (fun _ _ h => h.1), Arr.toSrc (E := EDot) (R := DotR) (h2.dots hz) (fun _ _ h => h.1)⟩)
   clear hb2 x0 x1 HG
   go_wp2_with fail
   go_loopw [6, 27] (fun v i wz => Below w0.heap.size w0 wz ∧ ((i = .int .i64 0 ∧ EDot.Row w0.heap.size wz v []) ∨ (i = .int .i64 1 ∧ EDot.Row w0.heap.size wz v l1) ∨ (i = .int .i64 2 ∧ EDot.Row w0.heap.size wz v (l1 ++ l2)))) (fun _ i _ => 2 - (intOf i).toNat)
   case atStart => exact ⟨HB2.out, Or.inl ⟨rfl, HROW2.out⟩⟩
   case round =>
    obtain ⟨hB, ⟨rfl, hrow⟩ | ⟨rfl, hrow⟩ | ⟨rfl, hrow⟩⟩ := hrel
    ·obtain ⟨a6, c6, rfl⟩ := hrow.slice
     have HR := Hd hrow;have HB := Hd hB;have HS := Hd (HSA.out wr hB).1;have c0 : wr.cell? ⟨b, 0, none⟩ = some (Value.slice o1 l1.length k1) := by rw [hB.cell (p := ⟨b, 0, none⟩) hB0]; exact HX0.out
     clear hrow hB
     go_wp2_with (at_builtin; refine wpList_append_row rfl _ _ 23 rfl EDot w0.heap.size (.agg #[.int .i64 0, .int .i64 0]) 16 Tryz.underlying23 infoDot (by decide) (by decide) _ _ rfl HR.out _ _ rfl HS.out (by first | omega | (simp; omega)) HB.out.size ?_; intro v8 w8 hown8 hgr8)
     have hbf := HB.out.grown hgr8 HB.out.size (fun j hj => (HR.out.lt _ hj).1)
     go_roundw
     case rel => exact ⟨hbf, Or.inr (Or.inl ⟨rfl, hown8⟩)⟩
     case measure => simp [intOf]
    ·obtain ⟨a6, c6, rfl⟩ := hrow.slice
     have HR := Hd hrow;have HB := Hd hB;have HS := Hd (HSA.out wr hB).2;have c0 : wr.cell? ⟨b, 1, none⟩ = some (Value.slice o2 l2.length k2) := by rw [hB.cell (p := ⟨b, 1, none⟩) hB0]; exact HX1.out
     clear hrow hB
     go_wp2_with (at_builtin; refine wpList_append_row rfl _ _ 23 rfl EDot w0.heap.size (.agg #[.int .i64 0, .int .i64 0]) 16 Tryz.underlying23 infoDot (by decide) (by decide) _ _ rfl HR.out _ _ rfl HS.out (by first | omega | (simp; omega)) HB.out.size ?_; intro v8 w8 hown8 hgr8)
     have hbf := HB.out.grown hgr8 HB.out.size (fun j hj => (HR.out.lt _ hj).1)
     go_roundw
     case rel => exact ⟨hbf, Or.inr (Or.inr ⟨rfl, hown8⟩)⟩
     case measure => simp [intOf]
    ·have HR := Hd hrow
     have HB := Hd hB;clear hrow hB
     go_wp2_with fail
     go_ret
     exact ⟨_, rfl, HR.out, HB.out⟩
end Go.Proofs.YtemfaojmelljpaaGreatDoor
namespace Go.Proofs.YtemfaojmelljpaaGreatDoor
open Go.RowKit Go.Maps Go.Sort Go.Shelf

theorem vecMade1_any (a b : DotD) (w : World) : Calls Tryz.prog 162 #[dotV a, dotV b] w fun e w' => e = .returned (.int .i64 (cmpI a.rep b.rep)) ∧ Grown w w' := by
 have HC := Hd (fun x y wz => cmpInt_any x y wz)
 unfold dotV;obtain ⟨W1, hW1⟩ : ∃ W1, W1 = ((w.alloc (.cells #[.int .i64 a.rep, .int .i64 a.ctr] 51)).alloc (.cells #[.int .i64 b.rep, .int .i64 b.ctr] 51)) := ⟨_, rfl⟩;have HGR : Hid (Grown w W1) := Hd ⟨0, #[Obj.cells #[.int .i64 a.rep, .int .i64 a.ctr] 51, Obj.cells #[.int .i64 b.rep, .int .i64 b.ctr] 51], by rw [hW1, Go.Sort.alloc_eq_grow, Go.Sort.alloc_eq_grow, Go.Sort.grow_grow]; rfl⟩
 go_enter Tryz.func162, Tryz.ntmps162
 go_wp2_with fail
 refine (HC.out _ _ _).mono ?_;rintro e w2 ⟨rfl, rfl⟩;rw [← hW1];clear hW1
 go_wp2_with fail
 go_ret
 exact ⟨rfl, HGR.out⟩
end Go.Proofs.YtemfaojmelljpaaGreatDoor
namespace Go.Proofs.YtemfaojmelljpaaGreatDoor
open Go.RowKit Go.Maps Go.Sort Go.Shelf

def rcmp (a b : DotD) : Int := cmpI a.rep b.rep
theorem rlt_iff (a b : DotD) : ltOf rcmp a b = decide (a.rep < b.rep) := by
 unfold ltOf rcmp cmpI
 by_cases h1 : a.rep < b.rep
 ·simp [h1]
 ·by_cases h2 : b.rep < a.rep <;> simp [h1, h2]
theorem swoR : SWO (ltOf rcmp) where
 irrefl x := by rw [rlt_iff]; simp
 trans x y z h k := by rw [rlt_iff] at *; simp at *; omega
 ntrans x y z h k := by rw [rlt_iff] at *; simp at *; omega
theorem cmpLaysR (g off n : Nat) (w : World) : CmpLays Tryz.prog 162 #[] encD 2 rcmp g off n w :=
 fun _ _ _ _ x y => vecMade1_any x y _
theorem vsort_eq (g cap : Nat) (d : Array DotD) (w : World) (hH : HoldsK encD 2 w g 0 d) (hblk : g < w.heap.size) (hsz : d.size < 4611686018427387904) :
  Calls Tryz.prog 161 #[.slice (some ⟨g, 0, none⟩) d.size cap, .func (.func 162) #[] #[]] w fun e w' =>
   e = .returned (.tuple #[]) ∧ ∃ n os, w' = sortWorldK encD 2 w g 0 n (pdq (ltOf rcmp) d 0 d.size (Lib.bitLen d.size) true true) os := by
 have eg : ∀ args w, (callFunc 162 args).run Tryz.prog w = .ok (.enter 162 args) w := enters_of Tryz.func162 (by kernel_rfl) rfl
 have hlim : Lib.bitLen d.size < 4611686018427387904 := Nat.lt_of_le_of_lt (Lib.bitLen_le d.size 62 (by omega) (by omega)) (by omega)
 have hp := AnyQ.pdqsortCmpFunc_all (P := Tryz.prog) (ρ := Tryz.sortDot_ren) { Tryz.sortDot with } 2 Tryz.isAgg51 Tryz.sizeOf51 encD rcmp 162 #[] swoR g 0 cap d w eg (cmpLaysR g 0 d.size w) ⟨fun _ => rfl, fun x => encD_one x, hH, hblk⟩ (d.size + 1) 0 d.size (Lib.bitLen d.size) d w (by omega) rfl (SWK.start hH) (Nat.zero_le _) (Nat.le_refl _) hsz hlim (Or.inl rfl)
 have hl : Calls Tryz.prog (Tryz.sortDot_ren.f 15) #[.int .u64 (d.size : Int)] w fun e w' => e = .returned (.int .i64 (Lib.bitLen d.size : Nat)) ∧ w' = w := by
  have h := Any.bits_Len (SlLaysF0.n15.bits (P := Tryz.prog) (ρ := Tryz.sortDot_ren) { Tryz.sortDot with }) (d.size : Int) w (by omega) (by omega)
  rwa [Int.toNat_natCast] at h
 have wr : IntKind.u64.wrap (d.size : Int) = d.size := by simp [IntKind.wrap, IntKind.bits, IntKind.signed]; omega
 have HP := Hd hp;have HL := Hd hl;clear hH hp hl eg;change Hid (Calls Tryz.prog 180 _ _ _) at HP;change Hid (Calls Tryz.prog 65 _ _ _) at HL
 go_enter Tryz.func161, Tryz.ntmps161
 go_wp2_with fail
 refine HL.out.mono ?_;rintro e w1 ⟨rfl, rfl⟩
 go_wp2_with fail
 refine HP.out.mono ?_;rintro e w2 ⟨rfl, n, os, rfl⟩
 go_wp2_with fail
 go_end0
 exact ⟨rfl, n, os, rfl⟩
theorem vsort_none (a : Option Addr) (c : Nat) (w : World) : Calls Tryz.prog 161 #[.slice a 0 c, .func (.func 162) #[] #[]] w fun e w' => e = .returned (.tuple #[]) ∧ w' = w := by
 have hp := AnyF.pdqsortCmpFunc_none (P := Tryz.prog) (ρ := Tryz.sortDot_ren) { Tryz.sortDot with } a c (Lib.bitLen 0 : Nat) (.func (.func 162) #[] #[]) w
 have hl : Calls Tryz.prog (Tryz.sortDot_ren.f 15) #[.int .u64 0] w fun e w' => e = .returned (.int .i64 (Lib.bitLen 0 : Nat)) ∧ w' = w :=
  Any.bits_Len (SlLaysF0.n15.bits (P := Tryz.prog) (ρ := Tryz.sortDot_ren) { Tryz.sortDot with }) 0 w (by omega) (by omega)
 have HP := Hd hp;have HL := Hd hl;clear hp hl;change Hid (Calls Tryz.prog 180 _ _ _) at HP;change Hid (Calls Tryz.prog 65 _ _ _) at HL
 go_enter Tryz.func161, Tryz.ntmps161
 go_wp2_with fail
 refine HL.out.mono ?_;rintro e w1 ⟨rfl, rfl⟩
 go_wp2_with fail
 refine HP.out.mono ?_;rintro e w2 ⟨rfl, rfl⟩
 go_wp2_with fail
 go_end0
 exact ⟨rfl, rfl⟩
theorem sorted_pairwise {l d' : List DotD} (h : SortedIn (ltOf rcmp) 0 l.length d'.toArray) (hl : d'.length = l.length) : d'.Pairwise (fun a b => ¬ b.rep < a.rep) := by
 rw [List.pairwise_iff_getElem];intro i j hi hj hij;have := h i j (Nat.zero_le _) hij (by omega)
 rw [rlt_iff] at this;rw [getElem!_pos d'.toArray j (by simpa using hj), getElem!_pos d'.toArray i (by simpa using hi)] at this
 simpa using this
theorem vsort_any (g cap : Nat) (l : List DotD) (w : World) (h : DotsIn w g cap l) (hl : l.length ≤ 10000000) :
  Calls Tryz.prog 161 #[.slice (some ⟨g, 0, none⟩) l.length cap, .func (.func 162) #[] #[]] w fun e w' => e = .returned (.tuple #[]) ∧ ∃ m, m.Perm l ∧ m.Pairwise (fun a b => ¬ b.rep < a.rep) ∧ DotsIn w' g cap m ∧ ∀ B w0, B ≤ g → Below B w0 w → Below B w0 w' := by
 obtain ⟨C, h1, _⟩ := id h;have hs := pdq_sorts (ltOf rcmp) swoR l.toArray 0 l.toArray.size (Lib.bitLen l.toArray.size) true true (Nat.zero_le _) (Nat.le_refl _) (Or.inl rfl);refine (vsort_eq g cap l.toArray w h.holds (lt_of_heap h1) (by simp; omega)).mono fun _ _ ⟨he, n, os, hw⟩ => ⟨he, ?_⟩
 generalize pdq (ltOf rcmp) l.toArray 0 l.toArray.size (Lib.bitLen l.toArray.size) true true = d' at *
 obtain ⟨⟨p1, -, p3⟩, p4⟩ := hs;have hlen : d'.toList.length = l.length := by simpa using p1
 refine ⟨d'.toList, ?_, ?_, ?_, ?_⟩
 ·have e1 : d'.extract 0 l.toArray.size = d' := by rw [← p1]; simp
  rw [e1] at p3
  simpa using p3
 ·exact sorted_pairwise (l := l) (by simpa using p4) hlen
 ·rw [hw]; exact h.sorted d'.toList hlen n os
 ·rw [hw]; exact (heap_sorted h1 encD 2 n 0 d' os).2
end Go.Proofs.YtemfaojmelljpaaGreatDoor

