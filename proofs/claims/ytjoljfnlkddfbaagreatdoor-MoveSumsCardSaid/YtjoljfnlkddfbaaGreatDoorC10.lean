/- vector.Merge, vector.Raise walked. -/
import Derived.Test.YtjoljfnlkddfbaaGreatDoorC5
import Derived.Test.YtjoljfnlkddfbaaGreatDoorGrow
import Derived.Test.YtjoljfnlkddfbaaGreatDoorDot2
import Derived.Test.YtjoljfnlkddfbaaGreatDoorRow
import Derived.Test.YtjoljfnlkddfbaaGreatDoorMapK
import Derived.Test.YtjoljfnlkddfbaaGreatDoorRaiseP
set_option linter.unusedSimpArgs false
set_option linter.unusedVariables false
set_option maxRecDepth 1000000
set_option maxHeartbeats 4000000
namespace Go.Proofs.YtjoljfnlkddfbaaGreatDoor
open Go.RowKit Go.Maps Go.Sort Go.Shelf

theorem concatVec_two (l1 l2 : List DotD) (v1 v2 : Value) (b : Nat) (w : World) (h1 : Arr DotR 2 w v1 l1) (h2 : Arr DotR 2 w v2 l2) (x0 : w.cell? ⟨b, 0, none⟩ = some v1) (x1 : w.cell? ⟨b, 1, none⟩ = some v2) (n1 : l1.length ≤ 100000) (n2 : l2.length ≤ 100000) : Calls Tryz.prog 143 #[.slice (some ⟨b, 0, none⟩) 2 2] w fun e w' => ∃ v', e = .returned v' ∧ EDot.Row w.heap.size w' v' (l1 ++ l2) ∧ Below w.heap.size w w' := by
 obtain ⟨o1, k1, rfl⟩ := h1.slice
 obtain ⟨o2, k2, rfl⟩ := h2.slice
 have HG := Hd (growVec_any (l1.length + l2.length) w (by omega))
 have hk1 : IntKind.i64.wrap ((0 : Int) + l1.length) = l1.length := by rw [IntKind.wrap_i64]; omega
 have hk2 : IntKind.i64.wrap ((l1.length : Int) + l2.length) = ((l1.length + l2.length : Nat) : Int) := by rw [IntKind.wrap_i64]; omega
 have hlt1 : decide ((l1.length : Int) < 0) = false := decide_eq_false (by omega)
 have hlt2 : decide ((((l1.length + l2.length : Nat)) : Int) < 0) = false := decide_eq_false (by omega)
 go_enter Tryz.func143, Tryz.ntmps143
 go_wp2_with fail
 go_loopw [3, 11] (fun s i wr => wr = w ∧ ((i = .int .i64 0 ∧ s = .int .i64 0) ∨ (i = .int .i64 1 ∧ s = .int .i64 l1.length) ∨ (i = .int .i64 2 ∧ s = .int .i64 ((l1.length + l2.length : Nat) : Int)))) (fun _ i _ => 2 - (intOf i).toNat)
 case atStart => exact ⟨rfl, Or.inl ⟨rfl, rfl⟩⟩
 case round =>
  obtain ⟨rfl, ⟨rfl, rfl⟩ | ⟨rfl, rfl⟩ | ⟨rfl, rfl⟩⟩ := hrel
  ·go_wp2_with fail
   go_roundw
   case rel => exact ⟨trivial, Or.inr (Or.inl ⟨rfl, rfl⟩)⟩
   case measure => simp [intOf]
  ·go_wp2_with fail
   go_roundw
   case rel => exact ⟨trivial, Or.inr (Or.inr ⟨rfl, rfl⟩)⟩
   case measure => simp [intOf]
  ·go_wp2_with fail
   refine HG.out.mono ?_
   rintro e w2 ⟨v2, rfl, hrow2, hb2⟩
   have hB0 : b < wr.heap.size := by
    obtain ⟨b', off, e, hlt⟩ := addr_plain x0
    cases e
    exact hlt
   obtain ⟨w0, hw0⟩ : ∃ w0, w0 = wr := ⟨_, rfl⟩
   subst hw0
   have HX0 := Hd x0
   have HX1 := Hd x1
   have HROW2 := Hd hrow2
   have HB2 := Hd hb2
   have HSA : Hid (∀ wz, Below w0.heap.size w0 wz → Enc.Src EDot wz (.slice o1 l1.length k1) l1 ∧ Enc.Src EDot wz (.slice o2 l2.length k2) l2) := Hd (fun wz hz => ⟨Arr.toSrc (E := EDot) (R := DotR) (h1.dots hz) (fun _ _ h => h.1), Arr.toSrc (E := EDot) (R := DotR) (h2.dots hz) (fun _ _ h => h.1)⟩)
   clear hb2 x0 x1 HG
   go_wp2_with fail
   go_loopw [6, 27] (fun v i wz => Below w0.heap.size w0 wz ∧ ((i = .int .i64 0 ∧ EDot.Row w0.heap.size wz v []) ∨ (i = .int .i64 1 ∧ EDot.Row w0.heap.size wz v l1) ∨ (i = .int .i64 2 ∧ EDot.Row w0.heap.size wz v (l1 ++ l2)))) (fun _ i _ => 2 - (intOf i).toNat)
   case atStart => exact ⟨HB2.out, Or.inl ⟨rfl, HROW2.out⟩⟩
   case round =>
    obtain ⟨hB, ⟨rfl, hrow⟩ | ⟨rfl, hrow⟩ | ⟨rfl, hrow⟩⟩ := hrel
    ·obtain ⟨a6, c6, rfl⟩ := hrow.slice
     have HR := Hd hrow
     have HB := Hd hB
     have HS := Hd (HSA.out wr hB).1
     have c0 : wr.cell? ⟨b, 0, none⟩ = some (Value.slice o1 l1.length k1) := by rw [hB.cell (p := ⟨b, 0, none⟩) hB0]; exact HX0.out
     clear hrow hB
     go_wp2_with (at_builtin; refine wpList_append_row rfl _ _ 23 rfl EDot w0.heap.size (.agg #[.int .i64 0, .int .i64 0]) 16 Tryz.underlying23 infoDot (by decide) (by decide) _ _ rfl HR.out _ _ rfl HS.out (by first | omega | (simp; omega)) HB.out.size ?_; intro v8 w8 hown8 hgr8)
     have hbf := HB.out.grown hgr8 HB.out.size (fun j hj => (HR.out.lt _ hj).1)
     go_roundw
     case rel => exact ⟨hbf, Or.inr (Or.inl ⟨rfl, hown8⟩)⟩
     case measure => simp [intOf]
    ·obtain ⟨a6, c6, rfl⟩ := hrow.slice
     have HR := Hd hrow
     have HB := Hd hB
     have HS := Hd (HSA.out wr hB).2
     have c0 : wr.cell? ⟨b, 1, none⟩ = some (Value.slice o2 l2.length k2) := by rw [hB.cell (p := ⟨b, 1, none⟩) hB0]; exact HX1.out
     clear hrow hB
     go_wp2_with (at_builtin; refine wpList_append_row rfl _ _ 23 rfl EDot w0.heap.size (.agg #[.int .i64 0, .int .i64 0]) 16 Tryz.underlying23 infoDot (by decide) (by decide) _ _ rfl HR.out _ _ rfl HS.out (by first | omega | (simp; omega)) HB.out.size ?_; intro v8 w8 hown8 hgr8)
     have hbf := HB.out.grown hgr8 HB.out.size (fun j hj => (HR.out.lt _ hj).1)
     go_roundw
     case rel => exact ⟨hbf, Or.inr (Or.inr ⟨rfl, hown8⟩)⟩
     case measure => simp [intOf]
    ·have HR := Hd hrow
     have HB := Hd hB
     clear hrow hB
     go_wp2_with fail
     go_ret
     exact ⟨_, rfl, HR.out, HB.out⟩
end Go.Proofs.YtjoljfnlkddfbaaGreatDoor
namespace Go.Proofs.YtjoljfnlkddfbaaGreatDoor
open Go.RowKit Go.Maps Go.Sort Go.Shelf

theorem vecMade1_any (a b : DotD) (w : World) : Calls Tryz.prog 182 #[dotV a, dotV b] w fun e w' => e = .returned (.int .i64 (cmpI a.rep b.rep)) ∧ Grown w w' := by
 have HC := Hd (fun x y wz => cmpInt_any x y wz)
 unfold dotV
 obtain ⟨W1, hW1⟩ : ∃ W1, W1 = ((w.alloc (.cells #[.int .i64 a.rep, .int .i64 a.ctr] 39)).alloc (.cells #[.int .i64 b.rep, .int .i64 b.ctr] 39)) := ⟨_, rfl⟩
 have HGR : Hid (Grown w W1) := Hd ⟨0, #[Obj.cells #[.int .i64 a.rep, .int .i64 a.ctr] 39, Obj.cells #[.int .i64 b.rep, .int .i64 b.ctr] 39], by rw [hW1, Go.Sort.alloc_eq_grow, Go.Sort.alloc_eq_grow, Go.Sort.grow_grow]; rfl⟩
 go_enter Tryz.func182, Tryz.ntmps182
 go_wp2_with fail
 refine (HC.out _ _ _).mono ?_
 rintro e w2 ⟨rfl, rfl⟩
 rw [← hW1]
 clear hW1
 go_wp2_with fail
 go_ret
 exact ⟨rfl, HGR.out⟩
end Go.Proofs.YtjoljfnlkddfbaaGreatDoor
namespace Go.Proofs.YtjoljfnlkddfbaaGreatDoor
open Go.RowKit Go.Maps Go.Sort Go.Shelf

def rcmp (a b : DotD) : Int := cmpI a.rep b.rep
theorem rlt_iff (a b : DotD) : ltOf rcmp a b = decide (a.rep < b.rep) := by
 unfold ltOf rcmp cmpI
 by_cases h1 : a.rep < b.rep
 ·simp [h1]
 ·by_cases h2 : b.rep < a.rep <;> simp [h1, h2]
theorem swoR : SWO (ltOf rcmp) where
 irrefl x := by rw [rlt_iff]; simp
 trans x y z h k := by rw [rlt_iff] at *; simp at *; omega
 ntrans x y z h k := by rw [rlt_iff] at *; simp at *; omega
theorem cmpLaysR (g off n : Nat) (w : World) : CmpLays Tryz.prog 182 #[] encD 2 rcmp g off n w :=
 fun _ _ _ _ x y => vecMade1_any x y _
theorem vsort_eq (g cap : Nat) (d : Array DotD) (w : World) (hH : HoldsK encD 2 w g 0 d) (hblk : g < w.heap.size) (hsz : d.size < 4611686018427387904) :
  Calls Tryz.prog 181 #[.slice (some ⟨g, 0, none⟩) d.size cap, .func (.func 182) #[] #[]] w fun e w' =>
   e = .returned (.tuple #[]) ∧ ∃ n os, w' = sortWorldK encD 2 w g 0 n (pdq (ltOf rcmp) d 0 d.size (Lib.bitLen d.size) true true) os := by
 have eg : ∀ args w, (callFunc 182 args).run Tryz.prog w = .ok (.enter 182 args) w := enters_of Tryz.func182 (by kernel_rfl) rfl
 have hlim : Lib.bitLen d.size < 4611686018427387904 := Nat.lt_of_le_of_lt (Lib.bitLen_le d.size 62 (by omega) (by omega)) (by omega)
 have hp := AnyQ.pdqsortCmpFunc_all (P := Tryz.prog) (ρ := Tryz.sortDot_ren) { Tryz.sortDot with } 2 Tryz.isAgg39 Tryz.sizeOf39 encD rcmp 182 #[] swoR g 0 cap d w eg (cmpLaysR g 0 d.size w) ⟨fun _ => rfl, fun x => encD_one x, hH, hblk⟩ (d.size + 1) 0 d.size (Lib.bitLen d.size) d w (by omega) rfl (SWK.start hH) (Nat.zero_le _) (Nat.le_refl _) hsz hlim (Or.inl rfl)
 have hl : Calls Tryz.prog (Tryz.sortDot_ren.f 15) #[.int .u64 (d.size : Int)] w fun e w' => e = .returned (.int .i64 (Lib.bitLen d.size : Nat)) ∧ w' = w := by
  have h := Any.bits_Len (SlLaysF0.n15.bits (P := Tryz.prog) (ρ := Tryz.sortDot_ren) { Tryz.sortDot with }) (d.size : Int) w (by omega) (by omega)
  rwa [Int.toNat_natCast] at h
 have wr : IntKind.u64.wrap (d.size : Int) = d.size := by simp [IntKind.wrap, IntKind.bits, IntKind.signed]; omega
 have HP := Hd hp
 have HL := Hd hl
 clear hH hp hl eg
 change Hid (Calls Tryz.prog 160 _ _ _) at HP
 change Hid (Calls Tryz.prog 91 _ _ _) at HL
 go_enter Tryz.func181, Tryz.ntmps181
 go_wp2_with fail
 refine HL.out.mono ?_
 rintro e w1 ⟨rfl, rfl⟩
 go_wp2_with fail
 refine HP.out.mono ?_
 rintro e w2 ⟨rfl, n, os, rfl⟩
 go_wp2_with fail
 go_end0
 exact ⟨rfl, n, os, rfl⟩
theorem vsort_none (a : Option Addr) (c : Nat) (w : World) : Calls Tryz.prog 181 #[.slice a 0 c, .func (.func 182) #[] #[]] w fun e w' => e = .returned (.tuple #[]) ∧ w' = w := by
 have hp := AnyF.pdqsortCmpFunc_none (P := Tryz.prog) (ρ := Tryz.sortDot_ren) { Tryz.sortDot with } a c (Lib.bitLen 0 : Nat) (.func (.func 182) #[] #[]) w
 have hl : Calls Tryz.prog (Tryz.sortDot_ren.f 15) #[.int .u64 0] w fun e w' => e = .returned (.int .i64 (Lib.bitLen 0 : Nat)) ∧ w' = w :=
  Any.bits_Len (SlLaysF0.n15.bits (P := Tryz.prog) (ρ := Tryz.sortDot_ren) { Tryz.sortDot with }) 0 w (by omega) (by omega)
 have HP := Hd hp
 have HL := Hd hl
 clear hp hl
 change Hid (Calls Tryz.prog 160 _ _ _) at HP
 change Hid (Calls Tryz.prog 91 _ _ _) at HL
 go_enter Tryz.func181, Tryz.ntmps181
 go_wp2_with fail
 refine HL.out.mono ?_
 rintro e w1 ⟨rfl, rfl⟩
 go_wp2_with fail
 refine HP.out.mono ?_
 rintro e w2 ⟨rfl, rfl⟩
 go_wp2_with fail
 go_end0
 exact ⟨rfl, rfl⟩
theorem sorted_pairwise {l d' : List DotD} (h : SortedIn (ltOf rcmp) 0 l.length d'.toArray) (hl : d'.length = l.length) : d'.Pairwise (fun a b => ¬ b.rep < a.rep) := by
 rw [List.pairwise_iff_getElem]
 intro i j hi hj hij
 have := h i j (Nat.zero_le _) hij (by omega)
 rw [rlt_iff] at this
 rw [getElem!_pos d'.toArray j (by simpa using hj), getElem!_pos d'.toArray i (by simpa using hi)] at this
 simpa using this
theorem vsort_any (g cap : Nat) (l : List DotD) (w : World) (h : DotsIn w g cap l) (hl : l.length ≤ 10000000) :
  Calls Tryz.prog 181 #[.slice (some ⟨g, 0, none⟩) l.length cap, .func (.func 182) #[] #[]] w fun e w' => e = .returned (.tuple #[]) ∧ ∃ m, m.Perm l ∧ m.Pairwise (fun a b => ¬ b.rep < a.rep) ∧ DotsIn w' g cap m ∧ ∀ B w0, B ≤ g → Below B w0 w → Below B w0 w' := by
 obtain ⟨C, h1, _⟩ := id h
 have hs := pdq_sorts (ltOf rcmp) swoR l.toArray 0 l.toArray.size (Lib.bitLen l.toArray.size) true true (Nat.zero_le _) (Nat.le_refl _) (Or.inl rfl)
 refine (vsort_eq g cap l.toArray w h.holds (lt_of_heap h1) (by simp; omega)).mono fun _ _ ⟨he, n, os, hw⟩ => ⟨he, ?_⟩
 generalize pdq (ltOf rcmp) l.toArray 0 l.toArray.size (Lib.bitLen l.toArray.size) true true = d' at *
 obtain ⟨⟨p1, -, p3⟩, p4⟩ := hs
 have hlen : d'.toList.length = l.length := by simpa using p1
 refine ⟨d'.toList, ?_, ?_, ?_, ?_⟩
 ·have e1 : d'.extract 0 l.toArray.size = d' := by rw [← p1]; simp
  rw [e1] at p3
  simpa using p3
 ·exact sorted_pairwise (l := l) (by simpa using p4) hlen
 ·rw [hw]; exact h.sorted d'.toList hlen n os
 ·rw [hw]; exact (heap_sorted h1 encD 2 n 0 d' os).2
end Go.Proofs.YtjoljfnlkddfbaaGreatDoor
set_option linter.unusedSimpArgs false
set_option linter.unusedVariables false
set_option maxRecDepth 100000
set_option maxHeartbeats 8000000
namespace Go.Proofs.YtjoljfnlkddfbaaGreatDoor
open Go.RowKit Go.Maps Go.Sort Go.Shelf

def IK : KEnc Int Tryz.prog := intK Tryz.prog 3 Tryz.underlying3
def dF (d : DotD) : Int × Value := (d.rep, .int .i64 d.ctr)
theorem lk_dF : ∀ (M : List DotD) (r : Int), (lkK (M.map dF) r).getD (.int .i64 0) = .int .i64 (getV M r)
 | [], _ => rfl
 | x :: M, r => by
  have ih := lk_dF M r
  simp only [List.map_cons, lkK, getV_cons]
  by_cases h : r = x.rep
  ·subst h; simp [dF]
  ·have h2 : ¬ x.rep = r := fun e => h e.symm
   rw [if_neg (show ¬ r = (dF x).1 from h), if_neg h2]; exact ih
theorem put_dF : ∀ (M : List DotD) (d : DotD), putK (M.map dF) d.rep (.int .i64 (max (getV M d.rep) d.ctr)) = (mputD M d).map dF
 | [], d => rfl
 | x :: M, d => by
  have ih := put_dF M d
  simp only [List.map_cons, putK, mputD, getV_cons]
  by_cases h : d.rep = x.rep
  ·have h2 : x.rep = d.rep := h.symm
   rw [if_pos (show d.rep = (dF x).1 from h), if_pos h, if_pos h2]
   rfl
  ·have h2 : ¬ x.rep = d.rep := fun e => h e.symm
   rw [if_neg (show ¬ d.rep = (dF x).1 from h), if_neg h, if_neg h2, ih]
   rfl
theorem mputD_len : ∀ (M : List DotD) (d : DotD), (mputD M d).length ≤ M.length + 1
 | [], _ => by simp [mputD]
 | x :: M, d => by
  have := mputD_len M d
  simp only [mputD]
  split <;> simp <;> omega
theorem foldl_mputD_len : ∀ (l M : List DotD), (l.foldl mputD M).length ≤ M.length + l.length
 | [], M => by simp
 | d :: l, M => by
  have := foldl_mputD_len l (mputD M d)
  have := mputD_len M d
  simp only [List.foldl_cons, List.length_cons]
  omega
theorem most_snoc (l : List DotD) (k : Nat) (h : k < l.length) : mostD (l.take (k + 1)) = mputD (mostD (l.take k)) l[k] := by
 unfold mostD
 rw [List.take_succ_eq_append_getElem h, List.foldl_append]; rfl
theorem vecMade_any (l : List DotD) (v : Value) (w : World) (h : Arr DotR 2 w v l) (hl : l.length ≤ 1000000) (hv : l.all validDotD = true) : Calls Tryz.prog 142 #[v] w fun e w' => ∃ v', e = .returned v' ∧ EDot.Row w.heap.size w' v' (madeV l) ∧ Below w.heap.size w w' := by
 have hn := h.len
 obtain ⟨o, c, rfl, hel⟩ := h.dotAt
 have HEL := Hd hel
 have HLEN := Hd (foldl_mputD_len l [])
 have HV := Hd hv
 have hmm := @run_makeMap Tryz.prog
 clear hel h hv
 have HM0 := Hd (mapK_new (E := IK) w)
 have HB0 : Hid (Below w.heap.size w (w.alloc (.map #[] 0))) := Hd (bal)
 go_enter Tryz.func142, Tryz.ntmps142
 go_wp2_with fail
 go_loopw [12] (fun i wr => ∃ k : Nat, k ≤ l.length ∧ i = .int .i64 k ∧ MapK IK wr w.heap.size ((mostD (l.take k)).map dF) ∧ Below w.heap.size w wr) (fun i _ => l.length - (intOf i).toNat)
 case atStart => exact ⟨0, Nat.zero_le _, rfl, HM0.out, HB0.out⟩
 case round =>
  obtain ⟨k, hk, rfl, hmap, hB⟩ := hrel
  have HMAP := Hd hmap
  have HB := Hd hB
  clear hmap hB
  by_cases hlt : k < l.length
  ·obtain ⟨b, off, rfl, hbl, e0, e1⟩ := HEL.out k hlt
   have hbr : b < wr.heap.size := Nat.lt_of_lt_of_le hbl HB.out.size
   have c0 : wr.cell? ⟨b, off + k * 2, none⟩ = some (.int .i64 l[k].rep) := by rw [HB.out.cell (p := ⟨_, _, _⟩) hbl]; exact e0
   have c1 : wr.cell? ⟨b, off + k * 2 + 1, none⟩ = some (.int .i64 l[k].ctr) := by rw [HB.out.cell (p := ⟨_, _, _⟩) hbl]; exact e1
   have HS := Hd (most_snoc l k hlt)
   generalize l[k] = x at *
   generalize mostD (l.take k) = M at *
   have a0 : (0 : Int) ≤ k := by omega
   have a1 : (k : Int) < l.length := by omega
   have hkw := wr1 k (by omega)
   clear e0 e1
   have HLK := Hd (lk_dF M x.rep)
   have HPT := Hd (put_dF M x)
   generalize getV M x.rep = gv at *
   obtain ⟨W2, hW2⟩ : ∃ W2, W2 = wr.alloc (.cells #[.int .i64 x.rep, .int .i64 x.ctr] 39) := ⟨_, rfl⟩
   have hb2 : Below wr.heap.size wr W2 := by rw [hW2]; exact bal
   have HM2 : Hid (MapK IK W2 w.heap.size (M.map dF)) := Hd (HMAP.out.of_block (hb2.block _ (by obtain ⟨es, clk, hh, _⟩ := HMAP.out; exact lt_of_heap hh)))
   have HB2 := Hd (btr HB.out hb2)
   have HW2 := Hd hW2
   have HZ : ∀ W, (zeroValue 3).run Tryz.prog W = .ok (.int .i64 0) W := fun W => by rfl
   have hz2 : W2.heap.size = wr.heap.size + 1 := by rw [hW2]; simp
   have hx2 : W2.heap[wr.heap.size]? = some (.cells #[.int .i64 x.rep, .int .i64 x.ctr] 39) := by rw [hW2]; exact alloc_new _ _
   have m0 : W2.cell? ⟨wr.heap.size, 0, none⟩ = some (.int .i64 x.rep) := cl0 hx2 0 rfl
   have m1 : W2.cell? ⟨wr.heap.size, 1, none⟩ = some (.int .i64 x.ctr) := cl0 hx2 1 rfl
   clear hb2 hW2 hx2
   go_wp2_with (first | (at_lookup; go_loud (rw [← HW2.out]); go_loud (refine wpList_lookK (E := IK) rfl _ _ rfl Tryz.underlying209 (HZ _) rfl HM2.out x.rep rfl ?_); go_loud (rw [HLK.out])) | (at_mapUpdate; refine wpList_updK (E := IK) rfl _ _ _ rfl Tryz.underlying209 rfl HM2.out x.rep rfl _ rfl ?_; intro w4 hm4 hg4))
   have hbf := HB2.out.grown hg4 HB2.out.size (fun j hj => by cases hj; exact Nat.le_refl _)
   go_roundw
   case rel => exact ⟨k + 1, by omega, by go_num, by rw [HS.out, ← HPT.out]; exact hm4, hbf⟩
   case measure => simp [intOf]; omega
  ·have hke : k = l.length := by omega
   subst hke
   have HMM : Hid (MapK IK wr w.heap.size ((mostD l).map dF)) := Hd (by have := HMAP.out; rw [List.take_length] at this; exact this)
   have HLL : Hid ((mostD l).length ≤ 1000000) := Hd (by have := HLEN.out; unfold mostD; simp at this; omega)
   have HMS := Hd (fun m => made_sorted (l := l) (m := m) HV.out)
   clear HMAP HEL HV
   obtain ⟨w0, hw0⟩ : ∃ w0, w0 = wr := ⟨_, rfl⟩
   rw [← hw0] at HMM HB ⊢
   clear hw0 hn
   generalize mostD l = M at *
   go_wp2_with (first | (at_range; refine wpList_rangeK (E := IK) (f := dF) rfl _ rfl Tryz.underlying209 rfl HMM.out ?_; intro o0 hra) | go_in)
   try go_frame
   have HRA := Hd hra
   have HBA : Hid (Below w.heap.size w (w0.alloc o0)) := Hd (HB.out.alloc HB.out.size _)
   have hws := HB.out.size
   clear hra
   go_loopw [6] (fun v wr => ∃ done, RangeK IK dF wr w0.heap.size w.heap.size M done ∧ EDot.Row (w0.heap.size + 1) wr v done ∧ Below w.heap.size w wr ∧ w0.heap.size + 1 ≤ wr.heap.size) (fun _ wr => M.length - World.cameK wr w0.heap.size)
   case atStart => exact ⟨[], HRA.out, Enc.Row.nil _ _, HBA.out, by simp⟩
   case round =>
    obtain ⟨done, hra, hrow, hbl2, hsz⟩ := hrel
    obtain ⟨hil, hrl2, hne⟩ := hra.lt
    obtain ⟨a6, c6, rfl⟩ := hrow.slice
    have hdle := hra.le
    have HROW := Hd hrow
    have HBL := Hd hbl2
    clear hrow hbl2
    go_wp2_with (first | (at_next; refine wpList_nextK (E := IK) rfl _ rfl rfl hra ?_ ?_) | go_in)
    ·intro hp
     clear hra
     have HP := Hd hp
     clear hp
     rcases hd : done with _ | ⟨d0, ds⟩
     ·have HNO := Hd (fun wz => vsort_none a6 c6 wz)
      subst hd
      go_wp2_with fail
      refine (HNO.out _).mono ?_
      rintro e w2 ⟨rfl, rfl⟩
      go_wp2_with fail
      go_ret
      have hR : madeV l = [] := by
       have := HMS.out [] HP.out List.Pairwise.nil
       exact this.symm
      rw [hR]
      exact ⟨_, rfl, HROW.out.mono (by omega), HBL.out⟩
     ·rw [← hd]
      have hdn : done ≠ [] := by rw [hd]; simp
      clear hd
      obtain ⟨g, cap, hgv, hin, hg⟩ := HROW.out.some hdn
      injection hgv with e1 e2 e3
      subst e1
      subst e3
      have HS := Hd (vsort_any g c6 done wr (DotsIn.of_own HROW.out).1 (by have := HLL.out; omega))
      go_wp2_with fail
      refine HS.out.mono ?_
      rintro e w2 ⟨rfl, m, hpm, hpw, hin2, hb2⟩
      have hlen : m.length = done.length := hpm.length_eq
      have HB2 := Hd (hb2 _ _ (by omega) HBL.out)
      have hrow2 : EDot.Row w.heap.size w2 (.slice (some ⟨g, 0, none⟩) m.length c6) m := hin2.own (by omega)
      rw [hlen] at hrow2
      have hR : m = madeV l := HMS.out m (hpm.trans HP.out) hpw
      rw [hR] at hrow2
      have HROW2 := Hd hrow2
      clear hin2 hb2 hrow2 hpm hpw hin hg
      go_wp2_with fail
      go_ret
      exact ⟨_, rfl, HROW2.out, HB2.out⟩
    ·intro x w1 hx hnx hra1 hg1 hs1 hen
     have hcam : World.cameK wr w0.heap.size = done.length := hra.came
     have hbl3 : Below w.heap.size w w1 := HBL.out.grown hg1 HBL.out.size (fun k hk => by cases hk; omega)
     have hr1 : EDot.Row (w0.heap.size + 1) w1 (.slice a6 done.length c6) done := HROW.out.stay (fun k hk => by
      have := HROW.out.lt k hk
      exact hg1.block k this.2 (fun e => by cases e; omega))
     have hdle1 := hra1.le
     rw [List.length_append, List.length_singleton] at hdle1
     have HRA1 := Hd hra1
     obtain ⟨W2, hW2⟩ : ∃ W2, W2 = w1.alloc (.cells #[.int .i64 x.rep, .int .i64 x.ctr] 39) := ⟨_, rfl⟩
     have hb2 : Below w1.heap.size w1 W2 := by rw [hW2]; exact bal
     have HROW2 := Hd (hr1.below hb2)
     have HSRC : Hid (Enc.Src EDot W2 (.slice (some ⟨wr.heap.size, 0, none⟩) 1 1) [x]) := Hd (by rw [← hs1, hW2]; exact Enc.Src.one_lit w1 39 x)
     have HBL3 := Hd (btr hbl3 hb2)
     have HB12 := Hd hb2
     have HW2 := Hd hW2
     have hsz2 : w0.heap.size + 1 ≤ W2.heap.size := by rw [hW2, alloc_size]; omega
     clear hra hra1 hg1 hb2 hW2 hbl3 hr1 hnx
     simp only [dF, IK, intK] at hen ⊢
     have hll := HLL.out
     go_wp2_with (first | go_in | (at_builtin; go_loud (rw [← HW2.out]); go_loud (refine wpList_append_row rfl _ _ 23 rfl EDot (w0.heap.size + 1) (.agg #[.int .i64 0, .int .i64 0]) 16 Tryz.underlying23 infoDot (by decide) (by decide) _ _ rfl HROW2.out _ _ rfl HSRC.out (by first | omega | (simp; omega)) hsz2 ?_); intro v8 w8 hown8 hgr8))
     have hbf := HBL3.out.grown hgr8 HBL3.out.size (fun j hj => by have := (HROW2.out.lt _ hj).1; omega)
     have hra8 : RangeK IK dF w8 w0.heap.size w.heap.size M (done ++ [x]) := by
      obtain ⟨z1, z2, z3⟩ := HRA1.out.lt
      refine HRA1.out.of ?_ ?_
      ·rw [hgr8.block _ (by have := HB12.out.size; omega) (fun e => by have := (HROW2.out.lt _ e.symm).1; omega), HB12.out.block _ z1]
      ·rw [hgr8.block _ (by have := HB12.out.size; omega) (fun e => by have := (HROW2.out.lt _ e.symm).1; omega), HB12.out.block _ z2]
     go_roundw
     case rel => exact ⟨done ++ [x], hra8, hown8, hbf, by have := hgr8.size; omega⟩
     case measure => rw [hra8.came, hcam, List.length_append, List.length_singleton]; omega
end Go.Proofs.YtjoljfnlkddfbaaGreatDoor
namespace Go.Proofs.YtjoljfnlkddfbaaGreatDoor
open Go.RowKit Go.Maps Go.Sort Go.Shelf

def mergeV (a b : List DotD) : List DotD := if validV a && validV b then unionV a b else []
def mergeVE (a b : List DotD) : Int := if validV a && validV b then 0 else 2
theorem vecMerge_any (a b : List DotD) (v1 v2 : Value) (w : World) (h1 : Arr DotR 2 w v1 a) (h2 : Arr DotR 2 w v2 b) (n1 : a.length ≤ 100000) (n2 : b.length ≤ 100000) : Calls Tryz.prog 93 #[v1, v2] w fun e w' => ∃ v', e = .returned (.tuple #[v', .int .i64 (mergeVE a b)]) ∧ EDot.Row w.heap.size w' v' (mergeV a b) ∧ Below w.heap.size w w' := by
 obtain ⟨o1, k1, rfl⟩ := h1.slice
 obtain ⟨o2, k2, rfl⟩ := h2.slice
 have HV1 := Hd (vecValid_any a _ w h1)
 have HV2 : Hid (∀ wz, Below w.heap.size w wz → Calls Tryz.prog 106 #[.slice o2 b.length k2] wz fun e w' => e = .returned (.bool (validV b)) ∧ Below wz.heap.size wz w') := Hd (fun wz hz => vecValid_any b _ wz (h2.dots hz))
 have HCC : Hid (∀ wz, Below w.heap.size w wz → Calls Tryz.prog 143 #[.slice (some ⟨wz.heap.size, 0, none⟩) 2 2] (wz.alloc (.cells #[.slice o1 a.length k1, .slice o2 b.length k2] 23)) fun e w' => ∃ v', e = .returned v' ∧ EDot.Row w.heap.size w' v' (a ++ b) ∧ Below w.heap.size w w') := Hd (fun wz hz => by
  have hal : Below wz.heap.size wz (wz.alloc (.cells #[.slice o1 a.length k1, .slice o2 b.length k2] 23)) := bal
  have hz2 := btr hz hal
  refine (concatVec_two a b _ _ wz.heap.size _ (h1.dots hz2) (h2.dots hz2) (by rw [cell0 (alloc_new wz _)]; rfl) (by rw [cell0 (alloc_new wz _)]; rfl) n1 n2).mono ?_
  rintro e w' ⟨v', a1, a2, a3⟩
  exact ⟨v', a1, a2.mono hz2.size, btr hz2 a3⟩)
 have HMD : Hid (∀ wz v, validV a = true → validV b = true → EDot.Row w.heap.size wz v (a ++ b) → Below w.heap.size w wz → Calls Tryz.prog 142 #[v] wz fun e w' => ∃ v', e = .returned v' ∧ EDot.Row w.heap.size w' v' (unionV a b) ∧ Below w.heap.size w w') := Hd (fun wz v ha hb hr hz => by
  have hI : ∀ d ∈ a ++ b, DI d := fun d hd => by
   rcases List.mem_append.1 hd with hd | hd
   ·exact h1.dotsI d hd
   ·exact h2.dotsI d hd
  have hval : (a ++ b).all validDotD = true := by
   rw [List.all_append, (validV_parts ha).1, (validV_parts hb).1]; rfl
  refine (vecMade_any (a ++ b) v wz (hr.dots hI) (by simp; omega) hval).mono ?_
  rintro e w' ⟨v', a1, a2, a3⟩
  exact ⟨v', a1, a2.mono hz.size, btr hz a3⟩)
 unfold mergeV mergeVE
 clear h1 h2
 generalize validV a = r1 at *
 generalize validV b = r2 at *
 generalize unionV a b = U at *
 go_enter Tryz.func93, Tryz.ntmps93
 go_wp2_with fail
 refine HV1.out.mono ?_
 rintro e w2 ⟨rfl, hb2⟩
 have HB2 := Hd hb2
 clear hb2
 cases r1 with
 | false =>
  go_wp2_with fail
  go_ret2
  exact ⟨_, rfl, Enc.Row.nil _ _, HB2.out⟩
 | true =>
  go_wp2_with fail
  refine (HV2.out _ HB2.out).mono ?_
  rintro e w3 ⟨rfl, hb3⟩
  have HB3 := Hd (btr HB2.out hb3)
  clear hb3
  cases r2 with
  | false =>
   go_wp2_with fail
   go_ret2
   exact ⟨_, rfl, Enc.Row.nil _ _, HB3.out⟩
  | true =>
   go_wp2_with fail
   refine (HCC.out _ HB3.out).mono ?_
   rintro e w4 ⟨v4, rfl, hrow4, hb4⟩
   have HM := Hd (HMD.out w4 v4 trivial trivial hrow4 hb4)
   clear hrow4 hb4
   go_wp2_with fail
   refine HM.out.mono ?_
   rintro e w5 ⟨v5, rfl, hrow5, hb5⟩
   have HR := Hd hrow5
   have HB5 := Hd hb5
   clear hrow5 hb5
   go_wp2_with fail
   go_ret2
   exact ⟨_, rfl, HR.out, HB5.out⟩
theorem unionV_one {v : List DotD} {d : DotD} (hv : validV v = true) (hd : validDotD d = true) : mergeV v [d] = raise1 v d ∧ mergeVE v [d] = 0 := by
 have h1 : validV [d] = true := validV_of (by simp [hd]) (List.pairwise_singleton _ _)
 unfold mergeV mergeVE
 rw [hv, h1]
 refine ⟨?_, rfl⟩
 show unionV v [d] = _
 unfold unionV madeV
 rw [List.foldl_append]
 show raise1 (v.foldl raise1 []) d = _
 have := madeV_self hv
 unfold madeV at this
 rw [this]
theorem vecRaise_any (v : List DotD) (d : DotD) (v1 : Value) (w : World) (h1 : Arr DotR 2 w v1 v) (n1 : v.length ≤ 100000) (hv : validV v = true) (hd : validDotD d = true) : Calls Tryz.prog 145 #[v1, dotV d] w fun e w' => ∃ v', e = .returned (.tuple #[v', .int .i64 0]) ∧ EDot.Row w.heap.size w' v' (raise1 v d) ∧ Below w.heap.size w w' := by
 obtain ⟨o1, k1, rfl⟩ := h1.slice
 obtain ⟨W1, hW1⟩ : ∃ W1, W1 = w.alloc (.cells #[.int .i64 d.rep, .int .i64 d.ctr] 39) := ⟨_, rfl⟩
 have hb1 : Below w.heap.size w W1 := by rw [hW1]; exact bal
 have hx1 : W1.heap[w.heap.size]? = some (.cells #[.int .i64 d.rep, .int .i64 d.ctr] 39) := by rw [hW1]; exact alloc_new _ _
 have hs1 : W1.heap.size = w.heap.size + 1 := by rw [hW1]; simp
 have c0 : W1.cell? ⟨w.heap.size, 0, none⟩ = some (.int .i64 d.rep) := cl0 hx1 0 rfl
 have c1 : W1.cell? ⟨w.heap.size, 1, none⟩ = some (.int .i64 d.ctr) := cl0 hx1 1 rfl
 have HW := Hd hW1
 have HM : Hid (Calls Tryz.prog 93 #[.slice o1 v.length k1, .slice (some ⟨w.heap.size + 1, 0, none⟩) 1 1] (W1.alloc (.cells #[.int .i64 d.rep, .int .i64 d.ctr] 39)) fun e w' => ∃ v', e = .returned (.tuple #[v', .int .i64 0]) ∧ EDot.Row w.heap.size w' v' (raise1 v d) ∧ Below w.heap.size w w') := Hd (by
  have hal : Below W1.heap.size W1 (W1.alloc (.cells #[.int .i64 d.rep, .int .i64 d.ctr] 39)) := bal
  have hz2 := btr hb1 hal
  have hl := lit_dots (W := W1) [d] (by unfold maxLen; simp) (fun x hx => by rw [List.mem_singleton.1 hx]; exact DI_valid hd)
  have e : (EDot.flat [d]).toArray = #[.int .i64 d.rep, .int .i64 d.ctr] := rfl
  rw [e, hs1] at hl
  refine (vecMerge_any v [d] _ _ _ (h1.dots hz2) hl n1 (by simp)).mono ?_
  rintro e w' ⟨v', a1, a2, a3⟩
  rw [(unionV_one hv hd).2] at a1
  rw [(unionV_one hv hd).1] at a2
  exact ⟨v', a1, a2.mono hz2.size, btr hz2 a3⟩)
 unfold dotV
 clear h1 hb1 hx1 hW1 hs1
 go_enter Tryz.func145, Tryz.ntmps145
 go_wp2_with fail
 rw [← HW.out]
 go_wp2_with fail
 refine HM.out.mono ?_
 rintro e w5 ⟨v5, rfl, hrow5, hb5⟩
 have HR := Hd hrow5
 have HB5 := Hd hb5
 clear hrow5 hb5
 go_wp2_with fail
 go_ret2
 exact ⟨_, rfl, HR.out, HB5.out⟩
end Go.Proofs.YtjoljfnlkddfbaaGreatDoor

