/- The order of items by name: plain; slices.SortFunc at items. -/
import Derived.Test.YtemfaojmelljpaaGreatDoorDot2
import Derived.Test.YtemfaojmelljpaaGreatDoorIt6
import Derived.Test.YtemfaojmelljpaaGreatDoorCanonP
import Derived.Test.YtemfaojmelljpaaGreatDoorIt2
set_option linter.unusedSimpArgs false
set_option linter.unusedVariables false
set_option maxRecDepth 100000
set_option maxHeartbeats 8000000
namespace Go.Proofs.YtemfaojmelljpaaGreatDoor
open Go.RowKit Go.Maps

end Go.Proofs.YtemfaojmelljpaaGreatDoor
namespace Go.Proofs.YtemfaojmelljpaaGreatDoor
open Go.RowKit Go.Maps

def ownerV : Option ByteArray → Value
 | none => .tuple #[.string ⟨#[]⟩, .int .i64 9]
 | some s => .tuple #[.string s, .int .i64 0]
theorem itemsOwner_any (l : List ItemD) (d : DotD) (v : Value) (w : World) (h : Arr ItemR 2 w v l) (hl : Lt l) : Calls Tryz.prog 82 #[v, dotV d] w fun e w' => e = .returned (ownerV (ownerI l d)) ∧ Below w.heap.size w w' := by
 have hn := h.len;have HLT := Hd hl;obtain ⟨o, c, rfl, hel⟩ := h.itemAt;have HEL := Hd hel;obtain ⟨W1, hW1⟩ : ∃ W1, W1 = w.alloc (.cells #[.int .i64 d.rep, .int .i64 d.ctr] 51) := ⟨_, rfl⟩;have hb1 : Below w.heap.size w W1 := by rw [hW1]; exact bal
 have hg1 : W1.heap[w.heap.size]? = some (.cells #[.int .i64 d.rep, .int .i64 d.ctr] 51) := by rw [hW1]; exact alloc_new _ _
 have hgl1 := lt_of_heap hg1;have HD0 : Hid (W1.cell? ⟨w.heap.size, 0, none⟩ = some (.int .i64 d.rep) ∧ W1.cell? ⟨w.heap.size, 1, none⟩ = some (.int .i64 d.ctr)) := Hd ⟨cl0 hg1 0 rfl, cl0 hg1 1 rfl⟩;have HB1 := Hd hb1;have HW := Hd hW1;clear hel h hg1 hb1 hW1 hl;unfold dotV
 go_enter Tryz.func82, Tryz.ntmps82
 go_wp2_with fail
 rw [← HW.out]
 go_loopw [10] (fun i wr => ∃ k : Nat, k ≤ l.length ∧ i = .int .i64 k ∧ (l.take k).any (ownsP d) = false ∧ Below W1.heap.size W1 wr) (fun i _ => l.length - (intOf i).toNat)
 case atStart => exact ⟨0, Nat.zero_le _, rfl, rfl, Below.refl _ _⟩
 case round =>
  obtain ⟨k, hk, rfl, hall, hB⟩ := hrel;have HALL := Hd hall;have HB := Hd hB;have HBW := Hd (btr HB1.out hB);clear hall hB
  by_cases hlt : k < l.length
  ·obtain ⟨b, off, mv, rfl, hbl, e0, e1, -, hmk⟩ := HEL.out k hlt
   obtain ⟨mo, mc, rfl, -⟩ := id hmk;have c0 : wr.cell? ⟨b, off + k * 2, none⟩ = some (.string l[k].name) := by rw [HBW.out.cell (p := ⟨_, _, _⟩) hbl]; exact e0
   have c1 : wr.cell? ⟨b, off + k * 2 + 1, none⟩ = some (.slice mo l[k].marks.length mc) := by rw [HBW.out.cell (p := ⟨_, _, _⟩) hbl]; exact e1
   obtain ⟨W2, hW2⟩ : ∃ W2, W2 = wr.alloc (.cells #[.string l[k].name, .slice mo l[k].marks.length mc] 49) := ⟨_, rfl⟩;have hb2 : Below wr.heap.size wr W2 := by rw [hW2]; exact bal
   have hg2 : W2.heap[wr.heap.size]? = some (.cells #[.string l[k].name, .slice mo l[k].marks.length mc] 49) := by rw [hW2]; exact alloc_new _ _
   have hgl2 := lt_of_heap hg2;have hwl : w.heap.size < wr.heap.size := Nat.lt_of_lt_of_le hgl1 HB.out.size;have hwl2 : w.heap.size < W2.heap.size := Nat.lt_of_lt_of_le hwl hb2.size;have hlm : l[k].marks.length ≤ 1000 := HLT.out.2 _ (List.getElem_mem hlt);have d0 : W2.cell? ⟨w.heap.size, 0, none⟩ = some (.int .i64 d.rep) := by rw [hb2.cell (p := ⟨w.heap.size, 0, none⟩) hwl, HB.out.cell (p := ⟨w.heap.size, 0, none⟩) hgl1]; exact HD0.out.1
   have d1 : W2.cell? ⟨w.heap.size, 1, none⟩ = some (.int .i64 d.ctr) := by rw [hb2.cell (p := ⟨w.heap.size, 1, none⟩) hwl, HB.out.cell (p := ⟨w.heap.size, 1, none⟩) hgl1]; exact HD0.out.2
   have HS : Hid (∀ w2, Below W2.heap.size W2 w2 → w2.cell? ⟨wr.heap.size, 0, none⟩ = some (.string l[k].name) ∧ w2.cell? ⟨wr.heap.size, 1, none⟩ = some (.slice mo l[k].marks.length mc) ∧ w2.cell? ⟨w.heap.size, 0, none⟩ = some (.int .i64 d.rep) ∧ w2.cell? ⟨w.heap.size, 1, none⟩ = some (.int .i64 d.ctr)) := Hd (fun w2 h2 => ⟨by rw [h2.cell (p := ⟨wr.heap.size, 0, none⟩) hgl2, cell0 hg2 0]; rfl, by rw [h2.cell (p := ⟨wr.heap.size, 1, none⟩) hgl2, cell0 hg2 1]; rfl, by rw [h2.cell (p := ⟨w.heap.size, 0, none⟩) hwl2]; exact d0, by rw [h2.cell (p := ⟨w.heap.size, 1, none⟩) hwl2]; exact d1⟩)
   have HDI : Hid (∀ e ∈ dotsM l[k].marks, DI e) := Hd (fun e he => by
    obtain ⟨m, hm, rfl⟩ := List.mem_map.1 he;exact (hmk.marksI m hm).1)
   have HQD : Hid (Calls Tryz.prog 94 #[.slice mo l[k].marks.length mc] W2.drew fun e w' => ∃ v', e = .returned v' ∧ w'.ownsRow W2.heap.size 51 2 v' l[k].marks.length (flatD (dotsM l[k].marks)) ∧ Below W2.heap.size W2 w') := Hd ((qtyDots_any l[k].marks _ W2.drew (((hmk.marks HBW.out).marks hb2).marks bdr) (by omega)).mono (fun _ _ ⟨v', a1, a2, a3⟩ => ⟨v', a1, a2, bdr.trans a3⟩))
   have HS1 := Hd (any_take_snoc (ownsP d) l k hlt);have HFA : Hid (ownsP d l[k] = true → ownerI l d = some l[k].name) := Hd (fun h => by unfold ownerI; rw [find_at _ l k hlt HALL.out h]; rfl)
   have HOP : Hid (ownsP d l[k] = decide (d ∈ dotsM l[k].marks)) := Hd rfl;have HW2 := Hd hW2;have HB2 := Hd (btr HBW.out hb2);generalize l[k].marks = ms at *
   generalize l[k].name = nm at *
   generalize ownsP d l[k] = r at *
   have a0 : (0 : Int) ≤ k := by omega
   have a1 : (k : Int) < l.length := by omega
   have hkw := wr1 k (by omega)
   clear e0 e1 hmk hW2 hb2 hg2 d0 d1
   cases r with
   | true =>
    have HF := Hd (HFA.out rfl);have HHIT : Hid (decide (d ∈ dotsM ms) = true) := Hd HOP.out.symm;clear HFA HOP HS1
    go_upto_region 4 with fail
    rw [← HW2.out];refine NQ.to ?_;refine wp_region_held_drew (S := (fun w' => w'.cell? ⟨wr.heap.size, 0, none⟩ = some (.string nm) ∧ w'.cell? ⟨wr.heap.size, 1, none⟩ = some (.slice mo ms.length mc) ∧ w'.cell? ⟨w.heap.size, 0, none⟩ = some (.int .i64 d.rep) ∧ w'.cell? ⟨w.heap.size, 1, none⟩ = some (.int .i64 d.ctr))) (by kernel_rfl) (HS.out _ bdr) (fun hS => ?_)
    refine tkR (n := 3) [0, 1, 3] rfl (by decide +kernel) hS ?_
    iterate 3 ((try simp only [Act.put, s1, s2, s3, s4, s5, s6]); refine ⟨_, ?_, rfl, Or.inl ⟨by kernel_rfl, fun w hSw => ok_of fun z hz => ?_⟩, ?_⟩; rotate_left; · (obtain ⟨f1, f2, f3, f4⟩ := hSw; go_simp; exact hz))
    refine RunOK.done ?_
    try simp only [Act.put, s1, s2, s3, s4, s5, s6]
    refine rd1 2 (by decide +kernel) rfl (fun K hK => ?_)
    go_simp
    go_at_call 94
    refine HQD.out.mono ?_;rintro e w2 ⟨v2, rfl, hrow2, hb2⟩;go_simp;have HHS := Hd (dotHas_any (dotsM ms) d v2 w2 (Arr.of_dots (by rw [dotsM_len]; exact hrow2) HDI.out))
    refine Shut.out hK _ _ (HS.out w2 hb2) (fun hS2 => ?_); clear hK K hS; have hS := hS2; clear hS2
    try simp only [Act.put, s1, s2, s3, s4, s5, s6]
    refine rd1 4 (by decide +kernel) rfl (fun K hK => ?_)
    go_simp
    go_at_call 133
    refine HHS.out.mono ?_;rw [HHIT.out];rintro e w3 ⟨rfl, hb3⟩;go_simp;refine Shut.out hK _ _ (HS.out w3 (btr hb2 hb3)) (fun hS2 => ?_); clear hK K hS; have hS := hS2; clear hS2
    try simp only [Act.put, s1, s2, s3, s4, s5, s6]
    refine wpAnyH_done (by kernel_rfl) ?_ _
    try simp only [Act.put, s1, s2, s3, s4, s5, s6]
    simp only [NQ]

    obtain ⟨f0, -⟩ := HS.out w3 (btr hb2 hb3);have HBF := Hd (HB2.out.trans ((btr hb2 hb3).mono HB2.out.size));clear HS hS HQD HHS hb2 hb3 hrow2
    go_wp2_with fail
    go_ret2
    exact ⟨by rw [HF.out]; rfl, HBF.out⟩
   | false =>
    have HF : Hid ((l.take (k + 1)).any (ownsP d) = false) := Hd (by rw [HS1.out, HALL.out]; rfl)
    have HHIT : Hid (decide (d ∈ dotsM ms) = false) := Hd HOP.out.symm;have HBK := Hd ((show Below W1.heap.size W1 W2 from by rw [HW2.out]; exact HB.out.alloc HB.out.size _))
    clear HFA HOP HS1
    go_upto_region 4 with fail
    rw [← HW2.out];refine NQ.to ?_;refine wp_region_held_drew (S := (fun w' => w'.cell? ⟨wr.heap.size, 0, none⟩ = some (.string nm) ∧ w'.cell? ⟨wr.heap.size, 1, none⟩ = some (.slice mo ms.length mc) ∧ w'.cell? ⟨w.heap.size, 0, none⟩ = some (.int .i64 d.rep) ∧ w'.cell? ⟨w.heap.size, 1, none⟩ = some (.int .i64 d.ctr))) (by kernel_rfl) (HS.out _ bdr) (fun hS => ?_)
    refine tkR (n := 3) [0, 1, 3] rfl (by decide +kernel) hS ?_
    iterate 3 ((try simp only [Act.put, s1, s2, s3, s4, s5, s6]); refine ⟨_, ?_, rfl, Or.inl ⟨by kernel_rfl, fun w hSw => ok_of fun z hz => ?_⟩, ?_⟩; rotate_left; · (obtain ⟨f1, f2, f3, f4⟩ := hSw; go_simp; exact hz))
    refine RunOK.done ?_
    try simp only [Act.put, s1, s2, s3, s4, s5, s6]
    refine rd1 2 (by decide +kernel) rfl (fun K hK => ?_)
    go_simp
    go_at_call 94
    refine HQD.out.mono ?_;rintro e w2 ⟨v2, rfl, hrow2, hb2⟩;go_simp;have HHS := Hd (dotHas_any (dotsM ms) d v2 w2 (Arr.of_dots (by rw [dotsM_len]; exact hrow2) HDI.out))
    refine Shut.out hK _ _ (HS.out w2 hb2) (fun hS2 => ?_); clear hK K hS; have hS := hS2; clear hS2
    try simp only [Act.put, s1, s2, s3, s4, s5, s6]
    refine rd1 4 (by decide +kernel) rfl (fun K hK => ?_)
    go_simp
    go_at_call 133
    refine HHS.out.mono ?_;rw [HHIT.out];rintro e w3 ⟨rfl, hb3⟩;go_simp;refine Shut.out hK _ _ (HS.out w3 (btr hb2 hb3)) (fun hS2 => ?_); clear hK K hS; have hS := hS2; clear hS2
    try simp only [Act.put, s1, s2, s3, s4, s5, s6]
    refine wpAnyH_done (by kernel_rfl) ?_ _
    try simp only [Act.put, s1, s2, s3, s4, s5, s6]
    simp only [NQ]

    have hbf := HBK.out.trans ((btr hb2 hb3).mono HBK.out.size);clear HS hS HQD HHS hb2 hb3 hrow2
    go_wp2_with fail
    go_roundw
    case rel => exact ⟨k + 1, by omega, by go_num, HF.out, hbf⟩
    case measure => simp [intOf]; omega
  ·have hke : k = l.length := by omega
   have HF : Hid (ownerI l d = none) := Hd (by have := HALL.out; rw [hke, List.take_length] at this; unfold ownerI; rw [find_none _ _ this]; rfl)
   clear HALL
   go_wp2_with fail
   go_ret2
   exact ⟨by rw [HF.out]; rfl, HBW.out⟩
end Go.Proofs.YtemfaojmelljpaaGreatDoor
namespace Go.Proofs.YtemfaojmelljpaaGreatDoor
open Go.RowKit Go.Maps

end Go.Proofs.YtemfaojmelljpaaGreatDoor
namespace Go.Proofs.YtemfaojmelljpaaGreatDoor
open Go.RowKit Go.Maps Go.Sort Go.Shelf

def scmp (a b : ByteArray) : Int := if ltK a b then -1 else if ltK b a then 1 else 0
theorem isNaNStr_any (x : ByteArray) (w : World) : Calls Tryz.prog 66 #[.string x] w fun e w' => e = .returned (.bool false) ∧ w' = w := by
 go_enter Tryz.func66, Tryz.ntmps66
 go_wp2
 go_ret
 exact ⟨rfl, rfl⟩
theorem cmpStr_any (x y : ByteArray) (w : World) : Calls Tryz.prog 33 #[.string x, .string y] w fun e w' => e = .returned (.int .i64 (scmp x y)) ∧ w' = w := by
 have HN := Hd (fun z wz => isNaNStr_any z wz)
 have hl1 := less_ltK x y;have hl2 := less_ltK y x
 by_cases h1 : ltK x y
 ·have hc : Hid (scmp x y = -1) := Hd (by unfold scmp; rw [if_pos h1])
  rw [decide_eq_true h1] at hl1;clear h1 hl2
  go_enter Tryz.func33, Tryz.ntmps33
  go_wp2_with fail
  refine (HN.out _ _).mono ?_;rintro e w1 ⟨rfl, rfl⟩
  go_wp2_with fail
  refine (HN.out _ _).mono ?_;rintro e w2 ⟨rfl, rfl⟩
  go_wp2_with fail
  go_ret
  exact ⟨by rw [hc.out]; rfl, rfl⟩
 ·rw [decide_eq_false h1] at hl1
  by_cases h2 : ltK y x
  ·have hc : Hid (scmp x y = 1) := Hd (by unfold scmp; rw [if_neg h1, if_pos h2])
   rw [decide_eq_true h2] at hl2;have heq : (x.toList == y.toList) = false := by rw [strDec]; exact decide_eq_false (fun e => by rw [e] at h2; exact ltK_irrefl _ h2)
   clear h1 h2
   go_enter Tryz.func33, Tryz.ntmps33
   go_wp2_with fail
   refine (HN.out _ _).mono ?_;rintro e w1 ⟨rfl, rfl⟩
   go_wp2_with fail
   refine (HN.out _ _).mono ?_;rintro e w2 ⟨rfl, rfl⟩
   go_wp2_with fail
   go_ret
   exact ⟨by rw [hc.out]; rfl, rfl⟩
  ·have hc : Hid (scmp x y = 0) := Hd (by unfold scmp; rw [if_neg h1, if_neg h2])
   rw [decide_eq_false h2] at hl2;have heq : (x.toList == y.toList) = true := by rw [strDec]; exact decide_eq_true (ltK_total h1 h2)
   clear h1 h2
   go_enter Tryz.func33, Tryz.ntmps33
   go_wp2_with fail
   refine (HN.out _ _).mono ?_;rintro e w1 ⟨rfl, rfl⟩
   go_wp2_with fail
   refine (HN.out _ _).mono ?_;rintro e w2 ⟨rfl, rfl⟩
   go_wp2_with fail
   go_ret
   exact ⟨by rw [hc.out]; rfl, rfl⟩
theorem heap_sorted_ot {w : World} {g : Nat} {α : Type} [Inhabited α] (enc : α → List Value) (k n off : Nat) (d : Array α) (os : Array Obj) (b : Nat) (hb : b < w.heap.size) (hg : b ≠ g) : (sortWorldK enc k w g off n d os).heap[b]? = w.heap[b]? := by
 have hh : (sortWorldK enc k w g off n d os).heap = (w.heap.modify g (onCells (putCells id off (flatK enc k d)))) ++ os := rfl;rw [hh, Array.getElem?_append_left (by simpa using hb), Array.getElem?_modify, if_neg (fun e => hg e.symm)]
end Go.Proofs.YtemfaojmelljpaaGreatDoor
