/- The examples of chapter 9 are met: the regions 5 and 6. -/
import Derived.Test.YtjlhdgmcaiiagaaGreatDoorL9m
namespace Go.Proofs.YtjlhdgmcaiiagaaGreatDoor
open Go.RowKit Go.Maps

/-- What stays in memory while the examples are looked at. -/
def KS (p1 p2 p4 p5 p6 p7 : Nat) (o1 : Option Addr) (c1 : Nat) (o2 : Option Addr) (c2 : Nat) (oz : Option Addr) (cz : Nat) (ot : Option Addr) (ct : Nat) (v3 : Value) (wb W : World) : Prop :=
  KW p1 p2 p4 p5 o1 c1 o2 c2 v3 W ∧ ItP W p6 kZ oz cz ∧ ItP W p7 kT ot ct ∧ Below wb.heap.size wb W
section
variable {p1 p2 p4 p5 p6 p7 : Nat} {o1 : Option Addr} {c1 : Nat} {o2 : Option Addr} {c2 : Nat} {oz : Option Addr} {cz : Nat} {ot : Option Addr} {ct : Nat} {v3 : Value} {wb W W' : World}
theorem KS.step (h : KS p1 p2 p4 p5 p6 p7 o1 c1 o2 c2 oz cz ot ct v3 wb W) (hb : Below W.heap.size W W') : KS p1 p2 p4 p5 p6 p7 o1 c1 o2 c2 oz cz ot ct v3 wb W' :=
  ⟨h.1.below hb, h.2.1.below hb, h.2.2.1.below hb, h.2.2.2.trans (hb.mono h.2.2.2.size)⟩
theorem KS.alloc (h : KS p1 p2 p4 p5 p6 p7 o1 c1 o2 c2 oz cz ot ct v3 wb W) (o : Obj) : KS p1 p2 p4 p5 p6 p7 o1 c1 o2 c2 oz cz ot ct v3 wb (W.alloc o) := h.step ((Below.refl _ _).alloc (Nat.le_refl _) _)
theorem KS.facts (h : KS p1 p2 p4 p5 p6 p7 o1 c1 o2 c2 oz cz ot ct v3 wb W) :
    W.cell? ⟨p1, 0, none⟩ = some (.string kX.name) ∧ W.cell? ⟨p1, 1, none⟩ = some (.slice o1 1 c1) ∧ W.cell? ⟨p2, 0, none⟩ = some (.string kY.name) ∧ W.cell? ⟨p2, 1, none⟩ = some (.slice o2 2 c2) ∧ W.cell? ⟨p6, 0, none⟩ = some (.string kZ.name) ∧ W.cell? ⟨p6, 1, none⟩ = some (.slice oz 1 cz) ∧ W.cell? ⟨p7, 0, none⟩ = some (.string kT.name) ∧ W.cell? ⟨p7, 1, none⟩ = some (.slice ot 1 ct) :=
  ⟨h.1.1.cells.1, h.1.1.cells.2, h.1.2.1.cells.1, h.1.2.1.cells.2, h.2.1.cells.1, h.2.1.cells.2, h.2.2.1.cells.1, h.2.2.1.cells.2⟩
end
theorem kMI : MI ⟨⟨1, 1⟩, 1, 1⟩ := ⟨⟨by decide, by decide⟩, ⟨by decide, by decide⟩, ⟨by decide, by decide⟩, ⟨by decide, by decide⟩⟩
theorem share {stmt G : Prop} (main : stmt → G) (prf : stmt) : G := main prf
set_option linter.unusedSimpArgs false in
set_option maxRecDepth 100000 in
set_option maxHeartbeats 16000000 in
theorem known6 {p1 p2 p4 p5 p6 p7 : Nat} {o1 : Option Addr} {c1 : Nat} {o2 : Option Addr} {c2 : Nat} {oz : Option Addr} {cz : Nat} {ot : Option Addr} {ct : Nat} {v3 : Value} {wb w : World} (hk0 : KS p1 p2 p4 p5 p6 p7 o1 c1 o2 c2 oz cz ot ct v3 wb w) (u8 u9 u10 u11 u12 u13 u14 u15 u16 u17 u18 u19 u20 u21 u22 u23 u24 u25 u26 u27 u28 u29 u30 u31 u32 u33 u34 u35 u36 u37 u38 u39 u40 u41 u42 u43 u44 u45 u46 u47 u48 u49 u50 u51 u52 u53 u54 u55 u56 u57 u58 u59 u60 u61 u62 u63 u64 u65 u66 u67 u68 u69 u70 u71 u72 u73 u74 u75 u76 u77 u78 u79 u80 u81 u82 u83 u84 u85 u86 u87 u88 u89 u90 u91 u92 u93 u94 u95 u96 u97 u98 u99 u100 u101 u102 u103 u104 u105 u106 u107 u108 u109 u110 u111 u112 u113 u114 u115 u116 u117 u118 u119 u120 u121 u122 u123 u124 u125 u126 u127 u128 u129 u130 u131 u132 u133 u134 u135 u136 u137 u138 u139 u140 u141 u142 : Value) :
    (codeAt [1, 1, 1, 1, 1] (Tryz.f10.body.getD .skip)).wp Tryz.prog (bodyPost Tryz.prog Tryz.f10 (fun e w' => e = .returned (.bool true) ∧ Below wb.heap.size wb w')) { tmps := #[.bool false, .pointer (some ⟨p1, 0, none⟩), .pointer (some ⟨p2, 0, none⟩), v3, .pointer (some ⟨p4, 0, none⟩), .pointer (some ⟨p5, 0, none⟩), .pointer (some ⟨p6, 0, none⟩), .pointer (some ⟨p7, 0, none⟩), u8, u9, u10, u11, u12, u13, u14, u15, u16, u17, u18, u19, u20, u21, u22, u23, u24, u25, u26, u27, u28, u29, u30, u31, u32, u33, u34, u35, u36, u37, u38, u39, u40, u41, u42, u43, u44, u45, u46, u47, u48, u49, u50, u51, u52, u53, u54, u55, u56, u57, u58, u59, u60, u61, u62, u63, u64, u65, u66, u67, u68, u69, u70, u71, u72, u73, u74, u75, u76, u77, u78, u79, u80, u81, u82, u83, u84, u85, u86, u87, u88, u89, u90, u91, u92, u93, u94, u95, u96, u97, u98, u99, u100, u101, u102, u103, u104, u105, u106, u107, u108, u109, u110, u111, u112, u113, u114, u115, u116, u117, u118, u119, u120, u121, u122, u123, u124, u125, u126, u127, u128, u129, u130, u131, u132, u133, u134, u135, u136, u137, u138, u139, u140, u141, u142], defers := [] } w := by
  simp only [codeAt, codeR, Tryz.f10, Option.getD_some]
  have hs0 := hk0.step (below_drew1 (Below.refl _ w))
  clear hk0
  go_upto_region 6 with fail
  refine NQ.to ?_
  change Code.wp _ (Code.region _ (List.toArray (_ :: _ :: _ :: _ :: _ :: _ :: _ :: _ :: _ :: _ :: _ :: _ :: _ :: _ :: _ :: _ :: _ :: _ :: _ :: _ :: _ :: _ :: _ :: _ :: _ :: _ :: _ :: _ :: _ :: _ :: _ :: _ :: _ :: _ :: _ :: _ :: _ :: _ :: [])) _) _ _ _
  refine wp_region_held_drew (S := (KS p1 p2 p4 p5 p6 p7 o1 c1 o2 c2 oz cz ot ct v3 wb)) (by kernel_rfl) (hs0) (fun hS => ?_)
  try simp only [Act.put, List.setIfInBounds_toArray, List.set_cons_succ, List.set_cons_zero, List.getElem_toArray, List.getElem_cons_succ, List.getElem_cons_zero]
  refine wpAnyH_take (i := 0) (v := .agg #[.string kX.name, .slice o1 1 c1]) rfl (by decide +kernel) (by decide +kernel) (by decide +kernel) (fun _ _ _ h => h) (Or.inl ⟨by kernel_rfl, fun w hSw => by obtain ⟨f1, f2, f3, f4, f5, f6, f7, f8⟩ := KS.facts hSw; go_simp⟩) hS ?_
  try simp only [Act.put, List.setIfInBounds_toArray, List.set_cons_succ, List.set_cons_zero, List.getElem_toArray, List.getElem_cons_succ, List.getElem_cons_zero]
  refine wpAnyH_take (i := 3) (v := .agg #[.string kY.name, .slice o2 2 c2]) rfl (by decide +kernel) (by decide +kernel) (by decide +kernel) (fun _ _ _ h => h) (Or.inl ⟨by kernel_rfl, fun w hSw => by obtain ⟨f1, f2, f3, f4, f5, f6, f7, f8⟩ := KS.facts hSw; go_simp⟩) hS ?_
  try simp only [Act.put, List.setIfInBounds_toArray, List.set_cons_succ, List.set_cons_zero, List.getElem_toArray, List.getElem_cons_succ, List.getElem_cons_zero]
  refine wpAnyH_take (i := 4) (v := v3) rfl (by decide +kernel) (by decide +kernel) (by decide +kernel) (fun _ _ _ h => h) (Or.inl ⟨by kernel_rfl, fun w hSw => by go_simp⟩) hS ?_
  try simp only [Act.put, List.setIfInBounds_toArray, List.set_cons_succ, List.set_cons_zero, List.getElem_toArray, List.getElem_cons_succ, List.getElem_cons_zero]
  refine wpAnyH_ready (rs := [1]) (by decide +kernel) (by simp) ?_
  refine (AllReadyH.cons rfl (fun K hK => ?_) AllReadyH.nil)
  go_simp
  have la0 := lit_items (W := w.drew) [⟨kX, o1, c1⟩] (by show (1 : Nat) ≤ maxLen; decide) (fun p hp => by simp only [List.mem_cons, List.not_mem_nil, or_false] at hp; subst hp; exact ⟨(show kX.name.size ≤ maxLen by decide), hs0.1.1.2⟩)
  refine Shut.out hK _ _ (hs0.alloc _) (fun hS2 => ?_)
  clear hK K hS
  have hS := hS2
  clear hS2
  try simp only [Act.put, List.setIfInBounds_toArray, List.set_cons_succ, List.set_cons_zero, List.getElem_toArray, List.getElem_cons_succ, List.getElem_cons_zero]
  refine wpAnyH_ready (rs := [2]) (by decide +kernel) (by simp) ?_
  refine (AllReadyH.cons rfl (fun K hK => ?_) AllReadyH.nil)
  go_simp
  go_at_call 21
  refine (l9of_any _ _).mono ?_
  rintro e wq ⟨rfl, hwq⟩
  subst hwq
  go_simp
  refine Shut.out hK _ _ ((hs0.alloc (.cells (EItem.flat [⟨kX, o1, c1⟩]).toArray 31))) (fun hS2 => ?_)
  clear hK K hS
  have hS := hS2
  clear hS2
  try simp only [Act.put, List.setIfInBounds_toArray, List.set_cons_succ, List.set_cons_zero, List.getElem_toArray, List.getElem_cons_succ, List.getElem_cons_zero]
  refine wpAnyH_ready (rs := [5]) (by decide +kernel) (by simp) ?_
  refine (AllReadyH.cons rfl (fun K hK => ?_) AllReadyH.nil)
  go_simp
  go_at_call 23
  refine (kv_puts (l := [kX]) (x := kY) (want := [kY, kX]) 0 la0 (hs0.alloc (.cells (EItem.flat [⟨kX, o1, c1⟩]).toArray 31)).1.2.1.2 (hs0.alloc (.cells (EItem.flat [⟨kX, o1, c1⟩]).toArray 31)).1.2.2.2.2.1 (hs0.alloc (.cells (EItem.flat [⟨kX, o1, c1⟩]).toArray 31)).1.2.2.2.2.2 (by decide) ⟨by decide, by decide⟩ ⟨by decide, by decide⟩ kp1).mono ?_
  rintro e w1 ⟨rfl, hb1⟩
  have hs1 := KS.step (hs0.alloc (.cells (EItem.flat [⟨kX, o1, c1⟩]).toArray 31)) hb1
  have la0' := la0.items (hb1)
  go_simp
  refine Shut.out hK _ _ (hs1) (fun hS2 => ?_)
  clear hK K hS
  have hS := hS2
  clear hS2
  try simp only [Act.put, List.setIfInBounds_toArray, List.set_cons_succ, List.set_cons_zero, List.getElem_toArray, List.getElem_cons_succ, List.getElem_cons_zero]
  refine wpAnyH_take (i := 6) (v := .bool false) rfl (by decide +kernel) (by decide +kernel) (by decide +kernel) (fun _ _ _ h => h) (Or.inl ⟨by kernel_rfl, fun w hSw => by go_simp⟩) hS ?_
  try simp only [Act.put, List.setIfInBounds_toArray, List.set_cons_succ, List.set_cons_zero, List.getElem_toArray, List.getElem_cons_succ, List.getElem_cons_zero]
  refine wpAnyH_take (i := 7) (v := .bool false) rfl (by decide +kernel) (by decide +kernel) (by decide +kernel) (fun _ _ _ h => h) (Or.inl ⟨by kernel_rfl, fun w hSw => by go_simp⟩) hS ?_
  try simp only [Act.put, List.setIfInBounds_toArray, List.set_cons_succ, List.set_cons_zero, List.getElem_toArray, List.getElem_cons_succ, List.getElem_cons_zero]
  refine wpAnyH_take (i := 8) (v := v3) rfl (by decide +kernel) (by decide +kernel) (by decide +kernel) (fun _ _ _ h => h) (Or.inl ⟨by kernel_rfl, fun w hSw => by go_simp⟩) hS ?_
  try simp only [Act.put, List.setIfInBounds_toArray, List.set_cons_succ, List.set_cons_zero, List.getElem_toArray, List.getElem_cons_succ, List.getElem_cons_zero]
  refine wpAnyH_take (i := 9) (v := .agg #[.string kZ.name, .slice oz 1 cz]) rfl (by decide +kernel) (by decide +kernel) (by decide +kernel) (fun _ _ _ h => h) (Or.inl ⟨by kernel_rfl, fun w hSw => by obtain ⟨f1, f2, f3, f4, f5, f6, f7, f8⟩ := KS.facts hSw; go_simp⟩) hS ?_
  try simp only [Act.put, List.setIfInBounds_toArray, List.set_cons_succ, List.set_cons_zero, List.getElem_toArray, List.getElem_cons_succ, List.getElem_cons_zero]
  refine wpAnyH_take (i := 10) (v := .agg #[.string kY.name, .slice o2 2 c2]) rfl (by decide +kernel) (by decide +kernel) (by decide +kernel) (fun _ _ _ h => h) (Or.inl ⟨by kernel_rfl, fun w hSw => by obtain ⟨f1, f2, f3, f4, f5, f6, f7, f8⟩ := KS.facts hSw; go_simp⟩) hS ?_
  try simp only [Act.put, List.setIfInBounds_toArray, List.set_cons_succ, List.set_cons_zero, List.getElem_toArray, List.getElem_cons_succ, List.getElem_cons_zero]
  refine wpAnyH_take (i := 11) (v := .agg #[.string kZ.name, .slice oz 1 cz]) rfl (by decide +kernel) (by decide +kernel) (by decide +kernel) (fun _ _ _ h => h) (Or.inl ⟨by kernel_rfl, fun w hSw => by obtain ⟨f1, f2, f3, f4, f5, f6, f7, f8⟩ := KS.facts hSw; go_simp⟩) hS ?_
  try simp only [Act.put, List.setIfInBounds_toArray, List.set_cons_succ, List.set_cons_zero, List.getElem_toArray, List.getElem_cons_succ, List.getElem_cons_zero]
  refine wpAnyH_ready (rs := [12]) (by decide +kernel) (by simp) ?_
  refine (AllReadyH.cons rfl (fun K hK => ?_) AllReadyH.nil)
  go_simp
  have la1 := lit_items (W := w1) [⟨kY, o2, c2⟩, ⟨kZ, oz, cz⟩] (by show (2 : Nat) ≤ maxLen; decide) (fun p hp => by
    simp only [List.mem_cons, List.not_mem_nil, or_false] at hp
    rcases hp with rfl | rfl
    · exact ⟨(show kY.name.size ≤ maxLen by decide), hs1.1.2.1.2⟩
    · exact ⟨(show kZ.name.size ≤ maxLen by decide), hs1.2.1.2⟩)
  refine Shut.out hK _ _ (hs1.alloc _) (fun hS2 => ?_)
  clear hK K hS
  have hS := hS2
  clear hS2
  try simp only [Act.put, List.setIfInBounds_toArray, List.set_cons_succ, List.set_cons_zero, List.getElem_toArray, List.getElem_cons_succ, List.getElem_cons_zero]
  refine wpAnyH_ready (rs := [13]) (by decide +kernel) (by simp) ?_
  refine (AllReadyH.cons rfl (fun K hK => ?_) AllReadyH.nil)
  go_simp
  go_at_call 21
  refine (l9of_any _ _).mono ?_
  rintro e wq ⟨rfl, hwq⟩
  subst hwq
  go_simp
  refine Shut.out hK _ _ ((hs1.alloc (.cells (EItem.flat [⟨kY, o2, c2⟩, ⟨kZ, oz, cz⟩]).toArray 31))) (fun hS2 => ?_)
  clear hK K hS
  have hS := hS2
  clear hS2
  try simp only [Act.put, List.setIfInBounds_toArray, List.set_cons_succ, List.set_cons_zero, List.getElem_toArray, List.getElem_cons_succ, List.getElem_cons_zero]
  refine wpAnyH_ready (rs := [14]) (by decide +kernel) (by simp) ?_
  refine (AllReadyH.cons rfl (fun K hK => ?_) AllReadyH.nil)
  go_simp
  go_at_call 23
  refine (kv_puts (l := [kY, kX]) (x := kZ) (want := [kY, kZ]) 0 (hs1.alloc (.cells (EItem.flat [⟨kY, o2, c2⟩, ⟨kZ, oz, cz⟩]).toArray 31)).1.2.2.2.2.1 (hs1.alloc (.cells (EItem.flat [⟨kY, o2, c2⟩, ⟨kZ, oz, cz⟩]).toArray 31)).2.1.2 la1 (hs1.alloc (.cells (EItem.flat [⟨kY, o2, c2⟩, ⟨kZ, oz, cz⟩]).toArray 31)).1.2.2.2.2.2 (by decide) klt ⟨by decide, by decide⟩ kp2).mono ?_
  rintro e w2 ⟨rfl, hb2⟩
  have hs2 := KS.step (hs1.alloc (.cells (EItem.flat [⟨kY, o2, c2⟩, ⟨kZ, oz, cz⟩]).toArray 31)) hb2
  have la1' := la1.items (hb2)
  go_simp
  refine Shut.out hK _ _ (hs2) (fun hS2 => ?_)
  clear hK K hS
  have hS := hS2
  clear hS2
  try simp only [Act.put, List.setIfInBounds_toArray, List.set_cons_succ, List.set_cons_zero, List.getElem_toArray, List.getElem_cons_succ, List.getElem_cons_zero]
  refine wpAnyH_take (i := 15) (v := .bool false) rfl (by decide +kernel) (by decide +kernel) (by decide +kernel) (fun _ _ _ h => h) (Or.inl ⟨by kernel_rfl, fun w hSw => by go_simp⟩) hS ?_
  try simp only [Act.put, List.setIfInBounds_toArray, List.set_cons_succ, List.set_cons_zero, List.getElem_toArray, List.getElem_cons_succ, List.getElem_cons_zero]
  refine wpAnyH_take (i := 16) (v := .bool false) rfl (by decide +kernel) (by decide +kernel) (by decide +kernel) (fun _ _ _ h => h) (Or.inl ⟨by kernel_rfl, fun w hSw => by go_simp⟩) hS ?_
  try simp only [Act.put, List.setIfInBounds_toArray, List.set_cons_succ, List.set_cons_zero, List.getElem_toArray, List.getElem_cons_succ, List.getElem_cons_zero]
  refine wpAnyH_take (i := 17) (v := .bool false) rfl (by decide +kernel) (by decide +kernel) (by decide +kernel) (fun _ _ _ h => h) (Or.inl ⟨by kernel_rfl, fun w hSw => by go_simp⟩) hS ?_
  apply share
  · intro REST
    try simp only [Act.put, List.setIfInBounds_toArray, List.set_cons_succ, List.set_cons_zero, List.getElem_toArray, List.getElem_cons_succ, List.getElem_cons_zero]
    refine wpAnyH_take (i := 18) (v := .agg #[.string kX.name, .slice o1 1 c1]) rfl (by decide +kernel) (by decide +kernel) (by decide +kernel) (fun _ _ _ h => h) (Or.inl ⟨by kernel_rfl, fun w hSw => by obtain ⟨f1, f2, f3, f4, f5, f6, f7, f8⟩ := KS.facts hSw; go_simp⟩) hS ?_
    try simp only [Act.put, List.setIfInBounds_toArray, List.set_cons_succ, List.set_cons_zero, List.getElem_toArray, List.getElem_cons_succ, List.getElem_cons_zero]
    refine wpAnyH_ready (rs := [19]) (by decide +kernel) (by simp) ?_
    refine (AllReadyH.cons rfl (fun K hK => ?_) AllReadyH.nil)
    go_simp
    have la2 := lit_items (W := w2) [⟨kX, o1, c1⟩] (by show (1 : Nat) ≤ maxLen; decide) (fun p hp => by simp only [List.mem_cons, List.not_mem_nil, or_false] at hp; subst hp; exact ⟨(show kX.name.size ≤ maxLen by decide), hs2.1.1.2⟩)
    refine Shut.out hK _ _ (hs2.alloc _) (fun hS2 => ?_)
    clear hK K
    have hS := hS2
    clear hS2
    try simp only [Act.put, List.setIfInBounds_toArray, List.set_cons_succ, List.set_cons_zero, List.getElem_toArray, List.getElem_cons_succ, List.getElem_cons_zero]
    refine wpAnyH_ready (rs := [20]) (by decide +kernel) (by simp) ?_
    refine (AllReadyH.cons rfl (fun K hK => ?_) AllReadyH.nil)
    go_simp
    go_at_call 21
    refine (l9of_any _ _).mono ?_
    rintro e wq ⟨rfl, hwq⟩
    subst hwq
    go_simp
    refine Shut.out hK _ _ ((hs2.alloc (.cells (EItem.flat [⟨kX, o1, c1⟩]).toArray 31))) (fun hS2 => ?_)
    clear hK K
    have hS := hS2
    clear hS2
    try simp only [Act.put, List.setIfInBounds_toArray, List.set_cons_succ, List.set_cons_zero, List.getElem_toArray, List.getElem_cons_succ, List.getElem_cons_zero]
    refine wpAnyH_ready (rs := [21]) (by decide +kernel) (by simp) ?_
    refine (AllReadyH.cons rfl (fun K hK => ?_) AllReadyH.nil)
    go_simp
    go_at_call 38
    refine (l9mark_any 1 1 1 1 _).mono ?_
    rintro e w3 ⟨rfl, hb3⟩
    have hs3 := KS.step (hs2.alloc (.cells (EItem.flat [⟨kX, o1, c1⟩]).toArray 31)) hb3
    have la2' := la2.items (hb3)
    go_simp
    refine Shut.out hK _ _ (hs3) (fun hS2 => ?_)
    clear hK K
    have hS := hS2
    clear hS2
    try simp only [Act.put, List.setIfInBounds_toArray, List.set_cons_succ, List.set_cons_zero, List.getElem_toArray, List.getElem_cons_succ, List.getElem_cons_zero]
    refine wpAnyH_ready (rs := [22]) (by decide +kernel) (by simp) ?_
    refine (AllReadyH.cons rfl (fun K hK => ?_) AllReadyH.nil)
    go_simp
    have la2'' := la2'.items ((Below.refl _ _).alloc (Nat.le_refl _) (.cells (EMark.flat [⟨⟨1, 1⟩, 1, 1⟩]).toArray 62))
    have lm3 := lit_marks (W := w3) [⟨⟨1, 1⟩, 1, 1⟩] (by show (1 : Nat) ≤ maxLen; decide) (fun m hm => by simp only [List.mem_cons, List.not_mem_nil, or_false] at hm; subst hm; exact kMI)
    refine Shut.out hK _ _ (hs3.alloc _) (fun hS2 => ?_)
    clear hK K
    have hS := hS2
    clear hS2
    try simp only [Act.put, List.setIfInBounds_toArray, List.set_cons_succ, List.set_cons_zero, List.getElem_toArray, List.getElem_cons_succ, List.getElem_cons_zero]
    refine wpAnyH_ready (rs := [23]) (by decide +kernel) (by simp) ?_
    refine (AllReadyH.cons rfl (fun K hK => ?_) AllReadyH.nil)
    go_simp
    go_at_call 37
    refine (l9item_any ⟨#[79, 105, 108]⟩ _ 1 1 _).mono ?_
    rintro e w4 ⟨rfl, hb4⟩
    have hs4 := KS.step (hs3.alloc (.cells (EMark.flat [⟨⟨1, 1⟩, 1, 1⟩]).toArray 62)) hb4
    have la2''' := la2''.items (hb4)
    have lm3' := lm3.marks (hb4)
    go_simp
    refine Shut.out hK _ _ (hs4) (fun hS2 => ?_)
    clear hK K
    have hS := hS2
    clear hS2
    try simp only [Act.put, List.setIfInBounds_toArray, List.set_cons_succ, List.set_cons_zero, List.getElem_toArray, List.getElem_cons_succ, List.getElem_cons_zero]
    refine wpAnyH_ready (rs := [24]) (by decide +kernel) (by simp) ?_
    refine (AllReadyH.cons rfl (fun K hK => ?_) AllReadyH.nil)
    go_simp
    go_at_call 23
    refine (kv_puts (l := [kX]) (x := kO) (want := []) 11 la2''' lm3' arr_nil hs4.1.2.2.2.2.2 (by decide) ⟨by decide, by decide⟩ ⟨by decide, by decide⟩ kp3).mono ?_
    rintro e w5 ⟨rfl, hb5⟩
    have hs5 := KS.step hs4 hb5
    have la2'''' := la2'''.items (hb5)
    have lm3'' := lm3'.marks (hb5)
    go_simp
    refine Shut.out hK _ _ (hs5) (fun hS2 => ?_)
    clear hK K
    have hS := hS2
    clear hS2
    clear hb5
    generalize (.slice (some ⟨w2.heap.size, 0, none⟩) 1 1 : Value) = v84
    generalize (.slice (some ⟨w3.heap.size, 0, none⟩) 1 1 : Value) = v87
    revert hs5
    generalize w5 = wz
    revert wz v87 v84
    exact REST
  · intro v84 v87 w9 hs9
    have hS := hs9
    try simp only [Act.put, List.setIfInBounds_toArray, List.set_cons_succ, List.set_cons_zero, List.getElem_toArray, List.getElem_cons_succ, List.getElem_cons_zero]
    refine wpAnyH_take (i := 25) (v := .bool false) rfl (by decide +kernel) (by decide +kernel) (by decide +kernel) (fun _ _ _ h => h) (Or.inl ⟨by kernel_rfl, fun w hSw => by go_simp⟩) hS ?_
    try simp only [Act.put, List.setIfInBounds_toArray, List.set_cons_succ, List.set_cons_zero, List.getElem_toArray, List.getElem_cons_succ, List.getElem_cons_zero]
    refine wpAnyH_take (i := 26) (v := .bool false) rfl (by decide +kernel) (by decide +kernel) (by decide +kernel) (fun _ _ _ h => h) (Or.inl ⟨by kernel_rfl, fun w hSw => by go_simp⟩) hS ?_
    try simp only [Act.put, List.setIfInBounds_toArray, List.set_cons_succ, List.set_cons_zero, List.getElem_toArray, List.getElem_cons_succ, List.getElem_cons_zero]
    refine wpAnyH_take (i := 27) (v := .bool false) rfl (by decide +kernel) (by decide +kernel) (by decide +kernel) (fun _ _ _ h => h) (Or.inl ⟨by kernel_rfl, fun w hSw => by go_simp⟩) hS ?_
    try simp only [Act.put, List.setIfInBounds_toArray, List.set_cons_succ, List.set_cons_zero, List.getElem_toArray, List.getElem_cons_succ, List.getElem_cons_zero]
    refine wpAnyH_take (i := 28) (v := .agg #[.string kX.name, .slice o1 1 c1]) rfl (by decide +kernel) (by decide +kernel) (by decide +kernel) (fun _ _ _ h => h) (Or.inl ⟨by kernel_rfl, fun w hSw => by obtain ⟨f1, f2, f3, f4, f5, f6, f7, f8⟩ := KS.facts hSw; go_simp⟩) hS ?_
    try simp only [Act.put, List.setIfInBounds_toArray, List.set_cons_succ, List.set_cons_zero, List.getElem_toArray, List.getElem_cons_succ, List.getElem_cons_zero]
    refine wpAnyH_take (i := 31) (v := .agg #[.string kT.name, .slice ot 1 ct]) rfl (by decide +kernel) (by decide +kernel) (by decide +kernel) (fun _ _ _ h => h) (Or.inl ⟨by kernel_rfl, fun w hSw => by obtain ⟨f1, f2, f3, f4, f5, f6, f7, f8⟩ := KS.facts hSw; go_simp⟩) hS ?_
    try simp only [Act.put, List.setIfInBounds_toArray, List.set_cons_succ, List.set_cons_zero, List.getElem_toArray, List.getElem_cons_succ, List.getElem_cons_zero]
    refine wpAnyH_take (i := 32) (v := .agg #[.string kT.name, .slice ot 1 ct]) rfl (by decide +kernel) (by decide +kernel) (by decide +kernel) (fun _ _ _ h => h) (Or.inl ⟨by kernel_rfl, fun w hSw => by obtain ⟨f1, f2, f3, f4, f5, f6, f7, f8⟩ := KS.facts hSw; go_simp⟩) hS ?_
    try simp only [Act.put, List.setIfInBounds_toArray, List.set_cons_succ, List.set_cons_zero, List.getElem_toArray, List.getElem_cons_succ, List.getElem_cons_zero]
    refine wpAnyH_ready (rs := [29, 33]) (by decide +kernel) (by simp) ?_
    refine (AllReadyH.cons rfl (fun K hK => ?_) (AllReadyH.cons rfl (fun K hK => ?_) AllReadyH.nil))
    · go_simp
      have la50 := lit_items (W := w9) [⟨kX, o1, c1⟩] (by show (1 : Nat) ≤ maxLen; decide) (fun p hp => by simp only [List.mem_cons, List.not_mem_nil, or_false] at hp; subst hp; exact ⟨(show kX.name.size ≤ maxLen by decide), hs9.1.1.2⟩)
      refine Shut.out hK _ _ (hs9.alloc _) (fun hS2 => ?_)
      clear hK K hS
      have hS := hS2
      clear hS2
      try simp only [Act.put, List.setIfInBounds_toArray, List.set_cons_succ, List.set_cons_zero, List.getElem_toArray, List.getElem_cons_succ, List.getElem_cons_zero]
      refine wpAnyH_ready (rs := [30, 33]) (by decide +kernel) (by simp) ?_
      refine (AllReadyH.cons rfl (fun K hK => ?_) (AllReadyH.cons rfl (fun K hK => ?_) AllReadyH.nil))
      · go_simp
        go_at_call 21
        refine (l9of_any _ _).mono ?_
        rintro e wq ⟨rfl, hwq⟩
        subst hwq
        go_simp
        refine Shut.out hK _ _ ((hs9.alloc (.cells (EItem.flat [⟨kX, o1, c1⟩]).toArray 31))) (fun hS2 => ?_)
        clear hK K hS
        have hS := hS2
        clear hS2
        try simp only [Act.put, List.setIfInBounds_toArray, List.set_cons_succ, List.set_cons_zero, List.getElem_toArray, List.getElem_cons_succ, List.getElem_cons_zero]
        refine wpAnyH_ready (rs := [33]) (by decide +kernel) (by simp) ?_
        refine (AllReadyH.cons rfl (fun K hK => ?_) AllReadyH.nil)
        go_simp
        have la50' := la50.items ((Below.refl _ _).alloc (Nat.le_refl _) (.cells (EItem.flat [⟨kT, ot, ct⟩]).toArray 31))
        have la51 := lit_items (W := (w9.alloc (.cells (EItem.flat [⟨kX, o1, c1⟩]).toArray 31))) [⟨kT, ot, ct⟩] (by show (1 : Nat) ≤ maxLen; decide) (fun p hp => by simp only [List.mem_cons, List.not_mem_nil, or_false] at hp; subst hp; exact ⟨(show kT.name.size ≤ maxLen by decide), (hs9.alloc (.cells (EItem.flat [⟨kX, o1, c1⟩]).toArray 31)).2.2.1.2⟩)
        simp only [alloc_size] at la51
        refine Shut.out hK _ _ ((hs9.alloc (.cells (EItem.flat [⟨kX, o1, c1⟩]).toArray 31)).alloc _) (fun hS2 => ?_)
        clear hK K hS
        have hS := hS2
        clear hS2
        try simp only [Act.put, List.setIfInBounds_toArray, List.set_cons_succ, List.set_cons_zero, List.getElem_toArray, List.getElem_cons_succ, List.getElem_cons_zero]
        refine wpAnyH_ready (rs := [34]) (by decide +kernel) (by simp) ?_
        refine (AllReadyH.cons rfl (fun K hK => ?_) AllReadyH.nil)
        go_simp
        go_at_call 21
        refine (l9of_any _ _).mono ?_
        rintro e wq ⟨rfl, hwq⟩
        subst hwq
        go_simp
        refine Shut.out hK _ _ (((hs9.alloc (.cells (EItem.flat [⟨kX, o1, c1⟩]).toArray 31)).alloc (.cells (EItem.flat [⟨kT, ot, ct⟩]).toArray 31))) (fun hS2 => ?_)
        clear hK K hS
        have hS := hS2
        clear hS2
        try simp only [Act.put, List.setIfInBounds_toArray, List.set_cons_succ, List.set_cons_zero, List.getElem_toArray, List.getElem_cons_succ, List.getElem_cons_zero]
        refine wpAnyH_ready (rs := [35]) (by decide +kernel) (by simp) ?_
        refine (AllReadyH.cons rfl (fun K hK => ?_) AllReadyH.nil)
        go_simp
        go_at_call 23
        refine (kv_puts (l := [kX]) (x := kT) (want := [kT]) 0 la50' ((hs9.alloc (.cells (EItem.flat [⟨kX, o1, c1⟩]).toArray 31)).alloc (.cells (EItem.flat [⟨kT, ot, ct⟩]).toArray 31)).2.2.1.2 la51 ((hs9.alloc (.cells (EItem.flat [⟨kX, o1, c1⟩]).toArray 31)).alloc (.cells (EItem.flat [⟨kT, ot, ct⟩]).toArray 31)).1.2.2.2.2.2 (by decide) ⟨by decide, by decide⟩ ⟨by decide, by decide⟩ kp4).mono ?_
        rintro e w10 ⟨rfl, hb10⟩
        have hs10 := KS.step ((hs9.alloc (.cells (EItem.flat [⟨kX, o1, c1⟩]).toArray 31)).alloc (.cells (EItem.flat [⟨kT, ot, ct⟩]).toArray 31)) hb10
        have la50'' := la50'.items (hb10)
        have la51' := la51.items (hb10)
        go_simp
        refine Shut.out hK _ _ (hs10) (fun hS2 => ?_)
        clear hK K hS
        have hS := hS2
        clear hS2
        try simp only [Act.put, List.setIfInBounds_toArray, List.set_cons_succ, List.set_cons_zero, List.getElem_toArray, List.getElem_cons_succ, List.getElem_cons_zero]
        refine wpAnyH_take (i := 36) (v := .bool false) rfl (by decide +kernel) (by decide +kernel) (by decide +kernel) (fun _ _ _ h => h) (Or.inl ⟨by kernel_rfl, fun w hSw => by go_simp⟩) hS ?_
        try simp only [Act.put, List.setIfInBounds_toArray, List.set_cons_succ, List.set_cons_zero, List.getElem_toArray, List.getElem_cons_succ, List.getElem_cons_zero]
        refine wpAnyH_take (i := 37) (v := .bool false) rfl (by decide +kernel) (by decide +kernel) (by decide +kernel) (fun _ _ _ h => h) (Or.inl ⟨by kernel_rfl, fun w hSw => by go_simp⟩) hS ?_
        try simp only [Act.put, List.setIfInBounds_toArray, List.set_cons_succ, List.set_cons_zero, List.getElem_toArray, List.getElem_cons_succ, List.getElem_cons_zero]
        refine wpAnyH_done (by kernel_rfl) ?_ _
        try simp only [Act.put, List.setIfInBounds_toArray, List.set_cons_succ, List.set_cons_zero, List.getElem_toArray, List.getElem_cons_succ, List.getElem_cons_zero]
        simp only [NQ]
        iterate 6 (first | go_values | go_skip | go_guarded | go_step | go_upon | go_back | go_simp)
        exact known8 hs10.1 hs10.2.2.2 _ _ _ _ _ _ _ _ _ _ _ _ _ _ _ _ _ _ _ _ _ _ _ _ _ _ _ _ _ _ _ _ _ _ _ _ _ _ _ _ _ _ _ _ _ _ _ _ _ _ _ _ _ _ _ _ _ _ _ _ _ _ _ _ _ _ _ _ _ _ _ _ _ _ _ _ _ _ _ _ _ _ _ _ _ _ _ _ _ _ _ _ _ _ _ _ _ _ _ _ _ _ _ _ _ _ _ _ _ _ _ _ _ _ _ _ _ _ _ _ _ _ _ _ _ _ _ _ _ _ _ _ _ _ _ _ _
      · go_simp
        have la50' := la50.items ((Below.refl _ _).alloc (Nat.le_refl _) (.cells (EItem.flat [⟨kT, ot, ct⟩]).toArray 31))
        have la51 := lit_items (W := (w9.alloc (.cells (EItem.flat [⟨kX, o1, c1⟩]).toArray 31))) [⟨kT, ot, ct⟩] (by show (1 : Nat) ≤ maxLen; decide) (fun p hp => by simp only [List.mem_cons, List.not_mem_nil, or_false] at hp; subst hp; exact ⟨(show kT.name.size ≤ maxLen by decide), (hs9.alloc (.cells (EItem.flat [⟨kX, o1, c1⟩]).toArray 31)).2.2.1.2⟩)
        simp only [alloc_size] at la51
        refine Shut.out hK _ _ ((hs9.alloc (.cells (EItem.flat [⟨kX, o1, c1⟩]).toArray 31)).alloc _) (fun hS2 => ?_)
        clear hK K hS
        have hS := hS2
        clear hS2
        try simp only [Act.put, List.setIfInBounds_toArray, List.set_cons_succ, List.set_cons_zero, List.getElem_toArray, List.getElem_cons_succ, List.getElem_cons_zero]
        refine wpAnyH_ready (rs := [30]) (by decide +kernel) (by simp) ?_
        refine (AllReadyH.cons rfl (fun K hK => ?_) AllReadyH.nil)
        go_simp
        go_at_call 21
        refine (l9of_any _ _).mono ?_
        rintro e wq ⟨rfl, hwq⟩
        subst hwq
        go_simp
        refine Shut.out hK _ _ (((hs9.alloc (.cells (EItem.flat [⟨kX, o1, c1⟩]).toArray 31)).alloc (.cells (EItem.flat [⟨kT, ot, ct⟩]).toArray 31))) (fun hS2 => ?_)
        clear hK K hS
        have hS := hS2
        clear hS2
        try simp only [Act.put, List.setIfInBounds_toArray, List.set_cons_succ, List.set_cons_zero, List.getElem_toArray, List.getElem_cons_succ, List.getElem_cons_zero]
        refine wpAnyH_ready (rs := [34]) (by decide +kernel) (by simp) ?_
        refine (AllReadyH.cons rfl (fun K hK => ?_) AllReadyH.nil)
        go_simp
        go_at_call 21
        refine (l9of_any _ _).mono ?_
        rintro e wq ⟨rfl, hwq⟩
        subst hwq
        go_simp
        refine Shut.out hK _ _ (((hs9.alloc (.cells (EItem.flat [⟨kX, o1, c1⟩]).toArray 31)).alloc (.cells (EItem.flat [⟨kT, ot, ct⟩]).toArray 31))) (fun hS2 => ?_)
        clear hK K hS
        have hS := hS2
        clear hS2
        try simp only [Act.put, List.setIfInBounds_toArray, List.set_cons_succ, List.set_cons_zero, List.getElem_toArray, List.getElem_cons_succ, List.getElem_cons_zero]
        refine wpAnyH_ready (rs := [35]) (by decide +kernel) (by simp) ?_
        refine (AllReadyH.cons rfl (fun K hK => ?_) AllReadyH.nil)
        go_simp
        go_at_call 23
        refine (kv_puts (l := [kX]) (x := kT) (want := [kT]) 0 la50' ((hs9.alloc (.cells (EItem.flat [⟨kX, o1, c1⟩]).toArray 31)).alloc (.cells (EItem.flat [⟨kT, ot, ct⟩]).toArray 31)).2.2.1.2 la51 ((hs9.alloc (.cells (EItem.flat [⟨kX, o1, c1⟩]).toArray 31)).alloc (.cells (EItem.flat [⟨kT, ot, ct⟩]).toArray 31)).1.2.2.2.2.2 (by decide) ⟨by decide, by decide⟩ ⟨by decide, by decide⟩ kp4).mono ?_
        rintro e w10 ⟨rfl, hb10⟩
        have hs10 := KS.step ((hs9.alloc (.cells (EItem.flat [⟨kX, o1, c1⟩]).toArray 31)).alloc (.cells (EItem.flat [⟨kT, ot, ct⟩]).toArray 31)) hb10
        have la50'' := la50'.items (hb10)
        have la51' := la51.items (hb10)
        go_simp
        refine Shut.out hK _ _ (hs10) (fun hS2 => ?_)
        clear hK K hS
        have hS := hS2
        clear hS2
        try simp only [Act.put, List.setIfInBounds_toArray, List.set_cons_succ, List.set_cons_zero, List.getElem_toArray, List.getElem_cons_succ, List.getElem_cons_zero]
        refine wpAnyH_take (i := 36) (v := .bool false) rfl (by decide +kernel) (by decide +kernel) (by decide +kernel) (fun _ _ _ h => h) (Or.inl ⟨by kernel_rfl, fun w hSw => by go_simp⟩) hS ?_
        try simp only [Act.put, List.setIfInBounds_toArray, List.set_cons_succ, List.set_cons_zero, List.getElem_toArray, List.getElem_cons_succ, List.getElem_cons_zero]
        refine wpAnyH_take (i := 37) (v := .bool false) rfl (by decide +kernel) (by decide +kernel) (by decide +kernel) (fun _ _ _ h => h) (Or.inl ⟨by kernel_rfl, fun w hSw => by go_simp⟩) hS ?_
        try simp only [Act.put, List.setIfInBounds_toArray, List.set_cons_succ, List.set_cons_zero, List.getElem_toArray, List.getElem_cons_succ, List.getElem_cons_zero]
        refine wpAnyH_done (by kernel_rfl) ?_ _
        try simp only [Act.put, List.setIfInBounds_toArray, List.set_cons_succ, List.set_cons_zero, List.getElem_toArray, List.getElem_cons_succ, List.getElem_cons_zero]
        simp only [NQ]
        iterate 6 (first | go_values | go_skip | go_guarded | go_step | go_upon | go_back | go_simp)
        exact known8 hs10.1 hs10.2.2.2 _ _ _ _ _ _ _ _ _ _ _ _ _ _ _ _ _ _ _ _ _ _ _ _ _ _ _ _ _ _ _ _ _ _ _ _ _ _ _ _ _ _ _ _ _ _ _ _ _ _ _ _ _ _ _ _ _ _ _ _ _ _ _ _ _ _ _ _ _ _ _ _ _ _ _ _ _ _ _ _ _ _ _ _ _ _ _ _ _ _ _ _ _ _ _ _ _ _ _ _ _ _ _ _ _ _ _ _ _ _ _ _ _ _ _ _ _ _ _ _ _ _ _ _ _ _ _ _ _ _ _ _ _ _ _ _ _
    · go_simp
      have la50 := lit_items (W := w9) [⟨kT, ot, ct⟩] (by show (1 : Nat) ≤ maxLen; decide) (fun p hp => by simp only [List.mem_cons, List.not_mem_nil, or_false] at hp; subst hp; exact ⟨(show kT.name.size ≤ maxLen by decide), hs9.2.2.1.2⟩)
      refine Shut.out hK _ _ (hs9.alloc _) (fun hS2 => ?_)
      clear hK K hS
      have hS := hS2
      clear hS2
      try simp only [Act.put, List.setIfInBounds_toArray, List.set_cons_succ, List.set_cons_zero, List.getElem_toArray, List.getElem_cons_succ, List.getElem_cons_zero]
      refine wpAnyH_ready (rs := [29]) (by decide +kernel) (by simp) ?_
      refine (AllReadyH.cons rfl (fun K hK => ?_) AllReadyH.nil)
      go_simp
      have la50' := la50.items ((Below.refl _ _).alloc (Nat.le_refl _) (.cells (EItem.flat [⟨kX, o1, c1⟩]).toArray 31))
      have la51 := lit_items (W := (w9.alloc (.cells (EItem.flat [⟨kT, ot, ct⟩]).toArray 31))) [⟨kX, o1, c1⟩] (by show (1 : Nat) ≤ maxLen; decide) (fun p hp => by simp only [List.mem_cons, List.not_mem_nil, or_false] at hp; subst hp; exact ⟨(show kX.name.size ≤ maxLen by decide), (hs9.alloc (.cells (EItem.flat [⟨kT, ot, ct⟩]).toArray 31)).1.1.2⟩)
      simp only [alloc_size] at la51
      refine Shut.out hK _ _ ((hs9.alloc (.cells (EItem.flat [⟨kT, ot, ct⟩]).toArray 31)).alloc _) (fun hS2 => ?_)
      clear hK K hS
      have hS := hS2
      clear hS2
      try simp only [Act.put, List.setIfInBounds_toArray, List.set_cons_succ, List.set_cons_zero, List.getElem_toArray, List.getElem_cons_succ, List.getElem_cons_zero]
      refine wpAnyH_ready (rs := [30]) (by decide +kernel) (by simp) ?_
      refine (AllReadyH.cons rfl (fun K hK => ?_) AllReadyH.nil)
      go_simp
      go_at_call 21
      refine (l9of_any _ _).mono ?_
      rintro e wq ⟨rfl, hwq⟩
      subst hwq
      go_simp
      refine Shut.out hK _ _ (((hs9.alloc (.cells (EItem.flat [⟨kT, ot, ct⟩]).toArray 31)).alloc (.cells (EItem.flat [⟨kX, o1, c1⟩]).toArray 31))) (fun hS2 => ?_)
      clear hK K hS
      have hS := hS2
      clear hS2
      try simp only [Act.put, List.setIfInBounds_toArray, List.set_cons_succ, List.set_cons_zero, List.getElem_toArray, List.getElem_cons_succ, List.getElem_cons_zero]
      refine wpAnyH_ready (rs := [34]) (by decide +kernel) (by simp) ?_
      refine (AllReadyH.cons rfl (fun K hK => ?_) AllReadyH.nil)
      go_simp
      go_at_call 21
      refine (l9of_any _ _).mono ?_
      rintro e wq ⟨rfl, hwq⟩
      subst hwq
      go_simp
      refine Shut.out hK _ _ (((hs9.alloc (.cells (EItem.flat [⟨kT, ot, ct⟩]).toArray 31)).alloc (.cells (EItem.flat [⟨kX, o1, c1⟩]).toArray 31))) (fun hS2 => ?_)
      clear hK K hS
      have hS := hS2
      clear hS2
      try simp only [Act.put, List.setIfInBounds_toArray, List.set_cons_succ, List.set_cons_zero, List.getElem_toArray, List.getElem_cons_succ, List.getElem_cons_zero]
      refine wpAnyH_ready (rs := [35]) (by decide +kernel) (by simp) ?_
      refine (AllReadyH.cons rfl (fun K hK => ?_) AllReadyH.nil)
      go_simp
      go_at_call 23
      refine (kv_puts (l := [kX]) (x := kT) (want := [kT]) 0 la51 ((hs9.alloc (.cells (EItem.flat [⟨kT, ot, ct⟩]).toArray 31)).alloc (.cells (EItem.flat [⟨kX, o1, c1⟩]).toArray 31)).2.2.1.2 la50' ((hs9.alloc (.cells (EItem.flat [⟨kT, ot, ct⟩]).toArray 31)).alloc (.cells (EItem.flat [⟨kX, o1, c1⟩]).toArray 31)).1.2.2.2.2.2 (by decide) ⟨by decide, by decide⟩ ⟨by decide, by decide⟩ kp4).mono ?_
      rintro e w10 ⟨rfl, hb10⟩
      have hs10 := KS.step ((hs9.alloc (.cells (EItem.flat [⟨kT, ot, ct⟩]).toArray 31)).alloc (.cells (EItem.flat [⟨kX, o1, c1⟩]).toArray 31)) hb10
      have la50'' := la50'.items (hb10)
      have la51' := la51.items (hb10)
      go_simp
      refine Shut.out hK _ _ (hs10) (fun hS2 => ?_)
      clear hK K hS
      have hS := hS2
      clear hS2
      try simp only [Act.put, List.setIfInBounds_toArray, List.set_cons_succ, List.set_cons_zero, List.getElem_toArray, List.getElem_cons_succ, List.getElem_cons_zero]
      refine wpAnyH_take (i := 36) (v := .bool false) rfl (by decide +kernel) (by decide +kernel) (by decide +kernel) (fun _ _ _ h => h) (Or.inl ⟨by kernel_rfl, fun w hSw => by go_simp⟩) hS ?_
      try simp only [Act.put, List.setIfInBounds_toArray, List.set_cons_succ, List.set_cons_zero, List.getElem_toArray, List.getElem_cons_succ, List.getElem_cons_zero]
      refine wpAnyH_take (i := 37) (v := .bool false) rfl (by decide +kernel) (by decide +kernel) (by decide +kernel) (fun _ _ _ h => h) (Or.inl ⟨by kernel_rfl, fun w hSw => by go_simp⟩) hS ?_
      try simp only [Act.put, List.setIfInBounds_toArray, List.set_cons_succ, List.set_cons_zero, List.getElem_toArray, List.getElem_cons_succ, List.getElem_cons_zero]
      refine wpAnyH_done (by kernel_rfl) ?_ _
      try simp only [Act.put, List.setIfInBounds_toArray, List.set_cons_succ, List.set_cons_zero, List.getElem_toArray, List.getElem_cons_succ, List.getElem_cons_zero]
      simp only [NQ]
      iterate 6 (first | go_values | go_skip | go_guarded | go_step | go_upon | go_back | go_simp)
      exact known8 hs10.1 hs10.2.2.2 _ _ _ _ _ _ _ _ _ _ _ _ _ _ _ _ _ _ _ _ _ _ _ _ _ _ _ _ _ _ _ _ _ _ _ _ _ _ _ _ _ _ _ _ _ _ _ _ _ _ _ _ _ _ _ _ _ _ _ _ _ _ _ _ _ _ _ _ _ _ _ _ _ _ _ _ _ _ _ _ _ _ _ _ _ _ _ _ _ _ _ _ _ _ _ _ _ _ _ _ _ _ _ _ _ _ _ _ _ _ _ _ _ _ _ _ _ _ _ _ _ _ _ _ _ _ _ _ _ _ _ _ _ _ _ _ _

end Go.Proofs.YtjlhdgmcaiiagaaGreatDoor

