/- The examples of chapter 9 are met: the regions 0 to 5. -/
import Derived.Test.YtjlhdgmcaiiagaaGreatDoorL9k
namespace Go.Proofs.YtjlhdgmcaiiagaaGreatDoor
open Go.RowKit Go.Maps

set_option maxRecDepth 100000 in
set_option maxHeartbeats 8000000 in
theorem known8 {p1 p2 p4 p5 : Nat} {o1 : Option Addr} {c1 : Nat} {o2 : Option Addr} {c2 : Nat} {v3 : Value} {wb w : World} (hk0 : KW p1 p2 p4 p5 o1 c1 o2 c2 v3 w) (hbw : Below wb.heap.size wb w) (u6 u7 u8 u9 u10 u11 u12 u13 u14 u15 u16 u17 u18 u19 u20 u21 u22 u23 u24 u25 u26 u27 u28 u29 u30 u31 u32 u33 u34 u35 u36 u37 u38 u39 u40 u41 u42 u43 u44 u45 u46 u47 u48 u49 u50 u51 u52 u53 u54 u55 u56 u57 u58 u59 u60 u61 u62 u63 u64 u65 u66 u67 u68 u69 u70 u71 u72 u73 u74 u75 u76 u77 u78 u79 u80 u81 u82 u83 u84 u85 u86 u87 u88 u89 u90 u91 u92 u93 u94 u95 u96 u97 u98 u99 u100 u101 u102 u103 u104 u105 u106 u107 u108 u109 u110 u111 u112 u113 u114 u115 u116 u117 u118 u119 u120 u121 u122 u123 u124 u125 u126 u127 u128 u129 u130 u131 u132 u133 u134 u135 u136 u137 u138 u139 u140 u141 u142 : Value) :
    (codeAt [1, 1, 1, 1, 1, 1] (Tryz.f10.body.getD .skip)).wp Tryz.prog (bodyPost Tryz.prog Tryz.f10 (fun e w' => e = .returned (.bool true) ∧ Below wb.heap.size wb w')) { tmps := #[.bool false, .pointer (some ⟨p1, 0, none⟩), .pointer (some ⟨p2, 0, none⟩), v3, .pointer (some ⟨p4, 0, none⟩), .pointer (some ⟨p5, 0, none⟩), u6, u7, u8, u9, u10, u11, u12, u13, u14, u15, u16, u17, u18, u19, u20, u21, u22, u23, u24, u25, u26, u27, u28, u29, u30, u31, u32, u33, u34, u35, u36, u37, u38, u39, u40, u41, u42, u43, u44, u45, u46, u47, u48, u49, u50, u51, u52, u53, u54, u55, u56, u57, u58, u59, u60, u61, u62, u63, u64, u65, u66, u67, u68, u69, u70, u71, u72, u73, u74, u75, u76, u77, u78, u79, u80, u81, u82, u83, u84, u85, u86, u87, u88, u89, u90, u91, u92, u93, u94, u95, u96, u97, u98, u99, u100, u101, u102, u103, u104, u105, u106, u107, u108, u109, u110, u111, u112, u113, u114, u115, u116, u117, u118, u119, u120, u121, u122, u123, u124, u125, u126, u127, u128, u129, u130, u131, u132, u133, u134, u135, u136, u137, u138, u139, u140, u141, u142], defers := [] } w := by
  simp only [codeAt, codeR, Tryz.f10, Option.getD_some]
  have HK0 := Lib.hid hk0
  have HB0 := Lib.hid hbw
  obtain ⟨f1, f2, f3, f4, f5, f6, f7, f8⟩ := hk0.facts
  clear hk0 hbw
  go_wp2_with fail
  refine (kv_finds (want := kX) ⟨#[84, 101, 97]⟩ 0 HK0.out.2.2.2.2.1 HK0.out.1.2 (by decide) klt kf1).mono ?_
  rintro e w1 ⟨rfl, hb1⟩
  have HK1 := Lib.hid (HK0.out.below hb1)
  have HB1 := Lib.hid (HB0.out.trans (hb1.mono HB0.out.size))
  clear hb1 f1 f2 f3 f4 f5 f6 f7 f8
  obtain ⟨f1, f2, f3, f4, f5, f6, f7, f8⟩ := HK1.out.facts
  go_wp2_with fail
  refine (kv_finds (want := kN) ⟨#[79, 105, 108]⟩ 9 HK1.out.2.2.2.2.1 HK1.out.2.2.2.1.2 (by decide) klt kf2).mono ?_
  rintro e w2 ⟨rfl, hb2⟩
  have HK2 := Lib.hid (HK1.out.below hb2)
  have HB2 := Lib.hid (HB1.out.trans (hb2.mono HB1.out.size))
  clear hb2 f1 f2 f3 f4 f5 f6 f7 f8
  obtain ⟨f1, f2, f3, f4, f5, f6, f7, f8⟩ := HK2.out.facts
  go_wp2_with fail
  refine (l9of_any _ _).mono ?_
  rintro e wq ⟨rfl, hwq⟩
  subst hwq
  go_wp2_with fail
  refine (kv_removes (want := [kX]) ⟨#[78, 117, 116]⟩ 0 (HK2.out.below ((Below.refl _ _).alloc (Nat.le_refl _) _)).2.2.2.2.1 (lit_items [⟨kX, o1, c1⟩] (by show (1 : Nat) ≤ maxLen; decide) (fun p hp => by
      simp only [List.mem_cons, List.not_mem_nil, or_false] at hp
      subst hp
      exact ⟨(show kX.name.size ≤ maxLen by decide), HK2.out.1.2⟩)) (HK2.out.below ((Below.refl _ _).alloc (Nat.le_refl _) _)).2.2.2.2.2 klt kr1).mono ?_
  rintro e w3 ⟨rfl, hb3⟩
  have HK3 := Lib.hid ((HK2.out.below ((Below.refl _ _).alloc (Nat.le_refl _) _)).below hb3)
  have HB3 := Lib.hid ((HB2.out.alloc HB2.out.size _).trans (hb3.mono (by have := HB2.out.size; simp <;> omega)))
  clear hb3 f1 f2 f3 f4 f5 f6 f7 f8
  obtain ⟨f1, f2, f3, f4, f5, f6, f7, f8⟩ := HK3.out.facts
  go_wp2_with fail
  refine (kv_removes (want := []) ⟨#[79, 105, 108]⟩ 9 HK3.out.2.2.2.2.1 arr_nil HK3.out.2.2.2.2.2 klt kr2).mono ?_
  rintro e w4 ⟨rfl, hb4⟩
  have HK4 := Lib.hid (HK3.out.below hb4)
  have HB4 := Lib.hid (HB3.out.trans (hb4.mono HB3.out.size))
  clear hb4 f1 f2 f3 f4 f5 f6 f7 f8
  obtain ⟨f1, f2, f3, f4, f5, f6, f7, f8⟩ := HK4.out.facts
  have HD := Lib.hid (itemsDots_any [kY, kX] v3 w4 HK4.out.2.2.2.2.1 klt)
  rw [kd] at HD
  go_wp2_with fail
  refine HD.out.mono ?_
  rintro e w11 ⟨v4, rfl, hrow1, hb11⟩
  have hal : Below w11.heap.size w11 (w11.alloc (.cells #[.int .i64 1, .int .i64 1, .int .i64 2, .int .i64 1, .int .i64 1, .int .i64 2] 24)) := (Below.refl _ _).alloc (Nat.le_refl _) _
  have hdi : ∀ d ∈ ([⟨1, 1⟩, ⟨2, 1⟩, ⟨1, 2⟩] : List DotD), DI d := by
    intro d hd
    simp at hd
    rcases hd with rfl | rfl | rfl <;> (refine ⟨⟨?_, ?_⟩, ?_, ?_⟩ <;> decide)
  have HSM := Lib.hid (r1Same_any [⟨1, 1⟩, ⟨2, 1⟩, ⟨1, 2⟩] [⟨1, 1⟩, ⟨2, 1⟩, ⟨1, 2⟩] v4 (.slice (some ⟨w11.heap.size, 0, none⟩) 3 3) _ (Arr.dots (Arr.of_dots hrow1 hdi) hal) (lit_dots [⟨1, 1⟩, ⟨2, 1⟩, ⟨1, 2⟩] (by decide) hdi))
  have HK11 := Lib.hid ((HK4.out.below hb11).below hal)
  have HB11 := Lib.hid (HB4.out.trans ((hb11.trans (hal.mono hb11.size)).mono HB4.out.size))
  clear hb11 hal hrow1 hdi HD
  go_wp2_with fail
  refine HSM.out.mono ?_
  rintro e w12 ⟨rfl, hb12⟩
  have HK12 := Lib.hid (HK11.out.below hb12)
  have HB12 := Lib.hid (HB11.out.trans (hb12.mono HB11.out.size))
  have HO1 := Lib.hid (kv_owns ⟨1, 2⟩ ⟨#[78, 117, 116]⟩ 0 HK12.out.2.2.2.2.1 klt (by decide +kernel))
  unfold dotV at HO1
  have ht : decide (([⟨1, 1⟩, ⟨2, 1⟩, ⟨1, 2⟩] : List DotD) = [⟨1, 1⟩, ⟨2, 1⟩, ⟨1, 2⟩]) = true := decide_eq_true rfl
  clear hb12
  go_wp2_with fail
  refine HO1.out.mono ?_
  rintro e w13 ⟨rfl, hb13⟩
  have HK13 := Lib.hid (HK12.out.below hb13)
  have HB13 := Lib.hid (HB12.out.trans (hb13.mono HB12.out.size))
  have HO2 := Lib.hid (kv_owns ⟨1, 3⟩ ⟨#[]⟩ 9 HK13.out.2.2.2.2.1 klt (by decide +kernel))
  unfold dotV at HO2
  clear hb13
  go_wp2_with fail
  refine HO2.out.mono ?_
  rintro e w14 ⟨rfl, hb14⟩
  have HB14 := Lib.hid (HB13.out.trans (hb14.mono HB13.out.size))
  clear hb14
  go_wp2_with fail
  go_ret
  exact ⟨rfl, HB14.out⟩
end Go.Proofs.YtjlhdgmcaiiagaaGreatDoor
namespace Go.Proofs.YtjlhdgmcaiiagaaGreatDoor
open Go.RowKit Go.Maps

/-- What stays in memory while the examples are looked at. -/
def KS (p1 p2 p4 p5 p6 p7 : Nat) (o1 : Option Addr) (c1 : Nat) (o2 : Option Addr) (c2 : Nat) (oz : Option Addr) (cz : Nat) (ot : Option Addr) (ct : Nat) (v3 : Value) (wb W : World) : Prop :=
  KW p1 p2 p4 p5 o1 c1 o2 c2 v3 W ∧ ItP W p6 kZ oz cz ∧ ItP W p7 kT ot ct ∧ Below wb.heap.size wb W
section
variable {p1 p2 p4 p5 p6 p7 : Nat} {o1 : Option Addr} {c1 : Nat} {o2 : Option Addr} {c2 : Nat} {oz : Option Addr} {cz : Nat} {ot : Option Addr} {ct : Nat} {v3 : Value} {wb W W' : World}
theorem KS.step (h : KS p1 p2 p4 p5 p6 p7 o1 c1 o2 c2 oz cz ot ct v3 wb W) (hb : Below W.heap.size W W') : KS p1 p2 p4 p5 p6 p7 o1 c1 o2 c2 oz cz ot ct v3 wb W' :=
  ⟨h.1.below hb, h.2.1.below hb, h.2.2.1.below hb, h.2.2.2.trans (hb.mono h.2.2.2.size)⟩
theorem KS.alloc (h : KS p1 p2 p4 p5 p6 p7 o1 c1 o2 c2 oz cz ot ct v3 wb W) (o : Obj) : KS p1 p2 p4 p5 p6 p7 o1 c1 o2 c2 oz cz ot ct v3 wb (W.alloc o) := h.step ((Below.refl _ _).alloc (Nat.le_refl _) _)
theorem KS.facts (h : KS p1 p2 p4 p5 p6 p7 o1 c1 o2 c2 oz cz ot ct v3 wb W) :
    W.cell? ⟨p1, 0, none⟩ = some (.string kX.name) ∧ W.cell? ⟨p1, 1, none⟩ = some (.slice o1 1 c1) ∧ W.cell? ⟨p2, 0, none⟩ = some (.string kY.name) ∧ W.cell? ⟨p2, 1, none⟩ = some (.slice o2 2 c2) ∧ W.cell? ⟨p6, 0, none⟩ = some (.string kZ.name) ∧ W.cell? ⟨p6, 1, none⟩ = some (.slice oz 1 cz) ∧ W.cell? ⟨p7, 0, none⟩ = some (.string kT.name) ∧ W.cell? ⟨p7, 1, none⟩ = some (.slice ot 1 ct) :=
  ⟨h.1.1.cells.1, h.1.1.cells.2, h.1.2.1.cells.1, h.1.2.1.cells.2, h.2.1.cells.1, h.2.1.cells.2, h.2.2.1.cells.1, h.2.2.1.cells.2⟩
end
theorem kMI : MI ⟨⟨1, 1⟩, 1, 1⟩ := ⟨⟨by decide, by decide⟩, ⟨by decide, by decide⟩, ⟨by decide, by decide⟩, ⟨by decide, by decide⟩⟩
theorem share {stmt G : Prop} (main : stmt → G) (prf : stmt) : G := main prf
set_option linter.unusedSimpArgs false in
set_option maxRecDepth 100000 in
set_option maxHeartbeats 16000000 in
theorem known6 {p1 p2 p4 p5 p6 p7 : Nat} {o1 : Option Addr} {c1 : Nat} {o2 : Option Addr} {c2 : Nat} {oz : Option Addr} {cz : Nat} {ot : Option Addr} {ct : Nat} {v3 : Value} {wb w : World} (hk0 : KS p1 p2 p4 p5 p6 p7 o1 c1 o2 c2 oz cz ot ct v3 wb w) (u8 u9 u10 u11 u12 u13 u14 u15 u16 u17 u18 u19 u20 u21 u22 u23 u24 u25 u26 u27 u28 u29 u30 u31 u32 u33 u34 u35 u36 u37 u38 u39 u40 u41 u42 u43 u44 u45 u46 u47 u48 u49 u50 u51 u52 u53 u54 u55 u56 u57 u58 u59 u60 u61 u62 u63 u64 u65 u66 u67 u68 u69 u70 u71 u72 u73 u74 u75 u76 u77 u78 u79 u80 u81 u82 u83 u84 u85 u86 u87 u88 u89 u90 u91 u92 u93 u94 u95 u96 u97 u98 u99 u100 u101 u102 u103 u104 u105 u106 u107 u108 u109 u110 u111 u112 u113 u114 u115 u116 u117 u118 u119 u120 u121 u122 u123 u124 u125 u126 u127 u128 u129 u130 u131 u132 u133 u134 u135 u136 u137 u138 u139 u140 u141 u142 : Value) :
    (codeAt [1, 1, 1, 1, 1] (Tryz.f10.body.getD .skip)).wp Tryz.prog (bodyPost Tryz.prog Tryz.f10 (fun e w' => e = .returned (.bool true) ∧ Below wb.heap.size wb w')) { tmps := #[.bool false, .pointer (some ⟨p1, 0, none⟩), .pointer (some ⟨p2, 0, none⟩), v3, .pointer (some ⟨p4, 0, none⟩), .pointer (some ⟨p5, 0, none⟩), .pointer (some ⟨p6, 0, none⟩), .pointer (some ⟨p7, 0, none⟩), u8, u9, u10, u11, u12, u13, u14, u15, u16, u17, u18, u19, u20, u21, u22, u23, u24, u25, u26, u27, u28, u29, u30, u31, u32, u33, u34, u35, u36, u37, u38, u39, u40, u41, u42, u43, u44, u45, u46, u47, u48, u49, u50, u51, u52, u53, u54, u55, u56, u57, u58, u59, u60, u61, u62, u63, u64, u65, u66, u67, u68, u69, u70, u71, u72, u73, u74, u75, u76, u77, u78, u79, u80, u81, u82, u83, u84, u85, u86, u87, u88, u89, u90, u91, u92, u93, u94, u95, u96, u97, u98, u99, u100, u101, u102, u103, u104, u105, u106, u107, u108, u109, u110, u111, u112, u113, u114, u115, u116, u117, u118, u119, u120, u121, u122, u123, u124, u125, u126, u127, u128, u129, u130, u131, u132, u133, u134, u135, u136, u137, u138, u139, u140, u141, u142], defers := [] } w := by
  simp only [codeAt, codeR, Tryz.f10, Option.getD_some]
  have hs0 := hk0.step (below_drew1 (Below.refl _ w))
  clear hk0
  go_upto_region 6 with fail
  refine NQ.to ?_
  change Code.wp _ (Code.region _ (List.toArray (_ :: _ :: _ :: _ :: _ :: _ :: _ :: _ :: _ :: _ :: _ :: _ :: _ :: _ :: _ :: _ :: _ :: _ :: _ :: _ :: _ :: _ :: _ :: _ :: _ :: _ :: _ :: _ :: _ :: _ :: _ :: _ :: _ :: _ :: _ :: _ :: _ :: _ :: [])) _) _ _ _
  refine wp_region_held_drew (S := (KS p1 p2 p4 p5 p6 p7 o1 c1 o2 c2 oz cz ot ct v3 wb)) (by kernel_rfl) (hs0) (fun hS => ?_)
  try simp only [Act.put, List.setIfInBounds_toArray, List.set_cons_succ, List.set_cons_zero, List.getElem_toArray, List.getElem_cons_succ, List.getElem_cons_zero]
  refine wpAnyH_take (i := 0) (v := .agg #[.string kX.name, .slice o1 1 c1]) rfl (by decide +kernel) (by decide +kernel) (by decide +kernel) (fun _ _ _ h => h) (Or.inl ⟨by kernel_rfl, fun w hSw => by obtain ⟨f1, f2, f3, f4, f5, f6, f7, f8⟩ := KS.facts hSw; go_simp⟩) hS ?_
  try simp only [Act.put, List.setIfInBounds_toArray, List.set_cons_succ, List.set_cons_zero, List.getElem_toArray, List.getElem_cons_succ, List.getElem_cons_zero]
  refine wpAnyH_take (i := 3) (v := .agg #[.string kY.name, .slice o2 2 c2]) rfl (by decide +kernel) (by decide +kernel) (by decide +kernel) (fun _ _ _ h => h) (Or.inl ⟨by kernel_rfl, fun w hSw => by obtain ⟨f1, f2, f3, f4, f5, f6, f7, f8⟩ := KS.facts hSw; go_simp⟩) hS ?_
  try simp only [Act.put, List.setIfInBounds_toArray, List.set_cons_succ, List.set_cons_zero, List.getElem_toArray, List.getElem_cons_succ, List.getElem_cons_zero]
  refine wpAnyH_take (i := 4) (v := v3) rfl (by decide +kernel) (by decide +kernel) (by decide +kernel) (fun _ _ _ h => h) (Or.inl ⟨by kernel_rfl, fun w hSw => by go_simp⟩) hS ?_
  try simp only [Act.put, List.setIfInBounds_toArray, List.set_cons_succ, List.set_cons_zero, List.getElem_toArray, List.getElem_cons_succ, List.getElem_cons_zero]
  refine wpAnyH_ready (rs := [1]) (by decide +kernel) (by simp) ?_
  refine (AllReadyH.cons rfl (fun K hK => ?_) AllReadyH.nil)
  go_simp
  have la0 := lit_items (W := w.drew) [⟨kX, o1, c1⟩] (by show (1 : Nat) ≤ maxLen; decide) (fun p hp => by simp only [List.mem_cons, List.not_mem_nil, or_false] at hp; subst hp; exact ⟨(show kX.name.size ≤ maxLen by decide), hs0.1.1.2⟩)
  refine Shut.out hK _ _ (hs0.alloc _) (fun hS2 => ?_)
  clear hK K hS
  have hS := hS2
  clear hS2
  try simp only [Act.put, List.setIfInBounds_toArray, List.set_cons_succ, List.set_cons_zero, List.getElem_toArray, List.getElem_cons_succ, List.getElem_cons_zero]
  refine wpAnyH_ready (rs := [2]) (by decide +kernel) (by simp) ?_
  refine (AllReadyH.cons rfl (fun K hK => ?_) AllReadyH.nil)
  go_simp
  go_at_call 21
  refine (l9of_any _ _).mono ?_
  rintro e wq ⟨rfl, hwq⟩
  subst hwq
  go_simp
  refine Shut.out hK _ _ ((hs0.alloc (.cells (EItem.flat [⟨kX, o1, c1⟩]).toArray 31))) (fun hS2 => ?_)
  clear hK K hS
  have hS := hS2
  clear hS2
  try simp only [Act.put, List.setIfInBounds_toArray, List.set_cons_succ, List.set_cons_zero, List.getElem_toArray, List.getElem_cons_succ, List.getElem_cons_zero]
  refine wpAnyH_ready (rs := [5]) (by decide +kernel) (by simp) ?_
  refine (AllReadyH.cons rfl (fun K hK => ?_) AllReadyH.nil)
  go_simp
  go_at_call 23
  refine (kv_puts (l := [kX]) (x := kY) (want := [kY, kX]) 0 la0 (hs0.alloc (.cells (EItem.flat [⟨kX, o1, c1⟩]).toArray 31)).1.2.1.2 (hs0.alloc (.cells (EItem.flat [⟨kX, o1, c1⟩]).toArray 31)).1.2.2.2.2.1 (hs0.alloc (.cells (EItem.flat [⟨kX, o1, c1⟩]).toArray 31)).1.2.2.2.2.2 (by decide) ⟨by decide, by decide⟩ ⟨by decide, by decide⟩ kp1).mono ?_
  rintro e w1 ⟨rfl, hb1⟩
  have hs1 := KS.step (hs0.alloc (.cells (EItem.flat [⟨kX, o1, c1⟩]).toArray 31)) hb1
  have la0' := la0.items (hb1)
  go_simp
  refine Shut.out hK _ _ (hs1) (fun hS2 => ?_)
  clear hK K hS
  have hS := hS2
  clear hS2
  try simp only [Act.put, List.setIfInBounds_toArray, List.set_cons_succ, List.set_cons_zero, List.getElem_toArray, List.getElem_cons_succ, List.getElem_cons_zero]
  refine wpAnyH_take (i := 6) (v := .bool false) rfl (by decide +kernel) (by decide +kernel) (by decide +kernel) (fun _ _ _ h => h) (Or.inl ⟨by kernel_rfl, fun w hSw => by go_simp⟩) hS ?_
  try simp only [Act.put, List.setIfInBounds_toArray, List.set_cons_succ, List.set_cons_zero, List.getElem_toArray, List.getElem_cons_succ, List.getElem_cons_zero]
  refine wpAnyH_take (i := 7) (v := .bool false) rfl (by decide +kernel) (by decide +kernel) (by decide +kernel) (fun _ _ _ h => h) (Or.inl ⟨by kernel_rfl, fun w hSw => by go_simp⟩) hS ?_
  try simp only [Act.put, List.setIfInBounds_toArray, List.set_cons_succ, List.set_cons_zero, List.getElem_toArray, List.getElem_cons_succ, List.getElem_cons_zero]
  refine wpAnyH_take (i := 8) (v := v3) rfl (by decide +kernel) (by decide +kernel) (by decide +kernel) (fun _ _ _ h => h) (Or.inl ⟨by kernel_rfl, fun w hSw => by go_simp⟩) hS ?_
  try simp only [Act.put, List.setIfInBounds_toArray, List.set_cons_succ, List.set_cons_zero, List.getElem_toArray, List.getElem_cons_succ, List.getElem_cons_zero]
  refine wpAnyH_take (i := 9) (v := .agg #[.string kZ.name, .slice oz 1 cz]) rfl (by decide +kernel) (by decide +kernel) (by decide +kernel) (fun _ _ _ h => h) (Or.inl ⟨by kernel_rfl, fun w hSw => by obtain ⟨f1, f2, f3, f4, f5, f6, f7, f8⟩ := KS.facts hSw; go_simp⟩) hS ?_
  try simp only [Act.put, List.setIfInBounds_toArray, List.set_cons_succ, List.set_cons_zero, List.getElem_toArray, List.getElem_cons_succ, List.getElem_cons_zero]
  refine wpAnyH_take (i := 10) (v := .agg #[.string kY.name, .slice o2 2 c2]) rfl (by decide +kernel) (by decide +kernel) (by decide +kernel) (fun _ _ _ h => h) (Or.inl ⟨by kernel_rfl, fun w hSw => by obtain ⟨f1, f2, f3, f4, f5, f6, f7, f8⟩ := KS.facts hSw; go_simp⟩) hS ?_
  try simp only [Act.put, List.setIfInBounds_toArray, List.set_cons_succ, List.set_cons_zero, List.getElem_toArray, List.getElem_cons_succ, List.getElem_cons_zero]
  refine wpAnyH_take (i := 11) (v := .agg #[.string kZ.name, .slice oz 1 cz]) rfl (by decide +kernel) (by decide +kernel) (by decide +kernel) (fun _ _ _ h => h) (Or.inl ⟨by kernel_rfl, fun w hSw => by obtain ⟨f1, f2, f3, f4, f5, f6, f7, f8⟩ := KS.facts hSw; go_simp⟩) hS ?_
  try simp only [Act.put, List.setIfInBounds_toArray, List.set_cons_succ, List.set_cons_zero, List.getElem_toArray, List.getElem_cons_succ, List.getElem_cons_zero]
  refine wpAnyH_ready (rs := [12]) (by decide +kernel) (by simp) ?_
  refine (AllReadyH.cons rfl (fun K hK => ?_) AllReadyH.nil)
  go_simp
  have la1 := lit_items (W := w1) [⟨kY, o2, c2⟩, ⟨kZ, oz, cz⟩] (by show (2 : Nat) ≤ maxLen; decide) (fun p hp => by
    simp only [List.mem_cons, List.not_mem_nil, or_false] at hp
    rcases hp with rfl | rfl
    · exact ⟨(show kY.name.size ≤ maxLen by decide), hs1.1.2.1.2⟩
    · exact ⟨(show kZ.name.size ≤ maxLen by decide), hs1.2.1.2⟩)
  refine Shut.out hK _ _ (hs1.alloc _) (fun hS2 => ?_)
  clear hK K hS
  have hS := hS2
  clear hS2
  try simp only [Act.put, List.setIfInBounds_toArray, List.set_cons_succ, List.set_cons_zero, List.getElem_toArray, List.getElem_cons_succ, List.getElem_cons_zero]
  refine wpAnyH_ready (rs := [13]) (by decide +kernel) (by simp) ?_
  refine (AllReadyH.cons rfl (fun K hK => ?_) AllReadyH.nil)
  go_simp
  go_at_call 21
  refine (l9of_any _ _).mono ?_
  rintro e wq ⟨rfl, hwq⟩
  subst hwq
  go_simp
  refine Shut.out hK _ _ ((hs1.alloc (.cells (EItem.flat [⟨kY, o2, c2⟩, ⟨kZ, oz, cz⟩]).toArray 31))) (fun hS2 => ?_)
  clear hK K hS
  have hS := hS2
  clear hS2
  try simp only [Act.put, List.setIfInBounds_toArray, List.set_cons_succ, List.set_cons_zero, List.getElem_toArray, List.getElem_cons_succ, List.getElem_cons_zero]
  refine wpAnyH_ready (rs := [14]) (by decide +kernel) (by simp) ?_
  refine (AllReadyH.cons rfl (fun K hK => ?_) AllReadyH.nil)
  go_simp
  go_at_call 23
  refine (kv_puts (l := [kY, kX]) (x := kZ) (want := [kY, kZ]) 0 (hs1.alloc (.cells (EItem.flat [⟨kY, o2, c2⟩, ⟨kZ, oz, cz⟩]).toArray 31)).1.2.2.2.2.1 (hs1.alloc (.cells (EItem.flat [⟨kY, o2, c2⟩, ⟨kZ, oz, cz⟩]).toArray 31)).2.1.2 la1 (hs1.alloc (.cells (EItem.flat [⟨kY, o2, c2⟩, ⟨kZ, oz, cz⟩]).toArray 31)).1.2.2.2.2.2 (by decide) klt ⟨by decide, by decide⟩ kp2).mono ?_
  rintro e w2 ⟨rfl, hb2⟩
  have hs2 := KS.step (hs1.alloc (.cells (EItem.flat [⟨kY, o2, c2⟩, ⟨kZ, oz, cz⟩]).toArray 31)) hb2
  have la1' := la1.items (hb2)
  go_simp
  refine Shut.out hK _ _ (hs2) (fun hS2 => ?_)
  clear hK K hS
  have hS := hS2
  clear hS2
  try simp only [Act.put, List.setIfInBounds_toArray, List.set_cons_succ, List.set_cons_zero, List.getElem_toArray, List.getElem_cons_succ, List.getElem_cons_zero]
  refine wpAnyH_take (i := 15) (v := .bool false) rfl (by decide +kernel) (by decide +kernel) (by decide +kernel) (fun _ _ _ h => h) (Or.inl ⟨by kernel_rfl, fun w hSw => by go_simp⟩) hS ?_
  try simp only [Act.put, List.setIfInBounds_toArray, List.set_cons_succ, List.set_cons_zero, List.getElem_toArray, List.getElem_cons_succ, List.getElem_cons_zero]
  refine wpAnyH_take (i := 16) (v := .bool false) rfl (by decide +kernel) (by decide +kernel) (by decide +kernel) (fun _ _ _ h => h) (Or.inl ⟨by kernel_rfl, fun w hSw => by go_simp⟩) hS ?_
  try simp only [Act.put, List.setIfInBounds_toArray, List.set_cons_succ, List.set_cons_zero, List.getElem_toArray, List.getElem_cons_succ, List.getElem_cons_zero]
  refine wpAnyH_take (i := 17) (v := .bool false) rfl (by decide +kernel) (by decide +kernel) (by decide +kernel) (fun _ _ _ h => h) (Or.inl ⟨by kernel_rfl, fun w hSw => by go_simp⟩) hS ?_
  apply share
  · intro REST
    try simp only [Act.put, List.setIfInBounds_toArray, List.set_cons_succ, List.set_cons_zero, List.getElem_toArray, List.getElem_cons_succ, List.getElem_cons_zero]
    refine wpAnyH_take (i := 18) (v := .agg #[.string kX.name, .slice o1 1 c1]) rfl (by decide +kernel) (by decide +kernel) (by decide +kernel) (fun _ _ _ h => h) (Or.inl ⟨by kernel_rfl, fun w hSw => by obtain ⟨f1, f2, f3, f4, f5, f6, f7, f8⟩ := KS.facts hSw; go_simp⟩) hS ?_
    try simp only [Act.put, List.setIfInBounds_toArray, List.set_cons_succ, List.set_cons_zero, List.getElem_toArray, List.getElem_cons_succ, List.getElem_cons_zero]
    refine wpAnyH_ready (rs := [19]) (by decide +kernel) (by simp) ?_
    refine (AllReadyH.cons rfl (fun K hK => ?_) AllReadyH.nil)
    go_simp
    have la2 := lit_items (W := w2) [⟨kX, o1, c1⟩] (by show (1 : Nat) ≤ maxLen; decide) (fun p hp => by simp only [List.mem_cons, List.not_mem_nil, or_false] at hp; subst hp; exact ⟨(show kX.name.size ≤ maxLen by decide), hs2.1.1.2⟩)
    refine Shut.out hK _ _ (hs2.alloc _) (fun hS2 => ?_)
    clear hK K
    have hS := hS2
    clear hS2
    try simp only [Act.put, List.setIfInBounds_toArray, List.set_cons_succ, List.set_cons_zero, List.getElem_toArray, List.getElem_cons_succ, List.getElem_cons_zero]
    refine wpAnyH_ready (rs := [20]) (by decide +kernel) (by simp) ?_
    refine (AllReadyH.cons rfl (fun K hK => ?_) AllReadyH.nil)
    go_simp
    go_at_call 21
    refine (l9of_any _ _).mono ?_
    rintro e wq ⟨rfl, hwq⟩
    subst hwq
    go_simp
    refine Shut.out hK _ _ ((hs2.alloc (.cells (EItem.flat [⟨kX, o1, c1⟩]).toArray 31))) (fun hS2 => ?_)
    clear hK K
    have hS := hS2
    clear hS2
    try simp only [Act.put, List.setIfInBounds_toArray, List.set_cons_succ, List.set_cons_zero, List.getElem_toArray, List.getElem_cons_succ, List.getElem_cons_zero]
    refine wpAnyH_ready (rs := [21]) (by decide +kernel) (by simp) ?_
    refine (AllReadyH.cons rfl (fun K hK => ?_) AllReadyH.nil)
    go_simp
    go_at_call 38
    refine (l9mark_any 1 1 1 1 _).mono ?_
    rintro e w3 ⟨rfl, hb3⟩
    have hs3 := KS.step (hs2.alloc (.cells (EItem.flat [⟨kX, o1, c1⟩]).toArray 31)) hb3
    have la2' := la2.items (hb3)
    go_simp
    refine Shut.out hK _ _ (hs3) (fun hS2 => ?_)
    clear hK K
    have hS := hS2
    clear hS2
    try simp only [Act.put, List.setIfInBounds_toArray, List.set_cons_succ, List.set_cons_zero, List.getElem_toArray, List.getElem_cons_succ, List.getElem_cons_zero]
    refine wpAnyH_ready (rs := [22]) (by decide +kernel) (by simp) ?_
    refine (AllReadyH.cons rfl (fun K hK => ?_) AllReadyH.nil)
    go_simp
    have la2'' := la2'.items ((Below.refl _ _).alloc (Nat.le_refl _) (.cells (EMark.flat [⟨⟨1, 1⟩, 1, 1⟩]).toArray 62))
    have lm3 := lit_marks (W := w3) [⟨⟨1, 1⟩, 1, 1⟩] (by show (1 : Nat) ≤ maxLen; decide) (fun m hm => by simp only [List.mem_cons, List.not_mem_nil, or_false] at hm; subst hm; exact kMI)
    refine Shut.out hK _ _ (hs3.alloc _) (fun hS2 => ?_)
    clear hK K
    have hS := hS2
    clear hS2
    try simp only [Act.put, List.setIfInBounds_toArray, List.set_cons_succ, List.set_cons_zero, List.getElem_toArray, List.getElem_cons_succ, List.getElem_cons_zero]
    refine wpAnyH_ready (rs := [23]) (by decide +kernel) (by simp) ?_
    refine (AllReadyH.cons rfl (fun K hK => ?_) AllReadyH.nil)
    go_simp
    go_at_call 37
    refine (l9item_any ⟨#[79, 105, 108]⟩ _ 1 1 _).mono ?_
    rintro e w4 ⟨rfl, hb4⟩
    have hs4 := KS.step (hs3.alloc (.cells (EMark.flat [⟨⟨1, 1⟩, 1, 1⟩]).toArray 62)) hb4
    have la2''' := la2''.items (hb4)
    have lm3' := lm3.marks (hb4)
    go_simp
    refine Shut.out hK _ _ (hs4) (fun hS2 => ?_)
    clear hK K
    have hS := hS2
    clear hS2
    try simp only [Act.put, List.setIfInBounds_toArray, List.set_cons_succ, List.set_cons_zero, List.getElem_toArray, List.getElem_cons_succ, List.getElem_cons_zero]
    refine wpAnyH_ready (rs := [24]) (by decide +kernel) (by simp) ?_
    refine (AllReadyH.cons rfl (fun K hK => ?_) AllReadyH.nil)
    go_simp
    go_at_call 23
    refine (kv_puts (l := [kX]) (x := kO) (want := []) 11 la2''' lm3' arr_nil hs4.1.2.2.2.2.2 (by decide) ⟨by decide, by decide⟩ ⟨by decide, by decide⟩ kp3).mono ?_
    rintro e w5 ⟨rfl, hb5⟩
    have hs5 := KS.step hs4 hb5
    have la2'''' := la2'''.items (hb5)
    have lm3'' := lm3'.marks (hb5)
    go_simp
    refine Shut.out hK _ _ (hs5) (fun hS2 => ?_)
    clear hK K
    have hS := hS2
    clear hS2
    clear hb5
    generalize (.slice (some ⟨w2.heap.size, 0, none⟩) 1 1 : Value) = v84
    generalize (.slice (some ⟨w3.heap.size, 0, none⟩) 1 1 : Value) = v87
    revert hs5
    generalize w5 = wz
    revert wz v87 v84
    exact REST
  · intro v84 v87 w9 hs9
    have hS := hs9
    try simp only [Act.put, List.setIfInBounds_toArray, List.set_cons_succ, List.set_cons_zero, List.getElem_toArray, List.getElem_cons_succ, List.getElem_cons_zero]
    refine wpAnyH_take (i := 25) (v := .bool false) rfl (by decide +kernel) (by decide +kernel) (by decide +kernel) (fun _ _ _ h => h) (Or.inl ⟨by kernel_rfl, fun w hSw => by go_simp⟩) hS ?_
    try simp only [Act.put, List.setIfInBounds_toArray, List.set_cons_succ, List.set_cons_zero, List.getElem_toArray, List.getElem_cons_succ, List.getElem_cons_zero]
    refine wpAnyH_take (i := 26) (v := .bool false) rfl (by decide +kernel) (by decide +kernel) (by decide +kernel) (fun _ _ _ h => h) (Or.inl ⟨by kernel_rfl, fun w hSw => by go_simp⟩) hS ?_
    try simp only [Act.put, List.setIfInBounds_toArray, List.set_cons_succ, List.set_cons_zero, List.getElem_toArray, List.getElem_cons_succ, List.getElem_cons_zero]
    refine wpAnyH_take (i := 27) (v := .bool false) rfl (by decide +kernel) (by decide +kernel) (by decide +kernel) (fun _ _ _ h => h) (Or.inl ⟨by kernel_rfl, fun w hSw => by go_simp⟩) hS ?_
    try simp only [Act.put, List.setIfInBounds_toArray, List.set_cons_succ, List.set_cons_zero, List.getElem_toArray, List.getElem_cons_succ, List.getElem_cons_zero]
    refine wpAnyH_take (i := 28) (v := .agg #[.string kX.name, .slice o1 1 c1]) rfl (by decide +kernel) (by decide +kernel) (by decide +kernel) (fun _ _ _ h => h) (Or.inl ⟨by kernel_rfl, fun w hSw => by obtain ⟨f1, f2, f3, f4, f5, f6, f7, f8⟩ := KS.facts hSw; go_simp⟩) hS ?_
    try simp only [Act.put, List.setIfInBounds_toArray, List.set_cons_succ, List.set_cons_zero, List.getElem_toArray, List.getElem_cons_succ, List.getElem_cons_zero]
    refine wpAnyH_take (i := 31) (v := .agg #[.string kT.name, .slice ot 1 ct]) rfl (by decide +kernel) (by decide +kernel) (by decide +kernel) (fun _ _ _ h => h) (Or.inl ⟨by kernel_rfl, fun w hSw => by obtain ⟨f1, f2, f3, f4, f5, f6, f7, f8⟩ := KS.facts hSw; go_simp⟩) hS ?_
    try simp only [Act.put, List.setIfInBounds_toArray, List.set_cons_succ, List.set_cons_zero, List.getElem_toArray, List.getElem_cons_succ, List.getElem_cons_zero]
    refine wpAnyH_take (i := 32) (v := .agg #[.string kT.name, .slice ot 1 ct]) rfl (by decide +kernel) (by decide +kernel) (by decide +kernel) (fun _ _ _ h => h) (Or.inl ⟨by kernel_rfl, fun w hSw => by obtain ⟨f1, f2, f3, f4, f5, f6, f7, f8⟩ := KS.facts hSw; go_simp⟩) hS ?_
    try simp only [Act.put, List.setIfInBounds_toArray, List.set_cons_succ, List.set_cons_zero, List.getElem_toArray, List.getElem_cons_succ, List.getElem_cons_zero]
    refine wpAnyH_ready (rs := [29, 33]) (by decide +kernel) (by simp) ?_
    refine (AllReadyH.cons rfl (fun K hK => ?_) (AllReadyH.cons rfl (fun K hK => ?_) AllReadyH.nil))
    · go_simp
      have la50 := lit_items (W := w9) [⟨kX, o1, c1⟩] (by show (1 : Nat) ≤ maxLen; decide) (fun p hp => by simp only [List.mem_cons, List.not_mem_nil, or_false] at hp; subst hp; exact ⟨(show kX.name.size ≤ maxLen by decide), hs9.1.1.2⟩)
      refine Shut.out hK _ _ (hs9.alloc _) (fun hS2 => ?_)
      clear hK K hS
      have hS := hS2
      clear hS2
      try simp only [Act.put, List.setIfInBounds_toArray, List.set_cons_succ, List.set_cons_zero, List.getElem_toArray, List.getElem_cons_succ, List.getElem_cons_zero]
      refine wpAnyH_ready (rs := [30, 33]) (by decide +kernel) (by simp) ?_
      refine (AllReadyH.cons rfl (fun K hK => ?_) (AllReadyH.cons rfl (fun K hK => ?_) AllReadyH.nil))
      · go_simp
        go_at_call 21
        refine (l9of_any _ _).mono ?_
        rintro e wq ⟨rfl, hwq⟩
        subst hwq
        go_simp
        refine Shut.out hK _ _ ((hs9.alloc (.cells (EItem.flat [⟨kX, o1, c1⟩]).toArray 31))) (fun hS2 => ?_)
        clear hK K hS
        have hS := hS2
        clear hS2
        try simp only [Act.put, List.setIfInBounds_toArray, List.set_cons_succ, List.set_cons_zero, List.getElem_toArray, List.getElem_cons_succ, List.getElem_cons_zero]
        refine wpAnyH_ready (rs := [33]) (by decide +kernel) (by simp) ?_
        refine (AllReadyH.cons rfl (fun K hK => ?_) AllReadyH.nil)
        go_simp
        have la50' := la50.items ((Below.refl _ _).alloc (Nat.le_refl _) (.cells (EItem.flat [⟨kT, ot, ct⟩]).toArray 31))
        have la51 := lit_items (W := (w9.alloc (.cells (EItem.flat [⟨kX, o1, c1⟩]).toArray 31))) [⟨kT, ot, ct⟩] (by show (1 : Nat) ≤ maxLen; decide) (fun p hp => by simp only [List.mem_cons, List.not_mem_nil, or_false] at hp; subst hp; exact ⟨(show kT.name.size ≤ maxLen by decide), (hs9.alloc (.cells (EItem.flat [⟨kX, o1, c1⟩]).toArray 31)).2.2.1.2⟩)
        simp only [alloc_size] at la51
        refine Shut.out hK _ _ ((hs9.alloc (.cells (EItem.flat [⟨kX, o1, c1⟩]).toArray 31)).alloc _) (fun hS2 => ?_)
        clear hK K hS
        have hS := hS2
        clear hS2
        try simp only [Act.put, List.setIfInBounds_toArray, List.set_cons_succ, List.set_cons_zero, List.getElem_toArray, List.getElem_cons_succ, List.getElem_cons_zero]
        refine wpAnyH_ready (rs := [34]) (by decide +kernel) (by simp) ?_
        refine (AllReadyH.cons rfl (fun K hK => ?_) AllReadyH.nil)
        go_simp
        go_at_call 21
        refine (l9of_any _ _).mono ?_
        rintro e wq ⟨rfl, hwq⟩
        subst hwq
        go_simp
        refine Shut.out hK _ _ (((hs9.alloc (.cells (EItem.flat [⟨kX, o1, c1⟩]).toArray 31)).alloc (.cells (EItem.flat [⟨kT, ot, ct⟩]).toArray 31))) (fun hS2 => ?_)
        clear hK K hS
        have hS := hS2
        clear hS2
        try simp only [Act.put, List.setIfInBounds_toArray, List.set_cons_succ, List.set_cons_zero, List.getElem_toArray, List.getElem_cons_succ, List.getElem_cons_zero]
        refine wpAnyH_ready (rs := [35]) (by decide +kernel) (by simp) ?_
        refine (AllReadyH.cons rfl (fun K hK => ?_) AllReadyH.nil)
        go_simp
        go_at_call 23
        refine (kv_puts (l := [kX]) (x := kT) (want := [kT]) 0 la50' ((hs9.alloc (.cells (EItem.flat [⟨kX, o1, c1⟩]).toArray 31)).alloc (.cells (EItem.flat [⟨kT, ot, ct⟩]).toArray 31)).2.2.1.2 la51 ((hs9.alloc (.cells (EItem.flat [⟨kX, o1, c1⟩]).toArray 31)).alloc (.cells (EItem.flat [⟨kT, ot, ct⟩]).toArray 31)).1.2.2.2.2.2 (by decide) ⟨by decide, by decide⟩ ⟨by decide, by decide⟩ kp4).mono ?_
        rintro e w10 ⟨rfl, hb10⟩
        have hs10 := KS.step ((hs9.alloc (.cells (EItem.flat [⟨kX, o1, c1⟩]).toArray 31)).alloc (.cells (EItem.flat [⟨kT, ot, ct⟩]).toArray 31)) hb10
        have la50'' := la50'.items (hb10)
        have la51' := la51.items (hb10)
        go_simp
        refine Shut.out hK _ _ (hs10) (fun hS2 => ?_)
        clear hK K hS
        have hS := hS2
        clear hS2
        try simp only [Act.put, List.setIfInBounds_toArray, List.set_cons_succ, List.set_cons_zero, List.getElem_toArray, List.getElem_cons_succ, List.getElem_cons_zero]
        refine wpAnyH_take (i := 36) (v := .bool false) rfl (by decide +kernel) (by decide +kernel) (by decide +kernel) (fun _ _ _ h => h) (Or.inl ⟨by kernel_rfl, fun w hSw => by go_simp⟩) hS ?_
        try simp only [Act.put, List.setIfInBounds_toArray, List.set_cons_succ, List.set_cons_zero, List.getElem_toArray, List.getElem_cons_succ, List.getElem_cons_zero]
        refine wpAnyH_take (i := 37) (v := .bool false) rfl (by decide +kernel) (by decide +kernel) (by decide +kernel) (fun _ _ _ h => h) (Or.inl ⟨by kernel_rfl, fun w hSw => by go_simp⟩) hS ?_
        try simp only [Act.put, List.setIfInBounds_toArray, List.set_cons_succ, List.set_cons_zero, List.getElem_toArray, List.getElem_cons_succ, List.getElem_cons_zero]
        refine wpAnyH_done (by kernel_rfl) ?_ _
        try simp only [Act.put, List.setIfInBounds_toArray, List.set_cons_succ, List.set_cons_zero, List.getElem_toArray, List.getElem_cons_succ, List.getElem_cons_zero]
        simp only [NQ]
        iterate 6 (first | go_values | go_skip | go_guarded | go_step | go_upon | go_back | go_simp)
        exact known8 hs10.1 hs10.2.2.2 _ _ _ _ _ _ _ _ _ _ _ _ _ _ _ _ _ _ _ _ _ _ _ _ _ _ _ _ _ _ _ _ _ _ _ _ _ _ _ _ _ _ _ _ _ _ _ _ _ _ _ _ _ _ _ _ _ _ _ _ _ _ _ _ _ _ _ _ _ _ _ _ _ _ _ _ _ _ _ _ _ _ _ _ _ _ _ _ _ _ _ _ _ _ _ _ _ _ _ _ _ _ _ _ _ _ _ _ _ _ _ _ _ _ _ _ _ _ _ _ _ _ _ _ _ _ _ _ _ _ _ _ _ _ _ _ _
      · go_simp
        have la50' := la50.items ((Below.refl _ _).alloc (Nat.le_refl _) (.cells (EItem.flat [⟨kT, ot, ct⟩]).toArray 31))
        have la51 := lit_items (W := (w9.alloc (.cells (EItem.flat [⟨kX, o1, c1⟩]).toArray 31))) [⟨kT, ot, ct⟩] (by show (1 : Nat) ≤ maxLen; decide) (fun p hp => by simp only [List.mem_cons, List.not_mem_nil, or_false] at hp; subst hp; exact ⟨(show kT.name.size ≤ maxLen by decide), (hs9.alloc (.cells (EItem.flat [⟨kX, o1, c1⟩]).toArray 31)).2.2.1.2⟩)
        simp only [alloc_size] at la51
        refine Shut.out hK _ _ ((hs9.alloc (.cells (EItem.flat [⟨kX, o1, c1⟩]).toArray 31)).alloc _) (fun hS2 => ?_)
        clear hK K hS
        have hS := hS2
        clear hS2
        try simp only [Act.put, List.setIfInBounds_toArray, List.set_cons_succ, List.set_cons_zero, List.getElem_toArray, List.getElem_cons_succ, List.getElem_cons_zero]
        refine wpAnyH_ready (rs := [30]) (by decide +kernel) (by simp) ?_
        refine (AllReadyH.cons rfl (fun K hK => ?_) AllReadyH.nil)
        go_simp
        go_at_call 21
        refine (l9of_any _ _).mono ?_
        rintro e wq ⟨rfl, hwq⟩
        subst hwq
        go_simp
        refine Shut.out hK _ _ (((hs9.alloc (.cells (EItem.flat [⟨kX, o1, c1⟩]).toArray 31)).alloc (.cells (EItem.flat [⟨kT, ot, ct⟩]).toArray 31))) (fun hS2 => ?_)
        clear hK K hS
        have hS := hS2
        clear hS2
        try simp only [Act.put, List.setIfInBounds_toArray, List.set_cons_succ, List.set_cons_zero, List.getElem_toArray, List.getElem_cons_succ, List.getElem_cons_zero]
        refine wpAnyH_ready (rs := [34]) (by decide +kernel) (by simp) ?_
        refine (AllReadyH.cons rfl (fun K hK => ?_) AllReadyH.nil)
        go_simp
        go_at_call 21
        refine (l9of_any _ _).mono ?_
        rintro e wq ⟨rfl, hwq⟩
        subst hwq
        go_simp
        refine Shut.out hK _ _ (((hs9.alloc (.cells (EItem.flat [⟨kX, o1, c1⟩]).toArray 31)).alloc (.cells (EItem.flat [⟨kT, ot, ct⟩]).toArray 31))) (fun hS2 => ?_)
        clear hK K hS
        have hS := hS2
        clear hS2
        try simp only [Act.put, List.setIfInBounds_toArray, List.set_cons_succ, List.set_cons_zero, List.getElem_toArray, List.getElem_cons_succ, List.getElem_cons_zero]
        refine wpAnyH_ready (rs := [35]) (by decide +kernel) (by simp) ?_
        refine (AllReadyH.cons rfl (fun K hK => ?_) AllReadyH.nil)
        go_simp
        go_at_call 23
        refine (kv_puts (l := [kX]) (x := kT) (want := [kT]) 0 la50' ((hs9.alloc (.cells (EItem.flat [⟨kX, o1, c1⟩]).toArray 31)).alloc (.cells (EItem.flat [⟨kT, ot, ct⟩]).toArray 31)).2.2.1.2 la51 ((hs9.alloc (.cells (EItem.flat [⟨kX, o1, c1⟩]).toArray 31)).alloc (.cells (EItem.flat [⟨kT, ot, ct⟩]).toArray 31)).1.2.2.2.2.2 (by decide) ⟨by decide, by decide⟩ ⟨by decide, by decide⟩ kp4).mono ?_
        rintro e w10 ⟨rfl, hb10⟩
        have hs10 := KS.step ((hs9.alloc (.cells (EItem.flat [⟨kX, o1, c1⟩]).toArray 31)).alloc (.cells (EItem.flat [⟨kT, ot, ct⟩]).toArray 31)) hb10
        have la50'' := la50'.items (hb10)
        have la51' := la51.items (hb10)
        go_simp
        refine Shut.out hK _ _ (hs10) (fun hS2 => ?_)
        clear hK K hS
        have hS := hS2
        clear hS2
        try simp only [Act.put, List.setIfInBounds_toArray, List.set_cons_succ, List.set_cons_zero, List.getElem_toArray, List.getElem_cons_succ, List.getElem_cons_zero]
        refine wpAnyH_take (i := 36) (v := .bool false) rfl (by decide +kernel) (by decide +kernel) (by decide +kernel) (fun _ _ _ h => h) (Or.inl ⟨by kernel_rfl, fun w hSw => by go_simp⟩) hS ?_
        try simp only [Act.put, List.setIfInBounds_toArray, List.set_cons_succ, List.set_cons_zero, List.getElem_toArray, List.getElem_cons_succ, List.getElem_cons_zero]
        refine wpAnyH_take (i := 37) (v := .bool false) rfl (by decide +kernel) (by decide +kernel) (by decide +kernel) (fun _ _ _ h => h) (Or.inl ⟨by kernel_rfl, fun w hSw => by go_simp⟩) hS ?_
        try simp only [Act.put, List.setIfInBounds_toArray, List.set_cons_succ, List.set_cons_zero, List.getElem_toArray, List.getElem_cons_succ, List.getElem_cons_zero]
        refine wpAnyH_done (by kernel_rfl) ?_ _
        try simp only [Act.put, List.setIfInBounds_toArray, List.set_cons_succ, List.set_cons_zero, List.getElem_toArray, List.getElem_cons_succ, List.getElem_cons_zero]
        simp only [NQ]
        iterate 6 (first | go_values | go_skip | go_guarded | go_step | go_upon | go_back | go_simp)
        exact known8 hs10.1 hs10.2.2.2 _ _ _ _ _ _ _ _ _ _ _ _ _ _ _ _ _ _ _ _ _ _ _ _ _ _ _ _ _ _ _ _ _ _ _ _ _ _ _ _ _ _ _ _ _ _ _ _ _ _ _ _ _ _ _ _ _ _ _ _ _ _ _ _ _ _ _ _ _ _ _ _ _ _ _ _ _ _ _ _ _ _ _ _ _ _ _ _ _ _ _ _ _ _ _ _ _ _ _ _ _ _ _ _ _ _ _ _ _ _ _ _ _ _ _ _ _ _ _ _ _ _ _ _ _ _ _ _ _ _ _ _ _ _ _ _ _
    · go_simp
      have la50 := lit_items (W := w9) [⟨kT, ot, ct⟩] (by show (1 : Nat) ≤ maxLen; decide) (fun p hp => by simp only [List.mem_cons, List.not_mem_nil, or_false] at hp; subst hp; exact ⟨(show kT.name.size ≤ maxLen by decide), hs9.2.2.1.2⟩)
      refine Shut.out hK _ _ (hs9.alloc _) (fun hS2 => ?_)
      clear hK K hS
      have hS := hS2
      clear hS2
      try simp only [Act.put, List.setIfInBounds_toArray, List.set_cons_succ, List.set_cons_zero, List.getElem_toArray, List.getElem_cons_succ, List.getElem_cons_zero]
      refine wpAnyH_ready (rs := [29]) (by decide +kernel) (by simp) ?_
      refine (AllReadyH.cons rfl (fun K hK => ?_) AllReadyH.nil)
      go_simp
      have la50' := la50.items ((Below.refl _ _).alloc (Nat.le_refl _) (.cells (EItem.flat [⟨kX, o1, c1⟩]).toArray 31))
      have la51 := lit_items (W := (w9.alloc (.cells (EItem.flat [⟨kT, ot, ct⟩]).toArray 31))) [⟨kX, o1, c1⟩] (by show (1 : Nat) ≤ maxLen; decide) (fun p hp => by simp only [List.mem_cons, List.not_mem_nil, or_false] at hp; subst hp; exact ⟨(show kX.name.size ≤ maxLen by decide), (hs9.alloc (.cells (EItem.flat [⟨kT, ot, ct⟩]).toArray 31)).1.1.2⟩)
      simp only [alloc_size] at la51
      refine Shut.out hK _ _ ((hs9.alloc (.cells (EItem.flat [⟨kT, ot, ct⟩]).toArray 31)).alloc _) (fun hS2 => ?_)
      clear hK K hS
      have hS := hS2
      clear hS2
      try simp only [Act.put, List.setIfInBounds_toArray, List.set_cons_succ, List.set_cons_zero, List.getElem_toArray, List.getElem_cons_succ, List.getElem_cons_zero]
      refine wpAnyH_ready (rs := [30]) (by decide +kernel) (by simp) ?_
      refine (AllReadyH.cons rfl (fun K hK => ?_) AllReadyH.nil)
      go_simp
      go_at_call 21
      refine (l9of_any _ _).mono ?_
      rintro e wq ⟨rfl, hwq⟩
      subst hwq
      go_simp
      refine Shut.out hK _ _ (((hs9.alloc (.cells (EItem.flat [⟨kT, ot, ct⟩]).toArray 31)).alloc (.cells (EItem.flat [⟨kX, o1, c1⟩]).toArray 31))) (fun hS2 => ?_)
      clear hK K hS
      have hS := hS2
      clear hS2
      try simp only [Act.put, List.setIfInBounds_toArray, List.set_cons_succ, List.set_cons_zero, List.getElem_toArray, List.getElem_cons_succ, List.getElem_cons_zero]
      refine wpAnyH_ready (rs := [34]) (by decide +kernel) (by simp) ?_
      refine (AllReadyH.cons rfl (fun K hK => ?_) AllReadyH.nil)
      go_simp
      go_at_call 21
      refine (l9of_any _ _).mono ?_
      rintro e wq ⟨rfl, hwq⟩
      subst hwq
      go_simp
      refine Shut.out hK _ _ (((hs9.alloc (.cells (EItem.flat [⟨kT, ot, ct⟩]).toArray 31)).alloc (.cells (EItem.flat [⟨kX, o1, c1⟩]).toArray 31))) (fun hS2 => ?_)
      clear hK K hS
      have hS := hS2
      clear hS2
      try simp only [Act.put, List.setIfInBounds_toArray, List.set_cons_succ, List.set_cons_zero, List.getElem_toArray, List.getElem_cons_succ, List.getElem_cons_zero]
      refine wpAnyH_ready (rs := [35]) (by decide +kernel) (by simp) ?_
      refine (AllReadyH.cons rfl (fun K hK => ?_) AllReadyH.nil)
      go_simp
      go_at_call 23
      refine (kv_puts (l := [kX]) (x := kT) (want := [kT]) 0 la51 ((hs9.alloc (.cells (EItem.flat [⟨kT, ot, ct⟩]).toArray 31)).alloc (.cells (EItem.flat [⟨kX, o1, c1⟩]).toArray 31)).2.2.1.2 la50' ((hs9.alloc (.cells (EItem.flat [⟨kT, ot, ct⟩]).toArray 31)).alloc (.cells (EItem.flat [⟨kX, o1, c1⟩]).toArray 31)).1.2.2.2.2.2 (by decide) ⟨by decide, by decide⟩ ⟨by decide, by decide⟩ kp4).mono ?_
      rintro e w10 ⟨rfl, hb10⟩
      have hs10 := KS.step ((hs9.alloc (.cells (EItem.flat [⟨kT, ot, ct⟩]).toArray 31)).alloc (.cells (EItem.flat [⟨kX, o1, c1⟩]).toArray 31)) hb10
      have la50'' := la50'.items (hb10)
      have la51' := la51.items (hb10)
      go_simp
      refine Shut.out hK _ _ (hs10) (fun hS2 => ?_)
      clear hK K hS
      have hS := hS2
      clear hS2
      try simp only [Act.put, List.setIfInBounds_toArray, List.set_cons_succ, List.set_cons_zero, List.getElem_toArray, List.getElem_cons_succ, List.getElem_cons_zero]
      refine wpAnyH_take (i := 36) (v := .bool false) rfl (by decide +kernel) (by decide +kernel) (by decide +kernel) (fun _ _ _ h => h) (Or.inl ⟨by kernel_rfl, fun w hSw => by go_simp⟩) hS ?_
      try simp only [Act.put, List.setIfInBounds_toArray, List.set_cons_succ, List.set_cons_zero, List.getElem_toArray, List.getElem_cons_succ, List.getElem_cons_zero]
      refine wpAnyH_take (i := 37) (v := .bool false) rfl (by decide +kernel) (by decide +kernel) (by decide +kernel) (fun _ _ _ h => h) (Or.inl ⟨by kernel_rfl, fun w hSw => by go_simp⟩) hS ?_
      try simp only [Act.put, List.setIfInBounds_toArray, List.set_cons_succ, List.set_cons_zero, List.getElem_toArray, List.getElem_cons_succ, List.getElem_cons_zero]
      refine wpAnyH_done (by kernel_rfl) ?_ _
      try simp only [Act.put, List.setIfInBounds_toArray, List.set_cons_succ, List.set_cons_zero, List.getElem_toArray, List.getElem_cons_succ, List.getElem_cons_zero]
      simp only [NQ]
      iterate 6 (first | go_values | go_skip | go_guarded | go_step | go_upon | go_back | go_simp)
      exact known8 hs10.1 hs10.2.2.2 _ _ _ _ _ _ _ _ _ _ _ _ _ _ _ _ _ _ _ _ _ _ _ _ _ _ _ _ _ _ _ _ _ _ _ _ _ _ _ _ _ _ _ _ _ _ _ _ _ _ _ _ _ _ _ _ _ _ _ _ _ _ _ _ _ _ _ _ _ _ _ _ _ _ _ _ _ _ _ _ _ _ _ _ _ _ _ _ _ _ _ _ _ _ _ _ _ _ _ _ _ _ _ _ _ _ _ _ _ _ _ _ _ _ _ _ _ _ _ _ _ _ _ _ _ _ _ _ _ _ _ _ _ _ _ _ _

end Go.Proofs.YtjlhdgmcaiiagaaGreatDoor
namespace Go.Proofs.YtjlhdgmcaiiagaaGreatDoor
open Go.RowKit Go.Maps

set_option maxRecDepth 100000 in
set_option maxHeartbeats 8000000 in
theorem known3 {p1 p2 p4 p5 : Nat} {o1 : Option Addr} {c1 : Nat} {o2 : Option Addr} {c2 : Nat} {v3 : Value} {wb w : World} (hk0 : KW p1 p2 p4 p5 o1 c1 o2 c2 v3 w) (hbw : Below wb.heap.size wb w) (u6 u7 u8 u9 u10 u11 u12 u13 u14 u15 u16 u17 u18 u19 u20 u21 u22 u23 u24 u25 u26 u27 u28 u29 u30 u31 u32 u33 u34 u35 u36 u37 u38 u39 u40 u41 u42 u43 u44 u45 u46 u47 u48 u49 u50 u51 u52 u53 u54 u55 u56 u57 u58 u59 u60 u61 u62 u63 u64 u65 u66 u67 u68 u69 u70 u71 u72 u73 u74 u75 u76 u77 u78 u79 u80 u81 u82 u83 u84 u85 u86 u87 u88 u89 u90 u91 u92 u93 u94 u95 u96 u97 u98 u99 u100 u101 u102 u103 u104 u105 u106 u107 u108 u109 u110 u111 u112 u113 u114 u115 u116 u117 u118 u119 u120 u121 u122 u123 u124 u125 u126 u127 u128 u129 u130 u131 u132 u133 u134 u135 u136 u137 u138 u139 u140 u141 u142 : Value) :
    (codeAt [1, 1, 1] (Tryz.f10.body.getD .skip)).wp Tryz.prog (bodyPost Tryz.prog Tryz.f10 (fun e w' => e = .returned (.bool true) ∧ Below wb.heap.size wb w')) { tmps := #[.bool false, .pointer (some ⟨p1, 0, none⟩), .pointer (some ⟨p2, 0, none⟩), v3, .pointer (some ⟨p4, 0, none⟩), .pointer (some ⟨p5, 0, none⟩), u6, u7, u8, u9, u10, u11, u12, u13, u14, u15, u16, u17, u18, u19, u20, u21, u22, u23, u24, u25, u26, u27, u28, u29, u30, u31, u32, u33, u34, u35, u36, u37, u38, u39, u40, u41, u42, u43, u44, u45, u46, u47, u48, u49, u50, u51, u52, u53, u54, u55, u56, u57, u58, u59, u60, u61, u62, u63, u64, u65, u66, u67, u68, u69, u70, u71, u72, u73, u74, u75, u76, u77, u78, u79, u80, u81, u82, u83, u84, u85, u86, u87, u88, u89, u90, u91, u92, u93, u94, u95, u96, u97, u98, u99, u100, u101, u102, u103, u104, u105, u106, u107, u108, u109, u110, u111, u112, u113, u114, u115, u116, u117, u118, u119, u120, u121, u122, u123, u124, u125, u126, u127, u128, u129, u130, u131, u132, u133, u134, u135, u136, u137, u138, u139, u140, u141, u142], defers := [] } w := by
  simp only [codeAt, codeR, Tryz.f10, Option.getD_some]
  have HK0 := Lib.hid hk0
  have HB0 := Lib.hid hbw
  obtain ⟨f1, f2, f3, f4, f5, f6, f7, f8⟩ := hk0.facts
  clear hk0 hbw
  go_wp2_with fail
  refine (kv_valid true kv1 HK0.out.2.2.2.2.1 HK0.out.2.2.2.2.2 klt).mono ?_
  rintro e w1 ⟨rfl, hb1⟩
  have HK1 := Lib.hid (HK0.out.below hb1)
  have HB1 := Lib.hid (HB0.out.trans (hb1.mono HB0.out.size))
  clear hb1 f1 f2 f3 f4 f5 f6 f7 f8
  obtain ⟨f1, f2, f3, f4, f5, f6, f7, f8⟩ := HK1.out.facts
  go_wp2_with fail
  refine (l9of_any _ _).mono ?_
  rintro e wq ⟨rfl, hwq⟩
  subst hwq
  go_wp2_with fail
  refine (kv_valid (l := [kX, kY]) false kv2 (lit_items [⟨kX, o1, c1⟩, ⟨kY, o2, c2⟩] (by show (2 : Nat) ≤ maxLen; decide) (fun p hp => by
      simp only [List.mem_cons, List.not_mem_nil, or_false] at hp
      rcases hp with rfl | rfl
      · exact ⟨(show kX.name.size ≤ maxLen by decide), HK1.out.1.2⟩
      · exact ⟨(show kY.name.size ≤ maxLen by decide), HK1.out.2.1.2⟩)) (HK1.out.below ((Below.refl _ _).alloc (Nat.le_refl _) _)).2.2.2.2.2 ⟨by decide, by decide⟩).mono ?_
  rintro e w2 ⟨rfl, hb2⟩
  have HK2 := Lib.hid ((HK1.out.below ((Below.refl _ _).alloc (Nat.le_refl _) _)).below hb2)
  have HB2 := Lib.hid ((HB1.out.alloc HB1.out.size _).trans (hb2.mono (by have := HB1.out.size; simp <;> omega)))
  clear hb2 f1 f2 f3 f4 f5 f6 f7 f8
  obtain ⟨f1, f2, f3, f4, f5, f6, f7, f8⟩ := HK2.out.facts
  go_wp2_with fail
  refine (l9of_any _ _).mono ?_
  rintro e wq ⟨rfl, hwq⟩
  subst hwq
  go_wp2_with fail
  refine (kv_valid (l := [kX, kX]) false kv3 (lit_items [⟨kX, o1, c1⟩, ⟨kX, o1, c1⟩] (by show (2 : Nat) ≤ maxLen; decide) (fun p hp => by
      simp only [List.mem_cons, List.not_mem_nil, or_false] at hp
      rcases hp with rfl | rfl
      · exact ⟨(show kX.name.size ≤ maxLen by decide), HK2.out.1.2⟩
      · exact ⟨(show kX.name.size ≤ maxLen by decide), HK2.out.1.2⟩)) (HK2.out.below ((Below.refl _ _).alloc (Nat.le_refl _) _)).2.2.2.2.2 ⟨by decide, by decide⟩).mono ?_
  rintro e w3 ⟨rfl, hb3⟩
  have HK3 := Lib.hid ((HK2.out.below ((Below.refl _ _).alloc (Nat.le_refl _) _)).below hb3)
  have HB3 := Lib.hid ((HB2.out.alloc HB2.out.size _).trans (hb3.mono (by have := HB2.out.size; simp <;> omega)))
  clear hb3 f1 f2 f3 f4 f5 f6 f7 f8
  obtain ⟨f1, f2, f3, f4, f5, f6, f7, f8⟩ := HK3.out.facts
  go_wp2_with fail
  refine (l9of_any _ _).mono ?_
  rintro e wq ⟨rfl, hwq⟩
  subst hwq
  go_wp2_with fail
  refine (kv_valid (l := [kB]) false kv4 (lit_items [⟨kB, none, 0⟩] (by show (1 : Nat) ≤ maxLen; decide) (fun p hp => by
      simp only [List.mem_cons, List.not_mem_nil, or_false] at hp
      subst hp
      exact ⟨(show kB.name.size ≤ maxLen by decide), HK3.out.2.2.1.2⟩)) (HK3.out.below ((Below.refl _ _).alloc (Nat.le_refl _) _)).2.2.2.2.2 ⟨by decide, by decide⟩).mono ?_
  rintro e w4 ⟨rfl, hb4⟩
  have HK4 := Lib.hid ((HK3.out.below ((Below.refl _ _).alloc (Nat.le_refl _) _)).below hb4)
  have HB4 := Lib.hid ((HB3.out.alloc HB3.out.size _).trans (hb4.mono (by have := HB3.out.size; simp <;> omega)))
  clear hb4 f1 f2 f3 f4 f5 f6 f7 f8
  obtain ⟨f1, f2, f3, f4, f5, f6, f7, f8⟩ := HK4.out.facts
  go_wp2_with fail
  refine (kv_has (x := kX) 5 0 HK4.out.1.2 HK4.out.2.2.2.2.2 (by decide) (by decide) kh1).mono ?_
  rintro e w5 ⟨rfl, hb5⟩
  have HK5 := Lib.hid (HK4.out.below hb5)
  have HB5 := Lib.hid (HB4.out.trans (hb5.mono HB4.out.size))
  clear hb5 f1 f2 f3 f4 f5 f6 f7 f8
  obtain ⟨f1, f2, f3, f4, f5, f6, f7, f8⟩ := HK5.out.facts
  go_wp2_with fail
  refine (kv_has (x := kY) 2 0 HK5.out.2.1.2 HK5.out.2.2.2.2.2 (by decide) (by decide) kh2).mono ?_
  rintro e w6 ⟨rfl, hb6⟩
  have HK6 := Lib.hid (HK5.out.below hb6)
  have HB6 := Lib.hid (HB5.out.trans (hb6.mono HB5.out.size))
  clear hb6 f1 f2 f3 f4 f5 f6 f7 f8
  obtain ⟨f1, f2, f3, f4, f5, f6, f7, f8⟩ := HK6.out.facts
  go_wp2_with fail
  refine (kv_has (x := kB) 0 2 HK6.out.2.2.1.2 HK6.out.2.2.2.2.2 (by decide) (by decide) kh3).mono ?_
  rintro e w7 ⟨rfl, hb7⟩
  have HK7 := Lib.hid (HK6.out.below hb7)
  have HB7 := Lib.hid (HB6.out.trans (hb7.mono HB6.out.size))
  clear hb7 f1 f2 f3 f4 f5 f6 f7 f8
  obtain ⟨f1, f2, f3, f4, f5, f6, f7, f8⟩ := HK7.out.facts
  go_wp2_with fail
  refine (l9mark_any 3 1 1 1 _).mono ?_
  rintro e w8 ⟨rfl, hb8⟩
  have HK8 := Lib.hid (HK7.out.below hb8)
  have HB8 := Lib.hid (HB7.out.trans (hb8.mono HB7.out.size))
  have hm7 := lit_marks (W := w8) [⟨⟨3, 1⟩, 1, 1⟩] (by show (1 : Nat) ≤ maxLen; decide) (fun m hm => by simp only [List.mem_cons, List.not_mem_nil, or_false] at hm; subst hm; exact ⟨⟨by decide, by decide⟩, ⟨by decide, by decide⟩, ⟨by decide, by decide⟩, ⟨by decide, by decide⟩⟩)
  have HM7 := Lib.hid hm7
  clear hb8 hm7
  go_wp2_with fail
  refine (l9item_any ⟨#[84, 101, 97]⟩ _ 1 1 _).mono ?_
  rintro e w9 ⟨rfl, hb9⟩
  have HZ := Lib.hid (HM7.out.marks hb9)
  have HK9 := Lib.hid ((HK8.out.below ((Below.refl _ _).alloc (Nat.le_refl _) _)).below hb9)
  have HB9 := Lib.hid ((HB8.out.alloc HB8.out.size _).trans (hb9.mono (by have := HB8.out.size; simp <;> omega)))
  clear hb9
  go_wp2_with fail
  refine (l9mark_any 1 1 9 9 _).mono ?_
  rintro e w10 ⟨rfl, hb10⟩
  have HZ10 := Lib.hid (HZ.out.marks hb10)
  have HK10 := Lib.hid (HK9.out.below hb10)
  have HB10 := Lib.hid (HB9.out.trans (hb10.mono HB9.out.size))
  have hm9 := lit_marks (W := w10) [⟨⟨1, 1⟩, 9, 9⟩] (by show (1 : Nat) ≤ maxLen; decide) (fun m hm => by simp only [List.mem_cons, List.not_mem_nil, or_false] at hm; subst hm; exact ⟨⟨by decide, by decide⟩, ⟨by decide, by decide⟩, ⟨by decide, by decide⟩, ⟨by decide, by decide⟩⟩)
  have HM9 := Lib.hid hm9
  clear hb10 hm9
  go_wp2_with fail
  refine (l9item_any ⟨#[84, 101, 97]⟩ _ 1 1 _).mono ?_
  rintro e w11 ⟨rfl, hb11⟩
  have HT := Lib.hid (HM9.out.marks hb11)
  have HK11 := Lib.hid ((HK10.out.below ((Below.refl _ _).alloc (Nat.le_refl _) _)).below hb11)
  have HB11 := Lib.hid ((HB10.out.alloc HB10.out.size _).trans (hb11.mono (by have := HB10.out.size; simp <;> omega)))
  have HZ11 := Lib.hid ((HZ10.out.marks ((Below.refl _ _).alloc (Nat.le_refl _) _)).marks hb11)
  clear hb11
  iterate 17 (first | go_values | go_skip | go_guarded | go_step | go_upon | go_back | go_simp)
  refine known6 (o1 := o1) (c1 := c1) (o2 := o2) (c2 := c2) (p6 := w11.heap.size) (p7 := w11.heap.size + 1) (oz := some ⟨w8.heap.size, 0, none⟩) (cz := 1) (ot := some ⟨w10.heap.size, 0, none⟩) (ct := 1) ?_ _ _ _ _ _ _ _ _ _ _ _ _ _ _ _ _ _ _ _ _ _ _ _ _ _ _ _ _ _ _ _ _ _ _ _ _ _ _ _ _ _ _ _ _ _ _ _ _ _ _ _ _ _ _ _ _ _ _ _ _ _ _ _ _ _ _ _ _ _ _ _ _ _ _ _ _ _ _ _ _ _ _ _ _ _ _ _ _ _ _ _ _ _ _ _ _ _ _ _ _ _ _ _ _ _ _ _ _ _ _ _ _ _ _ _ _ _ _ _ _ _ _ _ _ _ _ _ _ _ _ _ _ _ _ _
  have hal2 : Below w11.heap.size w11 ((w11.alloc (.cells #[.string ⟨#[84, 101, 97]⟩, .slice (some ⟨w8.heap.size, 0, none⟩) 1 1] 31)).alloc (.cells #[.string ⟨#[84, 101, 97]⟩, .slice (some ⟨w10.heap.size, 0, none⟩) 1 1] 31)) := ((Below.refl _ _).alloc (Nat.le_refl _) _).alloc (by simp) _
  refine ⟨HK11.out.below hal2, ⟨?_, ?_⟩, ⟨?_, ?_⟩, HB11.out.trans (hal2.mono HB11.out.size)⟩
  · rw [alloc_old _ _ (by simp)]; exact alloc_new _ _
  · exact HZ11.out.marks hal2
  · have := alloc_new (w11.alloc (.cells #[.string ⟨#[84, 101, 97]⟩, .slice (some ⟨w8.heap.size, 0, none⟩) 1 1] 31)) (.cells #[.string ⟨#[84, 101, 97]⟩, .slice (some ⟨w10.heap.size, 0, none⟩) 1 1] 31)
    rw [alloc_size] at this
    exact this
  · exact HT.out.marks hal2
set_option maxRecDepth 100000 in
set_option maxHeartbeats 8000000 in
theorem l9known_any (w : World) (hG : GlobIs w) : Calls Tryz.prog 10 #[] w fun e w' => e = .returned (.bool true) ∧ Below w.heap.size w w' := by
  have HG := Lib.hid hG
  clear hG
  go_enter Tryz.func10, Tryz.ntmps10
  go_wp2_with fail
  refine (l9mark_any 1 1 5 3 _).mono ?_
  rintro e w1 ⟨rfl, hb1⟩
  have HB1 := Lib.hid hb1
  have HX1 := Lib.hid (lit_marks (W := w1) [⟨⟨1, 1⟩, 5, 3⟩] (by show (1 : Nat) ≤ maxLen; decide) (fun m hm => by simp only [List.mem_cons, List.not_mem_nil, or_false] at hm; subst hm; exact ⟨⟨by decide, by decide⟩, ⟨by decide, by decide⟩, ⟨by decide, by decide⟩, ⟨by decide, by decide⟩⟩))
  clear hb1
  go_wp2_with fail
  refine (l9item_any ⟨#[84, 101, 97]⟩ _ 1 1 _).mono ?_
  rintro e w2 ⟨rfl, hb2⟩
  have HX2 := Lib.hid (HX1.out.marks hb2)
  have HB2 := Lib.hid ((HB1.out.alloc HB1.out.size _).trans (hb2.mono (by have := HB1.out.size; simp <;> omega)))
  clear hb2
  go_wp2_with fail
  refine (l9mark_any 2 1 7 4 _).mono ?_
  rintro e w3 ⟨rfl, hb3⟩
  have HX3 := Lib.hid (HX2.out.marks hb3)
  have HB3 := Lib.hid (HB2.out.trans (hb3.mono HB2.out.size))
  clear hb3
  go_wp2_with fail
  refine (l9mark_any 1 2 2 9 _).mono ?_
  rintro e w4 ⟨rfl, hb4⟩
  have HX4 := Lib.hid (HX3.out.marks hb4)
  have HB4 := Lib.hid (HB3.out.trans (hb4.mono HB3.out.size))
  have HY4 := Lib.hid (lit_marks (W := w4) [⟨⟨2, 1⟩, 7, 4⟩, ⟨⟨1, 2⟩, 2, 9⟩] (by show (2 : Nat) ≤ maxLen; decide) (fun m hm => by simp only [List.mem_cons, List.not_mem_nil, or_false] at hm; rcases hm with rfl | rfl <;> exact ⟨⟨by decide, by decide⟩, ⟨by decide, by decide⟩, ⟨by decide, by decide⟩, ⟨by decide, by decide⟩⟩))
  clear hb4
  go_wp2_with fail
  refine (l9item_any ⟨#[78, 117, 116]⟩ _ 2 2 _).mono ?_
  rintro e w5 ⟨rfl, hb5⟩
  have HX5 := Lib.hid ((HX4.out.marks ((Below.refl _ _).alloc (Nat.le_refl _) _)).marks hb5)
  have HY5 := Lib.hid (HY4.out.marks hb5)
  have HB5 := Lib.hid ((HB4.out.alloc HB4.out.size _).trans (hb5.mono (by have := HB4.out.size; simp <;> omega)))
  clear hb5
  obtain ⟨W6, hW6⟩ : ∃ W6, W6 = (w5.alloc (.cells #[.string ⟨#[84, 101, 97]⟩, .slice (some ⟨w1.heap.size, 0, none⟩) 1 1] 31)).alloc (.cells #[.string ⟨#[78, 117, 116]⟩, .slice (some ⟨w4.heap.size, 0, none⟩) 2 2] 31) := ⟨_, rfl⟩
  have hb6 : Below w5.heap.size w5 W6 := by rw [hW6]; exact ((Below.refl _ _).alloc (Nat.le_refl _) _).alloc (by simp) _
  have hs6 : W6.heap.size = w5.heap.size + 1 + 1 := by rw [hW6, alloc_size, alloc_size]
  have HP1 : Hid (ItP W6 w5.heap.size kX (some ⟨w1.heap.size, 0, none⟩) 1) := Lib.hid ⟨by rw [hW6, alloc_old _ _ (by simp)]; exact alloc_new _ _, HX5.out.marks hb6⟩
  have HP2 : Hid (ItP W6 (w5.heap.size + 1) kY (some ⟨w4.heap.size, 0, none⟩) 2) := Lib.hid ⟨by
    rw [hW6]
    have := alloc_new (w5.alloc (.cells #[.string ⟨#[84, 101, 97]⟩, .slice (some ⟨w1.heap.size, 0, none⟩) 1 1] 31)) (.cells #[.string ⟨#[78, 117, 116]⟩, .slice (some ⟨w4.heap.size, 0, none⟩) 2 2] 31)
    rw [alloc_size] at this
    exact this, HY5.out.marks hb6⟩
  have HL7 := Lib.hid (lit_items (W := W6) [⟨kY, some ⟨w4.heap.size, 0, none⟩, 2⟩, ⟨kX, some ⟨w1.heap.size, 0, none⟩, 1⟩] (by show (2 : Nat) ≤ maxLen; decide) (fun p hp => by
    simp only [List.mem_cons, List.not_mem_nil, or_false] at hp
    rcases hp with rfl | rfl
    · exact ⟨(show kY.name.size ≤ maxLen by decide), HP2.out.2⟩
    · exact ⟨(show kX.name.size ≤ maxLen by decide), HP1.out.2⟩))
  have HB6 := Lib.hid (HB5.out.trans (hb6.mono HB5.out.size))
  have HW6 := Lib.hid hW6
  rw [hs6] at HL7
  clear hb6 hW6
  go_wp2_with fail
  rw [← HW6.out]
  refine (l9of_any _ _).mono ?_
  rintro e wq ⟨rfl, hwq⟩
  subst hwq
  go_wp2_with fail
  refine (l9item_any ⟨#[84, 101, 97]⟩ none 0 0 _).mono ?_
  rintro e w8 ⟨rfl, hb8⟩
  have HL8 := Lib.hid (HL7.out.items hb8)
  have HP18 := Lib.hid ((HP1.out.below ((Below.refl _ _).alloc (Nat.le_refl _) _)).below hb8)
  have HP28 := Lib.hid ((HP2.out.below ((Below.refl _ _).alloc (Nat.le_refl _) _)).below hb8)
  have HB8 := Lib.hid ((HB6.out.alloc HB6.out.size _).trans (hb8.mono (by have := HB6.out.size; simp <;> omega)))
  clear hb8
  iterate 23 (first | go_values | go_skip | go_guarded | go_step | go_upon | go_back | go_simp)
  refine known3 (p1 := w5.heap.size) (p2 := w5.heap.size + 1) (p4 := w8.heap.size) (p5 := w8.heap.size + 1) (o1 := some ⟨w1.heap.size, 0, none⟩) (c1 := 1) (o2 := some ⟨w4.heap.size, 0, none⟩) (c2 := 2) (wb := w) ?_ ?_ _ _ _ _ _ _ _ _ _ _ _ _ _ _ _ _ _ _ _ _ _ _ _ _ _ _ _ _ _ _ _ _ _ _ _ _ _ _ _ _ _ _ _ _ _ _ _ _ _ _ _ _ _ _ _ _ _ _ _ _ _ _ _ _ _ _ _ _ _ _ _ _ _ _ _ _ _ _ _ _ _ _ _ _ _ _ _ _ _ _ _ _ _ _ _ _ _ _ _ _ _ _ _ _ _ _ _ _ _ _ _ _ _ _ _ _ _ _ _ _ _ _ _ _ _ _ _ _ _ _ _ _ _ _ _ _ _
  · have hal : Below w8.heap.size w8 ((w8.alloc (.cells #[.string ⟨#[84, 101, 97]⟩, .slice none 0 0] 31)).alloc (.cells #[.string ⟨#[]⟩, .slice none 0 0] 31)) := ((Below.refl _ _).alloc (Nat.le_refl _) _).alloc (by simp) _
    refine ⟨HP18.out.below hal, HP28.out.below hal, ⟨?_, arr_nil⟩, ⟨?_, arr_nil⟩, HL8.out.items hal, HG.out.below (HB8.out.trans (hal.mono HB8.out.size))⟩
    · rw [alloc_old _ _ (by simp)]; exact alloc_new _ _
    · have := alloc_new (w8.alloc (.cells #[.string ⟨#[84, 101, 97]⟩, .slice none 0 0] 31)) (.cells #[.string ⟨#[]⟩, .slice none 0 0] 31)
      rw [alloc_size] at this
      exact this
  · exact (HB8.out.alloc HB8.out.size _).alloc (by have := HB8.out.size; simp <;> omega) _
end Go.Proofs.YtjlhdgmcaiiagaaGreatDoor

