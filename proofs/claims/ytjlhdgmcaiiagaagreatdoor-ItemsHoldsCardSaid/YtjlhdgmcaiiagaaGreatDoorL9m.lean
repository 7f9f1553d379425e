/- The examples of chapter 9 are met: the last regions. -/
import Derived.Test.YtjlhdgmcaiiagaaGreatDoorL9k
namespace Go.Proofs.YtjlhdgmcaiiagaaGreatDoor
open Go.RowKit Go.Maps

set_option maxRecDepth 100000 in
set_option maxHeartbeats 8000000 in
theorem known8 {p1 p2 p4 p5 : Nat} {o1 : Option Addr} {c1 : Nat} {o2 : Option Addr} {c2 : Nat} {v3 : Value} {wb w : World} (hk0 : KW p1 p2 p4 p5 o1 c1 o2 c2 v3 w) (hbw : Below wb.heap.size wb w) (u6 u7 u8 u9 u10 u11 u12 u13 u14 u15 u16 u17 u18 u19 u20 u21 u22 u23 u24 u25 u26 u27 u28 u29 u30 u31 u32 u33 u34 u35 u36 u37 u38 u39 u40 u41 u42 u43 u44 u45 u46 u47 u48 u49 u50 u51 u52 u53 u54 u55 u56 u57 u58 u59 u60 u61 u62 u63 u64 u65 u66 u67 u68 u69 u70 u71 u72 u73 u74 u75 u76 u77 u78 u79 u80 u81 u82 u83 u84 u85 u86 u87 u88 u89 u90 u91 u92 u93 u94 u95 u96 u97 u98 u99 u100 u101 u102 u103 u104 u105 u106 u107 u108 u109 u110 u111 u112 u113 u114 u115 u116 u117 u118 u119 u120 u121 u122 u123 u124 u125 u126 u127 u128 u129 u130 u131 u132 u133 u134 u135 u136 u137 u138 u139 u140 u141 u142 : Value) :
    (codeAt [1, 1, 1, 1, 1, 1] (Tryz.f10.body.getD .skip)).wp Tryz.prog (bodyPost Tryz.prog Tryz.f10 (fun e w' => e = .returned (.bool true) ∧ Below wb.heap.size wb w')) { tmps := #[.bool false, .pointer (some ⟨p1, 0, none⟩), .pointer (some ⟨p2, 0, none⟩), v3, .pointer (some ⟨p4, 0, none⟩), .pointer (some ⟨p5, 0, none⟩), u6, u7, u8, u9, u10, u11, u12, u13, u14, u15, u16, u17, u18, u19, u20, u21, u22, u23, u24, u25, u26, u27, u28, u29, u30, u31, u32, u33, u34, u35, u36, u37, u38, u39, u40, u41, u42, u43, u44, u45, u46, u47, u48, u49, u50, u51, u52, u53, u54, u55, u56, u57, u58, u59, u60, u61, u62, u63, u64, u65, u66, u67, u68, u69, u70, u71, u72, u73, u74, u75, u76, u77, u78, u79, u80, u81, u82, u83, u84, u85, u86, u87, u88, u89, u90, u91, u92, u93, u94, u95, u96, u97, u98, u99, u100, u101, u102, u103, u104, u105, u106, u107, u108, u109, u110, u111, u112, u113, u114, u115, u116, u117, u118, u119, u120, u121, u122, u123, u124, u125, u126, u127, u128, u129, u130, u131, u132, u133, u134, u135, u136, u137, u138, u139, u140, u141, u142], defers := [] } w := by
  simp only [codeAt, codeR, Tryz.f10, Option.getD_some]
  have HK0 := Lib.hid hk0
  have HB0 := Lib.hid hbw
  obtain ⟨f1, f2, f3, f4, f5, f6, f7, f8⟩ := hk0.facts
  clear hk0 hbw
  go_wp2_with fail
  refine (kv_finds (want := kX) ⟨#[84, 101, 97]⟩ 0 HK0.out.2.2.2.2.1 HK0.out.1.2 (by decide) klt kf1).mono ?_
  rintro e w1 ⟨rfl, hb1⟩
  have HK1 := Lib.hid (HK0.out.below hb1)
  have HB1 := Lib.hid (HB0.out.trans (hb1.mono HB0.out.size))
  clear hb1 f1 f2 f3 f4 f5 f6 f7 f8
  obtain ⟨f1, f2, f3, f4, f5, f6, f7, f8⟩ := HK1.out.facts
  go_wp2_with fail
  refine (kv_finds (want := kN) ⟨#[79, 105, 108]⟩ 9 HK1.out.2.2.2.2.1 HK1.out.2.2.2.1.2 (by decide) klt kf2).mono ?_
  rintro e w2 ⟨rfl, hb2⟩
  have HK2 := Lib.hid (HK1.out.below hb2)
  have HB2 := Lib.hid (HB1.out.trans (hb2.mono HB1.out.size))
  clear hb2 f1 f2 f3 f4 f5 f6 f7 f8
  obtain ⟨f1, f2, f3, f4, f5, f6, f7, f8⟩ := HK2.out.facts
  go_wp2_with fail
  refine (l9of_any _ _).mono ?_
  rintro e wq ⟨rfl, hwq⟩
  subst hwq
  go_wp2_with fail
  refine (kv_removes (want := [kX]) ⟨#[78, 117, 116]⟩ 0 (HK2.out.below ((Below.refl _ _).alloc (Nat.le_refl _) _)).2.2.2.2.1 (lit_items [⟨kX, o1, c1⟩] (by show (1 : Nat) ≤ maxLen; decide) (fun p hp => by
      simp only [List.mem_cons, List.not_mem_nil, or_false] at hp
      subst hp
      exact ⟨(show kX.name.size ≤ maxLen by decide), HK2.out.1.2⟩)) (HK2.out.below ((Below.refl _ _).alloc (Nat.le_refl _) _)).2.2.2.2.2 klt kr1).mono ?_
  rintro e w3 ⟨rfl, hb3⟩
  have HK3 := Lib.hid ((HK2.out.below ((Below.refl _ _).alloc (Nat.le_refl _) _)).below hb3)
  have HB3 := Lib.hid ((HB2.out.alloc HB2.out.size _).trans (hb3.mono (by have := HB2.out.size; simp <;> omega)))
  clear hb3 f1 f2 f3 f4 f5 f6 f7 f8
  obtain ⟨f1, f2, f3, f4, f5, f6, f7, f8⟩ := HK3.out.facts
  go_wp2_with fail
  refine (kv_removes (want := []) ⟨#[79, 105, 108]⟩ 9 HK3.out.2.2.2.2.1 arr_nil HK3.out.2.2.2.2.2 klt kr2).mono ?_
  rintro e w4 ⟨rfl, hb4⟩
  have HK4 := Lib.hid (HK3.out.below hb4)
  have HB4 := Lib.hid (HB3.out.trans (hb4.mono HB3.out.size))
  clear hb4 f1 f2 f3 f4 f5 f6 f7 f8
  obtain ⟨f1, f2, f3, f4, f5, f6, f7, f8⟩ := HK4.out.facts
  have HD := Lib.hid (itemsDots_any [kY, kX] v3 w4 HK4.out.2.2.2.2.1 klt)
  rw [kd] at HD
  go_wp2_with fail
  refine HD.out.mono ?_
  rintro e w11 ⟨v4, rfl, hrow1, hb11⟩
  have hal : Below w11.heap.size w11 (w11.alloc (.cells #[.int .i64 1, .int .i64 1, .int .i64 2, .int .i64 1, .int .i64 1, .int .i64 2] 24)) := (Below.refl _ _).alloc (Nat.le_refl _) _
  have hdi : ∀ d ∈ ([⟨1, 1⟩, ⟨2, 1⟩, ⟨1, 2⟩] : List DotD), DI d := by
    intro d hd
    simp at hd
    rcases hd with rfl | rfl | rfl <;> (refine ⟨⟨?_, ?_⟩, ?_, ?_⟩ <;> decide)
  have HSM := Lib.hid (r1Same_any [⟨1, 1⟩, ⟨2, 1⟩, ⟨1, 2⟩] [⟨1, 1⟩, ⟨2, 1⟩, ⟨1, 2⟩] v4 (.slice (some ⟨w11.heap.size, 0, none⟩) 3 3) _ (Arr.dots (Arr.of_dots hrow1 hdi) hal) (lit_dots [⟨1, 1⟩, ⟨2, 1⟩, ⟨1, 2⟩] (by decide) hdi))
  have HK11 := Lib.hid ((HK4.out.below hb11).below hal)
  have HB11 := Lib.hid (HB4.out.trans ((hb11.trans (hal.mono hb11.size)).mono HB4.out.size))
  clear hb11 hal hrow1 hdi HD
  go_wp2_with fail
  refine HSM.out.mono ?_
  rintro e w12 ⟨rfl, hb12⟩
  have HK12 := Lib.hid (HK11.out.below hb12)
  have HB12 := Lib.hid (HB11.out.trans (hb12.mono HB11.out.size))
  have HO1 := Lib.hid (kv_owns ⟨1, 2⟩ ⟨#[78, 117, 116]⟩ 0 HK12.out.2.2.2.2.1 klt (by decide +kernel))
  unfold dotV at HO1
  have ht : decide (([⟨1, 1⟩, ⟨2, 1⟩, ⟨1, 2⟩] : List DotD) = [⟨1, 1⟩, ⟨2, 1⟩, ⟨1, 2⟩]) = true := decide_eq_true rfl
  clear hb12
  go_wp2_with fail
  refine HO1.out.mono ?_
  rintro e w13 ⟨rfl, hb13⟩
  have HK13 := Lib.hid (HK12.out.below hb13)
  have HB13 := Lib.hid (HB12.out.trans (hb13.mono HB12.out.size))
  have HO2 := Lib.hid (kv_owns ⟨1, 3⟩ ⟨#[]⟩ 9 HK13.out.2.2.2.2.1 klt (by decide +kernel))
  unfold dotV at HO2
  clear hb13
  go_wp2_with fail
  refine HO2.out.mono ?_
  rintro e w14 ⟨rfl, hb14⟩
  have HB14 := Lib.hid (HB13.out.trans (hb14.mono HB13.out.size))
  clear hb14
  go_wp2_with fail
  go_ret
  exact ⟨rfl, HB14.out⟩
end Go.Proofs.YtjlhdgmcaiiagaaGreatDoor

