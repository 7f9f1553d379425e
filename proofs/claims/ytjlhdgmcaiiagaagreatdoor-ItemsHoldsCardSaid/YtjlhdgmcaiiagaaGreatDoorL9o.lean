/- The examples of chapter 9 are met: the regions 0 to 5. -/
import Derived.Test.YtjlhdgmcaiiagaaGreatDoorL9n
namespace Go.Proofs.YtjlhdgmcaiiagaaGreatDoor
open Go.RowKit Go.Maps

set_option maxRecDepth 100000 in
set_option maxHeartbeats 8000000 in
theorem known3 {p1 p2 p4 p5 : Nat} {o1 : Option Addr} {c1 : Nat} {o2 : Option Addr} {c2 : Nat} {v3 : Value} {wb w : World} (hk0 : KW p1 p2 p4 p5 o1 c1 o2 c2 v3 w) (hbw : Below wb.heap.size wb w) (u6 u7 u8 u9 u10 u11 u12 u13 u14 u15 u16 u17 u18 u19 u20 u21 u22 u23 u24 u25 u26 u27 u28 u29 u30 u31 u32 u33 u34 u35 u36 u37 u38 u39 u40 u41 u42 u43 u44 u45 u46 u47 u48 u49 u50 u51 u52 u53 u54 u55 u56 u57 u58 u59 u60 u61 u62 u63 u64 u65 u66 u67 u68 u69 u70 u71 u72 u73 u74 u75 u76 u77 u78 u79 u80 u81 u82 u83 u84 u85 u86 u87 u88 u89 u90 u91 u92 u93 u94 u95 u96 u97 u98 u99 u100 u101 u102 u103 u104 u105 u106 u107 u108 u109 u110 u111 u112 u113 u114 u115 u116 u117 u118 u119 u120 u121 u122 u123 u124 u125 u126 u127 u128 u129 u130 u131 u132 u133 u134 u135 u136 u137 u138 u139 u140 u141 u142 : Value) :
    (codeAt [1, 1, 1] (Tryz.f10.body.getD .skip)).wp Tryz.prog (bodyPost Tryz.prog Tryz.f10 (fun e w' => e = .returned (.bool true) ∧ Below wb.heap.size wb w')) { tmps := #[.bool false, .pointer (some ⟨p1, 0, none⟩), .pointer (some ⟨p2, 0, none⟩), v3, .pointer (some ⟨p4, 0, none⟩), .pointer (some ⟨p5, 0, none⟩), u6, u7, u8, u9, u10, u11, u12, u13, u14, u15, u16, u17, u18, u19, u20, u21, u22, u23, u24, u25, u26, u27, u28, u29, u30, u31, u32, u33, u34, u35, u36, u37, u38, u39, u40, u41, u42, u43, u44, u45, u46, u47, u48, u49, u50, u51, u52, u53, u54, u55, u56, u57, u58, u59, u60, u61, u62, u63, u64, u65, u66, u67, u68, u69, u70, u71, u72, u73, u74, u75, u76, u77, u78, u79, u80, u81, u82, u83, u84, u85, u86, u87, u88, u89, u90, u91, u92, u93, u94, u95, u96, u97, u98, u99, u100, u101, u102, u103, u104, u105, u106, u107, u108, u109, u110, u111, u112, u113, u114, u115, u116, u117, u118, u119, u120, u121, u122, u123, u124, u125, u126, u127, u128, u129, u130, u131, u132, u133, u134, u135, u136, u137, u138, u139, u140, u141, u142], defers := [] } w := by
  simp only [codeAt, codeR, Tryz.f10, Option.getD_some]
  have HK0 := Lib.hid hk0
  have HB0 := Lib.hid hbw
  obtain ⟨f1, f2, f3, f4, f5, f6, f7, f8⟩ := hk0.facts
  clear hk0 hbw
  go_wp2_with fail
  refine (kv_valid true kv1 HK0.out.2.2.2.2.1 HK0.out.2.2.2.2.2 klt).mono ?_
  rintro e w1 ⟨rfl, hb1⟩
  have HK1 := Lib.hid (HK0.out.below hb1)
  have HB1 := Lib.hid (HB0.out.trans (hb1.mono HB0.out.size))
  clear hb1 f1 f2 f3 f4 f5 f6 f7 f8
  obtain ⟨f1, f2, f3, f4, f5, f6, f7, f8⟩ := HK1.out.facts
  go_wp2_with fail
  refine (l9of_any _ _).mono ?_
  rintro e wq ⟨rfl, hwq⟩
  subst hwq
  go_wp2_with fail
  refine (kv_valid (l := [kX, kY]) false kv2 (lit_items [⟨kX, o1, c1⟩, ⟨kY, o2, c2⟩] (by show (2 : Nat) ≤ maxLen; decide) (fun p hp => by
      simp only [List.mem_cons, List.not_mem_nil, or_false] at hp
      rcases hp with rfl | rfl
      · exact ⟨(show kX.name.size ≤ maxLen by decide), HK1.out.1.2⟩
      · exact ⟨(show kY.name.size ≤ maxLen by decide), HK1.out.2.1.2⟩)) (HK1.out.below ((Below.refl _ _).alloc (Nat.le_refl _) _)).2.2.2.2.2 ⟨by decide, by decide⟩).mono ?_
  rintro e w2 ⟨rfl, hb2⟩
  have HK2 := Lib.hid ((HK1.out.below ((Below.refl _ _).alloc (Nat.le_refl _) _)).below hb2)
  have HB2 := Lib.hid ((HB1.out.alloc HB1.out.size _).trans (hb2.mono (by have := HB1.out.size; simp <;> omega)))
  clear hb2 f1 f2 f3 f4 f5 f6 f7 f8
  obtain ⟨f1, f2, f3, f4, f5, f6, f7, f8⟩ := HK2.out.facts
  go_wp2_with fail
  refine (l9of_any _ _).mono ?_
  rintro e wq ⟨rfl, hwq⟩
  subst hwq
  go_wp2_with fail
  refine (kv_valid (l := [kX, kX]) false kv3 (lit_items [⟨kX, o1, c1⟩, ⟨kX, o1, c1⟩] (by show (2 : Nat) ≤ maxLen; decide) (fun p hp => by
      simp only [List.mem_cons, List.not_mem_nil, or_false] at hp
      rcases hp with rfl | rfl
      · exact ⟨(show kX.name.size ≤ maxLen by decide), HK2.out.1.2⟩
      · exact ⟨(show kX.name.size ≤ maxLen by decide), HK2.out.1.2⟩)) (HK2.out.below ((Below.refl _ _).alloc (Nat.le_refl _) _)).2.2.2.2.2 ⟨by decide, by decide⟩).mono ?_
  rintro e w3 ⟨rfl, hb3⟩
  have HK3 := Lib.hid ((HK2.out.below ((Below.refl _ _).alloc (Nat.le_refl _) _)).below hb3)
  have HB3 := Lib.hid ((HB2.out.alloc HB2.out.size _).trans (hb3.mono (by have := HB2.out.size; simp <;> omega)))
  clear hb3 f1 f2 f3 f4 f5 f6 f7 f8
  obtain ⟨f1, f2, f3, f4, f5, f6, f7, f8⟩ := HK3.out.facts
  go_wp2_with fail
  refine (l9of_any _ _).mono ?_
  rintro e wq ⟨rfl, hwq⟩
  subst hwq
  go_wp2_with fail
  refine (kv_valid (l := [kB]) false kv4 (lit_items [⟨kB, none, 0⟩] (by show (1 : Nat) ≤ maxLen; decide) (fun p hp => by
      simp only [List.mem_cons, List.not_mem_nil, or_false] at hp
      subst hp
      exact ⟨(show kB.name.size ≤ maxLen by decide), HK3.out.2.2.1.2⟩)) (HK3.out.below ((Below.refl _ _).alloc (Nat.le_refl _) _)).2.2.2.2.2 ⟨by decide, by decide⟩).mono ?_
  rintro e w4 ⟨rfl, hb4⟩
  have HK4 := Lib.hid ((HK3.out.below ((Below.refl _ _).alloc (Nat.le_refl _) _)).below hb4)
  have HB4 := Lib.hid ((HB3.out.alloc HB3.out.size _).trans (hb4.mono (by have := HB3.out.size; simp <;> omega)))
  clear hb4 f1 f2 f3 f4 f5 f6 f7 f8
  obtain ⟨f1, f2, f3, f4, f5, f6, f7, f8⟩ := HK4.out.facts
  go_wp2_with fail
  refine (kv_has (x := kX) 5 0 HK4.out.1.2 HK4.out.2.2.2.2.2 (by decide) (by decide) kh1).mono ?_
  rintro e w5 ⟨rfl, hb5⟩
  have HK5 := Lib.hid (HK4.out.below hb5)
  have HB5 := Lib.hid (HB4.out.trans (hb5.mono HB4.out.size))
  clear hb5 f1 f2 f3 f4 f5 f6 f7 f8
  obtain ⟨f1, f2, f3, f4, f5, f6, f7, f8⟩ := HK5.out.facts
  go_wp2_with fail
  refine (kv_has (x := kY) 2 0 HK5.out.2.1.2 HK5.out.2.2.2.2.2 (by decide) (by decide) kh2).mono ?_
  rintro e w6 ⟨rfl, hb6⟩
  have HK6 := Lib.hid (HK5.out.below hb6)
  have HB6 := Lib.hid (HB5.out.trans (hb6.mono HB5.out.size))
  clear hb6 f1 f2 f3 f4 f5 f6 f7 f8
  obtain ⟨f1, f2, f3, f4, f5, f6, f7, f8⟩ := HK6.out.facts
  go_wp2_with fail
  refine (kv_has (x := kB) 0 2 HK6.out.2.2.1.2 HK6.out.2.2.2.2.2 (by decide) (by decide) kh3).mono ?_
  rintro e w7 ⟨rfl, hb7⟩
  have HK7 := Lib.hid (HK6.out.below hb7)
  have HB7 := Lib.hid (HB6.out.trans (hb7.mono HB6.out.size))
  clear hb7 f1 f2 f3 f4 f5 f6 f7 f8
  obtain ⟨f1, f2, f3, f4, f5, f6, f7, f8⟩ := HK7.out.facts
  go_wp2_with fail
  refine (l9mark_any 3 1 1 1 _).mono ?_
  rintro e w8 ⟨rfl, hb8⟩
  have HK8 := Lib.hid (HK7.out.below hb8)
  have HB8 := Lib.hid (HB7.out.trans (hb8.mono HB7.out.size))
  have hm7 := lit_marks (W := w8) [⟨⟨3, 1⟩, 1, 1⟩] (by show (1 : Nat) ≤ maxLen; decide) (fun m hm => by simp only [List.mem_cons, List.not_mem_nil, or_false] at hm; subst hm; exact ⟨⟨by decide, by decide⟩, ⟨by decide, by decide⟩, ⟨by decide, by decide⟩, ⟨by decide, by decide⟩⟩)
  have HM7 := Lib.hid hm7
  clear hb8 hm7
  go_wp2_with fail
  refine (l9item_any ⟨#[84, 101, 97]⟩ _ 1 1 _).mono ?_
  rintro e w9 ⟨rfl, hb9⟩
  have HZ := Lib.hid (HM7.out.marks hb9)
  have HK9 := Lib.hid ((HK8.out.below ((Below.refl _ _).alloc (Nat.le_refl _) _)).below hb9)
  have HB9 := Lib.hid ((HB8.out.alloc HB8.out.size _).trans (hb9.mono (by have := HB8.out.size; simp <;> omega)))
  clear hb9
  go_wp2_with fail
  refine (l9mark_any 1 1 9 9 _).mono ?_
  rintro e w10 ⟨rfl, hb10⟩
  have HZ10 := Lib.hid (HZ.out.marks hb10)
  have HK10 := Lib.hid (HK9.out.below hb10)
  have HB10 := Lib.hid (HB9.out.trans (hb10.mono HB9.out.size))
  have hm9 := lit_marks (W := w10) [⟨⟨1, 1⟩, 9, 9⟩] (by show (1 : Nat) ≤ maxLen; decide) (fun m hm => by simp only [List.mem_cons, List.not_mem_nil, or_false] at hm; subst hm; exact ⟨⟨by decide, by decide⟩, ⟨by decide, by decide⟩, ⟨by decide, by decide⟩, ⟨by decide, by decide⟩⟩)
  have HM9 := Lib.hid hm9
  clear hb10 hm9
  go_wp2_with fail
  refine (l9item_any ⟨#[84, 101, 97]⟩ _ 1 1 _).mono ?_
  rintro e w11 ⟨rfl, hb11⟩
  have HT := Lib.hid (HM9.out.marks hb11)
  have HK11 := Lib.hid ((HK10.out.below ((Below.refl _ _).alloc (Nat.le_refl _) _)).below hb11)
  have HB11 := Lib.hid ((HB10.out.alloc HB10.out.size _).trans (hb11.mono (by have := HB10.out.size; simp <;> omega)))
  have HZ11 := Lib.hid ((HZ10.out.marks ((Below.refl _ _).alloc (Nat.le_refl _) _)).marks hb11)
  clear hb11
  iterate 17 (first | go_values | go_skip | go_guarded | go_step | go_upon | go_back | go_simp)
  refine known6 (o1 := o1) (c1 := c1) (o2 := o2) (c2 := c2) (p6 := w11.heap.size) (p7 := w11.heap.size + 1) (oz := some ⟨w8.heap.size, 0, none⟩) (cz := 1) (ot := some ⟨w10.heap.size, 0, none⟩) (ct := 1) ?_ _ _ _ _ _ _ _ _ _ _ _ _ _ _ _ _ _ _ _ _ _ _ _ _ _ _ _ _ _ _ _ _ _ _ _ _ _ _ _ _ _ _ _ _ _ _ _ _ _ _ _ _ _ _ _ _ _ _ _ _ _ _ _ _ _ _ _ _ _ _ _ _ _ _ _ _ _ _ _ _ _ _ _ _ _ _ _ _ _ _ _ _ _ _ _ _ _ _ _ _ _ _ _ _ _ _ _ _ _ _ _ _ _ _ _ _ _ _ _ _ _ _ _ _ _ _ _ _ _ _ _ _ _ _ _
  have hal2 : Below w11.heap.size w11 ((w11.alloc (.cells #[.string ⟨#[84, 101, 97]⟩, .slice (some ⟨w8.heap.size, 0, none⟩) 1 1] 31)).alloc (.cells #[.string ⟨#[84, 101, 97]⟩, .slice (some ⟨w10.heap.size, 0, none⟩) 1 1] 31)) := ((Below.refl _ _).alloc (Nat.le_refl _) _).alloc (by simp) _
  refine ⟨HK11.out.below hal2, ⟨?_, ?_⟩, ⟨?_, ?_⟩, HB11.out.trans (hal2.mono HB11.out.size)⟩
  · rw [alloc_old _ _ (by simp)]; exact alloc_new _ _
  · exact HZ11.out.marks hal2
  · have := alloc_new (w11.alloc (.cells #[.string ⟨#[84, 101, 97]⟩, .slice (some ⟨w8.heap.size, 0, none⟩) 1 1] 31)) (.cells #[.string ⟨#[84, 101, 97]⟩, .slice (some ⟨w10.heap.size, 0, none⟩) 1 1] 31)
    rw [alloc_size] at this
    exact this
  · exact HT.out.marks hal2
set_option maxRecDepth 100000 in
set_option maxHeartbeats 8000000 in
theorem l9known_any (w : World) (hG : GlobIs w) : Calls Tryz.prog 10 #[] w fun e w' => e = .returned (.bool true) ∧ Below w.heap.size w w' := by
  have HG := Lib.hid hG
  clear hG
  go_enter Tryz.func10, Tryz.ntmps10
  go_wp2_with fail
  refine (l9mark_any 1 1 5 3 _).mono ?_
  rintro e w1 ⟨rfl, hb1⟩
  have HB1 := Lib.hid hb1
  have HX1 := Lib.hid (lit_marks (W := w1) [⟨⟨1, 1⟩, 5, 3⟩] (by show (1 : Nat) ≤ maxLen; decide) (fun m hm => by simp only [List.mem_cons, List.not_mem_nil, or_false] at hm; subst hm; exact ⟨⟨by decide, by decide⟩, ⟨by decide, by decide⟩, ⟨by decide, by decide⟩, ⟨by decide, by decide⟩⟩))
  clear hb1
  go_wp2_with fail
  refine (l9item_any ⟨#[84, 101, 97]⟩ _ 1 1 _).mono ?_
  rintro e w2 ⟨rfl, hb2⟩
  have HX2 := Lib.hid (HX1.out.marks hb2)
  have HB2 := Lib.hid ((HB1.out.alloc HB1.out.size _).trans (hb2.mono (by have := HB1.out.size; simp <;> omega)))
  clear hb2
  go_wp2_with fail
  refine (l9mark_any 2 1 7 4 _).mono ?_
  rintro e w3 ⟨rfl, hb3⟩
  have HX3 := Lib.hid (HX2.out.marks hb3)
  have HB3 := Lib.hid (HB2.out.trans (hb3.mono HB2.out.size))
  clear hb3
  go_wp2_with fail
  refine (l9mark_any 1 2 2 9 _).mono ?_
  rintro e w4 ⟨rfl, hb4⟩
  have HX4 := Lib.hid (HX3.out.marks hb4)
  have HB4 := Lib.hid (HB3.out.trans (hb4.mono HB3.out.size))
  have HY4 := Lib.hid (lit_marks (W := w4) [⟨⟨2, 1⟩, 7, 4⟩, ⟨⟨1, 2⟩, 2, 9⟩] (by show (2 : Nat) ≤ maxLen; decide) (fun m hm => by simp only [List.mem_cons, List.not_mem_nil, or_false] at hm; rcases hm with rfl | rfl <;> exact ⟨⟨by decide, by decide⟩, ⟨by decide, by decide⟩, ⟨by decide, by decide⟩, ⟨by decide, by decide⟩⟩))
  clear hb4
  go_wp2_with fail
  refine (l9item_any ⟨#[78, 117, 116]⟩ _ 2 2 _).mono ?_
  rintro e w5 ⟨rfl, hb5⟩
  have HX5 := Lib.hid ((HX4.out.marks ((Below.refl _ _).alloc (Nat.le_refl _) _)).marks hb5)
  have HY5 := Lib.hid (HY4.out.marks hb5)
  have HB5 := Lib.hid ((HB4.out.alloc HB4.out.size _).trans (hb5.mono (by have := HB4.out.size; simp <;> omega)))
  clear hb5
  obtain ⟨W6, hW6⟩ : ∃ W6, W6 = (w5.alloc (.cells #[.string ⟨#[84, 101, 97]⟩, .slice (some ⟨w1.heap.size, 0, none⟩) 1 1] 31)).alloc (.cells #[.string ⟨#[78, 117, 116]⟩, .slice (some ⟨w4.heap.size, 0, none⟩) 2 2] 31) := ⟨_, rfl⟩
  have hb6 : Below w5.heap.size w5 W6 := by rw [hW6]; exact ((Below.refl _ _).alloc (Nat.le_refl _) _).alloc (by simp) _
  have hs6 : W6.heap.size = w5.heap.size + 1 + 1 := by rw [hW6, alloc_size, alloc_size]
  have HP1 : Hid (ItP W6 w5.heap.size kX (some ⟨w1.heap.size, 0, none⟩) 1) := Lib.hid ⟨by rw [hW6, alloc_old _ _ (by simp)]; exact alloc_new _ _, HX5.out.marks hb6⟩
  have HP2 : Hid (ItP W6 (w5.heap.size + 1) kY (some ⟨w4.heap.size, 0, none⟩) 2) := Lib.hid ⟨by
    rw [hW6]
    have := alloc_new (w5.alloc (.cells #[.string ⟨#[84, 101, 97]⟩, .slice (some ⟨w1.heap.size, 0, none⟩) 1 1] 31)) (.cells #[.string ⟨#[78, 117, 116]⟩, .slice (some ⟨w4.heap.size, 0, none⟩) 2 2] 31)
    rw [alloc_size] at this
    exact this, HY5.out.marks hb6⟩
  have HL7 := Lib.hid (lit_items (W := W6) [⟨kY, some ⟨w4.heap.size, 0, none⟩, 2⟩, ⟨kX, some ⟨w1.heap.size, 0, none⟩, 1⟩] (by show (2 : Nat) ≤ maxLen; decide) (fun p hp => by
    simp only [List.mem_cons, List.not_mem_nil, or_false] at hp
    rcases hp with rfl | rfl
    · exact ⟨(show kY.name.size ≤ maxLen by decide), HP2.out.2⟩
    · exact ⟨(show kX.name.size ≤ maxLen by decide), HP1.out.2⟩))
  have HB6 := Lib.hid (HB5.out.trans (hb6.mono HB5.out.size))
  have HW6 := Lib.hid hW6
  rw [hs6] at HL7
  clear hb6 hW6
  go_wp2_with fail
  rw [← HW6.out]
  refine (l9of_any _ _).mono ?_
  rintro e wq ⟨rfl, hwq⟩
  subst hwq
  go_wp2_with fail
  refine (l9item_any ⟨#[84, 101, 97]⟩ none 0 0 _).mono ?_
  rintro e w8 ⟨rfl, hb8⟩
  have HL8 := Lib.hid (HL7.out.items hb8)
  have HP18 := Lib.hid ((HP1.out.below ((Below.refl _ _).alloc (Nat.le_refl _) _)).below hb8)
  have HP28 := Lib.hid ((HP2.out.below ((Below.refl _ _).alloc (Nat.le_refl _) _)).below hb8)
  have HB8 := Lib.hid ((HB6.out.alloc HB6.out.size _).trans (hb8.mono (by have := HB6.out.size; simp <;> omega)))
  clear hb8
  iterate 23 (first | go_values | go_skip | go_guarded | go_step | go_upon | go_back | go_simp)
  refine known3 (p1 := w5.heap.size) (p2 := w5.heap.size + 1) (p4 := w8.heap.size) (p5 := w8.heap.size + 1) (o1 := some ⟨w1.heap.size, 0, none⟩) (c1 := 1) (o2 := some ⟨w4.heap.size, 0, none⟩) (c2 := 2) (wb := w) ?_ ?_ _ _ _ _ _ _ _ _ _ _ _ _ _ _ _ _ _ _ _ _ _ _ _ _ _ _ _ _ _ _ _ _ _ _ _ _ _ _ _ _ _ _ _ _ _ _ _ _ _ _ _ _ _ _ _ _ _ _ _ _ _ _ _ _ _ _ _ _ _ _ _ _ _ _ _ _ _ _ _ _ _ _ _ _ _ _ _ _ _ _ _ _ _ _ _ _ _ _ _ _ _ _ _ _ _ _ _ _ _ _ _ _ _ _ _ _ _ _ _ _ _ _ _ _ _ _ _ _ _ _ _ _ _ _ _ _ _
  · have hal : Below w8.heap.size w8 ((w8.alloc (.cells #[.string ⟨#[84, 101, 97]⟩, .slice none 0 0] 31)).alloc (.cells #[.string ⟨#[]⟩, .slice none 0 0] 31)) := ((Below.refl _ _).alloc (Nat.le_refl _) _).alloc (by simp) _
    refine ⟨HP18.out.below hal, HP28.out.below hal, ⟨?_, arr_nil⟩, ⟨?_, arr_nil⟩, HL8.out.items hal, HG.out.below (HB8.out.trans (hal.mono HB8.out.size))⟩
    · rw [alloc_old _ _ (by simp)]; exact alloc_new _ _
    · have := alloc_new (w8.alloc (.cells #[.string ⟨#[84, 101, 97]⟩, .slice none 0 0] 31)) (.cells #[.string ⟨#[]⟩, .slice none 0 0] 31)
      rw [alloc_size] at this
      exact this
  · exact (HB8.out.alloc HB8.out.size _).alloc (by have := HB8.out.size; simp <;> omega) _
end Go.Proofs.YtjlhdgmcaiiagaaGreatDoor

