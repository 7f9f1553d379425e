/- `alike` walked: it is true of a book and a model with the same pages. -/
import Derived.Test.YtdeljhehcjknbaaDoorS51
import Derived.Test.YtdeljhehcjknbaaDoorS34
import Derived.Test.YtdeljhehcjknbaaDoorS22
import Derived.Deep.RegionLaw
import Derived.Deep.RegionHeld3
import Derived.Deep.AppendLies
import Derived.Deep.CutRange
import Derived.Deep.Cut
import Derived.Test.YtdeljhehcjknbaaDoorS53
namespace Go.Proofs.YtdeljhehcjknbaaDoor
open Go.RowKit Go.Maps Go.Sort Go.Lib

set_option maxRecDepth 100000 in
set_option maxHeartbeats 8000000 in
theorem alike_pages (A : List APg) (bB bM : Nat) (w : World) (hL : Looks w bB bM A) (u2 u3 u4 u5 u6 u7 u8 u9 u10 u11 u12 u13 u14 u15 u16 u17 u18 u19 u20 u21 u22 u23 u24 u25 u26 u27 u28 u29 u30 u31 u32 u33 u34 u35 u36 u37 u38 u39 u40 u41 u42 u43 u44 u45 u46 u47 u48 u49 u50 u51 u52 u53 u54 u55 u56 u57 u58 u59 u60 u61 u62 u63 u64 u65 u66 u67 u68 u69 u70 u71 u72 u73 u74 u75 u76 u77 u78 u79 u80 u81 u82 u83 u84 u85 u86 u87 u88 u89 u90 u91 u92 u93 u94 u95 u96 u97 u98 u99 u100 u101 u102 u103 u104 u105 u106 u107 u108 u109 u110 u111 u112 u113 u114 u115 u116 u117 u118 u119 u120 u121 u122 u123 u124 u125 u126 u127 u128 u129 u130 u131 u132 u133 u134 u135 u136 u137 u138 u139 u140 u141 u142 u143 u144 u145 u146 u147 u148 u149 u150 u151 u152 u153 u154 u155 u156 u157 u158 u159 u160 u161 u162 : Value)
    (R : Act → World → Prop) (hQ : ∀ (u6x u7x u8x u9x u10x u18x u19x u20x u21x u22x u23x u24x u25x u26x u27x u28x u29x u30x u31x u32x u33x u34x u35x u36x u37x u38x u39x u40x u41x u42x u43x u44x u45x u46x u47x u48x u49x u50x u51x u52x u53x u54x u55x u56x u57x u58x u59x u60x u61x u62x u63x u64x u65x u66x u67x u68x u69x : Value) (wx : World), Below w.heap.size w wx → R { tmps := #[.pointer (some ⟨bB, 0, none⟩), .pointer (some ⟨bM, 0, none⟩), u2, u3, u4, u5, u6x, u7x, u8x, u9x, u10x, u11, u12, u13, u14, u15, u16, u17, u18x, u19x, u20x, u21x, u22x, u23x, u24x, u25x, u26x, u27x, u28x, u29x, u30x, u31x, u32x, u33x, u34x, u35x, u36x, u37x, u38x, u39x, u40x, u41x, u42x, u43x, u44x, u45x, u46x, u47x, u48x, u49x, u50x, u51x, u52x, u53x, u54x, u55x, u56x, u57x, u58x, u59x, u60x, u61x, u62x, u63x, u64x, u65x, u66x, u67x, u68x, u69x, u70, u71, u72, u73, u74, u75, u76, u77, u78, u79, u80, u81, u82, u83, u84, u85, u86, u87, u88, u89, u90, u91, u92, u93, u94, u95, u96, u97, u98, u99, u100, u101, u102, u103, u104, u105, u106, u107, u108, u109, u110, u111, u112, u113, u114, u115, u116, u117, u118, u119, u120, u121, u122, u123, u124, u125, u126, u127, u128, u129, u130, u131, u132, u133, u134, u135, u136, u137, u138, u139, u140, u141, u142, u143, u144, u145, u146, u147, u148, u149, u150, u151, u152, u153, u154, u155, u156, u157, u158, u159, u160, u161, u162], defers := [] } wx) :
    (codeAt [1, 0] (Tryd.f24.body.getD .skip)).wp Tryd.prog (NQ R) { tmps := #[.pointer (some ⟨bB, 0, none⟩), .pointer (some ⟨bM, 0, none⟩), u2, u3, u4, u5, u6, u7, u8, u9, u10, u11, u12, u13, u14, u15, u16, u17, u18, u19, u20, u21, u22, u23, u24, u25, u26, u27, u28, u29, u30, u31, u32, u33, u34, u35, u36, u37, u38, u39, u40, u41, u42, u43, u44, u45, u46, u47, u48, u49, u50, u51, u52, u53, u54, u55, u56, u57, u58, u59, u60, u61, u62, u63, u64, u65, u66, u67, u68, u69, u70, u71, u72, u73, u74, u75, u76, u77, u78, u79, u80, u81, u82, u83, u84, u85, u86, u87, u88, u89, u90, u91, u92, u93, u94, u95, u96, u97, u98, u99, u100, u101, u102, u103, u104, u105, u106, u107, u108, u109, u110, u111, u112, u113, u114, u115, u116, u117, u118, u119, u120, u121, u122, u123, u124, u125, u126, u127, u128, u129, u130, u131, u132, u133, u134, u135, u136, u137, u138, u139, u140, u141, u142, u143, u144, u145, u146, u147, u148, u149, u150, u151, u152, u153, u154, u155, u156, u157, u158, u159, u160, u161, u162], defers := [] } w := by
  simp only [codeAt, codeL, codeR, Tryd.f24, Option.getD_some]
  have HL := Lib.hid hL
  clear hL
  go_wp2_with fail
  go_loopw [7] (fun i wr => ∃ k : Nat, k ≤ A.length ∧ i = .int .i64 k ∧ Below w.heap.size w wr) (fun i _ => A.length - (intOf i).toNat)
  case atStart => exact ⟨0, Nat.zero_le _, rfl, Below.refl _ _⟩
  case round =>
    obtain ⟨k, hk, rfl, hB⟩ := hrel
    obtain ⟨wo, rfl⟩ : ∃ wo : World, wo = wr := ⟨_, rfl⟩
    have HB := Lib.hid hB
    have HLW := Lib.hid (HL.out.below hB)
    obtain ⟨am, cm, c0, hbm, hpg⟩ := HLW.out.pages
    have hAl := HLW.out.len
    have HPG := Lib.hid hpg
    clear hpg hB
    by_cases hlt : k < A.length
    · obtain ⟨gA, rfl, hgA, hpgs⟩ := HPG.out (by intro e; rw [e] at hlt; simp at hlt)
      obtain ⟨mv, r0, r1, r2, hrd, how⟩ := hpgs k hlt
      have hml := HLW.out.ml A[k].cart
      have hk0 : (0 : Int) ≤ k := by omega
      have hk1 : (k : Int) < A.length := by omega
      have HOW := Lib.hid (HLW.out.owner)
      have HOE := Lib.hid how
      have HME := Lib.hid (HLW.out.members)
      clear hpgs how
      generalize A[k].cart = pc at *
      generalize A[k].owner = po at *
      have HOW := Lib.hid (fun wx (h : Below wo.heap.size wo wx) => show Calls Tryd.prog 19 #[.pointer (some ⟨bB, 0, none⟩), .string pc] wx fun e w' => e = .returned (.string po) ∧ w' = wx from by rw [← HOE.out]; exact HOW.out wx h pc)
      have HME := Lib.hid (fun wx (h : Below wo.heap.size wo wx) => HME.out wx h pc)
      generalize membersA A pc = M at *
      have HRD := Lib.hid hrd
      obtain ⟨am2, cm2, rfl, -, -, -⟩ := hrd
      clear HOE
      go_upto_region 5 with fail
      obtain ⟨W1, hW1⟩ : ∃ W1, W1 = wo.alloc (.cells #[.string pc, .string po, .slice am2 M.length cm2] 66) := ⟨_, rfl⟩
      have hb1 : Below wo.heap.size wo W1 := by rw [hW1]; exact (Below.refl _ _).alloc (Nat.le_refl _) _
      have hz1 : wo.heap.size < W1.heap.size := by rw [hW1]; simp
      have s0 : W1.cell? ⟨wo.heap.size, 0, none⟩ = some (.string pc) := by rw [hW1]; go_simp
      have s1 : W1.cell? ⟨wo.heap.size, 1, none⟩ = some (.string po) := by rw [hW1]; go_simp
      have s2 : W1.cell? ⟨wo.heap.size, 2, none⟩ = some (.slice am2 M.length cm2) := by rw [hW1]; go_simp
      rw [← hW1]
      clear hW1 r0 r1 r2
      have HB1 := Lib.hid hb1
      have HK : Hid (∀ wx, Below W1.heap.size W1 wx → (wx.cell? ⟨wo.heap.size, 0, none⟩ = some (.string pc) ∧ wx.cell? ⟨wo.heap.size, 1, none⟩ = some (.string po) ∧ wx.cell? ⟨wo.heap.size, 2, none⟩ = some (.slice am2 M.length cm2) ∧ Below W1.heap.size W1 wx)) := Lib.hid (fun wx h => ⟨by rw [h.cell (p := ⟨wo.heap.size, 0, none⟩) hz1]; exact s0, by rw [h.cell (p := ⟨wo.heap.size, 1, none⟩) hz1]; exact s1, by rw [h.cell (p := ⟨wo.heap.size, 2, none⟩) hz1]; exact s2, h⟩)
      have HBO := Lib.hid (fun wx (h : Below W1.heap.size W1 wx) => HB1.out.trans (h.mono HB1.out.size))
      have HT := Lib.hid (fun (wa wb : World) (h : Below W1.heap.size W1 wa) (h2 : Below wa.heap.size wa wb) => h.trans (h2.mono h.size))
      have HOW := Lib.hid (fun wx (h : Below W1.heap.size W1 wx) => HOW.out wx (HBO.out wx h))
      have HME := Lib.hid (fun wx (h : Below W1.heap.size W1 wx) => HME.out wx (HBO.out wx h))
      have HEQ := Lib.hid (fun wa wb vv (hrow : wa.ownsRow W1.heap.size 61 2 vv M.length (flatM M)) (ha : Below W1.heap.size W1 wa) (hb : Below wa.heap.size wa wb) => show Calls Tryd.prog 21 #[vv, .slice am2 M.length cm2] wb fun e w' => e = .returned (.bool true) ∧ ∃ n, w' = wb.drewN n from
        (membersEq_any _ _ M M wb ((Rd.of_own hrow (by unfold maxLen; omega)).below hb) (HRD.out.below (HBO.out wb (HT.out _ _ ha hb)))).mono fun e w' h => ⟨by rw [h.1]; simp, h.2⟩)
      clear hb1
      go_upto_region 6 with (go_at_call 18; refine (HME.out _ (Below.refl _ _)).mono ?_; rintro e w5 ⟨vv, rfl, hrow5, hb5⟩)
      obtain ⟨a5, c5, rfl⟩ := owns_slice hrow5
      have HOWN := Lib.hid (fun n => HOW.out (w5.drewN n) ⟨hb5.os, hb5.tape, hb5.output, hb5.size, hb5.block⟩)
      have HEQN := Lib.hid (fun n => HEQ.out w5 (w5.drewN n) _ hrow5 hb5 ⟨rfl, rfl, rfl, Nat.le_refl _, fun _ _ => rfl⟩)
      have HR5 := Lib.hid hrow5
      clear s0 s1 s2
      obtain ⟨s0, s1, s2, hbb5⟩ := HK.out w5 hb5
      have hz5 : wo.heap.size < w5.heap.size := Nat.lt_of_lt_of_le hz1 hb5.size
      clear hrow5 hb5
      go_quiet (first | (go_at_call 19; exact Calls.quiet_of_same (HOWN.out _)) | (go_at_call 21; exact Calls.quiet_of (HEQN.out _)))
      obtain ⟨W6, hW6⟩ : ∃ W6, W6 = w5.drewN nq := ⟨_, rfl⟩
      have hb6 : Below W1.heap.size W1 W6 := by rw [hW6]; exact ⟨hbb5.os, hbb5.tape, hbb5.output, hbb5.size, hbb5.block⟩
      have HR6 := Lib.hid (show W6.ownsRow W1.heap.size 61 2 (.slice a5 M.length c5) M.length (flatM M) from by rw [hW6]; exact HR5.out)
      rw [← hW6]
      have HB6 := Lib.hid hb6
      clear hW6 HR5 HEQN HOWN s0 s1 s2 hbb5 hb6
      go_wp2_with fail
      go_loopw [10] (fun i wr => ∃ (j : Nat) (xs : List Value), j ≤ M.length ∧ i = .int .i64 j ∧ wr.ownsRow W1.heap.size 61 2 (.slice a5 M.length c5) M.length xs ∧ Below W1.heap.size W1 wr) (fun i _ => M.length - (intOf i).toNat)
      case atStart => exact ⟨0, _, Nat.zero_le _, rfl, HR6.out, HB6.out⟩
      case round =>
        obtain ⟨j, xs, hj, rfl, hrow, hbj⟩ := hrel
        by_cases hjl : j < M.length
        · obtain ⟨g, c6, hv, hg1, hg2⟩ := hrow.form (by omega)
          cases hv
          obtain ⟨old, e1⟩ : ∃ old, wr.cell? ⟨g, j * 2 + 1, none⟩ = some old := by
            have hxl := hrow.1
            exact ⟨xs[j * 2 + 1]'(by omega), by rw [hrow.cellAt (j * 2 + 1) (by omega)]; simp⟩
          have e2 : wr.frozen? ⟨g, j * 2 + 1, none⟩ = false := hrow.frozenAt _
          have HST := Lib.hid (hrow.stored (j * 2 + 1) (.int .i64 0))
          have HBJ := Lib.hid hbj
          have hj0 : (0 : Int) ≤ j := by omega
          have hj1 : (j : Int) < M.length := by omega
          clear hrow hbj
          go_wp2_with fail
          go_roundw
          case rel => exact ⟨j + 1, _, by omega, by go_num, HST.out.1, HBJ.out.grown HST.out.2 HBJ.out.size (fun k hk => by cases hk; exact hg1)⟩
          case measure => simp [intOf]; omega
        · have hje : j = M.length := by omega
          subst hje
          have HBJ := Lib.hid hbj
          obtain ⟨s0, s1, s2, hbr⟩ := HK.out _ hbj
          have hzr : wo.heap.size < wr.heap.size := Nat.lt_of_lt_of_le hz1 hbj.size
          clear hrow hbj hbr
          obtain ⟨w6, rfl⟩ : ∃ w6 : World, w6 = wr := ⟨_, rfl⟩
          have HME6 := Lib.hid (HME.out w6.drew HBJ.out.drew)
          have HEQ6 := Lib.hid (fun wa vv (hrow : wa.ownsRow w6.heap.size 61 2 vv M.length (flatM M)) (ha : Below w6.heap.size w6 wa) => HEQ.out wa wa vv (row_mono hrow HBJ.out.size) (HT.out _ _ HBJ.out ha) (Below.refl _ _))
          go_upto_region 12 with fail
          go_cut [69] from 62 to 69 (fun b wx => b = .bool false ∧ Below w6.heap.size w6 wx)
          case first =>
            refine NQ.to ?_
            go_region_law (first | (go_simp; go_at_call 21; refine (HEQ6.out w8 v8 hrow8 hb8).mono ?_; rintro e w9 ⟨rfl, n9, rfl⟩) | (go_simp; go_at_call 18; refine (HME6.out).mono ?_; rintro e w8 ⟨v8, rfl, hrow8, hb8⟩; have hb8 : Below w6.heap.size w6 w8 := ((Below.refl _ _).drew).trans hb8; have q0 : w8.cell? ⟨wo.heap.size, 0, none⟩ = some (.string pc) := (by rw [hb8.cell (p := ⟨wo.heap.size, 0, none⟩) hzr]; exact s0); have q2 : w8.cell? ⟨wo.heap.size, 2, none⟩ = some (.slice am2 M.length cm2) := (by rw [hb8.cell (p := ⟨wo.heap.size, 2, none⟩) hzr]; exact s2)))
            all_goals
              simp only [NQ]
              go_wp2
              go_meet
              case rel => exact ⟨rfl, ⟨hb8.os, hb8.tape, hb8.output, hb8.size, hb8.block⟩⟩
          case rest =>
            obtain ⟨rfl, hbx⟩ := hcut
            go_wp2_with fail
            go_roundw
            case rel => exact ⟨k + 1, by omega, by go_num, HB.out.trans ((HBO.out _ (HT.out _ _ HBJ.out hbx)).mono HB.out.size)⟩
            case measure => simp [intOf]; omega
    · have hke : k = A.length := by omega
      subst hke
      go_wp2_with fail
      show R _ _
      apply hQ
      exact HB.out
end Go.Proofs.YtdeljhehcjknbaaDoor
namespace Go.Proofs.YtdeljhehcjknbaaDoor
open Go.RowKit Go.Maps Go.Sort Go.Lib

def nsc : ByteArray := ⟨#[110, 111, 32, 115, 117, 99, 104, 32, 99, 97, 114, 116]⟩
theorem Looks.nobody {w : World} {bB bM : Nat} {A : List APg} (h : Looks w bB bM A) : aFind A nsc = none := by
  cases e : aFind A nsc with
  | none => rfl
  | some x =>
    obtain ⟨h1, h2⟩ := aFind_in e
    have := h.keys x h1
    rw [h2] at this
    exact absurd this (by decide)

set_option maxRecDepth 100000 in
set_option maxHeartbeats 4000000 in
theorem alike_any (A : List APg) (pl : List ByteArray) (bB bM : Nat) (v2 : Value) (w : World) (hL : Looks w bB bM A) (hP : Rd w v2 1 pl.length (flatS pl)) :
    Calls Tryd.prog 24 #[.pointer (some ⟨bB, 0, none⟩), .pointer (some ⟨bM, 0, none⟩), v2] w fun e w' => e = .returned (.bool true) ∧ Below w.heap.size w w' := by
  have HL := Lib.hid hL
  have HP := Lib.hid hP
  have hnb := hL.nobody
  have HO := Lib.hid (show ownA A nsc = ⟨#[]⟩ by unfold ownA; rw [hnb]; rfl)
  have HM := Lib.hid (show membersA A nsc = [] by unfold membersA; rw [hnb])
  have HR := Lib.hid (show rightsA A ann nsc = 0 by unfold rightsA; rw [hnb])
  clear hL hP hnb
  go_enter Tryd.func24, Tryd.ntmps24
  iterate 10 (first | go_values | go_skip | go_guarded | go_step | go_upon | go_back | go_simp)
  refine NQ.to (alike_pages A bB bM w HL.out _ _ _ _ _ _ _ _ _ _ _ _ _ _ _ _ _ _ _ _ _ _ _ _ _ _ _ _ _ _ _ _ _ _ _ _ _ _ _ _ _ _ _ _ _ _ _ _ _ _ _ _ _ _ _ _ _ _ _ _ _ _ _ _ _ _ _ _ _ _ _ _ _ _ _ _ _ _ _ _ _ _ _ _ _ _ _ _ _ _ _ _ _ _ _ _ _ _ _ _ _ _ _ _ _ _ _ _ _ _ _ _ _ _ _ _ _ _ _ _ _ _ _ _ _ _ _ _ _ _ _ _ _ _ _ _ _ _ _ _ _ _ _ _ _ _ _ _ _ _ _ _ _ _ _ _ _ _ _ _ _ _ ?_)
  intros
  rename_i w1 hb1
  iterate 3 (first | go_values | go_skip | go_guarded | go_step | go_upon | go_back | go_simp)
  refine NQ.to (alike_carts A pl bB bM v2 w1 (HL.out.below hb1) (HP.out.below hb1) _ _ _ _ _ _ _ _ _ _ _ _ _ _ _ _ _ _ _ _ _ _ _ _ _ _ _ _ _ _ _ _ _ _ _ _ _ _ _ _ _ _ _ _ _ _ _ _ _ _ _ _ _ _ _ _ _ _ _ _ _ _ _ _ _ _ _ _ _ _ _ _ _ _ _ _ _ _ _ _ _ _ _ _ _ _ _ _ _ _ _ _ _ _ _ _ _ _ _ _ _ _ _ _ _ _ _ _ _ _ _ _ _ _ _ _ _ _ _ _ _ _ _ _ _ _ _ _ _ _ _ _ _ _ _ _ _ _ _ _ _ _ _ _ _ _ _ _ _ _ _ _ _ _ _ _ _ _ _ _ _ ?_)
  intros
  rename_i w2 hb2
  have HB2 := Lib.hid (hb1.trans (hb2.mono hb1.size))
  have HOW := Lib.hid (show Calls Tryd.prog 19 #[.pointer (some ⟨bB, 0, none⟩), .string ⟨#[110, 111, 32, 115, 117, 99, 104, 32, 99, 97, 114, 116]⟩] w2 fun e w' => e = .returned (.string ⟨#[]⟩) ∧ w' = w2 from by rw [← HO.out]; exact HL.out.owner w2 HB2.out nsc)
  have HME := Lib.hid (show Calls Tryd.prog 18 #[.pointer (some ⟨bB, 0, none⟩), .string ⟨#[110, 111, 32, 115, 117, 99, 104, 32, 99, 97, 114, 116]⟩] w2 (MembersPost [] w2) from by rw [← HM.out]; exact HL.out.members w2 HB2.out nsc)
  have HRI := Lib.hid (fun w3 (h3 : Below w2.heap.size w2 w3) => show Calls Tryd.prog 20 #[.pointer (some ⟨bB, 0, none⟩), .string ⟨#[97, 110, 110]⟩, .string ⟨#[110, 111, 32, 115, 117, 99, 104, 32, 99, 97, 114, 116]⟩] w3 fun e w' => e = .returned (.int .i64 0) ∧ w' = w3 from by rw [← HR.out]; exact HL.out.rights w3 (HB2.out.trans (h3.mono HB2.out.size)) ann nsc)
  clear hb1 hb2
  go_wp2_with (first | (go_at_call 19; refine HOW.out.mono ?_; rintro e w3 ⟨rfl, rfl⟩) | (go_at_call 18; refine HME.out.mono ?_; rintro e w4 ⟨v4, rfl, hrow4, hb4⟩; obtain ⟨a4, c4, rfl⟩ := owns_slice hrow4) | (go_at_call 20; refine (HRI.out _ hb4).mono ?_; rintro e w5 ⟨rfl, rfl⟩))
  go_ret
  exact ⟨rfl, HB2.out.trans (hb4.mono HB2.out.size)⟩
end Go.Proofs.YtdeljhehcjknbaaDoor
