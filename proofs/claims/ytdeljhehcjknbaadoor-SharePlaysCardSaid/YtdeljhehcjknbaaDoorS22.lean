/- The tests of a round of ShareHolds walked: none of them ends the round, for every call and every book. -/
import Derived.Test.YtdeljhehcjknbaaDoorS16
import Derived.Test.YtdeljhehcjknbaaDoorS20
import Derived.Test.YtdeljhehcjknbaaDoorS21
import Derived.Deep.CutRange
import Derived.Deep.RegionHeld3
namespace Go.Proofs.YtdeljhehcjknbaaDoor
open Go.RowKit Go.Maps Go.Sort Go.Lib

/-- A part of a function's text: by its road from the text's head. -/
def codeL : Code → Code
  | .seq a _ => a
  | .cond _ a _ => a
  | .block _ a => a
  | .loop a => a
  | .scope a => a
  | c => c
def codeR : Code → Code
  | .seq _ b => b
  | .cond _ _ b => b
  | c => c
def codeAt : List Nat → Code → Code
  | [], c => c
  | 0 :: l, c => codeAt l (codeL c)
  | _ :: l, c => codeAt l (codeR c)
set_option maxRecDepth 100000 in
set_option maxHeartbeats 4000000 in
theorem tests16 (A A' : List APg) (what right E : Int) (by_ crt who cart : ByteArray) (bB pB : Nat) (w3 : World)
    (HF0 : Hid (∀ wx, Below w3.heap.size w3 wx → wx.cell? ⟨pB, 0, none⟩ = some (.int .i64 what)))
    (HF1 : Hid (∀ wx, Below w3.heap.size w3 wx → wx.cell? ⟨pB, 1, none⟩ = some (.string by_)))
    (HF2 : Hid (∀ wx, Below w3.heap.size w3 wx → wx.cell? ⟨pB, 2, none⟩ = some (.string crt)))
    (HF3 : Hid (∀ wx, Below w3.heap.size w3 wx → wx.cell? ⟨pB, 3, none⟩ = some (.string who)))
    (HF4 : Hid (∀ wx, Below w3.heap.size w3 wx → wx.cell? ⟨pB, 4, none⟩ = some (.int .i64 right)))
    (HOW3 : Hid (∀ wx, Below w3.heap.size w3 wx → ∀ c, Calls Tryd.prog 19 #[.pointer (some ⟨bB, 0, none⟩), .string c] wx fun e w' => e = .returned (.string (ownA A' c)) ∧ wx = w'))
    (HME3 : Hid (∀ wx, Below w3.heap.size w3 wx → Calls Tryd.prog 18 #[.pointer (some ⟨bB, 0, none⟩), .string cart] wx (MembersPost (membersA A' cart) wx)))
    (HRI3 : Hid (∀ wx, Below w3.heap.size w3 wx → ∀ u v, Calls Tryd.prog 20 #[.pointer (some ⟨bB, 0, none⟩), .string u, .string v] wx fun e w' => e = .returned (.int .i64 (rightsA A' u v)) ∧ wx = w'))
    (HSAME : Hid (E ≠ 0 ∨ crt ≠ cart ∨ what = 4 → aFind A' cart = aFind A cart))
    (HNONE : Hid (ownA A' cart = ⟨#[]⟩ → aFind A' cart = none))
    (HGONE : Hid (ownA A cart ≠ ⟨#[]⟩ → ownA A' cart = ⟨#[]⟩ → what = 1 ∧ by_ = ownA A cart))
    (HGRANT : Hid (what = 2 → E = 0 → rightsA A' who crt = right ∧ bits .and .i64 (bits .xor .i64 right (rightsA A who crt)) (rightsA A by_ crt) = bits .xor .i64 right (rightsA A who crt) ∧ 8 ≤ rightsA A by_ crt))
    (HPASS : Hid (what = 3 → E = 0 → rightsA A by_ crt = 15 ∧ ownA A' crt = who ∧ rightsA A' by_ crt = 15))
    (sm : Bool) (wc : World) (HBW4 : Hid (Below w3.heap.size w3 wc)) (u0 u2 u3 u4 u6 u9 u14 u15 u16 u17 u18 u19 u20 u21 u22 u23 u24 u25 u26 u27 u28 u29 u30 u31 u32 u33 u34 u35 u36 u37 u38 u39 u40 u41 u42 u43 u44 u45 u46 u47 u48 u49 u50 u51 u52 u53 u54 u55 u56 u57 u58 u59 u60 u61 u62 u63 u64 u65 u66 u67 u68 u69 u70 u71 u72 u73 u74 u75 u76 u77 u78 u79 u80 u81 u82 u83 u84 u85 u86 u87 u88 u89 u90 u91 u92 u93 u94 u95 u96 u97 u98 u99 u100 u101 u102 u103 u104 u105 u106 u107 u108 u109 u110 u111 u112 u113 u114 u115 u116 u117 u118 u119 u120 u121 u122 u123 u124 u125 u126 u127 u128 u129 u130 u131 u132 u133 u134 u135 u136 u137 u138 u139 u140 u141 u142 u143 u144 u145 u146 u147 u148 u149 u150 u151 u152 u153 u154 u155 u156 u157 u158 u159 u160 u161 u162 u163 u164 u165 u166 u167 u168 u169 u170 u171 u172 u173 u174 u175 u176 u177 u178 u179 u180 u181 u182 u183 u184 u185 u186 u187 u188 u189 : Value)
    (Q : Exit → Act → World → Prop) (hQ : ∀ (u14x u98x u99x u100x u101x u102x u103x u104x u105x u106x u107x u108x u109x u110x u111x u112x u113x u114x u115x u116x u117x u118x u119x u120x u121x u122x u123x u124x u125x u126x u127x u128x u129x u130x u131x u132x u133x u134x u135x u136x u137x u138x u139x u140x u141x u142x u143x u144x u145x u146x u147x u148x u149x u150x u151x u152x u153x u154x u155x u156x u157x u158x u159x u160x u161x u162x u163x u164x u165x u166x u167x u168x u169x u170x u171x u172x u173x u174x u175x u176x u177x u178x u179x u180x u181x u182x u183x u184x u185x u186x u187x u188x : Value) (wx : World), Below w3.heap.size w3 wx → Q .normal { tmps := #[u0, .string cart, u2, u3, u4, .pointer (some ⟨bB, 0, none⟩), u6, .pointer (some ⟨pB, 0, none⟩), .string (ownA A cart), u9, .int .i64 (rightsA A by_ crt), .int .i64 (rightsA A who crt), .int .i64 E, .bool sm, u14x, u15, u16, u17, u18, u19, u20, u21, u22, u23, u24, u25, u26, u27, u28, u29, u30, u31, u32, u33, u34, u35, u36, u37, u38, u39, u40, u41, u42, u43, u44, u45, u46, u47, u48, u49, u50, u51, u52, u53, u54, u55, u56, u57, u58, u59, u60, u61, u62, u63, u64, u65, u66, u67, u68, u69, u70, u71, u72, u73, u74, u75, u76, u77, u78, u79, u80, u81, u82, u83, u84, u85, u86, u87, u88, u89, u90, u91, u92, u93, u94, u95, u96, u97, u98x, u99x, u100x, u101x, u102x, u103x, u104x, u105x, u106x, u107x, u108x, u109x, u110x, u111x, u112x, u113x, u114x, u115x, u116x, u117x, u118x, u119x, u120x, u121x, u122x, u123x, u124x, u125x, u126x, u127x, u128x, u129x, u130x, u131x, u132x, u133x, u134x, u135x, u136x, u137x, u138x, u139x, u140x, u141x, u142x, u143x, u144x, u145x, u146x, u147x, u148x, u149x, u150x, u151x, u152x, u153x, u154x, u155x, u156x, u157x, u158x, u159x, u160x, u161x, u162x, u163x, u164x, u165x, u166x, u167x, u168x, u169x, u170x, u171x, u172x, u173x, u174x, u175x, u176x, u177x, u178x, u179x, u180x, u181x, u182x, u183x, u184x, u185x, u186x, u187x, u188x, u189], defers := [] } wx) :
    (codeAt [1, 1, 1, 0, 1, 0, 0, 1, 0, 0, 1, 1, 1, 1, 1, 1, 1] (Tryd.f5.body.getD .skip)).wp Tryd.prog Q { tmps := #[u0, .string cart, u2, u3, u4, .pointer (some ⟨bB, 0, none⟩), u6, .pointer (some ⟨pB, 0, none⟩), .string (ownA A cart), u9, .int .i64 (rightsA A by_ crt), .int .i64 (rightsA A who crt), .int .i64 E, .bool sm, u14, u15, u16, u17, u18, u19, u20, u21, u22, u23, u24, u25, u26, u27, u28, u29, u30, u31, u32, u33, u34, u35, u36, u37, u38, u39, u40, u41, u42, u43, u44, u45, u46, u47, u48, u49, u50, u51, u52, u53, u54, u55, u56, u57, u58, u59, u60, u61, u62, u63, u64, u65, u66, u67, u68, u69, u70, u71, u72, u73, u74, u75, u76, u77, u78, u79, u80, u81, u82, u83, u84, u85, u86, u87, u88, u89, u90, u91, u92, u93, u94, u95, u96, u97, u98, u99, u100, u101, u102, u103, u104, u105, u106, u107, u108, u109, u110, u111, u112, u113, u114, u115, u116, u117, u118, u119, u120, u121, u122, u123, u124, u125, u126, u127, u128, u129, u130, u131, u132, u133, u134, u135, u136, u137, u138, u139, u140, u141, u142, u143, u144, u145, u146, u147, u148, u149, u150, u151, u152, u153, u154, u155, u156, u157, u158, u159, u160, u161, u162, u163, u164, u165, u166, u167, u168, u169, u170, u171, u172, u173, u174, u175, u176, u177, u178, u179, u180, u181, u182, u183, u184, u185, u186, u187, u188, u189], defers := [] } wc := by
  simp only [codeAt, codeL, codeR, Tryd.f5, Option.getD_some]
  have f0 := HF0.out _ HBW4.out
  have f1 := HF1.out _ HBW4.out
  have f2 := HF2.out _ HBW4.out
  have f3 := HF3.out _ HBW4.out
  have f4 := HF4.out _ HBW4.out
  have hemp : ∀ s : ByteArray, s ≠ ⟨#[]⟩ → s.toList.isEmpty = false := fun s hs => by rw [bytes_isEmpty]; exact decide_eq_false (fun h => hs (by rw [ByteArray.ext_iff]; exact Array.eq_empty_of_size_eq_zero h))
  have hemp1 : ∀ s : ByteArray, s = ⟨#[]⟩ → s.toList.isEmpty = true := fun s hs => by rw [hs, bytes_isEmpty]; rfl
  have HEM := Lib.hid hemp
  have HEM1 := Lib.hid hemp1
  clear hemp hemp1
  go_upto_region 16 with fail
  go_cut [116] from 98 to 188 (fun sv wx => sv = .bool false ∧ wx = wc)
  case first =>
    by_cases ho : ownA A cart = ⟨#[]⟩
    · have hos := HEM1.out _ ho
      clear ho
      go_wp2_with fail
      go_meet
      case rel => exact ⟨rfl, rfl⟩
    · have hos := HEM.out _ ho
      by_cases hn : ownA A' cart = ⟨#[]⟩
      · have hns := HEM1.out _ hn
        obtain ⟨hw1, hby⟩ := HGONE.out ho hn
        subst hw1
        have hbys := str_eq hby
        clear ho hn hby
        go_wp2_with (go_at_call 19; refine (HOW3.out _ HBW4.out _).mono ?_; rintro e w5 ⟨rfl, rfl⟩)
        go_meet
        case rel => exact ⟨rfl, rfl⟩
      · have hns := HEM.out _ hn
        clear ho hn
        go_wp2_with (go_at_call 19; refine (HOW3.out _ HBW4.out _).mono ?_; rintro e w5 ⟨rfl, rfl⟩)
        go_meet
        case rel => exact ⟨rfl, rfl⟩
  case rest =>
    obtain ⟨rfl, rfl⟩ := hcut
    go_upto_region 18 with fail
    go_cut [127] from 98 to 188 (fun sv wx => sv = .bool false ∧ Below w3.heap.size w3 wx)
    case first =>
      by_cases hn : ownA A' cart = ⟨#[]⟩
      · have hns := HEM1.out _ hn
        have hm0 : membersA A' cart = [] := by unfold membersA; rw [HNONE.out hn]
        have hme := fun wx h => HME3.out wx h
        rw [hm0] at hme
        have HME0 := Lib.hid hme
        clear hme hn hm0
        go_wp2_with (first | (go_at_call 19; refine (HOW3.out _ HBW4.out _).mono ?_; rintro e w5 ⟨rfl, rfl⟩) | (go_at_call 18; refine (HME0.out _ HBW4.out).mono ?_; rintro e w5 ⟨vv, rfl, hrow4, hb4⟩; obtain ⟨-, ⟨rfl, -⟩ | ⟨g, cap, cur, rfl, -, -, -, -, -, -⟩⟩ := hrow4))
        all_goals
          go_meet
          case rel => exact ⟨rfl, HBW4.out.trans (hb4.mono HBW4.out.size)⟩
      · have hns := HEM.out _ hn
        clear hn
        go_wp2_with (go_at_call 19; refine (HOW3.out _ HBW4.out _).mono ?_; rintro e w5 ⟨rfl, rfl⟩)
        go_meet
        case rel => exact ⟨rfl, HBW4.out⟩
    case rest =>
      clear f0 f1 f2 f3 f4 HBW4
      obtain ⟨rfl, hb5⟩ := hcut
      have f0 := HF0.out _ hb5
      have f1 := HF1.out _ hb5
      have f2 := HF2.out _ hb5
      have f3 := HF3.out _ hb5
      have f4 := HF4.out _ hb5
      have HBW5 := Lib.hid hb5
      clear hb5
      by_cases hE : E = 0
      · subst hE
        by_cases h2 : what = 2
        · subst h2
          obtain ⟨g1, g2, g3⟩ := HGRANT.out rfl rfl
          have hri := HRI3.out _ HBW5.out who crt
          rw [g1] at hri
          have HRG := Lib.hid hri
          have g4 : (bits .and .i64 (bits .xor .i64 right (rightsA A who crt)) (rightsA A by_ crt) != bits .xor .i64 right (rightsA A who crt)) = false := by rw [g2]; simp
          have g5 : decide (rightsA A by_ crt < 8) = false := decide_eq_false (by omega)
          clear hri g1 g2 g3 HGRANT
          go_wp2_with (first | (go_at_call 20; refine HRG.out.mono ?_; rintro e w6 ⟨rfl, rfl⟩))
          go_quiet (fail)
          go_wp2
          exact below_drewN HBW5.out _
        · have h2b : (what == 2) = false := by simpa using h2
          by_cases h3 : what = 3
          · subst h3
            obtain ⟨g1, g2, g3⟩ := HPASS.out rfl rfl
            have hri := fun n => HRI3.out _ (below_drewN HBW5.out n) by_ crt
            rw [g3] at hri
            have HRG := Lib.hid hri
            have how := fun n => HOW3.out _ (below_drewN HBW5.out n) crt
            rw [g2] at how
            have HOG := Lib.hid how
            have g4 : (rightsA A by_ crt != 15) = false := by rw [g1]; rfl
            clear hri how g1 g2 g3 HGRANT
            go_upto_region 24 with fail
            go_quiet (first | (go_at_call 19; exact Calls.quiet_of_same ((HOG.out _).mono (by rintro e w' ⟨rfl, h⟩; exact ⟨rfl, h.symm⟩))) | (go_at_call 20; exact Calls.quiet_of_same ((HRG.out _).mono (by rintro e w' ⟨rfl, h⟩; exact ⟨rfl, h.symm⟩))))
            go_wp2
            exact below_drewN HBW5.out _
          · have h3b : (what == 3) = false := by simpa using h3
            go_upto_region 24 with fail
            go_quiet (fail)
            go_wp2
            exact below_drewN HBW5.out _
      · have hEb : (E == 0) = false := by simpa using hE
        go_upto_region 24 with fail
        go_quiet (fail)
        go_wp2
        exact below_drewN HBW5.out _
end Go.Proofs.YtdeljhehcjknbaaDoor
