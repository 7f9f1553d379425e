/- The tests of a round of ShareHolds walked: none of them ends the round, for every call and every book. -/
import Derived.Test.YtdeljhehcjknbaaDoorS16
import Derived.Test.YtdeljhehcjknbaaDoorS20
import Derived.Test.YtdeljhehcjknbaaDoorS21
import Derived.Test.YtdeljhehcjknbaaDoorS22
import Derived.Deep.CutRange
import Derived.Deep.RegionHeld3
namespace Go.Proofs.YtdeljhehcjknbaaDoor
open Go.RowKit Go.Maps Go.Sort Go.Lib

set_option maxRecDepth 100000 in
set_option maxHeartbeats 4000000 in
theorem tests13 (u9 : Value) (A A' : List APg) (what right E : Int) (by_ crt who cart : ByteArray) (bB pB : Nat) (w3 : World)
    (HF0 : Hid (∀ wx, Below w3.heap.size w3 wx → wx.cell? ⟨pB, 0, none⟩ = some (.int .i64 what)))
    (HF1 : Hid (∀ wx, Below w3.heap.size w3 wx → wx.cell? ⟨pB, 1, none⟩ = some (.string by_)))
    (HF2 : Hid (∀ wx, Below w3.heap.size w3 wx → wx.cell? ⟨pB, 2, none⟩ = some (.string crt)))
    (HF3 : Hid (∀ wx, Below w3.heap.size w3 wx → wx.cell? ⟨pB, 3, none⟩ = some (.string who)))
    (HF4 : Hid (∀ wx, Below w3.heap.size w3 wx → wx.cell? ⟨pB, 4, none⟩ = some (.int .i64 right)))
    (HOW3 : Hid (∀ wx, Below w3.heap.size w3 wx → ∀ c, Calls Tryd.prog 19 #[.pointer (some ⟨bB, 0, none⟩), .string c] wx fun e w' => e = .returned (.string (ownA A' c)) ∧ wx = w'))
    (HME3 : Hid (∀ wx, Below w3.heap.size w3 wx → Calls Tryd.prog 18 #[.pointer (some ⟨bB, 0, none⟩), .string cart] wx (MembersPost (membersA A' cart) wx)))
    (HRI3 : Hid (∀ wx, Below w3.heap.size w3 wx → ∀ u v, Calls Tryd.prog 20 #[.pointer (some ⟨bB, 0, none⟩), .string u, .string v] wx fun e w' => e = .returned (.int .i64 (rightsA A' u v)) ∧ wx = w'))
    (HML3 : Hid ((membersA A' cart).length ≤ 50))
    (HSAME : Hid (E ≠ 0 ∨ crt ≠ cart ∨ what = 4 → aFind A' cart = aFind A cart))
    (HNONE : Hid (ownA A' cart = ⟨#[]⟩ → aFind A' cart = none))
    (HGONE : Hid (ownA A cart ≠ ⟨#[]⟩ → ownA A' cart = ⟨#[]⟩ → what = 1 ∧ by_ = ownA A cart))
    (HGRANT : Hid (what = 2 → E = 0 → rightsA A' who crt = right ∧ bits .and .i64 (bits .xor .i64 right (rightsA A who crt)) (rightsA A by_ crt) = bits .xor .i64 right (rightsA A who crt) ∧ 8 ≤ rightsA A by_ crt))
    (HPASS : Hid (what = 3 → E = 0 → rightsA A by_ crt = 15 ∧ ownA A' crt = who ∧ rightsA A' by_ crt = 15))
    (HRD3 : Hid (Rd w3 u9 2 (membersA A cart).length (flatM (membersA A cart)))) (u0 u2 u3 u4 u6 u13 u14 u15 u16 u17 u18 u19 u20 u21 u22 u23 u24 u25 u26 u27 u28 u29 u30 u31 u32 u33 u34 u35 u36 u37 u38 u39 u40 u41 u42 u43 u44 u45 u46 u47 u48 u49 u50 u51 u52 u53 u54 u55 u56 u57 u58 u59 u60 u61 u62 u63 u64 u65 u66 u67 u68 u69 u70 u71 u72 u73 u74 u75 u76 u77 u78 u79 u80 u81 u82 u83 u84 u85 u86 u87 u88 u89 u90 u91 u92 u93 u94 u95 u96 u97 u98 u99 u100 u101 u102 u103 u104 u105 u106 u107 u108 u109 u110 u111 u112 u113 u114 u115 u116 u117 u118 u119 u120 u121 u122 u123 u124 u125 u126 u127 u128 u129 u130 u131 u132 u133 u134 u135 u136 u137 u138 u139 u140 u141 u142 u143 u144 u145 u146 u147 u148 u149 u150 u151 u152 u153 u154 u155 u156 u157 u158 u159 u160 u161 u162 u163 u164 u165 u166 u167 u168 u169 u170 u171 u172 u173 u174 u175 u176 u177 u178 u179 u180 u181 u182 u183 u184 u185 u186 u187 u188 u189 : Value)
    (Q : Exit → Act → World → Prop) (hQ : ∀ (u13x u14x u26x u27x u28x u29x u30x u31x u32x u33x u34x u35x u36x u37x u38x u39x u40x u41x u42x u43x u44x u45x u46x u47x u48x u49x u50x u51x u52x u53x u54x u55x u56x u57x u58x u59x u60x u61x u62x u63x u64x u65x u66x u67x u68x u69x u70x u71x u72x u73x u74x u75x u76x u77x u78x u79x u80x u81x u82x u83x u84x u85x u86x u87x u88x u89x u90x u91x u92x u93x u94x u95x u96x u97x u98x u99x u100x u101x u102x u103x u104x u105x u106x u107x u108x u109x u110x u111x u112x u113x u114x u115x u116x u117x u118x u119x u120x u121x u122x u123x u124x u125x u126x u127x u128x u129x u130x u131x u132x u133x u134x u135x u136x u137x u138x u139x u140x u141x u142x u143x u144x u145x u146x u147x u148x u149x u150x u151x u152x u153x u154x u155x u156x u157x u158x u159x u160x u161x u162x u163x u164x u165x u166x u167x u168x u169x u170x u171x u172x u173x u174x u175x u176x u177x u178x u179x u180x u181x u182x u183x u184x u185x u186x u187x u188x : Value) (wx : World), Below w3.heap.size w3 wx → Q .normal { tmps := #[u0, .string cart, u2, u3, u4, .pointer (some ⟨bB, 0, none⟩), u6, .pointer (some ⟨pB, 0, none⟩), .string (ownA A cart), u9, .int .i64 (rightsA A by_ crt), .int .i64 (rightsA A who crt), .int .i64 E, u13x, u14x, u15, u16, u17, u18, u19, u20, u21, u22, u23, u24, u25, u26x, u27x, u28x, u29x, u30x, u31x, u32x, u33x, u34x, u35x, u36x, u37x, u38x, u39x, u40x, u41x, u42x, u43x, u44x, u45x, u46x, u47x, u48x, u49x, u50x, u51x, u52x, u53x, u54x, u55x, u56x, u57x, u58x, u59x, u60x, u61x, u62x, u63x, u64x, u65x, u66x, u67x, u68x, u69x, u70x, u71x, u72x, u73x, u74x, u75x, u76x, u77x, u78x, u79x, u80x, u81x, u82x, u83x, u84x, u85x, u86x, u87x, u88x, u89x, u90x, u91x, u92x, u93x, u94x, u95x, u96x, u97x, u98x, u99x, u100x, u101x, u102x, u103x, u104x, u105x, u106x, u107x, u108x, u109x, u110x, u111x, u112x, u113x, u114x, u115x, u116x, u117x, u118x, u119x, u120x, u121x, u122x, u123x, u124x, u125x, u126x, u127x, u128x, u129x, u130x, u131x, u132x, u133x, u134x, u135x, u136x, u137x, u138x, u139x, u140x, u141x, u142x, u143x, u144x, u145x, u146x, u147x, u148x, u149x, u150x, u151x, u152x, u153x, u154x, u155x, u156x, u157x, u158x, u159x, u160x, u161x, u162x, u163x, u164x, u165x, u166x, u167x, u168x, u169x, u170x, u171x, u172x, u173x, u174x, u175x, u176x, u177x, u178x, u179x, u180x, u181x, u182x, u183x, u184x, u185x, u186x, u187x, u188x, u189], defers := [] } wx) :
    (codeAt [1, 1, 1, 0, 1, 0, 0, 1, 0, 0, 1, 1, 1, 1, 1] (Tryd.f5.body.getD .skip)).wp Tryd.prog Q { tmps := #[u0, .string cart, u2, u3, u4, .pointer (some ⟨bB, 0, none⟩), u6, .pointer (some ⟨pB, 0, none⟩), .string (ownA A cart), u9, .int .i64 (rightsA A by_ crt), .int .i64 (rightsA A who crt), .int .i64 E, u13, u14, u15, u16, u17, u18, u19, u20, u21, u22, u23, u24, u25, u26, u27, u28, u29, u30, u31, u32, u33, u34, u35, u36, u37, u38, u39, u40, u41, u42, u43, u44, u45, u46, u47, u48, u49, u50, u51, u52, u53, u54, u55, u56, u57, u58, u59, u60, u61, u62, u63, u64, u65, u66, u67, u68, u69, u70, u71, u72, u73, u74, u75, u76, u77, u78, u79, u80, u81, u82, u83, u84, u85, u86, u87, u88, u89, u90, u91, u92, u93, u94, u95, u96, u97, u98, u99, u100, u101, u102, u103, u104, u105, u106, u107, u108, u109, u110, u111, u112, u113, u114, u115, u116, u117, u118, u119, u120, u121, u122, u123, u124, u125, u126, u127, u128, u129, u130, u131, u132, u133, u134, u135, u136, u137, u138, u139, u140, u141, u142, u143, u144, u145, u146, u147, u148, u149, u150, u151, u152, u153, u154, u155, u156, u157, u158, u159, u160, u161, u162, u163, u164, u165, u166, u167, u168, u169, u170, u171, u172, u173, u174, u175, u176, u177, u178, u179, u180, u181, u182, u183, u184, u185, u186, u187, u188, u189], defers := [] } w3 := by
  simp only [codeAt, codeL, codeR, Tryd.f5, Option.getD_some]
  go_upto_region 13 with fail
  go_cut [13] from 26 to 188 (fun sv wx => ∃ sm : Bool, sv = .bool sm ∧ (aFind A' cart = aFind A cart → sm = true) ∧ Below w3.heap.size w3 wx)
  case first =>
    by_cases hoe : ownA A' cart = ownA A cart
    · have hos := str_eq hoe
      clear hoe
      go_wp2_with (first | (go_at_call 19; refine (HOW3.out _ (Below.refl _ _) _).mono ?_; rintro e w4 ⟨rfl, rfl⟩) | (go_at_call 18; refine (HME3.out _ (Below.refl _ _)).mono ?_; rintro e w4 ⟨vv, rfl, hrow4, hb4⟩) | (go_at_call 21; refine (membersEq_any _ _ _ _ _ (Rd.of_own hrow4 (by have := HML3.out; unfold maxLen; omega)) (HRD3.out.below hb4)).mono ?_; rintro e w5 ⟨rfl, n5, rfl⟩))
      go_meet
      case rel => exact ⟨_, rfl, fun h => by unfold membersA; rw [h]; exact decide_eq_true rfl, below_drewN hb4 _⟩
    · have hos := str_ne hoe
      go_wp2_with (first | (go_at_call 19; refine (HOW3.out _ (Below.refl _ _) _).mono ?_; rintro e w4 ⟨rfl, rfl⟩))
      go_meet
      case rel => exact ⟨_, rfl, fun h => absurd (by unfold ownA; rw [h]) hoe, Below.refl _ _⟩
  case rest =>
    obtain ⟨sm, rfl, hsm, hb4⟩ := hcut
    have f0 := HF0.out _ hb4
    have f1 := HF1.out _ hb4
    have f2 := HF2.out _ hb4
    have HSM := Lib.hid (fun h => hsm (HSAME.out h))
    have HBW4 := Lib.hid hb4
    clear hsm hb4
    go_upto_region 14 with fail
    go_cut [97] from 26 to 188 (fun sv wx => sv = .bool false ∧ wx = wc)
    case first =>
      by_cases hE : E = 0
      · subst hE
        by_cases hc : crt = cart
        · subst hc
          have hcs := str_eq (rfl : crt = crt)
          by_cases h4 : what = 4
          · subst h4
            have hsm := HSM.out (Or.inr (Or.inr rfl))
            subst hsm
            go_wp2_with fail
            go_meet
            case rel => exact ⟨rfl, rfl⟩
          · have h4b : (what == 4) = false := by simpa using h4
            go_wp2_with fail
            go_meet
            case rel => exact ⟨rfl, rfl⟩
        · have hsm := HSM.out (Or.inr (Or.inl hc))
          subst hsm
          have hcs := str_ne hc
          go_wp2_with fail
          go_meet
          case rel => exact ⟨rfl, rfl⟩
      · have hsm := HSM.out (Or.inl hE)
        subst hsm
        have hEb : (E == 0) = false := by simpa using hE
        have hEn : (E != 0) = true := by simpa using hE
        go_wp2_with fail
        go_meet
        case rel => exact ⟨rfl, rfl⟩
    case rest =>
      obtain ⟨rfl, rfl⟩ := hcut
      clear f0 f1 f2
      iterate 5 (first | go_values | go_skip | go_guarded | go_step | go_upon | go_back | go_simp)
      refine tests16 A A' what right E by_ crt who cart bB pB w3 HF0 HF1 HF2 HF3 HF4 HOW3 HME3 HRI3 HSAME HNONE HGONE HGRANT HPASS sm _ HBW4 _ _ _ _ _ _ _ _ _ _ _ _ _ _ _ _ _ _ _ _ _ _ _ _ _ _ _ _ _ _ _ _ _ _ _ _ _ _ _ _ _ _ _ _ _ _ _ _ _ _ _ _ _ _ _ _ _ _ _ _ _ _ _ _ _ _ _ _ _ _ _ _ _ _ _ _ _ _ _ _ _ _ _ _ _ _ _ _ _ _ _ _ _ _ _ _ _ _ _ _ _ _ _ _ _ _ _ _ _ _ _ _ _ _ _ _ _ _ _ _ _ _ _ _ _ _ _ _ _ _ _ _ _ _ _ _ _ _ _ _ _ _ _ _ _ _ _ _ _ _ _ _ _ _ _ _ _ _ _ _ _ _ _ _ _ _ _ _ _ _ _ _ _ _ _ _ _ _ _ _ _ _ _ ?_
      intros
      go_wp2
      assumption
end Go.Proofs.YtdeljhehcjknbaaDoor
