/- ItemsHolds where Put is busy. -/
import Derived.Test.YtjlhdgmcaiiagaaGreatDoorL9g
namespace Go.Proofs.YtjlhdgmcaiiagaaGreatDoor
open Go.RowKit Go.Maps

def hitB (l : List ItemD) (nm : ByteArray) (m : MarkD) : Bool := decide (ownerN (ownerI l m.dot) = 0) && !decide (ownerS (ownerI l m.dot) = nm)
theorem plain_busy {l : List ItemD} {x : ItemD} (hv : validI l = true) (ho : oneI x = true) (hp : putE l x ≠ 0) : putE l x = 11 ∧ x.marks.any (hitB l x.name) = true := by
  have hvp : validI (putI l x) = false := by
    cases e : validI (putI l x) with
    | false => rfl
    | true => exact absurd (by unfold putE; rw [hv, ho, e]; rfl) hp
  refine ⟨by unfold putE; rw [hv, ho, hvp]; rfl, ?_⟩
  obtain ⟨m, hm, s, h1, h2⟩ := busy_met hv ho hvp
  refine List.any_eq_true.2 ⟨m, hm, ?_⟩
  unfold hitB ownerN ownerS
  rw [h1]
  simp [h2]
set_option maxRecDepth 100000 in
set_option maxHeartbeats 16000000 in
theorem holds_busy (l : List ItemD) (x : ItemD) (v : Value) (mo : Option Addr) (mc : Nat) (w W1 w5 : World) (HA : Hid (Arr ItemR 2 w v l)) (HM : Hid (Arr MarkR 4 w (.slice mo x.marks.length mc) x.marks)) (hs : x.name.size ≤ maxLen) (HGL : Hid (GlobIs w))
    (HX : Hid (∀ wz, Below W1.heap.size W1 wz → wz.cell? ⟨w.heap.size, 0, none⟩ = some (.string x.name) ∧ wz.cell? ⟨w.heap.size, 1, none⟩ = some (.slice mo x.marks.length mc))) (HB5 : Hid (Below w.heap.size w w5)) (HC5 : Hid (Below W1.heap.size W1 w5)) (hlt : Lt l ∧ l.length ≤ 20 ∧ ∀ x ∈ l, x.marks.length ≤ 10) (hx10 : x.marks.length ≤ 10) (hv : validI l = true) (ho : oneI x = true)
    (hpn : putE l x ≠ 0) (u2 u5 u6 u7 u8 u9 u10 u11 u12 u13 u14 u15 u16 u17 u18 u19 u20 u21 u22 u23 u24 u25 u26 u27 u28 u29 u30 u31 u32 u33 u34 u35 u36 u37 u38 u39 u40 u41 u42 u43 u44 u45 u46 u47 u48 u49 u50 u51 u52 u53 u54 u55 u56 u57 u58 u59 u60 u61 u62 u63 u64 u65 u66 u67 u68 u69 u70 u71 u72 u73 u74 u75 u76 u77 u78 u79 u80 u81 u82 u83 u84 u85 u86 u87 u88 u89 u90 u91 u92 u93 u94 u95 u96 u97 u98 u99 u100 u101 u102 u103 u104 u105 u106 u107 u108 u109 u110 u111 u112 u113 u114 u115 u116 u117 u118 u119 u120 u121 u122 u123 u124 u125 u126 u127 u128 u129 u130 u131 u132 u133 u134 u135 u136 u137 u138 u139 u140 u141 u142 u143 : Value) :
    (codeAt [1, 1] (Tryz.f7.body.getD .skip)).wp Tryz.prog (bodyPost Tryz.prog Tryz.f7 (fun e w' => e = .returned (.bool true) ∧ Below w.heap.size w w')) { tmps := #[v, .agg #[.string x.name, .slice mo x.marks.length mc], u2, .pointer (some ⟨w.heap.size, 0, none⟩), .bool false, u5, u6, u7, u8, u9, u10, u11, u12, u13, u14, u15, u16, u17, u18, u19, u20, u21, u22, u23, u24, u25, u26, u27, u28, u29, u30, u31, u32, u33, u34, u35, u36, u37, u38, u39, u40, u41, u42, u43, u44, u45, u46, u47, u48, u49, u50, u51, u52, u53, u54, u55, u56, u57, u58, u59, u60, u61, u62, u63, u64, u65, u66, u67, u68, u69, u70, u71, u72, u73, u74, u75, u76, u77, u78, u79, u80, u81, u82, u83, u84, u85, u86, u87, u88, u89, u90, u91, u92, u93, u94, u95, u96, u97, u98, u99, u100, u101, u102, u103, u104, u105, u106, u107, u108, u109, u110, u111, u112, u113, u114, u115, u116, u117, u118, u119, u120, u121, u122, u123, u124, u125, u126, u127, u128, u129, u130, u131, u132, u133, u134, u135, u136, u137, u138, u139, u140, u141, u142, u143], defers := [] } w5 := by
  simp only [codeAt, codeR, Tryz.f7, Option.getD_some]
  obtain ⟨hp0, hmet⟩ := plain_busy hv ho hpn
  have HP0 := Lib.hid hp0
  have HMET := Lib.hid hmet
  clear hpn hmet hv
  obtain ⟨c0, c1⟩ := HX.out w5 HC5.out
  have HF := Lib.hid (itemsFind_any x.name l v w5 (HA.out.items HB5.out) hlt.1)
  clear ho hp0
  go_wp2_with fail
  refine HF.out.mono ?_
  intro e w6 hp6
  obtain ⟨fo, fc, rfl, hfm, hfs, hb6⟩ := hp6.arr (HA.out.items HB5.out)
  have HB6 := Lib.hid (HB5.out.trans (hb6.mono HB5.out.size))
  have HC6 := Lib.hid (HC5.out.trans (hb6.mono HC5.out.size))
  obtain ⟨fx, hfx⟩ : ∃ fx, fx = findX l x.name := ⟨_, rfl⟩
  obtain ⟨fn, hfn⟩ : ∃ fn, fn = findN l x.name := ⟨_, rfl⟩
  rw [← hfx] at hfm hfs
  rw [← hfx, ← hfn]
  obtain ⟨W7, hW7⟩ : ∃ W7, W7 = w6.alloc (.cells #[.string fx.name, .slice fo fx.marks.length fc] 31) := ⟨_, rfl⟩
  have hb7 : Below w6.heap.size w6 W7 := by rw [hW7]; exact (Below.refl _ _).alloc (Nat.le_refl _) _
  have hg7 : W7.heap[w6.heap.size]? = some (.cells #[.string fx.name, .slice fo fx.marks.length fc] 31) := by rw [hW7]; exact alloc_new _ _
  have HB7 := Lib.hid (HB6.out.trans (hb7.mono HB6.out.size))
  have HC7 := Lib.hid (HC6.out.trans (hb7.mono HC6.out.size))
  have HO : Hid (∀ wz, Below W7.heap.size W7 wz → (wz.cell? ⟨w6.heap.size, 0, none⟩ = some (.string fx.name) ∧ wz.cell? ⟨w6.heap.size, 1, none⟩ = some (.slice fo fx.marks.length fc)) ∧ Arr MarkR 4 wz (.slice fo fx.marks.length fc) fx.marks) := Lib.hid (fun wz hz => ⟨⟨by rw [hz.cell (p := ⟨w6.heap.size, 0, none⟩) (lt_of_heap hg7), cell0 hg7 0]; rfl, by rw [hz.cell (p := ⟨w6.heap.size, 1, none⟩) (lt_of_heap hg7), cell0 hg7 1]; rfl⟩, (hfm.marks hb7).marks hz⟩)
  have HW7 := Lib.hid hW7
  have HFX := Lib.hid hfx
  clear hp6 hfm hb6 hfx hfn hW7 hb7 hg7 HF c0 c1
  obtain ⟨c0, c1⟩ := HX.out w6 HC6.out
  have hwl : w.heap.size < w6.heap.size := by
    obtain ⟨b, off, he, hlt2⟩ := addr_plain c0
    cases he
    exact hlt2
  have HPU := Lib.hid (itemsPut_any l x v _ W7 (HA.out.items HB7.out) (HM.out.marks HB7.out) hs hlt.1 ⟨by omega, by omega⟩ (HGL.out.below HB7.out))
  go_wp2_with fail
  rw [← HW7.out]
  refine HPU.out.mono ?_
  rintro e w8 ⟨v8, rfl, hb8, hbad, -⟩
  rw [HP0.out] at hbad ⊢
  have hv8 := hbad (by decide)
  subst hv8
  have HB8 := Lib.hid (HB7.out.trans (hb8.mono HB7.out.size))
  have HC8 := Lib.hid (HC7.out.trans (hb8.mono HC7.out.size))
  clear hb8 hbad HPU c0 c1
  obtain ⟨c0, c1⟩ := HX.out w8 HC8.out
  have hnm : x.marks.length ≤ 1000 := by omega
  go_wp2_with fail
  go_loopw [9, 56] (fun mt i wr => ∃ k : Nat, k ≤ x.marks.length ∧ i = .int .i64 k ∧ mt = .bool ((x.marks.take k).any (hitB l x.name)) ∧ Below w.heap.size w wr ∧ Below W1.heap.size W1 wr) (fun _ i _ => x.marks.length - (intOf i).toNat)
  case atStart => exact ⟨0, Nat.zero_le _, rfl, rfl, HB8.out, HC8.out⟩
  case round =>
    obtain ⟨k, hk, rfl, rfl, hB, hC⟩ := hrel
    have HB := Lib.hid hB
    have HC := Lib.hid hC
    clear hB hC
    by_cases hlk : k < x.marks.length
    · obtain ⟨o', c', he', hel⟩ := (HM.out.marks HB.out).markAt
      obtain ⟨b, off, hb', hbl, e0, e1, e2, e3, -⟩ := hel k hlk
      cases he'
      subst hb'
      have HS := Lib.hid (any_take_snoc (hitB l x.name) x.marks k hlk)
      have HH : Hid (hitB l x.name x.marks[k] = (decide (ownerN (ownerI l x.marks[k].dot) = 0) && !decide (ownerS (ownerI l x.marks[k].dot) = x.name))) := Lib.hid rfl
      generalize x.marks[k] = m at *
      have hal : Below wr.heap.size wr (wr.alloc (.cells #[.int .i64 m.dot.rep, .int .i64 m.dot.ctr, .int .i64 m.qty, .int .u64 m.time] 62)) := (Below.refl _ _).alloc (Nat.le_refl _) _
      have HAL := Lib.hid hal
      have HOW := Lib.hid (itemsOwner_any l m.dot v (wr.alloc (.cells #[.int .i64 m.dot.rep, .int .i64 m.dot.ctr, .int .i64 m.qty, .int .u64 m.time] 62)) ((HA.out.items HB.out).items hal) hlt.1)
      rw [ownerV_eq] at HOW
      unfold dotV at HOW
      have hse := strDec (ownerS (ownerI l m.dot)) x.name
      generalize hitB l x.name m = hit at *
      generalize ownerS (ownerI l m.dot) = os at *
      generalize ownerN (ownerI l m.dot) = on at *
      have a0 : (0 : Int) ≤ k := by omega
      have a1 : (k : Int) < x.marks.length := by omega
      have hkw : IntKind.i64.wrap ((k : Int) + 1) = (k : Int) + 1 := by rw [IntKind.wrap_i64]; omega
      clear hel hal
      obtain ⟨met, hmt⟩ : ∃ met, met = (x.marks.take k).any (hitB l x.name) := ⟨_, rfl⟩
      rw [← hmt] at HS ⊢
      clear hmt
      cases met with
      | true =>
        go_wp2_with (go_at_call 34; refine HOW.out.mono ?_; rintro e w9 ⟨rfl, hb9⟩; have hb10 := HAL.out.trans (hb9.mono HAL.out.size); have hcx := (HX.out w9 (HC.out.trans (hb10.mono HC.out.size))).1)
        have hbf := HB.out.trans (hb10.mono HB.out.size)
        have hcf := HC.out.trans (hb10.mono HC.out.size)
        go_roundw
        case rel => exact ⟨k + 1, by omega, by go_num, by rw [HS.out]; rfl, hbf, hcf⟩
        case measure => simp [intOf]; omega
      | false =>
        by_cases hn0 : on = 0
        · subst hn0
          by_cases hos : os = x.name
          · rw [decide_eq_true hos] at hse HH
            have hh : hit = false := HH.out
            subst hh
            clear hos HH
            go_wp2_with (go_at_call 34; refine HOW.out.mono ?_; rintro e w9 ⟨rfl, hb9⟩; have hb10 := HAL.out.trans (hb9.mono HAL.out.size); have hcx := (HX.out w9 (HC.out.trans (hb10.mono HC.out.size))).1)
            have hbf := HB.out.trans (hb10.mono HB.out.size)
            have hcf := HC.out.trans (hb10.mono HC.out.size)
            go_roundw
            case rel => exact ⟨k + 1, by omega, by go_num, by rw [HS.out]; rfl, hbf, hcf⟩
            case measure => simp [intOf]; omega
          · rw [decide_eq_false hos] at hse HH
            have hh : hit = true := HH.out
            subst hh
            clear hos HH
            go_wp2_with (go_at_call 34; refine HOW.out.mono ?_; rintro e w9 ⟨rfl, hb9⟩; have hb10 := HAL.out.trans (hb9.mono HAL.out.size); have hcx := (HX.out w9 (HC.out.trans (hb10.mono HC.out.size))).1)
            have hbf := HB.out.trans (hb10.mono HB.out.size)
            have hcf := HC.out.trans (hb10.mono HC.out.size)
            go_roundw
            case rel => exact ⟨k + 1, by omega, by go_num, by rw [HS.out]; rfl, hbf, hcf⟩
            case measure => simp [intOf]; omega
        · have t0 : (on == 0) = false := by simpa using hn0
          rw [decide_eq_false hn0] at HH
          have hh : hit = false := HH.out
          subst hh
          clear HH
          go_wp2_with (go_at_call 34; refine HOW.out.mono ?_; rintro e w9 ⟨rfl, hb9⟩; have hb10 := HAL.out.trans (hb9.mono HAL.out.size); have hcx := (HX.out w9 (HC.out.trans (hb10.mono HC.out.size))).1)
          have hbf := HB.out.trans (hb10.mono HB.out.size)
          have hcf := HC.out.trans (hb10.mono HC.out.size)
          go_roundw
          case rel => exact ⟨k + 1, by omega, by go_num, by rw [HS.out]; rfl, hbf, hcf⟩
          case measure => simp [intOf]; omega
    · have hke : k = x.marks.length := by omega
      have hm2 := HMET.out
      rw [hke, List.take_length, hm2]
      have HKN := Lib.hid (l9known_any wr (HGL.out.below HB.out))
      clear hm2
      go_wp2_with fail
      refine HKN.out.mono ?_
      rintro e wk ⟨rfl, hbk⟩
      go_wp2_with fail
      go_ret
      exact ⟨rfl, HB.out.trans (hbk.mono HB.out.size)⟩
end Go.Proofs.YtjlhdgmcaiiagaaGreatDoor

