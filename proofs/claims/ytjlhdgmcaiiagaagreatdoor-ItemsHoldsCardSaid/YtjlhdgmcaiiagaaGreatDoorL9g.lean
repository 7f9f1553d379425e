/- ItemsHolds behind its tests. -/
import Derived.Test.YtjlhdgmcaiiagaaGreatDoorL9o
import Derived.Test.YtjlhdgmcaiiagaaGreatDoorL9q
namespace Go.Proofs.YtjlhdgmcaiiagaaGreatDoor
open Go.RowKit Go.Maps

theorem putI_len (l : List ItemD) (x : ItemD) : (putI l x).length ≤ l.length + 1 := by
  have h := (insI_perm (dropN l x.name) x).length_eq
  have h2 : (dropN l x.name).length ≤ l.length := List.length_filter_le _ _
  unfold putI
  rw [← h, List.length_append, List.length_singleton]
  omega
theorem putI_lt {l : List ItemD} {x : ItemD} (h : Lt l ∧ l.length ≤ 20 ∧ ∀ x ∈ l, x.marks.length ≤ 10) (hx : x.marks.length ≤ 10) : Lt (putI l x) := by
  refine ⟨by have := putI_len l x; omega, fun y hy => ?_⟩
  rcases mem_putI.1 hy with h1 | h1
  · have := h.2.2 y (mem_dropN.1 h1).1; omega
  · rw [h1]; omega
theorem dropN_lt {l : List ItemD} (nm : ByteArray) (h : Lt l) : Lt (dropN l nm) ∧ (dropN l nm).length ≤ l.length := by
  have h2 : (dropN l nm).length ≤ l.length := List.length_filter_le _ _
  exact ⟨⟨by have := h.1; omega, fun y hy => h.2 y (mem_dropN.1 hy).1⟩, h2⟩
/-- What the law asks, plain. -/
theorem plain_ok {l : List ItemD} {x : ItemD} (hv : validI l = true) (hp : putE l x = 0) (ho : oneI x = true) :
    validI (putI l x) = true ∧ (decide (findX (putI l x) x.name = x) && decide (findN (putI l x) x.name = 0)) = true ∧ remE (putI l x) x.name = 0 ∧ dropN (putI l x) x.name = dropN l x.name ∧ validI (dropN l x.name) = true ∧
    (decide (findX (dropN l x.name) x.name = kN) && decide (findN (dropN l x.name) x.name = 9)) = true := by
  obtain ⟨h1, h2, h3⟩ := validI_parts hv
  have hvp : validI (putI l x) = true := by
    unfold putE at hp
    rw [hv, ho] at hp
    cases e : validI (putI l x) with
    | true => rfl
    | false => rw [e] at hp; cases hp
  have hr := putI_rising h2 x
  have hmem : x ∈ putI l x := mem_putI.2 (Or.inr rfl)
  have hf : fX (putI l x) x.name = some x := find_rising hr hmem
  have hany : (putI l x).any (fun y => decide (y.name = x.name)) = true := List.any_eq_true.2 ⟨x, hmem, decide_eq_true rfl⟩
  have hno : (dropN l x.name).any (fun y => decide (y.name = x.name)) = false := by
    rw [List.any_eq_false]
    intro y hy
    simpa using (mem_dropN.1 hy).2
  refine ⟨hvp, ?_, ?_, dropN_putI h2, validI_drop hv _, ?_⟩
  · have e1 : findX (putI l x) x.name = x := by unfold findX; unfold fX at hf; rw [hf]; rfl
    have e2 : findN (putI l x) x.name = 0 := by unfold findN; rw [hany]; rfl
    rw [e1, e2]; simp
  · unfold remE; rw [hvp, hany]; rfl
  · have e1 : findX (dropN l x.name) x.name = kN := by unfold findX; rw [find_none _ _ hno]; rfl
    have e2 : findN (dropN l x.name) x.name = 9 := by unfold findN; rw [hno]; rfl
    rw [e1, e2]; simp
theorem plain_back {l : List ItemD} {x : ItemD} (hv : validI l = true) (hf : findN l x.name ≠ 9) : (decide (putR (dropN l x.name) (findX l x.name) = l) && decide (putE (dropN l x.name) (findX l x.name) = 0)) = true := by
  obtain ⟨h1, h2, h3⟩ := validI_parts hv
  have hany : l.any (fun y => decide (y.name = x.name)) = true := by
    cases e : l.any (fun y => decide (y.name = x.name)) with
    | true => rfl
    | false => exact absurd (by unfold findN; rw [e]; rfl) hf
  obtain ⟨y, hy, hyn⟩ := List.any_eq_true.1 hany
  have hyn' : y.name = x.name := of_decide_eq_true hyn
  have hfy : findX l x.name = y := by
    have := find_rising (risB_iff.1 h2) hy
    unfold fX at this
    unfold findX
    rw [← hyn', this]; rfl
  have hb : putI (dropN l x.name) y = l := by
    have := putI_back h2 hy
    rw [hyn'] at this
    exact this
  have he : putE (dropN l x.name) y = 0 := by
    unfold putE
    rw [validI_drop hv, h1 y hy, hb, hv]; rfl
  rw [hfy, he]
  unfold putR
  rw [if_pos he, hb]; simp
theorem findX_marks {l : List ItemD} {nm : ByteArray} (h : Lt l) : (findX l nm).marks.length ≤ 1000 := by
  unfold findX
  cases e : l.find? (fun x => decide (x.name = nm)) with
  | none => simp
  | some y => exact h.2 y (List.mem_of_find?_eq_some e)
set_option maxRecDepth 100000 in
set_option maxHeartbeats 16000000 in
theorem holds_good (l : List ItemD) (x : ItemD) (v : Value) (mo : Option Addr) (mc : Nat) (w W1 w5 : World) (HA : Hid (Arr ItemR 2 w v l)) (HM : Hid (Arr MarkR 4 w (.slice mo x.marks.length mc) x.marks)) (hs : x.name.size ≤ maxLen) (HGL : Hid (GlobIs w))
    (HX : Hid (∀ wz, Below W1.heap.size W1 wz → wz.cell? ⟨w.heap.size, 0, none⟩ = some (.string x.name) ∧ wz.cell? ⟨w.heap.size, 1, none⟩ = some (.slice mo x.marks.length mc))) (HB5 : Hid (Below w.heap.size w w5)) (HC5 : Hid (Below W1.heap.size W1 w5)) (hlt : Lt l ∧ l.length ≤ 20 ∧ ∀ x ∈ l, x.marks.length ≤ 10) (hx10 : x.marks.length ≤ 10) (hv : validI l = true) (ho : oneI x = true)
    (hp0 : putE l x = 0) (u2 u5 u6 u7 u8 u9 u10 u11 u12 u13 u14 u15 u16 u17 u18 u19 u20 u21 u22 u23 u24 u25 u26 u27 u28 u29 u30 u31 u32 u33 u34 u35 u36 u37 u38 u39 u40 u41 u42 u43 u44 u45 u46 u47 u48 u49 u50 u51 u52 u53 u54 u55 u56 u57 u58 u59 u60 u61 u62 u63 u64 u65 u66 u67 u68 u69 u70 u71 u72 u73 u74 u75 u76 u77 u78 u79 u80 u81 u82 u83 u84 u85 u86 u87 u88 u89 u90 u91 u92 u93 u94 u95 u96 u97 u98 u99 u100 u101 u102 u103 u104 u105 u106 u107 u108 u109 u110 u111 u112 u113 u114 u115 u116 u117 u118 u119 u120 u121 u122 u123 u124 u125 u126 u127 u128 u129 u130 u131 u132 u133 u134 u135 u136 u137 u138 u139 u140 u141 u142 u143 : Value) :
    (codeAt [1, 1] (Tryz.f7.body.getD .skip)).wp Tryz.prog (bodyPost Tryz.prog Tryz.f7 (fun e w' => e = .returned (.bool true) ∧ Below w.heap.size w w')) { tmps := #[v, .agg #[.string x.name, .slice mo x.marks.length mc], u2, .pointer (some ⟨w.heap.size, 0, none⟩), .bool false, u5, u6, u7, u8, u9, u10, u11, u12, u13, u14, u15, u16, u17, u18, u19, u20, u21, u22, u23, u24, u25, u26, u27, u28, u29, u30, u31, u32, u33, u34, u35, u36, u37, u38, u39, u40, u41, u42, u43, u44, u45, u46, u47, u48, u49, u50, u51, u52, u53, u54, u55, u56, u57, u58, u59, u60, u61, u62, u63, u64, u65, u66, u67, u68, u69, u70, u71, u72, u73, u74, u75, u76, u77, u78, u79, u80, u81, u82, u83, u84, u85, u86, u87, u88, u89, u90, u91, u92, u93, u94, u95, u96, u97, u98, u99, u100, u101, u102, u103, u104, u105, u106, u107, u108, u109, u110, u111, u112, u113, u114, u115, u116, u117, u118, u119, u120, u121, u122, u123, u124, u125, u126, u127, u128, u129, u130, u131, u132, u133, u134, u135, u136, u137, u138, u139, u140, u141, u142, u143], defers := [] } w5 := by
  simp only [codeAt, codeR, Tryz.f7, Option.getD_some]
  have HPL := Lib.hid (plain_ok hv hp0 ho)
  have HPB := Lib.hid (fun h => plain_back (x := x) hv h)
  have HNO := Lib.hid (fun (h : l.any (fun y => decide (y.name = x.name)) = false) => dropN_none h)
  have HFN : Hid (findN l x.name = if l.any (fun y => decide (y.name = x.name)) then 0 else 9) := Lib.hid rfl
  have HLP := Lib.hid (putI_lt hlt hx10)
  have HLD := Lib.hid (dropN_lt x.name hlt.1)
  have HP0 := Lib.hid hp0
  obtain ⟨c0, c1⟩ := HX.out w5 HC5.out
  have HF := Lib.hid (itemsFind_any x.name l v w5 (HA.out.items HB5.out) hlt.1)
  clear hv ho hp0
  go_wp2_with fail
  refine HF.out.mono ?_
  intro e w6 hp6
  obtain ⟨fo, fc, rfl, hfm, hfs, hb6⟩ := hp6.arr (HA.out.items HB5.out)
  have HB6 := Lib.hid (HB5.out.trans (hb6.mono HB5.out.size))
  have HC6 := Lib.hid (HC5.out.trans (hb6.mono HC5.out.size))
  obtain ⟨fx, hfx⟩ : ∃ fx, fx = findX l x.name := ⟨_, rfl⟩
  obtain ⟨fn, hfn⟩ : ∃ fn, fn = findN l x.name := ⟨_, rfl⟩
  rw [← hfx] at hfm hfs HPB
  rw [← hfn] at HFN HPB
  rw [← hfx, ← hfn]
  obtain ⟨W7, hW7⟩ : ∃ W7, W7 = w6.alloc (.cells #[.string fx.name, .slice fo fx.marks.length fc] 31) := ⟨_, rfl⟩
  have hb7 : Below w6.heap.size w6 W7 := by rw [hW7]; exact (Below.refl _ _).alloc (Nat.le_refl _) _
  have hg7 : W7.heap[w6.heap.size]? = some (.cells #[.string fx.name, .slice fo fx.marks.length fc] 31) := by rw [hW7]; exact alloc_new _ _
  have HB7 := Lib.hid (HB6.out.trans (hb7.mono HB6.out.size))
  have HC7 := Lib.hid (HC6.out.trans (hb7.mono HC6.out.size))
  have HO : Hid (∀ wz, Below W7.heap.size W7 wz → (wz.cell? ⟨w6.heap.size, 0, none⟩ = some (.string fx.name) ∧ wz.cell? ⟨w6.heap.size, 1, none⟩ = some (.slice fo fx.marks.length fc)) ∧ Arr MarkR 4 wz (.slice fo fx.marks.length fc) fx.marks) := Lib.hid (fun wz hz => ⟨⟨by rw [hz.cell (p := ⟨w6.heap.size, 0, none⟩) (lt_of_heap hg7), cell0 hg7 0]; rfl, by rw [hz.cell (p := ⟨w6.heap.size, 1, none⟩) (lt_of_heap hg7), cell0 hg7 1]; rfl⟩, (hfm.marks hb7).marks hz⟩)
  have HW7 := Lib.hid hW7
  have HFX := Lib.hid hfx
  clear hp6 hfm hb6 hfx hfn hW7 hb7 hg7 HF c0 c1
  obtain ⟨c0, c1⟩ := HX.out w6 HC6.out
  have hwl : w.heap.size < w6.heap.size := by
    obtain ⟨b, off, he, hlt2⟩ := addr_plain c0
    cases he
    exact hlt2
  have HPU := Lib.hid (itemsPut_any l x v _ W7 (HA.out.items HB7.out) (HM.out.marks HB7.out) hs hlt.1 ⟨by omega, by omega⟩ (HGL.out.below HB7.out))
  go_wp2_with fail
  rw [← HW7.out]
  refine HPU.out.mono ?_
  rintro e w8 ⟨v8, rfl, hb8, -, hgood⟩
  rw [HP0.out] at hgood ⊢
  obtain ⟨ps8, hm8, hf8⟩ := hgood rfl
  have HY8 := Lib.hid (show Arr ItemR 2 w8 v8 (putI l x) from by rw [← hm8]; exact hf8.arr)
  have HB8 := Lib.hid (HB7.out.trans (hb8.mono HB7.out.size))
  have HC8 := Lib.hid (HC7.out.trans (hb8.mono HC7.out.size))
  have HD8 := Lib.hid hb8
  clear hb8 hgood hm8 hf8 HPU c0 c1
  have HV8 := Lib.hid (itemsValid_any (putI l x) v8 w8 HY8.out HLP.out (HGL.out.below HB8.out))
  rw [HPL.out.1] at HV8
  go_wp2_with fail
  refine HV8.out.mono ?_
  rintro e w9 ⟨rfl, hb9⟩
  have HB9 := Lib.hid (HB8.out.trans (hb9.mono HB8.out.size))
  have HC9 := Lib.hid (HC8.out.trans (hb9.mono HC8.out.size))
  have HD9 := Lib.hid (HD8.out.trans (hb9.mono HD8.out.size))
  have HY9 := Lib.hid (HY8.out.items hb9)
  obtain ⟨c0, c1⟩ := HX.out w9 HC9.out
  have HF9 := Lib.hid (l9finds_any (putI l x) x.name x 0 v8 _ w9 HY9.out (HM.out.marks HB9.out) hs HLP.out)
  rw [HPL.out.2.1] at HF9
  clear hb9 HV8
  go_wp2_with fail
  refine HF9.out.mono ?_
  rintro e w10 ⟨rfl, hb10⟩
  have HB10 := Lib.hid (HB9.out.trans (hb10.mono HB9.out.size))
  have HC10 := Lib.hid (HC9.out.trans (hb10.mono HC9.out.size))
  have HD10 := Lib.hid (HD9.out.trans (hb10.mono HD9.out.size))
  have HY10 := Lib.hid (HY9.out.items hb10)
  clear hb10 HF9 c0 c1
  obtain ⟨c0, c1⟩ := HX.out w10 HC10.out
  have HR10 := Lib.hid (itemsRemove_any (putI l x) x.name v8 w10 HY10.out HLP.out (HGL.out.below HB10.out))
  go_wp2_with fail
  refine HR10.out.mono ?_
  rintro e w11 ⟨v11, rfl, hb11, -, hgood⟩
  rw [HPL.out.2.2.1] at hgood ⊢
  obtain ⟨ps11, hm11, hf11⟩ := hgood rfl
  rw [HPL.out.2.2.2.1] at hm11
  have HZ11 := Lib.hid (show Arr ItemR 2 w11 v11 (dropN l x.name) from by rw [← hm11]; exact hf11.arr)
  have HB11 := Lib.hid (HB10.out.trans (hb11.mono HB10.out.size))
  have HC11 := Lib.hid (HC10.out.trans (hb11.mono HC10.out.size))
  have HD11 := Lib.hid (HD10.out.trans (hb11.mono HD10.out.size))
  clear hb11 hgood hm11 hf11 HR10 c0 c1
  have HV11 := Lib.hid (itemsValid_any (dropN l x.name) v11 w11 HZ11.out HLD.out.1 (HGL.out.below HB11.out))
  rw [HPL.out.2.2.2.2.1] at HV11
  go_wp2_with fail
  refine HV11.out.mono ?_
  rintro e w12 ⟨rfl, hb12⟩
  have HB12 := Lib.hid (HB11.out.trans (hb12.mono HB11.out.size))
  have HC12 := Lib.hid (HC11.out.trans (hb12.mono HC11.out.size))
  have HD12 := Lib.hid (HD11.out.trans (hb12.mono HD11.out.size))
  have HZ12 := Lib.hid (HZ11.out.items hb12)
  obtain ⟨c0, c1⟩ := HX.out w12 HC12.out
  have HF12 := Lib.hid (l9finds_any (dropN l x.name) x.name kN 9 v11 (.slice none 0 0) w12 HZ12.out arr_nil (by decide) HLD.out.1)
  rw [HPL.out.2.2.2.2.2] at HF12
  clear hb12 HV11
  go_wp2_with fail
  refine HF12.out.mono ?_
  rintro e w13 ⟨rfl, hb13⟩
  have HB13 := Lib.hid (HB12.out.trans (hb13.mono HB12.out.size))
  have HC13 := Lib.hid (HC12.out.trans (hb13.mono HC12.out.size))
  have HD13 := Lib.hid (HD12.out.trans (hb13.mono HD12.out.size))
  have HZ13 := Lib.hid (HZ12.out.items hb13)
  clear hb13 HF12 c0 c1
  by_cases hany : l.any (fun y => decide (y.name = x.name)) = true
  · have hfn : fn = 0 := by rw [HFN.out, hany]; rfl
    subst hfn
    have HPB2 := Lib.hid (HPB.out (by decide))
    obtain ⟨⟨e0, e1⟩, hma⟩ := HO.out w13 HD13.out
    have HPP := Lib.hid (l9puts_any (dropN l x.name) l fx 0 v11 (.slice fo fx.marks.length fc) v w13 HZ13.out hma (HA.out.items HB13.out) hfs HLD.out.1 ⟨by have := HLD.out.2; omega, by rw [HFX.out]; exact findX_marks hlt.1⟩ (HGL.out.below HB13.out))
    rw [HPB2.out] at HPP
    clear hma HPB HFN hany
    go_wp2_with fail
    refine HPP.out.mono ?_
    rintro e w14 ⟨rfl, hb14⟩
    have HB14 := Lib.hid (HB13.out.trans (hb14.mono HB13.out.size))
    have HKN := Lib.hid (l9known_any w14 (HGL.out.below HB14.out))
    clear hb14 HPP
    go_wp2_with fail
    refine HKN.out.mono ?_
    rintro e w15 ⟨rfl, hb15⟩
    go_wp2_with fail
    go_ret
    exact ⟨rfl, HB14.out.trans (hb15.mono HB14.out.size)⟩
  · have hany2 : l.any (fun y => decide (y.name = x.name)) = false := by simpa using hany
    have hfn : fn = 9 := by rw [HFN.out, hany2]; rfl
    subst hfn
    have HEQ := Lib.hid (r9Equal_any (dropN l x.name) l v11 v w13 HZ13.out (HA.out.items HB13.out))
    rw [HNO.out hany2, decide_eq_true rfl] at HEQ
    clear hany hany2 HFN HNO HPB
    go_wp2_with fail
    refine HEQ.out.mono ?_
    rintro e w14 ⟨rfl, hb14⟩
    have HB14 := Lib.hid (HB13.out.trans (hb14.mono HB13.out.size))
    have HKN := Lib.hid (l9known_any w14 (HGL.out.below HB14.out))
    clear hb14 HEQ
    go_wp2_with fail
    refine HKN.out.mono ?_
    rintro e w15 ⟨rfl, hb15⟩
    go_wp2_with fail
    go_ret
    exact ⟨rfl, HB14.out.trans (hb15.mono HB14.out.size)⟩
end Go.Proofs.YtjlhdgmcaiiagaaGreatDoor

