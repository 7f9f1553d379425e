/- ItemsHolds inside: it answers true. -/
import Derived.Test.YtjlhdgmcaiiagaaGreatDoorL9b
import Derived.Test.YtjlhdgmcaiiagaaGreatDoorL9o
namespace Go.Proofs.YtjlhdgmcaiiagaaGreatDoor
open Go.RowKit Go.Maps

theorem validI_parts {l : List ItemD} (h : validI l = true) : (∀ x ∈ l, oneI x = true) ∧ risB l = true ∧ l.Pairwise (fun a b => meetB a b = false) := by
  obtain ⟨h1, h2, h3⟩ := (validI_iff l).1 h
  exact ⟨fun x hx => List.all_eq_true.1 h1 x hx, h2, h3⟩
theorem validI_of {l : List ItemD} (h1 : ∀ x ∈ l, oneI x = true) (h2 : risB l = true) (h3 : l.Pairwise (fun a b => meetB a b = false)) : validI l = true :=
  (validI_iff l).2 ⟨List.all_eq_true.2 h1, h2, h3⟩
theorem validI_drop {l : List ItemD} (h : validI l = true) (nm : ByteArray) : validI (dropN l nm) = true := by
  obtain ⟨h1, h2, h3⟩ := validI_parts h
  exact validI_of (fun x hx => h1 x (List.mem_filter.1 hx).1) (risB_iff.2 (dropN_rising h2 nm)) (h3.sublist List.filter_sublist)
theorem mem_putI {l : List ItemD} {x y : ItemD} : y ∈ putI l x ↔ y ∈ dropN l x.name ∨ y = x := by
  unfold putI
  rw [← (insI_perm (dropN l x.name) x).mem_iff]
  simp
theorem mem_dropN {l : List ItemD} {nm : ByteArray} {y : ItemD} : y ∈ dropN l nm ↔ y ∈ l ∧ y.name ≠ nm := by
  unfold dropN
  rw [List.mem_filter]
  simp
/-- Rising lists with the same items are the same. -/
theorem rising_ext {l m : List ItemD} (hl : l.Pairwise (fun a b => ltK a.name b.name)) (hm : m.Pairwise (fun a b => ltK a.name b.name)) (h : ∀ x, x ∈ l ↔ x ∈ m) : l = m := by
  have nd : ∀ {l : List ItemD}, l.Pairwise (fun a b => ltK a.name b.name) → l.Nodup := fun h => h.imp (fun {a b} h e => by rw [e] at h; exact ltK_irrefl _ h)
  refine sorted_unique ?_ (hl.imp (fun {a b} h h2 => ltK_irrefl _ (ltK_trans h h2))) hm
  exact (List.perm_ext_iff_of_nodup (nd hl) (nd hm)).2 h
theorem rising_name {l : List ItemD} (h : l.Pairwise (fun a b => ltK a.name b.name)) {x y : ItemD} (hx : x ∈ l) (hy : y ∈ l) (hn : x.name = y.name) : x = y := by
  obtain ⟨i, hi, rfl⟩ := List.getElem_of_mem hx
  obtain ⟨j, hj, rfl⟩ := List.getElem_of_mem hy
  have hpw := List.pairwise_iff_getElem.1 h
  rcases Nat.lt_trichotomy i j with e | e | e
  · have := hpw i j hi hj e; rw [hn] at this; exact absurd this (ltK_irrefl _)
  · subst e; rfl
  · have := hpw j i hj hi e; rw [hn] at this; exact absurd this (ltK_irrefl _)
def fX (l : List ItemD) (nm : ByteArray) : Option ItemD := l.find? (fun x => decide (x.name = nm))
theorem find_rising {l : List ItemD} (h : l.Pairwise (fun a b => ltK a.name b.name)) {x : ItemD} (hx : x ∈ l) : fX l x.name = some x := by
  unfold fX
  cases e : l.find? (fun y => decide (y.name = x.name)) with
  | none =>
    rw [List.find?_eq_none] at e
    exact absurd (decide_eq_true rfl) (e x hx)
  | some y =>
    have h1 := List.find?_some e
    have h2 := List.mem_of_find?_eq_some e
    rw [rising_name h h2 hx (by simpa using h1)]
theorem dropN_putI {l : List ItemD} {x : ItemD} (h : risB l = true) : dropN (putI l x) x.name = dropN l x.name := by
  refine rising_ext ((putI_rising h x).sublist List.filter_sublist) (dropN_rising h _) (fun y => ?_)
  rw [mem_dropN, mem_putI, mem_dropN]
  constructor
  · rintro ⟨h1 | h1, h2⟩
    · exact h1
    · exact absurd (by rw [h1]) h2
  · exact fun h1 => ⟨Or.inl h1, h1.2⟩
theorem dropN_none {l : List ItemD} {nm : ByteArray} (h : l.any (fun x => decide (x.name = nm)) = false) : dropN l nm = l := filter_all _ l h
/-- What was there is put back. -/
theorem putI_back {l : List ItemD} {x : ItemD} (h : risB l = true) (hx : x ∈ l) : putI (dropN l x.name) x = l := by
  have h1 : risB (dropN l x.name) = true := risB_iff.2 (dropN_rising h _)
  refine rising_ext (putI_rising h1 x) (risB_iff.1 h) (fun y => ?_)
  rw [mem_putI, mem_dropN, mem_dropN]
  constructor
  · rintro (h2 | h2)
    · exact h2.1.1
    · rw [h2]; exact hx
  · intro hy
    by_cases e : y.name = x.name
    · exact Or.inr (rising_name (risB_iff.1 h) hy hx e)
    · exact Or.inl ⟨⟨hy, e⟩, e⟩
theorem meetB_symm {a b : ItemD} (h : meetB a b = false) : meetB b a = false := by
  rw [meetB_false] at *
  exact fun d h1 h2 => h d h2 h1
theorem pairwise_mem {l : List ItemD} (h : l.Pairwise (fun a b => meetB a b = false)) {x y : ItemD} (hx : x ∈ l) (hy : y ∈ l) (hn : x ≠ y) : meetB x y = false := by
  obtain ⟨i, hi, rfl⟩ := List.getElem_of_mem hx
  obtain ⟨j, hj, rfl⟩ := List.getElem_of_mem hy
  have hpw := List.pairwise_iff_getElem.1 h
  rcases Nat.lt_trichotomy i j with e | e | e
  · exact hpw i j hi hj e
  · subst e; exact absurd rfl hn
  · exact meetB_symm (hpw j i hj hi e)
/-- Where Put is busy, another item owns one of the dots. -/
theorem busy_met {l : List ItemD} {x : ItemD} (hl : validI l = true) (hx : oneI x = true) (hb : validI (putI l x) = false) : ∃ m ∈ x.marks, ∃ s, ownerI l m.dot = some s ∧ s ≠ x.name := by
  obtain ⟨h1, h2, h3⟩ := validI_parts hl
  have hex : ∃ a ∈ dropN l x.name, meetB a x = true := by
    refine Classical.byContradiction (fun hno => ?_)
    have hall : ∀ a ∈ dropN l x.name, meetB a x = false := fun a ha => by
      cases e : meetB a x with
      | false => rfl
      | true => exact absurd ⟨a, ha, e⟩ hno
    have hv : validI (putI l x) = true := by
      refine validI_of (fun y hy => ?_) (risB_iff.2 (putI_rising h2 x)) ?_
      · rcases mem_putI.1 hy with h | h
        · exact h1 y (mem_dropN.1 h).1
        · rw [h]; exact hx
      · have hp : (putI l x).Perm (dropN l x.name ++ [x]) := (insI_perm _ _).symm
        refine (hp.pairwise_iff (fun h => meetB_symm h)).2 (List.pairwise_append.2 ⟨h3.sublist List.filter_sublist, List.pairwise_singleton _ _, fun a ha b hb => ?_⟩)
        rw [List.mem_singleton] at hb
        rw [hb]; exact hall a ha
    rw [hb] at hv; cases hv
  obtain ⟨a, ha, hm⟩ := hex
  obtain ⟨hal, han⟩ := mem_dropN.1 ha
  obtain ⟨d, hd1, hd2⟩ := List.any_eq_true.1 hm
  have hd2' : d ∈ dotsM x.marks := of_decide_eq_true hd2
  obtain ⟨m, hmx, rfl⟩ := List.mem_map.1 hd2'
  refine ⟨m, hmx, a.name, ?_, han⟩
  unfold ownerI
  have hf : l.find? (ownsP m.dot) = some a := by
    cases e : l.find? (ownsP m.dot) with
    | none =>
      rw [List.find?_eq_none] at e
      exact absurd (decide_eq_true hd1) (e a hal)
    | some y =>
      have e0 : ownsP m.dot y = true := List.find?_some e
      have e1 : m.dot ∈ dotsM y.marks := of_decide_eq_true e0
      have e2 := List.mem_of_find?_eq_some e
      by_cases hya : y = a
      · rw [hya]
      · exact absurd hd1 (meetB_false.1 (pairwise_mem h3 e2 hal hya) _ e1)
  rw [hf]; rfl
def okL (x : ItemD) : Bool := decide (x.name.size ≤ 100) && decide (x.marks.length ≤ 10)
def lightI (l : List ItemD) : Bool := decide (l.length ≤ 20) && l.all okL
end Go.Proofs.YtjlhdgmcaiiagaaGreatDoor
namespace Go.Proofs.YtjlhdgmcaiiagaaGreatDoor
open Go.RowKit Go.Maps

set_option maxRecDepth 100000 in
set_option maxHeartbeats 2000000 in
theorem l9light_any (l : List ItemD) (v : Value) (w : World) (h : Arr ItemR 2 w v l) : Calls Tryz.prog 9 #[v] w fun e w' => e = .returned (.bool (lightI l)) ∧ w' = w := by
  have hn := h.len
  obtain ⟨o, c, rfl, hel⟩ := h.itemAt
  have HEL := Lib.hid hel
  clear hel h
  go_enter Tryz.func9, Tryz.ntmps9
  go_wp2_with fail
  go_loopw [3] (fun i wr => ∃ k : Nat, k ≤ l.length ∧ k ≤ 21 ∧ i = .int .i64 k ∧ (l.take k).all okL = true ∧ wr = w) (fun i _ => l.length - (intOf i).toNat)
  case atStart => exact ⟨0, Nat.zero_le _, by omega, rfl, rfl, rfl⟩
  case round =>
    obtain ⟨k, hk, hk21, rfl, hall, rfl⟩ := hrel
    have HALL := Lib.hid hall
    clear hall
    by_cases hlt : k < l.length
    · by_cases hk2 : k < 21
      · obtain ⟨b, off, mv, rfl, hbl, c0, c1, -, hm⟩ := HEL.out k hlt
        obtain ⟨o3, k3, rfl, -⟩ := id hm
        have HS := Lib.hid (show (l.take (k + 1)).all okL = ((l.take k).all okL && okL l[k]) from by rw [List.take_succ_eq_append_getElem hlt, List.all_append]; simp)
        have HBAD : Hid (okL l[k] = false → lightI l = false) := Lib.hid (fun h => by
          unfold lightI
          rw [List.all_eq_false.2 ⟨_, List.getElem_mem hlt, by simp [h]⟩]
          simp)
        have HOK : Hid (okL l[k] = (decide (l[k].name.size ≤ 100) && decide (l[k].marks.length ≤ 10))) := Lib.hid rfl
        generalize okL l[k] = r at *
        generalize l[k].name = nm at *
        generalize l[k].marks.length = ml at *
        have a0 : (0 : Int) ≤ k := by omega
        have a1 : (k : Int) < l.length := by omega
        have a2 : (k : Int) < 21 := by omega
        have hkw : IntKind.i64.wrap ((k : Int) + 1) = (k : Int) + 1 := by rw [IntKind.wrap_i64]; omega
        clear hm
        by_cases h1 : nm.size ≤ 100
        · have t1 : decide (100 < (nm.size : Int)) = false := decide_eq_false (by omega)
          by_cases h2 : ml ≤ 10
          · have t2 : decide (10 < (ml : Int)) = false := decide_eq_false (by omega)
            have HF : Hid ((l.take (k + 1)).all okL = true) := Lib.hid (by rw [HS.out, HALL.out, HOK.out, decide_eq_true h1, decide_eq_true h2]; rfl)
            clear HS HBAD HOK
            go_wp2_with fail
            go_roundw
            case rel => exact ⟨k + 1, by omega, by omega, by go_num, HF.out, trivial⟩
            case measure => simp [intOf]; omega
          · have t2 : decide (10 < (ml : Int)) = true := decide_eq_true (by omega)
            have HF := Lib.hid (HBAD.out (by rw [HOK.out, decide_eq_false h2]; simp))
            clear HS HBAD HOK
            go_wp2_with fail
            go_ret
            exact ⟨by rw [HF.out]; rfl, rfl⟩
        · have t1 : decide (100 < (nm.size : Int)) = true := decide_eq_true (by omega)
          have HF := Lib.hid (HBAD.out (by rw [HOK.out, decide_eq_false h1]; rfl))
          clear HS HBAD HOK
          go_wp2_with fail
          go_ret
          exact ⟨by rw [HF.out]; rfl, rfl⟩
      · have HF : Hid (lightI l = false) := Lib.hid (by unfold lightI; rw [decide_eq_false (by omega : ¬ l.length ≤ 20)]; rfl)
        have t1 : decide ((k : Int) < 21) = false := decide_eq_false (by omega)
        have t2 : decide ((l.length : Int) ≤ 20) = false := decide_eq_false (by omega)
        have a1 : (k : Int) < l.length := by omega
        clear HALL
        go_wp2_with fail
        go_ret
        exact ⟨by rw [HF.out]; rfl, rfl⟩
    · have hke : k = l.length := by omega
      have HF : Hid (lightI l = decide ((l.length : Int) ≤ 20)) := Lib.hid (by
        have := HALL.out
        rw [hke, List.take_length] at this
        unfold lightI
        rw [this, Bool.and_true]
        congr 1
        exact propext (by omega))
      clear HALL
      go_wp2_with fail
      go_ret
      exact ⟨by rw [HF.out]; rfl, rfl⟩
end Go.Proofs.YtjlhdgmcaiiagaaGreatDoor
namespace Go.Proofs.YtjlhdgmcaiiagaaGreatDoor
open Go.RowKit Go.Maps

theorem putI_len (l : List ItemD) (x : ItemD) : (putI l x).length ≤ l.length + 1 := by
  have h := (insI_perm (dropN l x.name) x).length_eq
  have h2 : (dropN l x.name).length ≤ l.length := List.length_filter_le _ _
  unfold putI
  rw [← h, List.length_append, List.length_singleton]
  omega
theorem putI_lt {l : List ItemD} {x : ItemD} (h : Lt l ∧ l.length ≤ 20 ∧ ∀ x ∈ l, x.marks.length ≤ 10) (hx : x.marks.length ≤ 10) : Lt (putI l x) := by
  refine ⟨by have := putI_len l x; omega, fun y hy => ?_⟩
  rcases mem_putI.1 hy with h1 | h1
  · have := h.2.2 y (mem_dropN.1 h1).1; omega
  · rw [h1]; omega
theorem dropN_lt {l : List ItemD} (nm : ByteArray) (h : Lt l) : Lt (dropN l nm) ∧ (dropN l nm).length ≤ l.length := by
  have h2 : (dropN l nm).length ≤ l.length := List.length_filter_le _ _
  exact ⟨⟨by have := h.1; omega, fun y hy => h.2 y (mem_dropN.1 hy).1⟩, h2⟩
/-- What the law asks, plain. -/
theorem plain_ok {l : List ItemD} {x : ItemD} (hv : validI l = true) (hp : putE l x = 0) (ho : oneI x = true) :
    validI (putI l x) = true ∧ (decide (findX (putI l x) x.name = x) && decide (findN (putI l x) x.name = 0)) = true ∧ remE (putI l x) x.name = 0 ∧ dropN (putI l x) x.name = dropN l x.name ∧ validI (dropN l x.name) = true ∧
    (decide (findX (dropN l x.name) x.name = kN) && decide (findN (dropN l x.name) x.name = 9)) = true := by
  obtain ⟨h1, h2, h3⟩ := validI_parts hv
  have hvp : validI (putI l x) = true := by
    unfold putE at hp
    rw [hv, ho] at hp
    cases e : validI (putI l x) with
    | true => rfl
    | false => rw [e] at hp; cases hp
  have hr := putI_rising h2 x
  have hmem : x ∈ putI l x := mem_putI.2 (Or.inr rfl)
  have hf : fX (putI l x) x.name = some x := find_rising hr hmem
  have hany : (putI l x).any (fun y => decide (y.name = x.name)) = true := List.any_eq_true.2 ⟨x, hmem, decide_eq_true rfl⟩
  have hno : (dropN l x.name).any (fun y => decide (y.name = x.name)) = false := by
    rw [List.any_eq_false]
    intro y hy
    simpa using (mem_dropN.1 hy).2
  refine ⟨hvp, ?_, ?_, dropN_putI h2, validI_drop hv _, ?_⟩
  · have e1 : findX (putI l x) x.name = x := by unfold findX; unfold fX at hf; rw [hf]; rfl
    have e2 : findN (putI l x) x.name = 0 := by unfold findN; rw [hany]; rfl
    rw [e1, e2]; simp
  · unfold remE; rw [hvp, hany]; rfl
  · have e1 : findX (dropN l x.name) x.name = kN := by unfold findX; rw [find_none _ _ hno]; rfl
    have e2 : findN (dropN l x.name) x.name = 9 := by unfold findN; rw [hno]; rfl
    rw [e1, e2]; simp
theorem plain_back {l : List ItemD} {x : ItemD} (hv : validI l = true) (hf : findN l x.name ≠ 9) : (decide (putR (dropN l x.name) (findX l x.name) = l) && decide (putE (dropN l x.name) (findX l x.name) = 0)) = true := by
  obtain ⟨h1, h2, h3⟩ := validI_parts hv
  have hany : l.any (fun y => decide (y.name = x.name)) = true := by
    cases e : l.any (fun y => decide (y.name = x.name)) with
    | true => rfl
    | false => exact absurd (by unfold findN; rw [e]; rfl) hf
  obtain ⟨y, hy, hyn⟩ := List.any_eq_true.1 hany
  have hyn' : y.name = x.name := of_decide_eq_true hyn
  have hfy : findX l x.name = y := by
    have := find_rising (risB_iff.1 h2) hy
    unfold fX at this
    unfold findX
    rw [← hyn', this]; rfl
  have hb : putI (dropN l x.name) y = l := by
    have := putI_back h2 hy
    rw [hyn'] at this
    exact this
  have he : putE (dropN l x.name) y = 0 := by
    unfold putE
    rw [validI_drop hv, h1 y hy, hb, hv]; rfl
  rw [hfy, he]
  unfold putR
  rw [if_pos he, hb]; simp
theorem findX_marks {l : List ItemD} {nm : ByteArray} (h : Lt l) : (findX l nm).marks.length ≤ 1000 := by
  unfold findX
  cases e : l.find? (fun x => decide (x.name = nm)) with
  | none => simp
  | some y => exact h.2 y (List.mem_of_find?_eq_some e)
set_option maxRecDepth 100000 in
set_option maxHeartbeats 16000000 in
theorem holds_good (l : List ItemD) (x : ItemD) (v : Value) (mo : Option Addr) (mc : Nat) (w W1 w5 : World) (HA : Hid (Arr ItemR 2 w v l)) (HM : Hid (Arr MarkR 4 w (.slice mo x.marks.length mc) x.marks)) (hs : x.name.size ≤ maxLen) (HGL : Hid (GlobIs w))
    (HX : Hid (∀ wz, Below W1.heap.size W1 wz → wz.cell? ⟨w.heap.size, 0, none⟩ = some (.string x.name) ∧ wz.cell? ⟨w.heap.size, 1, none⟩ = some (.slice mo x.marks.length mc))) (HB5 : Hid (Below w.heap.size w w5)) (HC5 : Hid (Below W1.heap.size W1 w5)) (hlt : Lt l ∧ l.length ≤ 20 ∧ ∀ x ∈ l, x.marks.length ≤ 10) (hx10 : x.marks.length ≤ 10) (hv : validI l = true) (ho : oneI x = true)
    (hp0 : putE l x = 0) (u2 u5 u6 u7 u8 u9 u10 u11 u12 u13 u14 u15 u16 u17 u18 u19 u20 u21 u22 u23 u24 u25 u26 u27 u28 u29 u30 u31 u32 u33 u34 u35 u36 u37 u38 u39 u40 u41 u42 u43 u44 u45 u46 u47 u48 u49 u50 u51 u52 u53 u54 u55 u56 u57 u58 u59 u60 u61 u62 u63 u64 u65 u66 u67 u68 u69 u70 u71 u72 u73 u74 u75 u76 u77 u78 u79 u80 u81 u82 u83 u84 u85 u86 u87 u88 u89 u90 u91 u92 u93 u94 u95 u96 u97 u98 u99 u100 u101 u102 u103 u104 u105 u106 u107 u108 u109 u110 u111 u112 u113 u114 u115 u116 u117 u118 u119 u120 u121 u122 u123 u124 u125 u126 u127 u128 u129 u130 u131 u132 u133 u134 u135 u136 u137 u138 u139 u140 u141 u142 u143 : Value) :
    (codeAt [1, 1] (Tryz.f7.body.getD .skip)).wp Tryz.prog (bodyPost Tryz.prog Tryz.f7 (fun e w' => e = .returned (.bool true) ∧ Below w.heap.size w w')) { tmps := #[v, .agg #[.string x.name, .slice mo x.marks.length mc], u2, .pointer (some ⟨w.heap.size, 0, none⟩), .bool false, u5, u6, u7, u8, u9, u10, u11, u12, u13, u14, u15, u16, u17, u18, u19, u20, u21, u22, u23, u24, u25, u26, u27, u28, u29, u30, u31, u32, u33, u34, u35, u36, u37, u38, u39, u40, u41, u42, u43, u44, u45, u46, u47, u48, u49, u50, u51, u52, u53, u54, u55, u56, u57, u58, u59, u60, u61, u62, u63, u64, u65, u66, u67, u68, u69, u70, u71, u72, u73, u74, u75, u76, u77, u78, u79, u80, u81, u82, u83, u84, u85, u86, u87, u88, u89, u90, u91, u92, u93, u94, u95, u96, u97, u98, u99, u100, u101, u102, u103, u104, u105, u106, u107, u108, u109, u110, u111, u112, u113, u114, u115, u116, u117, u118, u119, u120, u121, u122, u123, u124, u125, u126, u127, u128, u129, u130, u131, u132, u133, u134, u135, u136, u137, u138, u139, u140, u141, u142, u143], defers := [] } w5 := by
  simp only [codeAt, codeR, Tryz.f7, Option.getD_some]
  have HPL := Lib.hid (plain_ok hv hp0 ho)
  have HPB := Lib.hid (fun h => plain_back (x := x) hv h)
  have HNO := Lib.hid (fun (h : l.any (fun y => decide (y.name = x.name)) = false) => dropN_none h)
  have HFN : Hid (findN l x.name = if l.any (fun y => decide (y.name = x.name)) then 0 else 9) := Lib.hid rfl
  have HLP := Lib.hid (putI_lt hlt hx10)
  have HLD := Lib.hid (dropN_lt x.name hlt.1)
  have HP0 := Lib.hid hp0
  obtain ⟨c0, c1⟩ := HX.out w5 HC5.out
  have HF := Lib.hid (itemsFind_any x.name l v w5 (HA.out.items HB5.out) hlt.1)
  clear hv ho hp0
  go_wp2_with fail
  refine HF.out.mono ?_
  intro e w6 hp6
  obtain ⟨fo, fc, rfl, hfm, hfs, hb6⟩ := hp6.arr (HA.out.items HB5.out)
  have HB6 := Lib.hid (HB5.out.trans (hb6.mono HB5.out.size))
  have HC6 := Lib.hid (HC5.out.trans (hb6.mono HC5.out.size))
  obtain ⟨fx, hfx⟩ : ∃ fx, fx = findX l x.name := ⟨_, rfl⟩
  obtain ⟨fn, hfn⟩ : ∃ fn, fn = findN l x.name := ⟨_, rfl⟩
  rw [← hfx] at hfm hfs HPB
  rw [← hfn] at HFN HPB
  rw [← hfx, ← hfn]
  obtain ⟨W7, hW7⟩ : ∃ W7, W7 = w6.alloc (.cells #[.string fx.name, .slice fo fx.marks.length fc] 31) := ⟨_, rfl⟩
  have hb7 : Below w6.heap.size w6 W7 := by rw [hW7]; exact (Below.refl _ _).alloc (Nat.le_refl _) _
  have hg7 : W7.heap[w6.heap.size]? = some (.cells #[.string fx.name, .slice fo fx.marks.length fc] 31) := by rw [hW7]; exact alloc_new _ _
  have HB7 := Lib.hid (HB6.out.trans (hb7.mono HB6.out.size))
  have HC7 := Lib.hid (HC6.out.trans (hb7.mono HC6.out.size))
  have HO : Hid (∀ wz, Below W7.heap.size W7 wz → (wz.cell? ⟨w6.heap.size, 0, none⟩ = some (.string fx.name) ∧ wz.cell? ⟨w6.heap.size, 1, none⟩ = some (.slice fo fx.marks.length fc)) ∧ Arr MarkR 4 wz (.slice fo fx.marks.length fc) fx.marks) := Lib.hid (fun wz hz => ⟨⟨by rw [hz.cell (p := ⟨w6.heap.size, 0, none⟩) (lt_of_heap hg7), cell0 hg7 0]; rfl, by rw [hz.cell (p := ⟨w6.heap.size, 1, none⟩) (lt_of_heap hg7), cell0 hg7 1]; rfl⟩, (hfm.marks hb7).marks hz⟩)
  have HW7 := Lib.hid hW7
  have HFX := Lib.hid hfx
  clear hp6 hfm hb6 hfx hfn hW7 hb7 hg7 HF c0 c1
  obtain ⟨c0, c1⟩ := HX.out w6 HC6.out
  have hwl : w.heap.size < w6.heap.size := by
    obtain ⟨b, off, he, hlt2⟩ := addr_plain c0
    cases he
    exact hlt2
  have HPU := Lib.hid (itemsPut_any l x v _ W7 (HA.out.items HB7.out) (HM.out.marks HB7.out) hs hlt.1 ⟨by omega, by omega⟩ (HGL.out.below HB7.out))
  go_wp2_with fail
  rw [← HW7.out]
  refine HPU.out.mono ?_
  rintro e w8 ⟨v8, rfl, hb8, -, hgood⟩
  rw [HP0.out] at hgood ⊢
  obtain ⟨ps8, hm8, hf8⟩ := hgood rfl
  have HY8 := Lib.hid (show Arr ItemR 2 w8 v8 (putI l x) from by rw [← hm8]; exact hf8.arr)
  have HB8 := Lib.hid (HB7.out.trans (hb8.mono HB7.out.size))
  have HC8 := Lib.hid (HC7.out.trans (hb8.mono HC7.out.size))
  have HD8 := Lib.hid hb8
  clear hb8 hgood hm8 hf8 HPU c0 c1
  have HV8 := Lib.hid (itemsValid_any (putI l x) v8 w8 HY8.out HLP.out (HGL.out.below HB8.out))
  rw [HPL.out.1] at HV8
  go_wp2_with fail
  refine HV8.out.mono ?_
  rintro e w9 ⟨rfl, hb9⟩
  have HB9 := Lib.hid (HB8.out.trans (hb9.mono HB8.out.size))
  have HC9 := Lib.hid (HC8.out.trans (hb9.mono HC8.out.size))
  have HD9 := Lib.hid (HD8.out.trans (hb9.mono HD8.out.size))
  have HY9 := Lib.hid (HY8.out.items hb9)
  obtain ⟨c0, c1⟩ := HX.out w9 HC9.out
  have HF9 := Lib.hid (l9finds_any (putI l x) x.name x 0 v8 _ w9 HY9.out (HM.out.marks HB9.out) hs HLP.out)
  rw [HPL.out.2.1] at HF9
  clear hb9 HV8
  go_wp2_with fail
  refine HF9.out.mono ?_
  rintro e w10 ⟨rfl, hb10⟩
  have HB10 := Lib.hid (HB9.out.trans (hb10.mono HB9.out.size))
  have HC10 := Lib.hid (HC9.out.trans (hb10.mono HC9.out.size))
  have HD10 := Lib.hid (HD9.out.trans (hb10.mono HD9.out.size))
  have HY10 := Lib.hid (HY9.out.items hb10)
  clear hb10 HF9 c0 c1
  obtain ⟨c0, c1⟩ := HX.out w10 HC10.out
  have HR10 := Lib.hid (itemsRemove_any (putI l x) x.name v8 w10 HY10.out HLP.out (HGL.out.below HB10.out))
  go_wp2_with fail
  refine HR10.out.mono ?_
  rintro e w11 ⟨v11, rfl, hb11, -, hgood⟩
  rw [HPL.out.2.2.1] at hgood ⊢
  obtain ⟨ps11, hm11, hf11⟩ := hgood rfl
  rw [HPL.out.2.2.2.1] at hm11
  have HZ11 := Lib.hid (show Arr ItemR 2 w11 v11 (dropN l x.name) from by rw [← hm11]; exact hf11.arr)
  have HB11 := Lib.hid (HB10.out.trans (hb11.mono HB10.out.size))
  have HC11 := Lib.hid (HC10.out.trans (hb11.mono HC10.out.size))
  have HD11 := Lib.hid (HD10.out.trans (hb11.mono HD10.out.size))
  clear hb11 hgood hm11 hf11 HR10 c0 c1
  have HV11 := Lib.hid (itemsValid_any (dropN l x.name) v11 w11 HZ11.out HLD.out.1 (HGL.out.below HB11.out))
  rw [HPL.out.2.2.2.2.1] at HV11
  go_wp2_with fail
  refine HV11.out.mono ?_
  rintro e w12 ⟨rfl, hb12⟩
  have HB12 := Lib.hid (HB11.out.trans (hb12.mono HB11.out.size))
  have HC12 := Lib.hid (HC11.out.trans (hb12.mono HC11.out.size))
  have HD12 := Lib.hid (HD11.out.trans (hb12.mono HD11.out.size))
  have HZ12 := Lib.hid (HZ11.out.items hb12)
  obtain ⟨c0, c1⟩ := HX.out w12 HC12.out
  have HF12 := Lib.hid (l9finds_any (dropN l x.name) x.name kN 9 v11 (.slice none 0 0) w12 HZ12.out arr_nil (by decide) HLD.out.1)
  rw [HPL.out.2.2.2.2.2] at HF12
  clear hb12 HV11
  go_wp2_with fail
  refine HF12.out.mono ?_
  rintro e w13 ⟨rfl, hb13⟩
  have HB13 := Lib.hid (HB12.out.trans (hb13.mono HB12.out.size))
  have HC13 := Lib.hid (HC12.out.trans (hb13.mono HC12.out.size))
  have HD13 := Lib.hid (HD12.out.trans (hb13.mono HD12.out.size))
  have HZ13 := Lib.hid (HZ12.out.items hb13)
  clear hb13 HF12 c0 c1
  by_cases hany : l.any (fun y => decide (y.name = x.name)) = true
  · have hfn : fn = 0 := by rw [HFN.out, hany]; rfl
    subst hfn
    have HPB2 := Lib.hid (HPB.out (by decide))
    obtain ⟨⟨e0, e1⟩, hma⟩ := HO.out w13 HD13.out
    have HPP := Lib.hid (l9puts_any (dropN l x.name) l fx 0 v11 (.slice fo fx.marks.length fc) v w13 HZ13.out hma (HA.out.items HB13.out) hfs HLD.out.1 ⟨by have := HLD.out.2; omega, by rw [HFX.out]; exact findX_marks hlt.1⟩ (HGL.out.below HB13.out))
    rw [HPB2.out] at HPP
    clear hma HPB HFN hany
    go_wp2_with fail
    refine HPP.out.mono ?_
    rintro e w14 ⟨rfl, hb14⟩
    have HB14 := Lib.hid (HB13.out.trans (hb14.mono HB13.out.size))
    have HKN := Lib.hid (l9known_any w14 (HGL.out.below HB14.out))
    clear hb14 HPP
    go_wp2_with fail
    refine HKN.out.mono ?_
    rintro e w15 ⟨rfl, hb15⟩
    go_wp2_with fail
    go_ret
    exact ⟨rfl, HB14.out.trans (hb15.mono HB14.out.size)⟩
  · have hany2 : l.any (fun y => decide (y.name = x.name)) = false := by simpa using hany
    have hfn : fn = 9 := by rw [HFN.out, hany2]; rfl
    subst hfn
    have HEQ := Lib.hid (r9Equal_any (dropN l x.name) l v11 v w13 HZ13.out (HA.out.items HB13.out))
    rw [HNO.out hany2, decide_eq_true rfl] at HEQ
    clear hany hany2 HFN HNO HPB
    go_wp2_with fail
    refine HEQ.out.mono ?_
    rintro e w14 ⟨rfl, hb14⟩
    have HB14 := Lib.hid (HB13.out.trans (hb14.mono HB13.out.size))
    have HKN := Lib.hid (l9known_any w14 (HGL.out.below HB14.out))
    clear hb14 HEQ
    go_wp2_with fail
    refine HKN.out.mono ?_
    rintro e w15 ⟨rfl, hb15⟩
    go_wp2_with fail
    go_ret
    exact ⟨rfl, HB14.out.trans (hb15.mono HB14.out.size)⟩
end Go.Proofs.YtjlhdgmcaiiagaaGreatDoor
namespace Go.Proofs.YtjlhdgmcaiiagaaGreatDoor
open Go.RowKit Go.Maps

def hitB (l : List ItemD) (nm : ByteArray) (m : MarkD) : Bool := decide (ownerN (ownerI l m.dot) = 0) && !decide (ownerS (ownerI l m.dot) = nm)
theorem plain_busy {l : List ItemD} {x : ItemD} (hv : validI l = true) (ho : oneI x = true) (hp : putE l x ≠ 0) : putE l x = 11 ∧ x.marks.any (hitB l x.name) = true := by
  have hvp : validI (putI l x) = false := by
    cases e : validI (putI l x) with
    | false => rfl
    | true => exact absurd (by unfold putE; rw [hv, ho, e]; rfl) hp
  refine ⟨by unfold putE; rw [hv, ho, hvp]; rfl, ?_⟩
  obtain ⟨m, hm, s, h1, h2⟩ := busy_met hv ho hvp
  refine List.any_eq_true.2 ⟨m, hm, ?_⟩
  unfold hitB ownerN ownerS
  rw [h1]
  simp [h2]
set_option maxRecDepth 100000 in
set_option maxHeartbeats 16000000 in
theorem holds_busy (l : List ItemD) (x : ItemD) (v : Value) (mo : Option Addr) (mc : Nat) (w W1 w5 : World) (HA : Hid (Arr ItemR 2 w v l)) (HM : Hid (Arr MarkR 4 w (.slice mo x.marks.length mc) x.marks)) (hs : x.name.size ≤ maxLen) (HGL : Hid (GlobIs w))
    (HX : Hid (∀ wz, Below W1.heap.size W1 wz → wz.cell? ⟨w.heap.size, 0, none⟩ = some (.string x.name) ∧ wz.cell? ⟨w.heap.size, 1, none⟩ = some (.slice mo x.marks.length mc))) (HB5 : Hid (Below w.heap.size w w5)) (HC5 : Hid (Below W1.heap.size W1 w5)) (hlt : Lt l ∧ l.length ≤ 20 ∧ ∀ x ∈ l, x.marks.length ≤ 10) (hx10 : x.marks.length ≤ 10) (hv : validI l = true) (ho : oneI x = true)
    (hpn : putE l x ≠ 0) (u2 u5 u6 u7 u8 u9 u10 u11 u12 u13 u14 u15 u16 u17 u18 u19 u20 u21 u22 u23 u24 u25 u26 u27 u28 u29 u30 u31 u32 u33 u34 u35 u36 u37 u38 u39 u40 u41 u42 u43 u44 u45 u46 u47 u48 u49 u50 u51 u52 u53 u54 u55 u56 u57 u58 u59 u60 u61 u62 u63 u64 u65 u66 u67 u68 u69 u70 u71 u72 u73 u74 u75 u76 u77 u78 u79 u80 u81 u82 u83 u84 u85 u86 u87 u88 u89 u90 u91 u92 u93 u94 u95 u96 u97 u98 u99 u100 u101 u102 u103 u104 u105 u106 u107 u108 u109 u110 u111 u112 u113 u114 u115 u116 u117 u118 u119 u120 u121 u122 u123 u124 u125 u126 u127 u128 u129 u130 u131 u132 u133 u134 u135 u136 u137 u138 u139 u140 u141 u142 u143 : Value) :
    (codeAt [1, 1] (Tryz.f7.body.getD .skip)).wp Tryz.prog (bodyPost Tryz.prog Tryz.f7 (fun e w' => e = .returned (.bool true) ∧ Below w.heap.size w w')) { tmps := #[v, .agg #[.string x.name, .slice mo x.marks.length mc], u2, .pointer (some ⟨w.heap.size, 0, none⟩), .bool false, u5, u6, u7, u8, u9, u10, u11, u12, u13, u14, u15, u16, u17, u18, u19, u20, u21, u22, u23, u24, u25, u26, u27, u28, u29, u30, u31, u32, u33, u34, u35, u36, u37, u38, u39, u40, u41, u42, u43, u44, u45, u46, u47, u48, u49, u50, u51, u52, u53, u54, u55, u56, u57, u58, u59, u60, u61, u62, u63, u64, u65, u66, u67, u68, u69, u70, u71, u72, u73, u74, u75, u76, u77, u78, u79, u80, u81, u82, u83, u84, u85, u86, u87, u88, u89, u90, u91, u92, u93, u94, u95, u96, u97, u98, u99, u100, u101, u102, u103, u104, u105, u106, u107, u108, u109, u110, u111, u112, u113, u114, u115, u116, u117, u118, u119, u120, u121, u122, u123, u124, u125, u126, u127, u128, u129, u130, u131, u132, u133, u134, u135, u136, u137, u138, u139, u140, u141, u142, u143], defers := [] } w5 := by
  simp only [codeAt, codeR, Tryz.f7, Option.getD_some]
  obtain ⟨hp0, hmet⟩ := plain_busy hv ho hpn
  have HP0 := Lib.hid hp0
  have HMET := Lib.hid hmet
  clear hpn hmet hv
  obtain ⟨c0, c1⟩ := HX.out w5 HC5.out
  have HF := Lib.hid (itemsFind_any x.name l v w5 (HA.out.items HB5.out) hlt.1)
  clear ho hp0
  go_wp2_with fail
  refine HF.out.mono ?_
  intro e w6 hp6
  obtain ⟨fo, fc, rfl, hfm, hfs, hb6⟩ := hp6.arr (HA.out.items HB5.out)
  have HB6 := Lib.hid (HB5.out.trans (hb6.mono HB5.out.size))
  have HC6 := Lib.hid (HC5.out.trans (hb6.mono HC5.out.size))
  obtain ⟨fx, hfx⟩ : ∃ fx, fx = findX l x.name := ⟨_, rfl⟩
  obtain ⟨fn, hfn⟩ : ∃ fn, fn = findN l x.name := ⟨_, rfl⟩
  rw [← hfx] at hfm hfs
  rw [← hfx, ← hfn]
  obtain ⟨W7, hW7⟩ : ∃ W7, W7 = w6.alloc (.cells #[.string fx.name, .slice fo fx.marks.length fc] 31) := ⟨_, rfl⟩
  have hb7 : Below w6.heap.size w6 W7 := by rw [hW7]; exact (Below.refl _ _).alloc (Nat.le_refl _) _
  have hg7 : W7.heap[w6.heap.size]? = some (.cells #[.string fx.name, .slice fo fx.marks.length fc] 31) := by rw [hW7]; exact alloc_new _ _
  have HB7 := Lib.hid (HB6.out.trans (hb7.mono HB6.out.size))
  have HC7 := Lib.hid (HC6.out.trans (hb7.mono HC6.out.size))
  have HO : Hid (∀ wz, Below W7.heap.size W7 wz → (wz.cell? ⟨w6.heap.size, 0, none⟩ = some (.string fx.name) ∧ wz.cell? ⟨w6.heap.size, 1, none⟩ = some (.slice fo fx.marks.length fc)) ∧ Arr MarkR 4 wz (.slice fo fx.marks.length fc) fx.marks) := Lib.hid (fun wz hz => ⟨⟨by rw [hz.cell (p := ⟨w6.heap.size, 0, none⟩) (lt_of_heap hg7), cell0 hg7 0]; rfl, by rw [hz.cell (p := ⟨w6.heap.size, 1, none⟩) (lt_of_heap hg7), cell0 hg7 1]; rfl⟩, (hfm.marks hb7).marks hz⟩)
  have HW7 := Lib.hid hW7
  have HFX := Lib.hid hfx
  clear hp6 hfm hb6 hfx hfn hW7 hb7 hg7 HF c0 c1
  obtain ⟨c0, c1⟩ := HX.out w6 HC6.out
  have hwl : w.heap.size < w6.heap.size := by
    obtain ⟨b, off, he, hlt2⟩ := addr_plain c0
    cases he
    exact hlt2
  have HPU := Lib.hid (itemsPut_any l x v _ W7 (HA.out.items HB7.out) (HM.out.marks HB7.out) hs hlt.1 ⟨by omega, by omega⟩ (HGL.out.below HB7.out))
  go_wp2_with fail
  rw [← HW7.out]
  refine HPU.out.mono ?_
  rintro e w8 ⟨v8, rfl, hb8, hbad, -⟩
  rw [HP0.out] at hbad ⊢
  have hv8 := hbad (by decide)
  subst hv8
  have HB8 := Lib.hid (HB7.out.trans (hb8.mono HB7.out.size))
  have HC8 := Lib.hid (HC7.out.trans (hb8.mono HC7.out.size))
  clear hb8 hbad HPU c0 c1
  obtain ⟨c0, c1⟩ := HX.out w8 HC8.out
  have hnm : x.marks.length ≤ 1000 := by omega
  go_wp2_with fail
  go_loopw [9, 56] (fun mt i wr => ∃ k : Nat, k ≤ x.marks.length ∧ i = .int .i64 k ∧ mt = .bool ((x.marks.take k).any (hitB l x.name)) ∧ Below w.heap.size w wr ∧ Below W1.heap.size W1 wr) (fun _ i _ => x.marks.length - (intOf i).toNat)
  case atStart => exact ⟨0, Nat.zero_le _, rfl, rfl, HB8.out, HC8.out⟩
  case round =>
    obtain ⟨k, hk, rfl, rfl, hB, hC⟩ := hrel
    have HB := Lib.hid hB
    have HC := Lib.hid hC
    clear hB hC
    by_cases hlk : k < x.marks.length
    · obtain ⟨o', c', he', hel⟩ := (HM.out.marks HB.out).markAt
      obtain ⟨b, off, hb', hbl, e0, e1, e2, e3, -⟩ := hel k hlk
      cases he'
      subst hb'
      have HS := Lib.hid (any_take_snoc (hitB l x.name) x.marks k hlk)
      have HH : Hid (hitB l x.name x.marks[k] = (decide (ownerN (ownerI l x.marks[k].dot) = 0) && !decide (ownerS (ownerI l x.marks[k].dot) = x.name))) := Lib.hid rfl
      generalize x.marks[k] = m at *
      have hal : Below wr.heap.size wr (wr.alloc (.cells #[.int .i64 m.dot.rep, .int .i64 m.dot.ctr, .int .i64 m.qty, .int .u64 m.time] 62)) := (Below.refl _ _).alloc (Nat.le_refl _) _
      have HAL := Lib.hid hal
      have HOW := Lib.hid (itemsOwner_any l m.dot v (wr.alloc (.cells #[.int .i64 m.dot.rep, .int .i64 m.dot.ctr, .int .i64 m.qty, .int .u64 m.time] 62)) ((HA.out.items HB.out).items hal) hlt.1)
      rw [ownerV_eq] at HOW
      unfold dotV at HOW
      have hse := strDec (ownerS (ownerI l m.dot)) x.name
      generalize hitB l x.name m = hit at *
      generalize ownerS (ownerI l m.dot) = os at *
      generalize ownerN (ownerI l m.dot) = on at *
      have a0 : (0 : Int) ≤ k := by omega
      have a1 : (k : Int) < x.marks.length := by omega
      have hkw : IntKind.i64.wrap ((k : Int) + 1) = (k : Int) + 1 := by rw [IntKind.wrap_i64]; omega
      clear hel hal
      obtain ⟨met, hmt⟩ : ∃ met, met = (x.marks.take k).any (hitB l x.name) := ⟨_, rfl⟩
      rw [← hmt] at HS ⊢
      clear hmt
      cases met with
      | true =>
        go_wp2_with (go_at_call 34; refine HOW.out.mono ?_; rintro e w9 ⟨rfl, hb9⟩; have hb10 := HAL.out.trans (hb9.mono HAL.out.size); have hcx := (HX.out w9 (HC.out.trans (hb10.mono HC.out.size))).1)
        have hbf := HB.out.trans (hb10.mono HB.out.size)
        have hcf := HC.out.trans (hb10.mono HC.out.size)
        go_roundw
        case rel => exact ⟨k + 1, by omega, by go_num, by rw [HS.out]; rfl, hbf, hcf⟩
        case measure => simp [intOf]; omega
      | false =>
        by_cases hn0 : on = 0
        · subst hn0
          by_cases hos : os = x.name
          · rw [decide_eq_true hos] at hse HH
            have hh : hit = false := HH.out
            subst hh
            clear hos HH
            go_wp2_with (go_at_call 34; refine HOW.out.mono ?_; rintro e w9 ⟨rfl, hb9⟩; have hb10 := HAL.out.trans (hb9.mono HAL.out.size); have hcx := (HX.out w9 (HC.out.trans (hb10.mono HC.out.size))).1)
            have hbf := HB.out.trans (hb10.mono HB.out.size)
            have hcf := HC.out.trans (hb10.mono HC.out.size)
            go_roundw
            case rel => exact ⟨k + 1, by omega, by go_num, by rw [HS.out]; rfl, hbf, hcf⟩
            case measure => simp [intOf]; omega
          · rw [decide_eq_false hos] at hse HH
            have hh : hit = true := HH.out
            subst hh
            clear hos HH
            go_wp2_with (go_at_call 34; refine HOW.out.mono ?_; rintro e w9 ⟨rfl, hb9⟩; have hb10 := HAL.out.trans (hb9.mono HAL.out.size); have hcx := (HX.out w9 (HC.out.trans (hb10.mono HC.out.size))).1)
            have hbf := HB.out.trans (hb10.mono HB.out.size)
            have hcf := HC.out.trans (hb10.mono HC.out.size)
            go_roundw
            case rel => exact ⟨k + 1, by omega, by go_num, by rw [HS.out]; rfl, hbf, hcf⟩
            case measure => simp [intOf]; omega
        · have t0 : (on == 0) = false := by simpa using hn0
          rw [decide_eq_false hn0] at HH
          have hh : hit = false := HH.out
          subst hh
          clear HH
          go_wp2_with (go_at_call 34; refine HOW.out.mono ?_; rintro e w9 ⟨rfl, hb9⟩; have hb10 := HAL.out.trans (hb9.mono HAL.out.size); have hcx := (HX.out w9 (HC.out.trans (hb10.mono HC.out.size))).1)
          have hbf := HB.out.trans (hb10.mono HB.out.size)
          have hcf := HC.out.trans (hb10.mono HC.out.size)
          go_roundw
          case rel => exact ⟨k + 1, by omega, by go_num, by rw [HS.out]; rfl, hbf, hcf⟩
          case measure => simp [intOf]; omega
    · have hke : k = x.marks.length := by omega
      have hm2 := HMET.out
      rw [hke, List.take_length, hm2]
      have HKN := Lib.hid (l9known_any wr (HGL.out.below HB.out))
      clear hm2
      go_wp2_with fail
      refine HKN.out.mono ?_
      rintro e wk ⟨rfl, hbk⟩
      go_wp2_with fail
      go_ret
      exact ⟨rfl, HB.out.trans (hbk.mono HB.out.size)⟩
end Go.Proofs.YtjlhdgmcaiiagaaGreatDoor
namespace Go.Proofs.YtjlhdgmcaiiagaaGreatDoor
open Go.RowKit Go.Maps

theorem lightI_lt {l : List ItemD} (h : lightI l = true) : Lt l ∧ l.length ≤ 20 ∧ ∀ x ∈ l, x.marks.length ≤ 10 := by
  unfold lightI at h
  rw [Bool.and_eq_true, decide_eq_true_iff, List.all_eq_true] at h
  have h2 : ∀ x ∈ l, x.marks.length ≤ 10 := fun x hx => by
    have := h.2 x hx
    unfold okL at this
    simp only [Bool.and_eq_true, decide_eq_true_eq] at this
    exact this.2
  exact ⟨⟨by omega, fun x hx => by have := h2 x hx; omega⟩, h.1, h2⟩
theorem validI_one (x : ItemD) : validI [x] = oneI x := by
  rw [validI_eqB]
  unfold validB
  simp [risB]
set_option maxRecDepth 100000 in
set_option maxHeartbeats 16000000 in
theorem holds_in (l : List ItemD) (x : ItemD) (v mv : Value) (w : World) (h : Arr ItemR 2 w v l) (hm : Arr MarkR 4 w mv x.marks) (hs : x.name.size ≤ maxLen) (hG : GlobIs w) : Calls Tryz.prog 7 #[v, .agg #[.string x.name, mv]] w fun e w' => e = .returned (.bool true) ∧ Below w.heap.size w w' := by
  obtain ⟨mo, mc, rfl, -⟩ := id hm
  obtain ⟨W1, hW1⟩ : ∃ W1, W1 = w.alloc (.cells #[.string x.name, .slice mo x.marks.length mc] 31) := ⟨_, rfl⟩
  have hb1 : Below w.heap.size w W1 := by rw [hW1]; exact (Below.refl _ _).alloc (Nat.le_refl _) _
  have hg1 : W1.heap[w.heap.size]? = some (.cells #[.string x.name, .slice mo x.marks.length mc] 31) := by rw [hW1]; exact alloc_new _ _
  have HX : Hid (∀ wz, Below W1.heap.size W1 wz → wz.cell? ⟨w.heap.size, 0, none⟩ = some (.string x.name) ∧ wz.cell? ⟨w.heap.size, 1, none⟩ = some (.slice mo x.marks.length mc)) := Lib.hid (fun wz hz => ⟨by rw [hz.cell (p := ⟨w.heap.size, 0, none⟩) (lt_of_heap hg1), cell0 hg1 0]; rfl, by rw [hz.cell (p := ⟨w.heap.size, 1, none⟩) (lt_of_heap hg1), cell0 hg1 1]; rfl⟩)
  have HL := Lib.hid (l9light_any l v W1 (h.items hb1))
  have HA := Lib.hid h
  have HM := Lib.hid hm
  have HGL := Lib.hid hG
  have HB1 := Lib.hid hb1
  have HW := Lib.hid hW1
  have HLB : Hid (lightI l = true → Lt l ∧ l.length ≤ 20 ∧ ∀ x ∈ l, x.marks.length ≤ 10) := Lib.hid lightI_lt
  have HLX : Hid (lightI [x] = true → x.marks.length ≤ 10) := Lib.hid (fun h => (lightI_lt h).2.2 x (by simp))
  have HV1 : Hid (validI [x] = oneI x) := Lib.hid (validI_one x)
  clear h hm hG hg1 hb1 hW1
  obtain ⟨r1, hr1⟩ : ∃ r, r = lightI l := ⟨_, rfl⟩
  rw [← hr1] at HL HLB
  clear hr1
  obtain ⟨c0, c1⟩ := HX.out W1 (Below.refl _ _)
  cases r1 with
  | false =>
    go_enter Tryz.func7, Tryz.ntmps7
    go_wp2_with fail
    rw [← HW.out]
    refine HL.out.mono ?_
    rintro e wq ⟨rfl, hwq⟩
    rw [hwq]
    clear hwq
    have HKN := Lib.hid (l9known_any _ (HGL.out.below HB1.out))
    go_wp2_with fail
    refine HKN.out.mono ?_
    rintro e wk ⟨rfl, hbk⟩
    go_wp2_with fail
    go_ret
    exact ⟨rfl, HB1.out.trans (hbk.mono HB1.out.size)⟩  | true =>
    have hlt := HLB.out rfl
    obtain ⟨W2, hW2⟩ : ∃ W2, W2 = W1.alloc (.cells #[.string x.name, .slice mo x.marks.length mc] 31) := ⟨_, rfl⟩
    have hb2 : Below W1.heap.size W1 W2 := by rw [hW2]; exact (Below.refl _ _).alloc (Nat.le_refl _) _
    have HL2 := Lib.hid (l9light_any [x] (.slice (some ⟨W1.heap.size, 0, none⟩) 1 1) W2 (by rw [hW2]; exact arr_lit 31 hs ((HM.out.marks HB1.out).marks (by rw [← hW2]; exact hb2))))
    have HB2 := Lib.hid (HB1.out.trans (hb2.mono HB1.out.size))
    have HW2 := Lib.hid hW2
    have HBW2 := Lib.hid hb2
    obtain ⟨r2, hr2⟩ : ∃ r, r = lightI [x] := ⟨_, rfl⟩
    rw [← hr2] at HL2 HLX
    have HVL := Lib.hid (itemsValid_any l v W2 (HA.out.items HB2.out) hlt.1 (HGL.out.below HB2.out))
    clear hW2 hb2 hr2 HLB
    go_enter Tryz.func7, Tryz.ntmps7
    go_wp2_with fail
    rw [← HW.out]
    refine HL.out.mono ?_
    rintro e wq ⟨rfl, hwq⟩
    rw [hwq]
    clear hwq
    go_wp2_with fail
    rw [← HW2.out]
    refine (l9of_any _ _).mono ?_
    rintro e wq ⟨rfl, hwq⟩
    rw [hwq]
    clear hwq
    go_wp2_with fail
    refine HL2.out.mono ?_
    rintro e wq ⟨rfl, hwq⟩
    rw [hwq]
    clear hwq
    have HC2 := HBW2
    cases r2 with
    | false =>
      have HKN := Lib.hid (l9known_any _ (HGL.out.below HB2.out))
      go_wp2_with fail
      refine HKN.out.mono ?_
      rintro e wk ⟨rfl, hbk⟩
      go_wp2_with fail
      go_ret
      exact ⟨rfl, HB2.out.trans (hbk.mono HB2.out.size)⟩    | true =>
      have hx10 := HLX.out rfl
      have hx1 : Lt [x] := ⟨by simp, fun y hy => by rw [List.mem_singleton] at hy; rw [hy]; omega⟩
      obtain ⟨r3, hr3⟩ : ∃ r, r = validI l := ⟨_, rfl⟩
      rw [← hr3] at HVL
      have HR3 := Lib.hid hr3
      clear hr3 c0 c1
      go_wp2_with fail
      refine HVL.out.mono ?_
      rintro e w3 ⟨rfl, hb3⟩
      have HB3 := Lib.hid (HB2.out.trans (hb3.mono HB2.out.size))
      have HC3 := Lib.hid (HC2.out.trans (hb3.mono HC2.out.size))
      clear hb3 HVL
      cases r3 with
      | false =>
        have HKN := Lib.hid (l9known_any _ (HGL.out.below HB3.out))
        go_wp2_with fail
        refine HKN.out.mono ?_
        rintro e wk ⟨rfl, hbk⟩
        go_wp2_with fail
        go_ret
        exact ⟨rfl, HB3.out.trans (hbk.mono HB3.out.size)⟩      | true =>
        obtain ⟨W4, hW4⟩ : ∃ W4, W4 = w3.alloc (.cells #[.string x.name, .slice mo x.marks.length mc] 31) := ⟨_, rfl⟩
        have hb4 : Below w3.heap.size w3 W4 := by rw [hW4]; exact (Below.refl _ _).alloc (Nat.le_refl _) _
        have HB4 := Lib.hid (HB3.out.trans (hb4.mono HB3.out.size))
        have HC4 := Lib.hid (HC3.out.trans (hb4.mono HC3.out.size))
        have HV4 := Lib.hid (itemsValid_any [x] (.slice (some ⟨w3.heap.size, 0, none⟩) 1 1) W4 (by rw [hW4]; exact arr_lit 31 hs ((HM.out.marks HB3.out).marks (by rw [← hW4]; exact hb4))) hx1 (HGL.out.below HB4.out))
        have HW4 := Lib.hid hW4
        obtain ⟨c0, c1⟩ := HX.out w3 HC3.out
        rw [HV1.out] at HV4
        obtain ⟨r4, hr4⟩ : ∃ r, r = oneI x := ⟨_, rfl⟩
        rw [← hr4] at HV4
        have HR4 := Lib.hid hr4
        clear hr4 hb4 hW4
        go_wp2_with fail
        rw [← HW4.out]
        refine (l9of_any _ _).mono ?_
        rintro e wq ⟨rfl, hwq⟩
        rw [hwq]
        clear hwq
        go_wp2_with fail
        refine HV4.out.mono ?_
        rintro e w5 ⟨rfl, hb5⟩
        have HB5 := Lib.hid (HB4.out.trans (hb5.mono HB4.out.size))
        have HC5 := Lib.hid (HC4.out.trans (hb5.mono HC4.out.size))
        clear hb5 HV4 c0 c1 HW4
        cases r4 with
        | false =>
          have HKN := Lib.hid (l9known_any _ (HGL.out.below HB5.out))
          go_wp2_with fail
          refine HKN.out.mono ?_
          rintro e wk ⟨rfl, hbk⟩
          go_wp2_with fail
          go_ret
          exact ⟨rfl, HB5.out.trans (hbk.mono HB5.out.size)⟩        | true =>
          iterate 15 (first | go_values | go_skip | go_guarded | go_step | go_upon | go_back | go_simp)
          by_cases hp : putE l x = 0
          · exact holds_good l x v mo mc w W1 w5 HA HM hs HGL HX HB5 HC5 hlt hx10 HR3.out.symm HR4.out.symm hp _ _ _ _ _ _ _ _ _ _ _ _ _ _ _ _ _ _ _ _ _ _ _ _ _ _ _ _ _ _ _ _ _ _ _ _ _ _ _ _ _ _ _ _ _ _ _ _ _ _ _ _ _ _ _ _ _ _ _ _ _ _ _ _ _ _ _ _ _ _ _ _ _ _ _ _ _ _ _ _ _ _ _ _ _ _ _ _ _ _ _ _ _ _ _ _ _ _ _ _ _ _ _ _ _ _ _ _ _ _ _ _ _ _ _ _ _ _ _ _ _ _ _ _ _ _ _ _ _ _ _ _ _ _ _ _ _ _ _ _
          · exact holds_busy l x v mo mc w W1 w5 HA HM hs HGL HX HB5 HC5 hlt hx10 HR3.out.symm HR4.out.symm hp _ _ _ _ _ _ _ _ _ _ _ _ _ _ _ _ _ _ _ _ _ _ _ _ _ _ _ _ _ _ _ _ _ _ _ _ _ _ _ _ _ _ _ _ _ _ _ _ _ _ _ _ _ _ _ _ _ _ _ _ _ _ _ _ _ _ _ _ _ _ _ _ _ _ _ _ _ _ _ _ _ _ _ _ _ _ _ _ _ _ _ _ _ _ _ _ _ _ _ _ _ _ _ _ _ _ _ _ _ _ _ _ _ _ _ _ _ _ _ _ _ _ _ _ _ _ _ _ _ _ _ _ _ _ _ _ _ _ _ _
end Go.Proofs.YtjlhdgmcaiiagaaGreatDoor

