/- ItemsOrders walked for every input. -/
import Derived.Test.YtjlhdgmcaiiagaaGreatDoorL9u
namespace Go.Proofs.YtjlhdgmcaiiagaaGreatDoor
open Go.RowKit Go.Maps

/-- The items that were put in the first k steps. -/
def OrdInv (l : List ItemD) (t k : Nat) (X : List ItemD) : Prop :=
  validI X = true ∧ X.length = k ∧ ∀ y, y ∈ X ↔ ∃ j, j < k ∧ ∃ h : (j + t) % l.length < l.length, y = l[(j + t) % l.length]
theorem turn_ne {n t j k : Nat} (h1 : j < k) (h2 : k < n) : (j + t) % n ≠ (k + t) % n := by
  intro h
  have h3 := Nat.sub_mod_eq_zero_of_mod_eq h.symm
  have e : k + t - (j + t) = k - j := by omega
  rw [e, Nat.mod_eq_of_lt (by omega)] at h3
  omega
theorem rising_get_ne {l : List ItemD} (h : risB l = true) {a b : Nat} (ha : a < l.length) (hb : b < l.length) (hab : a ≠ b) : l[a].name ≠ l[b].name := by
  have hp := risB_iff.1 h
  rw [List.pairwise_iff_getElem] at hp
  intro e
  rcases Nat.lt_or_gt_of_ne hab with h1 | h1
  · have := hp a b ha hb h1
    rw [e] at this
    exact ltK_irrefl _ this
  · have := hp b a hb ha h1
    rw [e] at this
    exact ltK_irrefl _ this
theorem ord_step {l X : List ItemD} {t k : Nat} (hv : validI l = true) (hk : k < l.length) (hX : OrdInv l t k X) (hm : (k + t) % l.length < l.length) :
    putE X l[(k + t) % l.length] = 0 ∧ putR X l[(k + t) % l.length] = putI X l[(k + t) % l.length] ∧ OrdInv l t (k + 1) (putI X l[(k + t) % l.length]) := by
  obtain ⟨x1, x2, x3⟩ := hX
  obtain ⟨v1, v2, v3⟩ := validI_parts hv
  obtain ⟨y1, y2, y3⟩ := validI_parts x1
  have hs : l[(k + t) % l.length] ∈ l := List.getElem_mem hm
  have hin : ∀ y ∈ X, y ∈ l ∧ y.name ≠ l[(k + t) % l.length].name := fun y hy => by
    obtain ⟨j, hj, hh, rfl⟩ := (x3 y).1 hy
    exact ⟨List.getElem_mem hh, rising_get_ne v2 hh hm (turn_ne hj hk)⟩
  have hd : dropN X l[(k + t) % l.length].name = X := dropN_none (List.any_eq_false.2 (fun y hy => by simpa using (hin y hy).2))
  have hpi : putI X l[(k + t) % l.length] = insI X l[(k + t) % l.length] := by unfold putI; rw [hd]
  have hval : validI (putI X l[(k + t) % l.length]) = true := by
    refine validI_of (fun y hy => ?_) (risB_iff.2 (putI_rising y2 _)) ?_
    · rcases mem_putI.1 hy with h | rfl
      · rw [hd] at h; exact y1 y h
      · exact v1 _ hs
    · rw [hpi]
      exact insI_pairwise y3 (fun y hy => pairwise_mem v3 (hin y hy).1 hs (fun e => (hin y hy).2 (by rw [e])))
  have hE : putE X l[(k + t) % l.length] = 0 := by
    unfold putE
    rw [x1, v1 _ hs, hval]
    rfl
  refine ⟨hE, by unfold putR; rw [if_pos hE], hval, ?_, fun y => ?_⟩
  · rw [hpi, ← (insI_perm X _).length_eq, List.length_append, x2]; rfl
  · rw [mem_putI, hd, x3]
    constructor
    · rintro (⟨j, hj, hh, rfl⟩ | rfl)
      · exact ⟨j, by omega, hh, rfl⟩
      · exact ⟨k, by omega, hm, rfl⟩
    · rintro ⟨j, hj, hh, rfl⟩
      rcases Nat.lt_or_ge j k with h | h
      · exact Or.inl ⟨j, h, hh, rfl⟩
      · have : j = k := by omega
        subst this
        exact Or.inr rfl
theorem ord_end {l X : List ItemD} {t : Nat} (hv : validI l = true) (hX : OrdInv l t l.length X) : X = l := by
  obtain ⟨x1, x2, x3⟩ := hX
  obtain ⟨v1, v2, v3⟩ := validI_parts hv
  obtain ⟨y1, y2, y3⟩ := validI_parts x1
  refine rising_ext (risB_iff.1 y2) (risB_iff.1 v2) (fun x => ⟨fun hx => ?_, fun hx => ?_⟩)
  · obtain ⟨j, hj, hh, rfl⟩ := (x3 x).1 hx
    exact List.getElem_mem hh
  · obtain ⟨a, ha, rfl⟩ := List.mem_iff_getElem.1 hx
    have hn : 0 < l.length := by omega
    have hta : t % l.length < l.length := Nat.mod_lt _ hn
    have hdm := Nat.div_add_mod t l.length
    have e : ((a + (l.length - t % l.length)) % l.length + t) % l.length = a := by
      rw [Nat.mod_add_mod, show a + (l.length - t % l.length) + t = a + l.length * (1 + t / l.length) by rw [Nat.mul_add, Nat.mul_one]; omega, Nat.add_mul_mod_self_left, Nat.mod_eq_of_lt ha]
    exact (x3 _).2 ⟨(a + (l.length - t % l.length)) % l.length, Nat.mod_lt _ hn, by rw [e]; exact ha, by simp only [e]⟩
set_option linter.unusedSimpArgs false in
set_option maxRecDepth 100000 in
set_option maxHeartbeats 8000000 in
theorem orders_in (l : List ItemD) (t : Nat) (v : Value) (w : World) (h : Arr ItemR 2 w v l) (ht : t ≤ 255) (hG : GlobIs w) : Calls Tryz.prog 6 #[v, .int .u8 t] w fun e w' => e = .returned (.bool true) ∧ Below w.heap.size w w' := by
  have hn := h.len
  have HA := Lib.hid h
  have HGL := Lib.hid hG
  have HL := Lib.hid (l9light_any l v w h)
  have HB0 := Lib.hid (Below.refl w.heap.size w)
  have HLB : Hid (lightI l = true → Lt l ∧ l.length ≤ 20 ∧ ∀ x ∈ l, x.marks.length ≤ 10) := Lib.hid lightI_lt
  obtain ⟨o, c, rfl, hel⟩ := h.itemAt
  have HEL := Lib.hid hel
  clear h hG hel
  obtain ⟨r1, hr1⟩ : ∃ r, r = lightI l := ⟨_, rfl⟩
  rw [← hr1] at HL HLB
  clear hr1
  go_enter Tryz.func6, Tryz.ntmps6
  go_wp2_with fail
  refine (HL.out).mono ?_
  rintro e wq ⟨rfl, hwq⟩
  rw [hwq]
  clear hwq
  cases r1 with
  | false =>
    go_wp2_with fail
    refine (l9known_any _ (HGL.out.below HB0.out)).mono ?_
    rintro e wk ⟨rfl, hb⟩
    have HBK := Lib.hid (HB0.out.trans (hb.mono HB0.out.size))
    clear hb
    go_wp2_with fail
    go_ret
    exact ⟨rfl, HBK.out⟩
  | true =>
    have hlt := HLB.out rfl
    have HV := Lib.hid (r9Valid_any l _ w HA.out hlt.1)
    obtain ⟨r2, hr2⟩ : ∃ r, r = validI l := ⟨_, rfl⟩
    rw [← hr2] at HV
    go_wp2_with fail
    refine (HV.out).mono ?_
    rintro e w1 ⟨rfl, hb⟩
    have HB1 := Lib.hid (HB0.out.trans (hb.mono HB0.out.size))
    clear hb
    have HR2 := Lib.hid hr2
    clear hr2 HV HL HLB
    cases r2 with
    | false =>
      go_wp2_with fail
      refine (l9known_any _ (HGL.out.below HB1.out)).mono ?_
      rintro e wk ⟨rfl, hb⟩
      have HBK := Lib.hid (HB1.out.trans (hb.mono HB1.out.size))
      clear hb
      go_wp2_with fail
      go_ret
      exact ⟨rfl, HBK.out⟩
    | true =>
      go_wp2_with fail
      go_loopw [5, 20] (fun xv i wr => ∃ (k : Nat) (X : List ItemD), k ≤ l.length ∧ i = .int .i64 k ∧ Arr ItemR 2 wr xv X ∧ OrdInv l t k X ∧ Below w.heap.size w wr) (fun _ i _ => l.length - (intOf i).toNat)
      case atStart => exact ⟨0, [], Nat.zero_le _, rfl, arr_nil, ⟨by rw [validI_eqB]; rfl, rfl, fun y => ⟨fun h => by simp at h, fun ⟨j, hj, _⟩ => absurd hj (Nat.not_lt_zero j)⟩⟩, HB1.out⟩
      case round =>
        obtain ⟨k, X, hk, rfl, hax, hinv, hB⟩ := hrel
        have HAX := Lib.hid hax
        have HINV := Lib.hid hinv
        have HB := Lib.hid hB
        clear hax hinv hB
        by_cases hlk : k < l.length
        · have hm : (k + t) % l.length < l.length := Nat.mod_lt _ (by omega)
          obtain ⟨b, off, mv, rfl, hbl, e0, e1, hns, hmk⟩ := HEL.out _ hm
          obtain ⟨mo, mc, rfl, -⟩ := id hmk
          have c0 : wr.cell? ⟨b, off + (k + t) % l.length * 2, none⟩ = some (.string l[(k + t) % l.length].name) := by rw [HB.out.cell (p := ⟨_, _, _⟩) hbl]; exact e0
          have c1 : wr.cell? ⟨b, off + (k + t) % l.length * 2 + 1, none⟩ = some (.slice mo l[(k + t) % l.length].marks.length mc) := by rw [HB.out.cell (p := ⟨_, _, _⟩) hbl]; exact e1
          obtain ⟨s1, s2, s3⟩ := ord_step HR2.out.symm hlk HINV.out hm
          have hXl : X.length = k := HINV.out.2.1
          have hX20 : Lt X ∧ X.length ≤ 20 := by
            refine ⟨⟨by omega, fun y hy => ?_⟩, by omega⟩
            obtain ⟨j, hj, hh, rfl⟩ := (HINV.out.2.2 y).1 hy
            exact hlt.1.2 _ (List.getElem_mem hh)
          have hm10 : l[(k + t) % l.length].marks.length ≤ 1000 := hlt.1.2 _ (List.getElem_mem hm)
          have HPUT := Lib.hid (itemsPut_any X l[(k + t) % l.length] _ _ wr HAX.out (hmk.marks HB.out) hns hX20.1 ⟨by omega, hm10⟩ (HGL.out.below HB.out))
          have HS1 := Lib.hid s1
          have HS2 := Lib.hid s2
          have HS3 := Lib.hid s3
          have hp2 : (putI X l[(k + t) % l.length]).length = k + 1 := s3.2.1
          have HPL := Lib.hid hp2
          have a0 : (0 : Int) ≤ k := by omega
          have a1 : (k : Int) < l.length := by omega
          have b0 : (0 : Int) ≤ ((k : Int) + (t : Int)) % (l.length : Int) := Int.emod_nonneg _ (by omega)
          have b1 : ((k : Int) + (t : Int)) % (l.length : Int) < (l.length : Int) := Int.emod_lt_of_pos _ (by omega)
          have hkw : IntKind.i64.wrap ((k : Int) + 1) = (k : Int) + 1 := by rw [IntKind.wrap_i64]; omega
          have htw : IntKind.i64.wrap ((t : Int)) = (t : Int) := by rw [IntKind.wrap_i64]; omega
          have hkt : IntKind.i64.wrap ((k : Int) + (t : Int)) = (k : Int) + (t : Int) := by rw [IntKind.wrap_i64]; omega
          have hl0 : ¬ (l.length : Int) = 0 := by omega
          clear e0 e1 hmk s1 s2 s3 hp2 hX20 hXl
          go_wp2_with fail
          refine HPUT.out.mono ?_
          intro e w5 hpp
          obtain ⟨v5, rfl, ha5, hb⟩ := hpp.arr
          rw [HS2.out] at ha5
          rw [HS1.out]
          obtain ⟨o5, c5, hv5, -⟩ := id ha5
          rw [HPL.out] at hv5
          subst hv5
          have HA5 := Lib.hid ha5
          have HB5 := Lib.hid (HB.out.trans (hb.mono HB.out.size))
          clear hpp ha5 hb c0 c1 HPUT
          go_wp2_with fail
          go_roundw
          case rel => exact ⟨k + 1, _, by omega, by go_num, HA5.out, HS3.out, HB5.out⟩
          case measure => simp [intOf]; omega
        · have hke : k = l.length := by omega
          subst hke
          have HXE := Lib.hid (ord_end HR2.out.symm HINV.out)
          go_wp2_with fail
          refine (r9Equal_any X l _ _ wr HAX.out (HA.out.items HB.out)).mono ?_
          rintro e w5 ⟨rfl, hb⟩
          have HB5 := Lib.hid (HB.out.trans (hb.mono HB.out.size))
          clear hb
          rw [HXE.out, decide_eq_true rfl]
          go_wp2_with fail
          refine (l9known_any _ (HGL.out.below HB5.out)).mono ?_
          rintro e wk ⟨rfl, hb⟩
          have HBK := Lib.hid (HB5.out.trans (hb.mono HB5.out.size))
          clear hb
          go_wp2_with fail
          go_ret
          exact ⟨rfl, HBK.out⟩
end Go.Proofs.YtjlhdgmcaiiagaaGreatDoor

