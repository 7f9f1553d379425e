/- The reference's Valid. -/
import Derived.Test.YtfnfbcaoihhbpaaGreatDoorR9e
import Derived.Test.YtfnfbcaoihhbpaaGreatDoorIt2
import Derived.Test.YtfnfbcaoihhbpaaGreatDoorReg
set_option linter.unusedSimpArgs false
set_option linter.unusedVariables false
set_option maxRecDepth 100000
set_option maxHeartbeats 16000000
namespace Go.Proofs.YtfnfbcaoihhbpaaGreatDoor
open Go.RowKit Go.Maps

theorem r9Valid_any (l : List ItemD) (v : Value) (w : World) (h : Arr ItemR 2 w v l) (hl : Lt l) : Calls Tryz.prog 95 #[v] w fun e w' => e = .returned (.bool (validI l)) ∧ Below w.heap.size w w' := by
 have hn := h.len
 have HLT := Hd hl
 obtain ⟨o, c, rfl, hel⟩ := h.itemAt
 have HEL := Hd hel
 clear hel h hl
 go_enter Tryz.func95, Tryz.ntmps95
 go_wp2_with fail
 go_loopw [3] (fun i wr => ∃ k : Nat, k ≤ l.length ∧ i = .int .i64 k ∧ (l.take k).all oneI = true ∧ risB (l.take k) = true ∧ (l.take k).Pairwise (fun a b => meetB a b = false) ∧ Below w.heap.size w wr) (fun i _ => l.length - (intOf i).toNat)
 case atStart => exact ⟨0, Nat.zero_le _, rfl, by rw [List.take_zero]; rfl, by rw [List.take_zero]; rfl, by rw [List.take_zero]; exact List.Pairwise.nil, Below.refl _ _⟩
 case round =>
  obtain ⟨k, hk, rfl, hone, hris, hpw, hB⟩ := hrel
  have HB := Hd hB
  have HALL := Hd hone
  have HRIS := Hd hris
  have HPW := Hd hpw
  clear hB hone hris hpw
  by_cases hlt : k < l.length
  ·obtain ⟨b, off, mv, rfl, hbl, e0, e1, hnm, hmk⟩ := HEL.out k hlt
   obtain ⟨mo, mc, rfl, -⟩ := id hmk
   have hbr : b < wr.heap.size := Nat.lt_of_lt_of_le hbl HB.out.size
   have c0 : wr.cell? ⟨b, off + k * 2, none⟩ = some (.string l[k].name) := by rw [HB.out.cell (p := ⟨_, _, _⟩) hbl]; exact e0
   have c1 : wr.cell? ⟨b, off + k * 2 + 1, none⟩ = some (.slice mo l[k].marks.length mc) := by rw [HB.out.cell (p := ⟨_, _, _⟩) hbl]; exact e1
   have hlm : l[k].marks.length ≤ 1000 := HLT.out.2 _ (List.getElem_mem hlt)
   have HONE : Hid (Calls Tryz.prog 149 #[.agg #[.string l[k].name, .slice mo l[k].marks.length mc]] wr.drew fun e w' => e = .returned (.bool (oneI l[k])) ∧ Below wr.heap.size wr w') := Hd ((r9One_any l[k] _ wr.drew ((hmk.marks HB.out).marks bdr) hnm (by omega)).mono (fun _ _ ⟨a1, a2⟩ => ⟨a1, bdr.trans a2⟩))
   have HTO : Hid ((l.take (k + 1)).all oneI = oneI l[k]) := Hd (by rw [List.take_succ_eq_append_getElem hlt, List.all_append, HALL.out]; simp)
   have HBAD : Hid (oneI l[k] = false → validI l = false) := Hd (fun h => by
    unfold validI
    rw [List.all_eq_false.2 ⟨l[k], List.getElem_mem hlt, by simp [h]⟩]; simp)
   have hkw := wr1 k (by omega)
   have a0 : (0 : Int) ≤ k := by omega
   have a1 : (k : Int) < l.length := by omega
   clear e0 e1
   obtain ⟨r, hr⟩ : ∃ r, r = oneI l[k] := ⟨_, rfl⟩
   rw [← hr] at HONE HTO HBAD
   clear hr
   cases r with
   | false =>
    have HF := Hd (HBAD.out rfl)
    clear HBAD HTO hmk
    generalize l[k].name = nm at *
    generalize l[k].marks.length = ml at *
    have HS : Hid (∀ w2, Below wr.heap.size wr w2 → w2.cell? ⟨b, off + k * 2, none⟩ = some (.string nm) ∧ w2.cell? ⟨b, off + k * 2 + 1, none⟩ = some (.slice mo ml mc)) := Hd (fun w2 h2 => ⟨by rw [h2.cell (p := ⟨_, _, _⟩) hbr]; exact c0, by rw [h2.cell (p := ⟨_, _, _⟩) hbr]; exact c1⟩)
    go_upto_region 4 with fail
    refine NQ.to ?_
    refine wp_region_held_drew (S := (fun w' => w'.cell? ⟨b, off + k * 2, none⟩ = some (.string nm) ∧ w'.cell? ⟨b, off + k * 2 + 1, none⟩ = some (.slice mo ml mc))) (by kernel_rfl) (HS.out _ bdr) (fun hS => ?_)
    refine tkR (n := 4) [0, 1, 2, 3] rfl (by decide +kernel) hS ?_
    iterate 4 ((try simp only [Act.put, s1, s2, s3, s4, s5, s6]); refine ⟨_, ?_, rfl, Or.inl ⟨by kernel_rfl, fun w hSw => ok_of fun z hz => ?_⟩, ?_⟩; rotate_left; · (obtain ⟨f1, f2⟩ := hSw; go_simp; exact hz))
    refine RunOK.done ?_
    try simp only [Act.put, s1, s2, s3, s4, s5, s6]
    refine rd1 4 (by decide +kernel) rfl (fun K hK => ?_)
    go_simp
    go_at_call 149
    refine HONE.out.mono ?_
    rintro e w2 ⟨rfl, hb2⟩
    go_simp
    refine Shut.out hK _ _ (HS.out w2 hb2) (fun hS2 => ?_); clear hK K hS; have hS := hS2; clear hS2
    refine tkR (n := 20) [5, 6, 7, 8, 9, 10, 11, 12, 13, 14, 15, 16, 17, 18, 19, 20, 21, 22, 23, 24] rfl (by decide +kernel) hS ?_
    iterate 2 ((try simp only [Act.put, s1, s2, s3, s4, s5, s6]); refine ⟨_, ?_, rfl, Or.inl ⟨by kernel_rfl, fun w hSw => ok_of fun z hz => ?_⟩, ?_⟩; rotate_left; · (go_simp; exact hz))
    iterate 17 ((try simp only [Act.put, s1, s2, s3, s4, s5, s6]); refine ⟨_, undef, rfl, Or.inr ⟨by kernel_rfl, rfl⟩, ?_⟩)
    ((try simp only [Act.put, s1, s2, s3, s4, s5, s6]); refine ⟨_, ?_, rfl, Or.inl ⟨by kernel_rfl, fun w hSw => ok_of fun z hz => ?_⟩, ?_⟩; rotate_left; · (go_simp; exact hz))
    refine RunOK.done ?_
    try simp only [Act.put, s1, s2, s3, s4, s5, s6]
    refine wpAnyH_done (by kernel_rfl) ?_ _
    try simp only [Act.put, s1, s2, s3, s4, s5, s6]
    simp only [NQ]
    go_wp2_with fail
    go_ret
    exact ⟨by rw [HF.out]; rfl, btr HB.out hb2⟩
   | true =>
    cases k with
    | zero =>
     have HR2 : Hid (risB (l.take 1) = true) := Hd (risB_one l)
     have HP2 : Hid ((l.take 1).Pairwise (fun a b => meetB a b = false)) := Hd (by
      cases l with
      | nil => exact List.Pairwise.nil
      | cons a l => simp)
     simp only [Nat.zero_mul, Nat.add_zero] at c0 c1
     clear HBAD hmk
     generalize l[0].name = nm at *
     generalize l[0].marks.length = ml at *
     have HS : Hid (∀ w2, Below wr.heap.size wr w2 → w2.cell? ⟨b, off, none⟩ = some (.string nm) ∧ w2.cell? ⟨b, off + 1, none⟩ = some (.slice mo ml mc)) := Hd (fun w2 h2 => ⟨by rw [h2.cell (p := ⟨_, _, _⟩) hbr]; exact c0, by rw [h2.cell (p := ⟨_, _, _⟩) hbr]; exact c1⟩)
     go_upto_region 4 with fail
     refine NQ.to ?_
     refine wp_region_held_drew (S := (fun w' => w'.cell? ⟨b, off, none⟩ = some (.string nm) ∧ w'.cell? ⟨b, off + 1, none⟩ = some (.slice mo ml mc))) (by kernel_rfl) (HS.out _ bdr) (fun hS => ?_)
     refine tkR (n := 4) [0, 1, 2, 3] rfl (by decide +kernel) hS ?_
     iterate 4 ((try simp only [Act.put, s1, s2, s3, s4, s5, s6]); refine ⟨_, ?_, rfl, Or.inl ⟨by kernel_rfl, fun w hSw => ok_of fun z hz => ?_⟩, ?_⟩; rotate_left; · (obtain ⟨f1, f2⟩ := hSw; go_simp; exact hz))
     refine RunOK.done ?_
     try simp only [Act.put, s1, s2, s3, s4, s5, s6]
     refine rd1 4 (by decide +kernel) rfl (fun K hK => ?_)
     go_simp
     go_at_call 149
     refine HONE.out.mono ?_
     rintro e w2 ⟨rfl, hb2⟩
     go_simp
     refine Shut.out hK _ _ (HS.out w2 hb2) (fun hS2 => ?_); clear hK K hS; have hS := hS2; clear hS2
     refine tkR (n := 20) [5, 6, 7, 8, 9, 10, 11, 12, 13, 14, 15, 16, 17, 18, 19, 20, 21, 22, 23, 24] rfl (by decide +kernel) hS ?_
     iterate 5 ((try simp only [Act.put, s1, s2, s3, s4, s5, s6]); refine ⟨_, ?_, rfl, Or.inl ⟨by kernel_rfl, fun w hSw => ok_of fun z hz => ?_⟩, ?_⟩; rotate_left; · (go_simp; exact hz))
     iterate 13 ((try simp only [Act.put, s1, s2, s3, s4, s5, s6]); refine ⟨_, undef, rfl, Or.inr ⟨by kernel_rfl, rfl⟩, ?_⟩)
     iterate 2 ((try simp only [Act.put, s1, s2, s3, s4, s5, s6]); refine ⟨_, ?_, rfl, Or.inl ⟨by kernel_rfl, fun w hSw => ok_of fun z hz => ?_⟩, ?_⟩; rotate_left; · (go_simp; exact hz))
     refine RunOK.done ?_
     try simp only [Act.put, s1, s2, s3, s4, s5, s6]
     refine wpAnyH_done (by kernel_rfl) ?_ _
     try simp only [Act.put, s1, s2, s3, s4, s5, s6]
     simp only [NQ]
     have hbf := btr HB.out hb2
     clear HS hb2 hS
     go_wp2_with fail
     go_loopw [4] (fun q wx => q = .int .i64 0 ∧ wx = w2) (fun _ _ => 0)
     case atStart => exact ⟨rfl, rfl⟩
     case round =>
      obtain ⟨rfl, rfl⟩ := hrel
      go_wp2_with fail
      exact ⟨⟨1, by omega, rfl, HTO.out, HR2.out, HP2.out, hbf⟩, by simp [intOf]; omega⟩
    | succ j =>
     obtain ⟨b', off', mv', he', hbl', p0, -, hpn, -⟩ := HEL.out j (by omega)
     cases he'
     have q0 : wr.cell? ⟨b, off + j * 2, none⟩ = some (.string l[j].name) := by rw [HB.out.cell (p := ⟨_, _, _⟩) hbl]; exact p0
     have hj1 : IntKind.i64.wrap ((j : Int) + 1 - 1) = (j : Int) := by rw [IntKind.wrap_i64]; omega
     have hj2 : IntKind.i64.wrap (j : Int) = (j : Int) := by rw [IntKind.wrap_i64]; omega
     have b0 : (0 : Int) ≤ j := by omega
     have b1 : (j : Int) < l.length := by omega
     have b2 : (0 : Int) < (j : Int) + 1 := by omega
     have b3 : (0 : Int) ≤ (j : Int) + 1 := by omega
     have b4 : (j : Int) + 1 < l.length := by omega
     have b5 : ((j : Int) + 1).toNat = j + 1 := by omega
     have HTAKE := Hd (risB_take l j hlt)
     have HBAD2 := Hd (risB_bad (l := l) (k := j) hlt)
     have HBF := Hd (fun wz => r9before_any l[j].name l[j + 1].name wz hpn)
     have HMK := Hd hmk
     clear p0 hbl' HBAD hmk hpn
     generalize hpne : l[j].name = pn at *
     generalize hnme : l[j + 1].name = nm at *
     generalize hmle : l[j + 1].marks.length = ml at *
     by_cases hlt2 : ltK pn nm
     ·have HR2 : Hid (risB (l.take (j + 1 + 1)) = true) := Hd (by rw [HTAKE.out, HRIS.out, decide_eq_true hlt2]; rfl)
      rw [decide_eq_true hlt2] at HBF
      have HNM := Hd hnme
      have HML := Hd hmle
      clear hlt2 HTAKE HBAD2 hpne hnme hmle
      have HS : Hid (∀ w2, Below wr.heap.size wr w2 → w2.cell? ⟨b, off + (j + 1) * 2, none⟩ = some (.string nm) ∧ w2.cell? ⟨b, off + (j + 1) * 2 + 1, none⟩ = some (.slice mo ml mc) ∧ w2.cell? ⟨b, off + j * 2, none⟩ = some (.string pn)) := Hd (fun w2 h2 => ⟨by rw [h2.cell (p := ⟨_, _, _⟩) hbr]; exact c0, by rw [h2.cell (p := ⟨_, _, _⟩) hbr]; exact c1, by rw [h2.cell (p := ⟨_, _, _⟩) hbr]; exact q0⟩)
      go_upto_region 4 with fail
      refine NQ.to ?_
      refine wp_region_held_drew (S := (fun w' => w'.cell? ⟨b, off + (j + 1) * 2, none⟩ = some (.string nm) ∧ w'.cell? ⟨b, off + (j + 1) * 2 + 1, none⟩ = some (.slice mo ml mc) ∧ w'.cell? ⟨b, off + j * 2, none⟩ = some (.string pn))) (by kernel_rfl) (HS.out _ bdr) (fun hS => ?_)
      refine tkR (n := 4) [0, 1, 2, 3] rfl (by decide +kernel) hS ?_
      iterate 4 ((try simp only [Act.put, s1, s2, s3, s4, s5, s6]); refine ⟨_, ?_, rfl, Or.inl ⟨by kernel_rfl, fun w hSw => ok_of fun z hz => ?_⟩, ?_⟩; rotate_left; · (obtain ⟨f1, f2, f3⟩ := hSw; go_simp; exact hz))
      refine RunOK.done ?_
      try simp only [Act.put, s1, s2, s3, s4, s5, s6]
      refine rd1 4 (by decide +kernel) rfl (fun K hK => ?_)
      go_simp
      go_at_call 149
      refine HONE.out.mono ?_
      rintro e w2 ⟨rfl, hb2⟩
      go_simp
      refine Shut.out hK _ _ (HS.out w2 hb2) (fun hS2 => ?_); clear hK K hS; have hS := hS2; clear hS2
      refine tkR (n := 16) [5, 6, 7, 8, 9, 10, 11, 12, 13, 14, 15, 16, 17, 18, 19, 20] rfl (by decide +kernel) hS ?_
      iterate 16 ((try simp only [Act.put, s1, s2, s3, s4, s5, s6]); refine ⟨_, ?_, rfl, Or.inl ⟨by kernel_rfl, fun w hSw => ok_of fun z hz => ?_⟩, ?_⟩; rotate_left; · (obtain ⟨f1, f2, f3⟩ := hSw; go_simp; exact hz))
      refine RunOK.done ?_
      try simp only [Act.put, s1, s2, s3, s4, s5, s6]
      refine rd1 21 (by decide +kernel) rfl (fun K hK => ?_)
      go_simp
      go_at_call 150
      refine (HBF.out _).mono ?_
      rintro e w3 ⟨rfl, hb3⟩
      go_simp
      refine Shut.out hK _ _ (HS.out w3 (btr hb2 hb3)) (fun hS2 => ?_); clear hK K hS; have hS := hS2; clear hS2
      refine tkR (n := 3) [22, 23, 24] rfl (by decide +kernel) hS ?_
      iterate 3 ((try simp only [Act.put, s1, s2, s3, s4, s5, s6]); refine ⟨_, ?_, rfl, Or.inl ⟨by kernel_rfl, fun w hSw => ok_of fun z hz => ?_⟩, ?_⟩; rotate_left; · (go_simp; exact hz))
      refine RunOK.done ?_
      try simp only [Act.put, s1, s2, s3, s4, s5, s6]
      refine wpAnyH_done (by kernel_rfl) ?_ _
      try simp only [Act.put, s1, s2, s3, s4, s5, s6]
      simp only [NQ]
      have HB3 := Hd (HB.out.trans ((btr hb2 hb3).mono HB.out.size))
      clear HS hb2 hb3 hS
      go_wp2_with fail
      go_loopw [4] (fun q wx => ∃ m : Nat, m ≤ j + 1 ∧ q = .int .i64 m ∧ (∀ (t : Nat) (ht : t < m) (ht2 : t < l.length), meetB l[t] l[j + 1] = false) ∧ Below w.heap.size w wx) (fun q _ => j + 1 - (intOf q).toNat)
      case atStart => exact ⟨0, by omega, rfl, fun t ht => absurd ht (Nat.not_lt_zero t), HB3.out⟩
      case round =>
       obtain ⟨m, hm, rfl, hno, hBx⟩ := hrel
       have HNO := Hd hno
       have HBX := Hd hBx
       clear hno hBx c0 c1 q0
       by_cases hmk : m < j + 1
       ·obtain ⟨b', off', mv1, he1, hblm, m0, m1, -, hmm⟩ := HEL.out m (by omega)
        cases he1
        obtain ⟨xo, xc, rfl, -⟩ := id hmm
        obtain ⟨b', off', mv2, he2, -, j0, j1, -, hjm⟩ := HEL.out (j + 1) (by omega)
        cases he2
        obtain ⟨yo, yc, rfl, -⟩ := id hjm
        have d0 : (0 : Int) ≤ m := by omega
        have d1 : (m : Int) < l.length := by omega
        have d2 : (m : Int) < (j : Int) + 1 := by omega
        have hmw : IntKind.i64.wrap ((m : Int) + 1) = (m : Int) + 1 := by rw [IntKind.wrap_i64]; omega
        have HSX : Hid (∀ w2, Below wr.heap.size wr w2 → (w2.cell? ⟨b, off + m * 2, none⟩ = some (.string l[m].name) ∧ w2.cell? ⟨b, off + m * 2 + 1, none⟩ = some (.slice xo l[m].marks.length xc)) ∧ w2.cell? ⟨b, off + (j + 1) * 2, none⟩ = some (.string l[j + 1].name) ∧ w2.cell? ⟨b, off + (j + 1) * 2 + 1, none⟩ = some (.slice yo l[j + 1].marks.length yc)) := Hd (fun w2 h2 => by
         have h5 := btr HBX.out h2
         exact ⟨⟨by rw [h5.cell (p := ⟨_, _, _⟩) hblm]; exact m0, by rw [h5.cell (p := ⟨_, _, _⟩) hblm]; exact m1⟩, by rw [h5.cell (p := ⟨_, _, _⟩) hblm]; exact j0, by rw [h5.cell (p := ⟨_, _, _⟩) hblm]; exact j1⟩)
        have HMT : Hid (Calls Tryz.prog 151 #[.agg #[.string l[m].name, .slice xo l[m].marks.length xc], .agg #[.string l[j + 1].name, .slice yo l[j + 1].marks.length yc]] wr.drew fun e w' => e = .returned (.bool (meetB l[m] l[j + 1])) ∧ Below wr.heap.size wr w') := Hd ((r9Meet_any l[m] l[j + 1] _ _ wr.drew ((hmm.marks HBX.out).marks bdr) ((hjm.marks HBX.out).marks bdr)).mono (fun _ _ ⟨a1, a2⟩ => ⟨a1, bdr.trans a2⟩))
        have HBAD3 : Hid (meetB l[m] l[j + 1] = true → validI l = false) := Hd (fun h => by
         rcases hv : validI l with _ | _
         ·rfl
         ·have h3 := ((validI_iff l).1 hv).2.2
          rw [List.pairwise_iff_getElem] at h3
          rw [h3 m (j + 1) (by omega) (by omega) hmk] at h
          cases h)
        have HNX : Hid (meetB l[m] l[j + 1] = false → ∀ (t : Nat) (ht : t < m + 1) (ht2 : t < l.length), meetB l[t] l[j + 1] = false) := Hd (fun h t ht ht2 => by
         rcases Nat.lt_or_ge t m with h6 | h6
         ·exact HNO.out t h6 ht2
         ·have : t = m := by omega
          subst this; exact h)
        obtain ⟨r2, hr2⟩ : ∃ r2, r2 = meetB l[m] l[j + 1] := ⟨_, rfl⟩
        rw [← hr2] at HMT HBAD3 HNX
        clear hr2 hmm hjm m0 m1 j0 j1
        generalize l[m].name = xn at HSX HMT
        generalize l[m].marks.length = xl at HSX HMT
        generalize l[j + 1].name = yn at HSX HMT
        generalize l[j + 1].marks.length = yl at HSX HMT
        cases r2 with
        | true =>
         have HF := Hd (HBAD3.out rfl)
         clear HBAD3 HNX
         go_upto_region 9 with fail
         refine NQ.to ?_
         refine wp_region_held_drew (S := (fun w' => (w'.cell? ⟨b, off + m * 2, none⟩ = some (.string xn) ∧ w'.cell? ⟨b, off + m * 2 + 1, none⟩ = some (.slice xo xl xc)) ∧ w'.cell? ⟨b, off + (j + 1) * 2, none⟩ = some (.string yn) ∧ w'.cell? ⟨b, off + (j + 1) * 2 + 1, none⟩ = some (.slice yo yl yc))) (by kernel_rfl) (HSX.out _ bdr) (fun hS => ?_)
         refine tkR (n := 8) [0, 1, 2, 3, 4, 5, 6, 7] rfl (by decide +kernel) hS ?_
         iterate 8 ((try simp only [Act.put, s1, s2, s3, s4, s5, s6]); refine ⟨_, ?_, rfl, Or.inl ⟨by kernel_rfl, fun w hSw => ok_of fun z hz => ?_⟩, ?_⟩; rotate_left; · (obtain ⟨⟨f1, f2⟩, f3, f4⟩ := hSw; go_simp; exact hz))
         refine RunOK.done ?_
         try simp only [Act.put, s1, s2, s3, s4, s5, s6]
         refine rd1 8 (by decide +kernel) rfl (fun K hK => ?_)
         go_simp
         go_at_call 151
         refine HMT.out.mono ?_
         rintro e w5 ⟨rfl, hb5⟩
         go_simp
         refine Shut.out hK _ _ (HSX.out w5 hb5) (fun hS2 => ?_); clear hK K hS; have hS := hS2; clear hS2
         try simp only [Act.put, s1, s2, s3, s4, s5, s6]
         refine wpAnyH_done (by kernel_rfl) ?_ _
         try simp only [Act.put, s1, s2, s3, s4, s5, s6]
         simp only [NQ]
         go_wp2_with fail
         go_ret
         exact ⟨by rw [HF.out]; rfl, btr HBX.out hb5⟩
        | false =>
         have HN2 := Hd (HNX.out rfl)
         clear HBAD3 HNX
         go_upto_region 9 with fail
         refine NQ.to ?_
         refine wp_region_held_drew (S := (fun w' => (w'.cell? ⟨b, off + m * 2, none⟩ = some (.string xn) ∧ w'.cell? ⟨b, off + m * 2 + 1, none⟩ = some (.slice xo xl xc)) ∧ w'.cell? ⟨b, off + (j + 1) * 2, none⟩ = some (.string yn) ∧ w'.cell? ⟨b, off + (j + 1) * 2 + 1, none⟩ = some (.slice yo yl yc))) (by kernel_rfl) (HSX.out _ bdr) (fun hS => ?_)
         refine tkR (n := 8) [0, 1, 2, 3, 4, 5, 6, 7] rfl (by decide +kernel) hS ?_
         iterate 8 ((try simp only [Act.put, s1, s2, s3, s4, s5, s6]); refine ⟨_, ?_, rfl, Or.inl ⟨by kernel_rfl, fun w hSw => ok_of fun z hz => ?_⟩, ?_⟩; rotate_left; · (obtain ⟨⟨f1, f2⟩, f3, f4⟩ := hSw; go_simp; exact hz))
         refine RunOK.done ?_
         try simp only [Act.put, s1, s2, s3, s4, s5, s6]
         refine rd1 8 (by decide +kernel) rfl (fun K hK => ?_)
         go_simp
         go_at_call 151
         refine HMT.out.mono ?_
         rintro e w5 ⟨rfl, hb5⟩
         go_simp
         refine Shut.out hK _ _ (HSX.out w5 hb5) (fun hS2 => ?_); clear hK K hS; have hS := hS2; clear hS2
         try simp only [Act.put, s1, s2, s3, s4, s5, s6]
         refine wpAnyH_done (by kernel_rfl) ?_ _
         try simp only [Act.put, s1, s2, s3, s4, s5, s6]
         simp only [NQ]
         have hbx2 := btr HBX.out hb5
         clear hb5 hS
         go_wp2_with fail
         go_roundw
         case rel => exact ⟨m + 1, by omega, by go_num, HN2.out, hbx2⟩
         case measure => simp [intOf]; omega
       ·have hme : m = j + 1 := by omega
        subst hme
        have HP2 : Hid ((l.take (j + 1 + 1)).Pairwise (fun a b => meetB a b = false)) := Hd (by
         rw [List.take_succ_eq_append_getElem hlt, List.pairwise_append]
         refine ⟨HPW.out, List.pairwise_singleton _ _, fun a ha x hx => ?_⟩
         rw [List.mem_singleton.1 hx]
         obtain ⟨t, ht, rfl⟩ := List.mem_iff_getElem.1 ha
         rw [List.length_take] at ht
         rw [List.getElem_take]
         exact HNO.out t (by omega) (by omega))
        clear HNO HPW
        go_wp2_with fail
        exact ⟨⟨j + 1 + 1, by omega, by go_num, HTO.out, HR2.out, HP2.out, HBX.out⟩, by simp [intOf]; omega⟩
     ·have HF : Hid (validI l = false) := Hd (by unfold validI; rw [HBAD2.out hlt2]; simp)
      rw [decide_eq_false hlt2] at HBF
      clear hlt2 HTAKE HBAD2 HTO hpne hnme hmle
      have HS : Hid (∀ w2, Below wr.heap.size wr w2 → w2.cell? ⟨b, off + (j + 1) * 2, none⟩ = some (.string nm) ∧ w2.cell? ⟨b, off + (j + 1) * 2 + 1, none⟩ = some (.slice mo ml mc) ∧ w2.cell? ⟨b, off + j * 2, none⟩ = some (.string pn)) := Hd (fun w2 h2 => ⟨by rw [h2.cell (p := ⟨_, _, _⟩) hbr]; exact c0, by rw [h2.cell (p := ⟨_, _, _⟩) hbr]; exact c1, by rw [h2.cell (p := ⟨_, _, _⟩) hbr]; exact q0⟩)
      go_upto_region 4 with fail
      refine NQ.to ?_
      refine wp_region_held_drew (S := (fun w' => w'.cell? ⟨b, off + (j + 1) * 2, none⟩ = some (.string nm) ∧ w'.cell? ⟨b, off + (j + 1) * 2 + 1, none⟩ = some (.slice mo ml mc) ∧ w'.cell? ⟨b, off + j * 2, none⟩ = some (.string pn))) (by kernel_rfl) (HS.out _ bdr) (fun hS => ?_)
      refine tkR (n := 4) [0, 1, 2, 3] rfl (by decide +kernel) hS ?_
      iterate 4 ((try simp only [Act.put, s1, s2, s3, s4, s5, s6]); refine ⟨_, ?_, rfl, Or.inl ⟨by kernel_rfl, fun w hSw => ok_of fun z hz => ?_⟩, ?_⟩; rotate_left; · (obtain ⟨f1, f2, f3⟩ := hSw; go_simp; exact hz))
      refine RunOK.done ?_
      try simp only [Act.put, s1, s2, s3, s4, s5, s6]
      refine rd1 4 (by decide +kernel) rfl (fun K hK => ?_)
      go_simp
      go_at_call 149
      refine HONE.out.mono ?_
      rintro e w2 ⟨rfl, hb2⟩
      go_simp
      refine Shut.out hK _ _ (HS.out w2 hb2) (fun hS2 => ?_); clear hK K hS; have hS := hS2; clear hS2
      refine tkR (n := 16) [5, 6, 7, 8, 9, 10, 11, 12, 13, 14, 15, 16, 17, 18, 19, 20] rfl (by decide +kernel) hS ?_
      iterate 16 ((try simp only [Act.put, s1, s2, s3, s4, s5, s6]); refine ⟨_, ?_, rfl, Or.inl ⟨by kernel_rfl, fun w hSw => ok_of fun z hz => ?_⟩, ?_⟩; rotate_left; · (obtain ⟨f1, f2, f3⟩ := hSw; go_simp; exact hz))
      refine RunOK.done ?_
      try simp only [Act.put, s1, s2, s3, s4, s5, s6]
      refine rd1 21 (by decide +kernel) rfl (fun K hK => ?_)
      go_simp
      go_at_call 150
      refine (HBF.out _).mono ?_
      rintro e w3 ⟨rfl, hb3⟩
      go_simp
      refine Shut.out hK _ _ (HS.out w3 (btr hb2 hb3)) (fun hS2 => ?_); clear hK K hS; have hS := hS2; clear hS2
      refine tkR (n := 3) [22, 23, 24] rfl (by decide +kernel) hS ?_
      iterate 3 ((try simp only [Act.put, s1, s2, s3, s4, s5, s6]); refine ⟨_, ?_, rfl, Or.inl ⟨by kernel_rfl, fun w hSw => ok_of fun z hz => ?_⟩, ?_⟩; rotate_left; · (go_simp; exact hz))
      refine RunOK.done ?_
      try simp only [Act.put, s1, s2, s3, s4, s5, s6]
      refine wpAnyH_done (by kernel_rfl) ?_ _
      try simp only [Act.put, s1, s2, s3, s4, s5, s6]
      simp only [NQ]
      go_wp2_with fail
      go_ret
      exact ⟨by rw [HF.out]; rfl, HB.out.trans ((btr hb2 hb3).mono HB.out.size)⟩
  ·have hke : k = l.length := by omega
   subst hke
   have HF : Hid (validI l = true) := Hd (by
    have h1 := HALL.out
    have h2 := HRIS.out
    have h3 := HPW.out
    rw [List.take_length] at h1 h2 h3
    exact (validI_iff l).2 ⟨h1, h2, h3⟩)
   clear HALL HRIS HPW
   go_wp2_with fail
   go_ret
   exact ⟨by rw [HF.out]; rfl, HB.out⟩
end Go.Proofs.YtfnfbcaoihhbpaaGreatDoor

