/- The reference's Union of dots, and Dots of items. -/
import Derived.Test.YtfnfbcaoihhbpaaGreatDoorGrow
import Derived.Test.YtfnfbcaoihhbpaaGreatDoorR9e
import Derived.Test.YtfnfbcaoihhbpaaGreatDoorR9
import Derived.Test.YtfnfbcaoihhbpaaGreatDoorIt3
set_option linter.unusedSimpArgs false
set_option linter.unusedVariables false
set_option maxRecDepth 100000
set_option maxHeartbeats 8000000
namespace Go.Proofs.YtfnfbcaoihhbpaaGreatDoor
open Go.RowKit Go.Maps

end Go.Proofs.YtfnfbcaoihhbpaaGreatDoor
namespace Go.Proofs.YtfnfbcaoihhbpaaGreatDoor
open Go.RowKit Go.Maps

theorem r1With_any (l : List DotD) (d : DotD) (v : Value) (w : World) (h : Arr DotR 2 w v l) (hd : DI d) (hl : l.length ≤ 10000000) : Calls Tryz.prog 152 #[v, dotV d] w fun e w' => ∃ v', e = .returned v' ∧ Arr DotR 2 w' v' (withD l d) ∧ Below w.heap.size w w' := by
 have hn := h.len
 have HLE := Hd hl
 have HEND : Hid (∀ (k : Nat) (v' : Value) (w' : World) (_ : k ≤ l.length) (base : Nat), EDot.Row base w' v' (l.take k ++ [d] ++ l.drop k) → (l.take k).all (fun q => dlt q d) = true → (∀ h : k < l.length, dlt l[k] d = false) → d ∉ l → Arr DotR 2 w' v' (withD l d)) := Hd (fun k v' w' hk base hrow h1 h2 h3 => by
  have h4 : Arr DotR 2 w' v' (l.take k ++ [d] ++ l.drop k) := Arr.of_row (E := EDot) hrow (fun a ha => by
   have hap : a ∈ l ∨ a = d := by
    simp only [List.mem_append, List.mem_singleton] at ha
    rcases ha with (ha | ha) | ha
    ·exact Or.inl (List.mem_of_mem_take ha)
    ·exact Or.inr ha
    ·exact Or.inl (List.mem_of_mem_drop ha)
   rcases hap with ha | rfl
   ·exact ⟨rfl, h.dotsI a ha⟩
   ·exact ⟨rfl, hd⟩)
  have e : l.take k ++ [d] ++ l.drop k = withD l d := by
   obtain ⟨t1, t2⟩ := takeWhile_at (fun q : DotD => dlt q d) l k hk h1 h2
   unfold withD
   rw [if_neg h3, t1, t2]
   simp
  rw [e] at h4
  exact h4)
 have HA := Hd h
 obtain ⟨o, c, rfl, hel⟩ := h.dotAt
 have HEL := Hd hel
 have hlc : l.length ≤ c := by
  obtain ⟨o', c', he, h2, -⟩ := h
  cases he
  exact h2
 have HLC := Hd hlc
 have HSRC := Hd (h.toSrc (E := EDot) (fun _ _ h => h.1))
 obtain ⟨W1, hW1⟩ : ∃ W1, W1 = w.alloc (.cells #[.int .i64 d.rep, .int .i64 d.ctr] 30) := ⟨_, rfl⟩
 have hb1 : Below w.heap.size w W1 := by rw [hW1]; exact bal
 have hg1 : W1.heap[w.heap.size]? = some (.cells #[.int .i64 d.rep, .int .i64 d.ctr] 30) := by rw [hW1]; exact alloc_new _ _
 have HC : Hid (∀ wz, Below W1.heap.size W1 wz → (wz.cell? ⟨w.heap.size, 0, none⟩ = some (.int .i64 d.rep) ∧ wz.cell? ⟨w.heap.size, 1, none⟩ = some (.int .i64 d.ctr))) := Hd (fun wz hz => ⟨by rw [hz.cell (p := ⟨w.heap.size, 0, none⟩) (lt_of_heap hg1), cell0 hg1 0]; rfl, by rw [hz.cell (p := ⟨w.heap.size, 1, none⟩) (lt_of_heap hg1), cell0 hg1 1]; rfl⟩)
 have HB1 := Hd hb1
 have HW := Hd hW1
 obtain ⟨g1, g2⟩ := HC.out W1 brf
 have HHAS := Hd (r1Has_any l d _ W1 (h.dots hb1))
 obtain ⟨r, hr⟩ : ∃ r, r = decide (d ∈ l) := ⟨_, rfl⟩
 rw [← hr] at HHAS
 have HR := Hd hr
 clear hel h hg1 hb1 hW1 hd hr
 unfold dotV at HHAS ⊢
 go_enter Tryz.func152, Tryz.ntmps152
 go_wp2_with fail
 rw [← HW.out]
 refine HHAS.out.mono ?_
 rintro e wb ⟨rfl, hbb⟩
 have HBB := Hd hbb
 clear hbb g1 g2 HHAS
 cases r with
 | true =>
  have hf := HA.out.dots (HB1.out.trans (HBB.out.mono HB1.out.size))
  have e : withD l d = l := by unfold withD; rw [if_pos (of_decide_eq_true HR.out.symm)]
  have HF := Hd hf
  clear hf
  go_wp2_with fail
  go_ret
  exact ⟨_, rfl, by rw [e]; exact HF.out, HB1.out.trans (HBB.out.mono HB1.out.size)⟩
 | false =>
  have HND : Hid (d ∉ l) := Hd (of_decide_eq_false HR.out.symm)
  clear HR HA
  have HEND := Hd (fun k v' w' hk base h1 h2 h3 => HEND.out k v' w' hk base h1 h2 h3 HND.out)
  go_wp2_with fail
  go_loopw [5] (fun i wr => ∃ k : Nat, k ≤ l.length ∧ i = .int .i64 k ∧ (l.take k).all (fun q => dlt q d) = true ∧ Below W1.heap.size W1 wr) (fun i _ => l.length - (intOf i).toNat)
  case atStart => exact ⟨0, Nat.zero_le _, rfl, rfl, HBB.out⟩
  case round =>
   obtain ⟨k, hk, rfl, hall, hB⟩ := hrel
   have HALL := Hd hall
   have HB := Hd hB
   clear hall hB
   have a0 : (0 : Int) ≤ k := by omega
   have a3 : (k : Int) ≤ l.length := by omega
   have a4 : (k : Int) ≤ c := by omega
   by_cases hlt : k < l.length
   ·obtain ⟨b, off, rfl, hbl, e0, e1⟩ := HEL.out k hlt
    have HS : Hid (∀ wz, Below wr.heap.size wr wz → (wz.cell? ⟨b, off + k * 2, none⟩ = some (.int .i64 l[k].rep) ∧ wz.cell? ⟨b, off + k * 2 + 1, none⟩ = some (.int .i64 l[k].ctr)) ∧ (wz.cell? ⟨w.heap.size, 0, none⟩ = some (.int .i64 d.rep) ∧ wz.cell? ⟨w.heap.size, 1, none⟩ = some (.int .i64 d.ctr))) := Hd (fun wz hz => by
     have h3 := btr HB.out hz
     have h5 := btr HB1.out h3
     exact ⟨⟨by rw [h5.cell (p := ⟨_, _, _⟩) hbl]; exact e0, by rw [h5.cell (p := ⟨_, _, _⟩) hbl]; exact e1⟩, HC.out wz h3⟩)
    have HBF : Hid (Calls Tryz.prog 209 #[.agg #[.int .i64 l[k].rep, .int .i64 l[k].ctr], .agg #[.int .i64 d.rep, .int .i64 d.ctr]] wr.drew fun e w' => e = .returned (.bool (dlt l[k] d)) ∧ Below wr.heap.size wr w') := Hd ((r1Less_any l[k] d wr.drew).mono (fun _ _ ⟨a1, a2⟩ => ⟨a1, bdr.trans a2⟩))
    have HTK := Hd (all_take_snoc (fun q : DotD => dlt q d) l k hlt)
    obtain ⟨r, hr⟩ : ∃ r, r = dlt l[k] d := ⟨_, rfl⟩
    have HR := Hd hr
    rw [← hr] at HBF HTK
    clear hr e0 e1
    obtain ⟨y, hy⟩ : ∃ y, y = l[k] := ⟨_, rfl⟩
    rw [← hy] at HS HBF
    clear hy
    have a1 : (k : Int) < l.length := by omega
    have hkw := wr1 k (by omega)
    cases r with
    | true =>
     have HF : Hid ((l.take (k + 1)).all (fun q => dlt q d) = true) := Hd (by rw [HTK.out, HALL.out]; rfl)
     clear HTK HR
     go_upto_region 4 with fail
     refine NQ.to ?_
     refine wp_region_held_drew (S := (fun wz => (wz.cell? ⟨b, off + k * 2, none⟩ = some (.int .i64 y.rep) ∧ wz.cell? ⟨b, off + k * 2 + 1, none⟩ = some (.int .i64 y.ctr)) ∧ (wz.cell? ⟨w.heap.size, 0, none⟩ = some (.int .i64 d.rep) ∧ wz.cell? ⟨w.heap.size, 1, none⟩ = some (.int .i64 d.ctr)))) (by kernel_rfl) (HS.out _ bdr) (fun hS => ?_)
     refine tkR (n := 10) [0, 1, 2, 3, 4, 5, 6, 7, 8, 9] rfl (by decide +kernel) hS ?_
     iterate 10 ((try simp only [Act.put, s1, s2, s3, s4, s5, s6]); refine ⟨_, ?_, rfl, Or.inl ⟨by kernel_rfl, fun w hSw => ok_of fun z hz => ?_⟩, ?_⟩; rotate_left; · (obtain ⟨⟨f1, f2⟩, f3, f4⟩ := hSw; go_simp; exact hz))
     refine RunOK.done ?_
     try simp only [Act.put, s1, s2, s3, s4, s5, s6]
     refine rd1 10 (by decide +kernel) rfl (fun K hK => ?_)
     go_simp
     go_at_call 209
     refine HBF.out.mono ?_
     rintro e w2 ⟨rfl, hb2⟩
     go_simp
     refine Shut.out hK _ _ (HS.out w2 hb2) (fun hS2 => ?_); clear hK K hS; have hS := hS2; clear hS2
     refine tkR (n := 1) [11] rfl (by decide +kernel) hS ?_
     ((try simp only [Act.put, s1, s2, s3, s4, s5, s6]); refine ⟨_, ?_, rfl, Or.inl ⟨by kernel_rfl, fun w hSw => ok_of fun z hz => ?_⟩, ?_⟩; rotate_left; · (go_simp; exact hz))
     refine RunOK.done ?_
     try simp only [Act.put, s1, s2, s3, s4, s5, s6]
     refine wpAnyH_done (by kernel_rfl) ?_ _
     try simp only [Act.put, s1, s2, s3, s4, s5, s6]
     simp only [NQ]
     have hbf := btr HB.out hb2
     clear hb2 hS
     go_wp2_with fail
     go_roundw
     case rel => exact ⟨k + 1, by omega, by go_num, HF.out, hbf⟩
     case measure => simp [intOf]; omega
    | false =>
     have HSTOP : Hid (∀ h : k < l.length, dlt l[k] d = false) := Hd (fun _ => HR.out.symm)
     clear HTK HR
     go_upto_region 4 with fail
     refine NQ.to ?_
     refine wp_region_held_drew (S := (fun wz => (wz.cell? ⟨b, off + k * 2, none⟩ = some (.int .i64 y.rep) ∧ wz.cell? ⟨b, off + k * 2 + 1, none⟩ = some (.int .i64 y.ctr)) ∧ (wz.cell? ⟨w.heap.size, 0, none⟩ = some (.int .i64 d.rep) ∧ wz.cell? ⟨w.heap.size, 1, none⟩ = some (.int .i64 d.ctr)))) (by kernel_rfl) (HS.out _ bdr) (fun hS => ?_)
     refine tkR (n := 10) [0, 1, 2, 3, 4, 5, 6, 7, 8, 9] rfl (by decide +kernel) hS ?_
     iterate 10 ((try simp only [Act.put, s1, s2, s3, s4, s5, s6]); refine ⟨_, ?_, rfl, Or.inl ⟨by kernel_rfl, fun w hSw => ok_of fun z hz => ?_⟩, ?_⟩; rotate_left; · (obtain ⟨⟨f1, f2⟩, f3, f4⟩ := hSw; go_simp; exact hz))
     refine RunOK.done ?_
     try simp only [Act.put, s1, s2, s3, s4, s5, s6]
     refine rd1 10 (by decide +kernel) rfl (fun K hK => ?_)
     go_simp
     go_at_call 209
     refine HBF.out.mono ?_
     rintro e w2 ⟨rfl, hb2⟩
     go_simp
     refine Shut.out hK _ _ (HS.out w2 hb2) (fun hS2 => ?_); clear hK K hS; have hS := hS2; clear hS2
     refine tkR (n := 1) [11] rfl (by decide +kernel) hS ?_
     ((try simp only [Act.put, s1, s2, s3, s4, s5, s6]); refine ⟨_, ?_, rfl, Or.inl ⟨by kernel_rfl, fun w hSw => ok_of fun z hz => ?_⟩, ?_⟩; rotate_left; · (go_simp; exact hz))
     refine RunOK.done ?_
     try simp only [Act.put, s1, s2, s3, s4, s5, s6]
     refine wpAnyH_done (by kernel_rfl) ?_ _
     try simp only [Act.put, s1, s2, s3, s4, s5, s6]
     simp only [NQ]
     have HBQ := Hd (btr HB.out hb2)
     clear hb2 hS HS HBF
     obtain ⟨wq, hwq⟩ : ∃ wq, wq = w2 := ⟨_, rfl⟩
     rw [← hwq] at HBQ ⊢
     generalize hoe : (some (⟨b, off, none⟩ : Addr)) = o at HSRC ⊢
     clear hwq HB hoe
     have HXC : Hid (∀ wz, Below wq.heap.size wq wz → (wz.cell? ⟨w.heap.size, 0, none⟩ = some (.int .i64 d.rep) ∧ wz.cell? ⟨w.heap.size, 1, none⟩ = some (.int .i64 d.ctr))) := Hd (fun wz hz => HC.out wz (btr HBQ.out hz))
     have HBW := Hd (HB1.out.trans (HBQ.out.mono HB1.out.size))
     have HSA : Hid (∀ wz, Below wq.heap.size wq wz → EDot.Src wz (.slice o k c) (l.take k)) := Hd (fun wz hz => by
      have := ((HSRC.out.below HBW.out).below hz).sliced HLC.out 0 k (Nat.zero_le _) hk 2 rfl
      rw [List.drop_zero, sliced_zero] at this
      exact this)
     have HSB : Hid (∀ wz, Below wq.heap.size wq wz → EDot.Src wz (.slice (if c = k then o else Option.map (fun x => x.add (k * 2)) o) (l.length - k) (c - k)) (l.drop k)) := Hd (fun wz hz => by
      have := ((HSRC.out.below HBW.out).below hz).sliced HLC.out k l.length hk (Nat.le_refl _) 2 rfl
      rw [List.take_length] at this
      exact this)
     have HFIN : Hid (∀ (v' : Value) (w' : World), EDot.Row wq.heap.size w' v' (l.take k ++ [d] ++ l.drop k) → Below wq.heap.size wq w' → Arr DotR 2 w' v' (withD l d) ∧ Below w.heap.size w w') := Hd (fun v' w' h1 h2 => by
      have h3 := btr HBW.out h2
      exact ⟨HEND.out k v' w' hk _ h1 HALL.out HSTOP.out, h3⟩)
     clear HEND HALL HSTOP HSRC
     go_upto_region 6 with fail
     refine NQ.to ?_
     refine wp_region_held_drew (S := (fun wz => (wz.cell? ⟨w.heap.size, 0, none⟩ = some (.int .i64 d.rep) ∧ wz.cell? ⟨w.heap.size, 1, none⟩ = some (.int .i64 d.ctr)))) (by kernel_rfl) (HXC.out _ bdr) (fun hS => ?_)
     refine tkR (n := 7) [0, 1, 2, 4, 7, 8, 9] rfl (by decide +kernel) hS ?_
     iterate 7 ((try simp only [Act.put, s1, s2, s3, s4, s5, s6]); refine ⟨_, ?_, rfl, Or.inl ⟨by kernel_rfl, fun w hSw => ok_of fun z hz => ?_⟩, ?_⟩; rotate_left; · (obtain ⟨f1, f2⟩ := hSw; go_simp; exact hz))
     refine RunOK.done ?_
     try simp only [Act.put, s1, s2, s3, s4, s5, s6]
     refine wpAnyH_ready (rs := [3, 5]) (by decide +kernel) (by simp) ?_
     refine (AllReadyH.cons rfl (fun K hK => ?_) (AllReadyH.cons rfl (fun K hK => ?_) AllReadyH.nil))
     ·refine step_append_row rfl _ _ 22 rfl EDot wq.heap.size (.agg #[.int .i64 0, .int .i64 0]) 16 Tryz.underlying22 infoDot (by decide) (by decide) _ [] rfl (Enc.Row.nil _ _) _ (l.take k) rfl (HSA.out _ bdr) (by have := HLE.out; simp; omega) (by simp) ?_
      intro v3 w3 hrow3 hgr3
      have hb3 := (below_drew1 (Below.refl wq.heap.size wq)).grown hgr3 (by simp) (fun j hj => by cases hj)
      refine Shut.out hK _ _ (HXC.out w3 hb3) (fun hS2 => ?_); clear hK K hS; have hS := hS2; clear hS2
      try simp only [Act.put, s1, s2, s3, s4, s5, s6]
      refine rd1 5 (by decide +kernel) rfl (fun K hK => ?_)
      go_simp
      have hal5 : Below w3.heap.size w3 (w3.alloc (.cells #[.int .i64 d.rep, .int .i64 d.ctr] 30)) := bal
      have hb5 := btr hb3 hal5
      have hrow5 := hrow3.below hal5
      have hsrc5 : EDot.Src (w3.alloc (.cells #[.int .i64 d.rep, .int .i64 d.ctr] 30)) (.slice (some ⟨w3.heap.size, 0, none⟩) 1 1) [d] := Enc.Src.one_lit (E := EDot) w3 30 _
      refine Shut.out hK _ _ (HXC.out _ hb5) (fun hS2 => ?_); clear hK K hS; have hS := hS2; clear hS2
      try simp only [Act.put, s1, s2, s3, s4, s5, s6]
      refine rd1 6 (by decide +kernel) rfl (fun K hK => ?_)
      refine step_append_row rfl _ _ 22 rfl EDot wq.heap.size (.agg #[.int .i64 0, .int .i64 0]) 16 Tryz.underlying22 infoDot (by decide) (by decide) _ ([] ++ l.take k) rfl (hrow5) _ [d] rfl (hsrc5) (by have := HLE.out; simp; omega) (hb5.size) ?_
      intro v6 w6 hrow6 hgr6
      have hb6 := hb5.grown hgr6 hb5.size (fun j hj => (hrow5.lt _ hj).1)
      refine Shut.out hK _ _ (HXC.out w6 hb6) (fun hS2 => ?_); clear hK K hS; have hS := hS2; clear hS2
      try simp only [Act.put, s1, s2, s3, s4, s5, s6]
      refine rd1 10 (by decide +kernel) rfl (fun K hK => ?_)
      refine step_append_row rfl _ _ 22 rfl EDot wq.heap.size (.agg #[.int .i64 0, .int .i64 0]) 16 Tryz.underlying22 infoDot (by decide) (by decide) _ ([] ++ l.take k ++ [d]) rfl (hrow6) _ (l.drop k) rfl (HSB.out _ hb6) (by have := HLE.out; simp; omega) (hb6.size) ?_
      intro v10 w10 hrow10 hgr10
      have hb10 := hb6.grown hgr10 hb6.size (fun j hj => (hrow6.lt _ hj).1)
      refine Shut.out hK _ _ (HXC.out w10 hb10) (fun hS2 => ?_); clear hK K hS; have hS := hS2; clear hS2
      refine tkR (n := 1) [11] rfl (by decide +kernel) hS ?_
      ((try simp only [Act.put, s1, s2, s3, s4, s5, s6]); refine ⟨_, ?_, rfl, Or.inl ⟨by kernel_rfl, fun w hSw => ok_of fun z hz => ?_⟩, ?_⟩; rotate_left; · (go_simp; exact hz))
      refine RunOK.done ?_
      try simp only [Act.put, s1, s2, s3, s4, s5, s6]
      refine wpAnyH_done (by kernel_rfl) ?_ _
      try simp only [Act.put, s1, s2, s3, s4, s5, s6]
      simp only [NQ]
      rw [List.nil_append] at hrow10
      have hf := HFIN.out _ _ hrow10 hb10
      clear hS
      go_wp2_with fail
      all_goals go_ret
      all_goals exact ⟨_, rfl, hf.1, hf.2⟩
     ·go_simp
      have hb5 : Below wq.heap.size wq (wq.drew.alloc (.cells #[.int .i64 d.rep, .int .i64 d.ctr] 30)) := bdr.alloc (by simp) _
      have hsrc5 : EDot.Src (wq.drew.alloc (.cells #[.int .i64 d.rep, .int .i64 d.ctr] 30)) (.slice (some ⟨wq.drew.heap.size, 0, none⟩) 1 1) [d] := Enc.Src.one_lit (E := EDot) wq.drew 30 _
      refine Shut.out hK _ _ (HXC.out _ hb5) (fun hS2 => ?_); clear hK K hS; have hS := hS2; clear hS2
      try simp only [Act.put, s1, s2, s3, s4, s5, s6]
      refine rd1 3 (by decide +kernel) rfl (fun K hK => ?_)
      refine step_append_row rfl _ _ 22 rfl EDot wq.heap.size (.agg #[.int .i64 0, .int .i64 0]) 16 Tryz.underlying22 infoDot (by decide) (by decide) _ [] rfl (Enc.Row.nil _ _) _ (l.take k) rfl (HSA.out _ hb5) (by have := HLE.out; simp; omega) (hb5.size) ?_
      intro v3 w3 hrow3 hgr3
      have hl3 := brf.grown hgr3 (Nat.le_refl _) (fun j hj => by cases hj)
      have hb3 := btr hb5 hl3
      have hsrc3 := hsrc5.below hl3
      refine Shut.out hK _ _ (HXC.out w3 hb3) (fun hS2 => ?_); clear hK K hS; have hS := hS2; clear hS2
      try simp only [Act.put, s1, s2, s3, s4, s5, s6]
      refine rd1 6 (by decide +kernel) rfl (fun K hK => ?_)
      refine step_append_row rfl _ _ 22 rfl EDot wq.heap.size (.agg #[.int .i64 0, .int .i64 0]) 16 Tryz.underlying22 infoDot (by decide) (by decide) _ ([] ++ l.take k) rfl (hrow3) _ [d] rfl (hsrc3) (by have := HLE.out; simp; omega) (hb3.size) ?_
      intro v6 w6 hrow6 hgr6
      have hb6 := hb3.grown hgr6 hb3.size (fun j hj => (hrow3.lt _ hj).1)
      refine Shut.out hK _ _ (HXC.out w6 hb6) (fun hS2 => ?_); clear hK K hS; have hS := hS2; clear hS2
      try simp only [Act.put, s1, s2, s3, s4, s5, s6]
      refine rd1 10 (by decide +kernel) rfl (fun K hK => ?_)
      refine step_append_row rfl _ _ 22 rfl EDot wq.heap.size (.agg #[.int .i64 0, .int .i64 0]) 16 Tryz.underlying22 infoDot (by decide) (by decide) _ ([] ++ l.take k ++ [d]) rfl (hrow6) _ (l.drop k) rfl (HSB.out _ hb6) (by have := HLE.out; simp; omega) (hb6.size) ?_
      intro v10 w10 hrow10 hgr10
      have hb10 := hb6.grown hgr10 hb6.size (fun j hj => (hrow6.lt _ hj).1)
      refine Shut.out hK _ _ (HXC.out w10 hb10) (fun hS2 => ?_); clear hK K hS; have hS := hS2; clear hS2
      refine tkR (n := 1) [11] rfl (by decide +kernel) hS ?_
      ((try simp only [Act.put, s1, s2, s3, s4, s5, s6]); refine ⟨_, ?_, rfl, Or.inl ⟨by kernel_rfl, fun w hSw => ok_of fun z hz => ?_⟩, ?_⟩; rotate_left; · (go_simp; exact hz))
      refine RunOK.done ?_
      try simp only [Act.put, s1, s2, s3, s4, s5, s6]
      refine wpAnyH_done (by kernel_rfl) ?_ _
      try simp only [Act.put, s1, s2, s3, s4, s5, s6]
      simp only [NQ]
      rw [List.nil_append] at hrow10
      have hf := HFIN.out _ _ hrow10 hb10
      clear hS
      go_wp2_with fail
      all_goals go_ret
      all_goals exact ⟨_, rfl, hf.1, hf.2⟩
   ·have hke : k = l.length := by omega
    have HSTOP : Hid (∀ h : k < l.length, dlt l[k] d = false) := Hd (fun h => absurd h hlt)
    have a1 : decide ((k : Int) < l.length) = false := decide_eq_false (by omega)
    clear hke
    go_upto_region 4 with fail
    refine NQ.to ?_
    refine wp_region_held_drew (S := (fun _ => True)) (by kernel_rfl) (trivial) (fun hS => ?_)
    refine tkR (n := 12) [0, 1, 2, 3, 4, 5, 6, 7, 8, 9, 10, 11] rfl (by decide +kernel) hS ?_
    iterate 5 ((try simp only [Act.put, s1, s2, s3, s4, s5, s6]); refine ⟨_, ?_, rfl, Or.inl ⟨by kernel_rfl, fun w hSw => ok_of fun z hz => ?_⟩, ?_⟩; rotate_left; · (go_simp; exact hz))
    iterate 6 ((try simp only [Act.put, s1, s2, s3, s4, s5, s6]); refine ⟨_, undef, rfl, Or.inr ⟨by kernel_rfl, rfl⟩, ?_⟩)
    ((try simp only [Act.put, s1, s2, s3, s4, s5, s6]); refine ⟨_, ?_, rfl, Or.inl ⟨by kernel_rfl, fun w hSw => ok_of fun z hz => ?_⟩, ?_⟩; rotate_left; · (go_simp; exact hz))
    refine RunOK.done ?_
    try simp only [Act.put, s1, s2, s3, s4, s5, s6]
    refine wpAnyH_done (by kernel_rfl) ?_ _
    try simp only [Act.put, s1, s2, s3, s4, s5, s6]
    simp only [NQ]
    have HBQ := Hd (below_drew1 HB.out)
    obtain ⟨wq, hwq⟩ : ∃ wq, wq = wr.drew := ⟨_, rfl⟩
    rw [← hwq] at HBQ ⊢
    clear hwq HB hS
    have HXC : Hid (∀ wz, Below wq.heap.size wq wz → (wz.cell? ⟨w.heap.size, 0, none⟩ = some (.int .i64 d.rep) ∧ wz.cell? ⟨w.heap.size, 1, none⟩ = some (.int .i64 d.ctr))) := Hd (fun wz hz => HC.out wz (btr HBQ.out hz))
    have HBW := Hd (HB1.out.trans (HBQ.out.mono HB1.out.size))
    have HSA : Hid (∀ wz, Below wq.heap.size wq wz → EDot.Src wz (.slice o k c) (l.take k)) := Hd (fun wz hz => by
     have := ((HSRC.out.below HBW.out).below hz).sliced HLC.out 0 k (Nat.zero_le _) hk 2 rfl
     rw [List.drop_zero, sliced_zero] at this
     exact this)
    have HSB : Hid (∀ wz, Below wq.heap.size wq wz → EDot.Src wz (.slice (if c = k then o else Option.map (fun x => x.add (k * 2)) o) (l.length - k) (c - k)) (l.drop k)) := Hd (fun wz hz => by
     have := ((HSRC.out.below HBW.out).below hz).sliced HLC.out k l.length hk (Nat.le_refl _) 2 rfl
     rw [List.take_length] at this
     exact this)
    have HFIN : Hid (∀ (v' : Value) (w' : World), EDot.Row wq.heap.size w' v' (l.take k ++ [d] ++ l.drop k) → Below wq.heap.size wq w' → Arr DotR 2 w' v' (withD l d) ∧ Below w.heap.size w w') := Hd (fun v' w' h1 h2 => by
     have h3 := btr HBW.out h2
     exact ⟨HEND.out k v' w' hk _ h1 HALL.out HSTOP.out, h3⟩)
    clear HEND HALL HSTOP HSRC
    go_upto_region 6 with fail
    refine NQ.to ?_
    refine wp_region_held_drew (S := (fun wz => (wz.cell? ⟨w.heap.size, 0, none⟩ = some (.int .i64 d.rep) ∧ wz.cell? ⟨w.heap.size, 1, none⟩ = some (.int .i64 d.ctr)))) (by kernel_rfl) (HXC.out _ bdr) (fun hS => ?_)
    refine tkR (n := 7) [0, 1, 2, 4, 7, 8, 9] rfl (by decide +kernel) hS ?_
    iterate 7 ((try simp only [Act.put, s1, s2, s3, s4, s5, s6]); refine ⟨_, ?_, rfl, Or.inl ⟨by kernel_rfl, fun w hSw => ok_of fun z hz => ?_⟩, ?_⟩; rotate_left; · (obtain ⟨f1, f2⟩ := hSw; go_simp; exact hz))
    refine RunOK.done ?_
    try simp only [Act.put, s1, s2, s3, s4, s5, s6]
    refine wpAnyH_ready (rs := [3, 5]) (by decide +kernel) (by simp) ?_
    refine (AllReadyH.cons rfl (fun K hK => ?_) (AllReadyH.cons rfl (fun K hK => ?_) AllReadyH.nil))
    ·refine step_append_row rfl _ _ 22 rfl EDot wq.heap.size (.agg #[.int .i64 0, .int .i64 0]) 16 Tryz.underlying22 infoDot (by decide) (by decide) _ [] rfl (Enc.Row.nil _ _) _ (l.take k) rfl (HSA.out _ bdr) (by have := HLE.out; simp; omega) (by simp) ?_
     intro v3 w3 hrow3 hgr3
     have hb3 := (below_drew1 (Below.refl wq.heap.size wq)).grown hgr3 (by simp) (fun j hj => by cases hj)
     refine Shut.out hK _ _ (HXC.out w3 hb3) (fun hS2 => ?_); clear hK K hS; have hS := hS2; clear hS2
     try simp only [Act.put, s1, s2, s3, s4, s5, s6]
     refine rd1 5 (by decide +kernel) rfl (fun K hK => ?_)
     go_simp
     have hal5 : Below w3.heap.size w3 (w3.alloc (.cells #[.int .i64 d.rep, .int .i64 d.ctr] 30)) := bal
     have hb5 := btr hb3 hal5
     have hrow5 := hrow3.below hal5
     have hsrc5 : EDot.Src (w3.alloc (.cells #[.int .i64 d.rep, .int .i64 d.ctr] 30)) (.slice (some ⟨w3.heap.size, 0, none⟩) 1 1) [d] := Enc.Src.one_lit (E := EDot) w3 30 _
     refine Shut.out hK _ _ (HXC.out _ hb5) (fun hS2 => ?_); clear hK K hS; have hS := hS2; clear hS2
     try simp only [Act.put, s1, s2, s3, s4, s5, s6]
     refine rd1 6 (by decide +kernel) rfl (fun K hK => ?_)
     refine step_append_row rfl _ _ 22 rfl EDot wq.heap.size (.agg #[.int .i64 0, .int .i64 0]) 16 Tryz.underlying22 infoDot (by decide) (by decide) _ ([] ++ l.take k) rfl (hrow5) _ [d] rfl (hsrc5) (by have := HLE.out; simp; omega) (hb5.size) ?_
     intro v6 w6 hrow6 hgr6
     have hb6 := hb5.grown hgr6 hb5.size (fun j hj => (hrow5.lt _ hj).1)
     refine Shut.out hK _ _ (HXC.out w6 hb6) (fun hS2 => ?_); clear hK K hS; have hS := hS2; clear hS2
     try simp only [Act.put, s1, s2, s3, s4, s5, s6]
     refine rd1 10 (by decide +kernel) rfl (fun K hK => ?_)
     refine step_append_row rfl _ _ 22 rfl EDot wq.heap.size (.agg #[.int .i64 0, .int .i64 0]) 16 Tryz.underlying22 infoDot (by decide) (by decide) _ ([] ++ l.take k ++ [d]) rfl (hrow6) _ (l.drop k) rfl (HSB.out _ hb6) (by have := HLE.out; simp; omega) (hb6.size) ?_
     intro v10 w10 hrow10 hgr10
     have hb10 := hb6.grown hgr10 hb6.size (fun j hj => (hrow6.lt _ hj).1)
     refine Shut.out hK _ _ (HXC.out w10 hb10) (fun hS2 => ?_); clear hK K hS; have hS := hS2; clear hS2
     refine tkR (n := 1) [11] rfl (by decide +kernel) hS ?_
     ((try simp only [Act.put, s1, s2, s3, s4, s5, s6]); refine ⟨_, ?_, rfl, Or.inl ⟨by kernel_rfl, fun w hSw => ok_of fun z hz => ?_⟩, ?_⟩; rotate_left; · (go_simp; exact hz))
     refine RunOK.done ?_
     try simp only [Act.put, s1, s2, s3, s4, s5, s6]
     refine wpAnyH_done (by kernel_rfl) ?_ _
     try simp only [Act.put, s1, s2, s3, s4, s5, s6]
     simp only [NQ]
     rw [List.nil_append] at hrow10
     have hf := HFIN.out _ _ hrow10 hb10
     clear hS
     go_wp2_with fail
     all_goals go_ret
     all_goals exact ⟨_, rfl, hf.1, hf.2⟩
    ·go_simp
     have hb5 : Below wq.heap.size wq (wq.drew.alloc (.cells #[.int .i64 d.rep, .int .i64 d.ctr] 30)) := bdr.alloc (by simp) _
     have hsrc5 : EDot.Src (wq.drew.alloc (.cells #[.int .i64 d.rep, .int .i64 d.ctr] 30)) (.slice (some ⟨wq.drew.heap.size, 0, none⟩) 1 1) [d] := Enc.Src.one_lit (E := EDot) wq.drew 30 _
     refine Shut.out hK _ _ (HXC.out _ hb5) (fun hS2 => ?_); clear hK K hS; have hS := hS2; clear hS2
     try simp only [Act.put, s1, s2, s3, s4, s5, s6]
     refine rd1 3 (by decide +kernel) rfl (fun K hK => ?_)
     refine step_append_row rfl _ _ 22 rfl EDot wq.heap.size (.agg #[.int .i64 0, .int .i64 0]) 16 Tryz.underlying22 infoDot (by decide) (by decide) _ [] rfl (Enc.Row.nil _ _) _ (l.take k) rfl (HSA.out _ hb5) (by have := HLE.out; simp; omega) (hb5.size) ?_
     intro v3 w3 hrow3 hgr3
     have hl3 := brf.grown hgr3 (Nat.le_refl _) (fun j hj => by cases hj)
     have hb3 := btr hb5 hl3
     have hsrc3 := hsrc5.below hl3
     refine Shut.out hK _ _ (HXC.out w3 hb3) (fun hS2 => ?_); clear hK K hS; have hS := hS2; clear hS2
     try simp only [Act.put, s1, s2, s3, s4, s5, s6]
     refine rd1 6 (by decide +kernel) rfl (fun K hK => ?_)
     refine step_append_row rfl _ _ 22 rfl EDot wq.heap.size (.agg #[.int .i64 0, .int .i64 0]) 16 Tryz.underlying22 infoDot (by decide) (by decide) _ ([] ++ l.take k) rfl (hrow3) _ [d] rfl (hsrc3) (by have := HLE.out; simp; omega) (hb3.size) ?_
     intro v6 w6 hrow6 hgr6
     have hb6 := hb3.grown hgr6 hb3.size (fun j hj => (hrow3.lt _ hj).1)
     refine Shut.out hK _ _ (HXC.out w6 hb6) (fun hS2 => ?_); clear hK K hS; have hS := hS2; clear hS2
     try simp only [Act.put, s1, s2, s3, s4, s5, s6]
     refine rd1 10 (by decide +kernel) rfl (fun K hK => ?_)
     refine step_append_row rfl _ _ 22 rfl EDot wq.heap.size (.agg #[.int .i64 0, .int .i64 0]) 16 Tryz.underlying22 infoDot (by decide) (by decide) _ ([] ++ l.take k ++ [d]) rfl (hrow6) _ (l.drop k) rfl (HSB.out _ hb6) (by have := HLE.out; simp; omega) (hb6.size) ?_
     intro v10 w10 hrow10 hgr10
     have hb10 := hb6.grown hgr10 hb6.size (fun j hj => (hrow6.lt _ hj).1)
     refine Shut.out hK _ _ (HXC.out w10 hb10) (fun hS2 => ?_); clear hK K hS; have hS := hS2; clear hS2
     refine tkR (n := 1) [11] rfl (by decide +kernel) hS ?_
     ((try simp only [Act.put, s1, s2, s3, s4, s5, s6]); refine ⟨_, ?_, rfl, Or.inl ⟨by kernel_rfl, fun w hSw => ok_of fun z hz => ?_⟩, ?_⟩; rotate_left; · (go_simp; exact hz))
     refine RunOK.done ?_
     try simp only [Act.put, s1, s2, s3, s4, s5, s6]
     refine wpAnyH_done (by kernel_rfl) ?_ _
     try simp only [Act.put, s1, s2, s3, s4, s5, s6]
     simp only [NQ]
     rw [List.nil_append] at hrow10
     have hf := HFIN.out _ _ hrow10 hb10
     clear hS
     go_wp2_with fail
     all_goals go_ret
     all_goals exact ⟨_, rfl, hf.1, hf.2⟩
end Go.Proofs.YtfnfbcaoihhbpaaGreatDoor
namespace Go.Proofs.YtfnfbcaoihhbpaaGreatDoor
open Go.RowKit Go.Maps

theorem withD_len (s : List DotD) (d : DotD) : (withD s d).length ≤ s.length + 1 := by
 unfold withD
 split
 ·omega
 ·have := congrArg List.length (List.takeWhile_append_dropWhile (p := fun x => dlt x d) (l := s))
  rw [List.length_append] at this
  rw [List.length_append, List.length_cons]
  omega
theorem foldl_withD_len : ∀ (l s : List DotD), (l.foldl withD s).length ≤ s.length + l.length
 | [], s => by simp
 | d :: l, s => by
  have h1 := foldl_withD_len l (withD s d)
  have h2 := withD_len s d
  rw [List.foldl_cons, List.length_cons]
  omega
theorem foldl_snoc {α β : Type} (f : β → α → β) (s : β) (l : List α) (k : Nat) (h : k < l.length) : (l.take (k + 1)).foldl f s = f ((l.take k).foldl f s) l[k] := by
 rw [List.take_succ_eq_append_getElem h, List.foldl_append]; rfl
theorem setD_le (l : List DotD) : (setD l).length ≤ l.length := by
 unfold setD sortD
 exact Nat.le_trans (compactD_len _) (by simp)
theorem unionD_setD (a b : List DotD) : unionD (setD a) b = setD (a ++ b) := by
 rw [unionD_eq]
 exact ss_ext (setD_ss _) (setD_ss _) (fun x => by simp only [setD_mem, List.mem_append])
theorem r1Union_any (l m : List DotD) (v u : Value) (w : World) (h : Arr DotR 2 w v l) (h2 : Arr DotR 2 w u m) (hl : l.length ≤ 1000000) (hm : m.length ≤ 1000000) : Calls Tryz.prog 146 #[v, u] w fun e w' => ∃ v', e = .returned v' ∧ Arr DotR 2 w' v' (unionD l m) ∧ Below w.heap.size w w' := by
 have hn := h.len
 have hn2 := h2.len
 have HDI := Hd h.dotsI
 have HDI2 := Hd h2.dotsI
 obtain ⟨o, c, rfl, hel⟩ := h.dotAt
 obtain ⟨o2, c2, rfl, hel2⟩ := h2.dotAt
 have HEL := Hd hel
 have HEL2 := Hd hel2
 have HU : Hid (m.foldl withD (l.foldl withD []) = unionD l m) := Hd rfl
 clear hel hel2 h h2
 go_enter Tryz.func146, Tryz.ntmps146
 go_wp2_with fail
 go_loopw [5, 6] (fun ov i wr => ∃ k : Nat, k ≤ l.length ∧ i = .int .i64 k ∧ Arr DotR 2 wr ov ((l.take k).foldl withD []) ∧ Below w.heap.size w wr) (fun _ i _ => l.length - (intOf i).toNat)
 case atStart => exact ⟨0, Nat.zero_le _, rfl, ⟨none, 0, rfl, Nat.le_refl _, Nat.zero_le _, fun i hi => absurd hi (Nat.not_lt_zero i)⟩, Below.refl _ _⟩
 case round =>
  obtain ⟨k, hk, rfl, hrow, hB⟩ := hrel
  have HROW := Hd hrow
  have HB := Hd hB
  clear hrow hB
  by_cases hlt : k < l.length
  ·obtain ⟨b, off, rfl, hbl, e0, e1⟩ := HEL.out k hlt
   have c0 : wr.cell? ⟨b, off + k * 2, none⟩ = some (.int .i64 l[k].rep) := by rw [HB.out.cell (p := ⟨_, _, _⟩) hbl]; exact e0
   have c1 : wr.cell? ⟨b, off + k * 2 + 1, none⟩ = some (.int .i64 l[k].ctr) := by rw [HB.out.cell (p := ⟨_, _, _⟩) hbl]; exact e1
   have hdl : ((l.take k).foldl withD []).length ≤ 10000000 := by
    have := foldl_withD_len (l.take k) []
    rw [List.length_take] at this
    simp only [List.length_nil] at this
    omega
   have HW := Hd (r1With_any _ l[k] _ wr HROW.out (HDI.out _ (List.getElem_mem hlt)) hdl)
   rw [← foldl_snoc withD [] l k hlt] at HW
   unfold dotV at HW
   obtain ⟨nxt, hnx⟩ : ∃ nxt, nxt = (l.take (k + 1)).foldl withD [] := ⟨_, rfl⟩
   have HNX := Hd hnx
   rw [← hnx] at HW
   clear hnx
   generalize l[k] = d at *
   have a0 : (0 : Int) ≤ k := by omega
   have a1 : (k : Int) < l.length := by omega
   have hkw := wr1 k (by omega)
   clear e0 e1 hdl
   go_wp2_with fail
   refine HW.out.mono ?_
   rintro e w2 ⟨v2, rfl, ha2, hb2⟩
   have HA2 := Hd ha2
   have hbf := btr HB.out hb2
   clear c0 c1 ha2 hb2 HW
   go_wp2_with fail
   go_roundw
   case rel => exact ⟨k + 1, by omega, by go_num, by rw [← HNX.out]; exact HA2.out, hbf⟩
   case measure => simp [intOf]; omega
  ·have hke : k = l.length := by omega
   have HR0 : Hid (Arr DotR 2 wr u5 (l.foldl withD [])) := Hd (by have := HROW.out; rw [hke, List.take_length] at this; exact this)
   clear HROW hke
   go_wp2_with fail
   go_loopw [5, 7] (fun ov i wr => ∃ k : Nat, k ≤ m.length ∧ i = .int .i64 k ∧ Arr DotR 2 wr ov ((m.take k).foldl withD (l.foldl withD [])) ∧ Below w.heap.size w wr) (fun _ i _ => m.length - (intOf i).toNat)
   case atStart => exact ⟨0, Nat.zero_le _, rfl, HR0.out, HB.out⟩
   case round =>
    obtain ⟨k, hk, rfl, hrow, hB⟩ := hrel
    have HROW := Hd hrow
    clear HB HR0
    have HB := Hd hB
    clear hrow hB
    by_cases hlt : k < m.length
    ·obtain ⟨b, off, rfl, hbl, e0, e1⟩ := HEL2.out k hlt
     have c0 : wr.cell? ⟨b, off + k * 2, none⟩ = some (.int .i64 m[k].rep) := by rw [HB.out.cell (p := ⟨_, _, _⟩) hbl]; exact e0
     have c1 : wr.cell? ⟨b, off + k * 2 + 1, none⟩ = some (.int .i64 m[k].ctr) := by rw [HB.out.cell (p := ⟨_, _, _⟩) hbl]; exact e1
     have hdl : ((m.take k).foldl withD (l.foldl withD [])).length ≤ 10000000 := by
      have h1 := foldl_withD_len (m.take k) (l.foldl withD [])
      have h2 := foldl_withD_len l []
      rw [List.length_take] at h1
      simp only [List.length_nil] at h2
      omega
     have HW := Hd (r1With_any _ m[k] _ wr HROW.out (HDI2.out _ (List.getElem_mem hlt)) hdl)
     rw [← foldl_snoc withD _ m k hlt] at HW
     unfold dotV at HW
     obtain ⟨nxt, hnx⟩ : ∃ nxt, nxt = (m.take (k + 1)).foldl withD (l.foldl withD []) := ⟨_, rfl⟩
     have HNX := Hd hnx
     rw [← hnx] at HW
     clear hnx
     generalize m[k] = d at *
     have a0 : (0 : Int) ≤ k := by omega
     have a1 : (k : Int) < m.length := by omega
     have hkw := wr1 k (by omega)
     clear e0 e1 hdl
     go_wp2_with fail
     refine HW.out.mono ?_
     rintro e w2 ⟨v2, rfl, ha2, hb2⟩
     have HA2 := Hd ha2
     have hbf := btr HB.out hb2
     clear c0 c1 ha2 hb2 HW
     go_wp2_with fail
     go_roundw
     case rel => exact ⟨k + 1, by omega, by go_num, by rw [← HNX.out]; exact HA2.out, hbf⟩
     case measure => simp [intOf]; omega
    ·have hke : k = m.length := by omega
     have HF := HROW.out
     rw [hke, List.take_length, HU.out] at HF
     have HFF := Hd HF
     clear HF HROW hke
     go_wp2_with fail
     go_ret
     exact ⟨_, rfl, HFF.out, HB.out⟩
theorem r9Dots_any (l : List ItemD) (v : Value) (w : World) (h : Arr ItemR 2 w v l) (hl : Lt l) : Calls Tryz.prog 91 #[v] w fun e w' => ∃ v', e = .returned v' ∧ Arr DotR 2 w' v' (setD (allDots l)) ∧ Below w.heap.size w w' := by
 have hn := h.len
 have HLT := Hd hl
 obtain ⟨o, c, rfl, hel⟩ := h.itemAt
 have HEL := Hd hel
 clear hel h hl
 go_enter Tryz.func91, Tryz.ntmps91
 go_wp2_with fail
 go_loopw [3, 4] (fun ov i wr => ∃ k : Nat, k ≤ l.length ∧ i = .int .i64 k ∧ Arr DotR 2 wr ov (setD (allDots (l.take k))) ∧ Below w.heap.size w wr) (fun _ i _ => l.length - (intOf i).toNat)
 case atStart =>
  have e : setD (allDots (l.take 0)) = [] := List.eq_nil_iff_forall_not_mem.2 (fun x hx => by rw [setD_mem, List.take_zero] at hx; simp [allDots] at hx)
  exact ⟨0, Nat.zero_le _, rfl, by rw [e]; exact ⟨none, 0, rfl, Nat.le_refl _, Nat.zero_le _, fun i hi => absurd hi (Nat.not_lt_zero i)⟩, Below.refl _ _⟩
 case round =>
  obtain ⟨k, hk, rfl, hrow, hB⟩ := hrel
  have HROW := Hd hrow
  have HB := Hd hB
  clear hrow hB
  by_cases hlt : k < l.length
  ·obtain ⟨b, off, mv, rfl, hbl, e0, e1, -, hmk⟩ := HEL.out k hlt
   obtain ⟨mo, mc, rfl, -⟩ := id hmk
   have c1 : wr.cell? ⟨b, off + k * 2 + 1, none⟩ = some (.slice mo l[k].marks.length mc) := by rw [HB.out.cell (p := ⟨_, _, _⟩) hbl]; exact e1
   have hlm : l[k].marks.length ≤ 1000 := HLT.out.2 _ (List.getElem_mem hlt)
   have HQD := Hd (r8Dots_any l[k].marks _ wr (hmk.marks HB.out) (by omega))
   have HDI : Hid (∀ e ∈ dotsM l[k].marks, DI e) := Hd (fun e he => by
    obtain ⟨m, hm, rfl⟩ := List.mem_map.1 he
    exact (hmk.marksI m hm).1)
   have HNX : Hid (unionD (setD (allDots (l.take k))) (dotsM l[k].marks) = setD (allDots (l.take (k + 1)))) := Hd (by
    rw [unionD_setD, List.take_succ_eq_append_getElem hlt, allDots_append]
    simp [allDots])
   have hsl : (setD (allDots (l.take k))).length ≤ 1000000 := Nat.le_trans (setD_le _) (Nat.le_trans (allDots_take_len l k) HLT.out.dots)
   obtain ⟨cur, hcur⟩ : ∃ cur, cur = setD (allDots (l.take k)) := ⟨_, rfl⟩
   rw [← hcur] at HROW HNX hsl
   generalize l[k].marks = ms at *
   have a0 : (0 : Int) ≤ k := by omega
   have a1 : (k : Int) < l.length := by omega
   have hkw := wr1 k (by omega)
   clear e0 e1 hmk hcur
   go_wp2_with fail
   refine HQD.out.mono ?_
   rintro e w2 ⟨v2, rfl, hrow2, hb2⟩
   have hlen : (dotsM ms).length = ms.length := dotsM_len ms
   have HA2 := Hd (Arr.of_dots (by rw [hlen]; exact hrow2) HDI.out)
   have HB2 := Hd (btr HB.out hb2)
   have HUN := Hd (r1Union_any cur (dotsM ms) _ v2 w2 (HROW.out.dots hb2) HA2.out hsl (by omega))
   rw [HNX.out] at HUN
   clear c1 hrow2 hb2 HQD hlen
   go_wp2_with fail
   refine HUN.out.mono ?_
   rintro e w3 ⟨v3, rfl, ha3, hb3⟩
   have HA3 := Hd ha3
   have hbf := btr HB2.out hb3
   clear ha3 hb3 HUN
   go_wp2_with fail
   go_roundw
   case rel => exact ⟨k + 1, by omega, by go_num, HA3.out, hbf⟩
   case measure => simp [intOf]; omega
  ·have hke : k = l.length := by omega
   have HF := HROW.out
   rw [hke, List.take_length] at HF
   have HFF := Hd HF
   clear HF HROW hke
   go_wp2_with fail
   go_ret
   exact ⟨_, rfl, HFF.out, HB.out⟩
end Go.Proofs.YtfnfbcaoihhbpaaGreatDoor
