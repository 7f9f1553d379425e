/- slices.Delete at items, items.Remove. -/
import Derived.Test.YtfnfbcaoihhbpaaGreatDoorGrow
import Derived.Test.YtfnfbcaoihhbpaaGreatDoorIt11
set_option linter.unusedSimpArgs false
set_option linter.unusedVariables false
set_option maxRecDepth 100000
set_option maxHeartbeats 8000000
namespace Go.Proofs.YtfnfbcaoihhbpaaGreatDoor
open Go.RowKit Go.Maps

def DelAt (base : Nat) (qs : List ItW) (w : World) (e : Ending) (w' : World) : Prop := ∃ v', e = .returned v' ∧ FreshI base w' v' qs ∧ Below base w w'
theorem deleteItems_any (base k : Nat) (ps : List ItW) (v : Value) (w : World) (hk : k < ps.length) (hbase : base ≤ w.heap.size) (h : FreshI base w v ps) : Calls Tryz.prog 84 #[v, .int .i64 k, .int .i64 ((k : Int) + 1)] w (DelAt base (ps.take k ++ ps.drop (k + 1)) w) := by
 obtain ⟨i0, hi0, hz0, hz1, hz2⟩ := info_parts infoItem
 have hn := h.1.le
 unfold maxLen at hn
 obtain ⟨g, cv, rfl, hin, hgb⟩ := h.1.some (by intro e; rw [e] at hk; simp at hk)
 have hcap : ps.length ≤ cv := by obtain ⟨_, _, _, h3, _⟩ := hin; exact h3
 have hcm : cv ≤ 9223372036854775807 := by obtain ⟨_, _, _, _, h3, _⟩ := hin; unfold maxLen at h3; exact h3
 have hgl := hin.gl
 have hind : EItem.In w.drew g cv ps := hin.of_heap rfl
 have HAP := Hd (fun (ad : Addr) (c : Nat) (ha : k + 1 < ps.length → ad = ⟨g, (k + 1) * 2, none⟩) => by
  have hr := run_append_fits (P := Tryz.prog) w.drew base 26 26 50 i0 2 Tryz.underlying26 hi0 hz1 g k cv (EItem.flat (ps.take k)) (by
   have h2 := (hind.take k).own hgb
   have h3 : (ps.take k).length = k := by rw [List.length_take]; omega
   unfold Enc.Row at h2
   rw [h3] at h2
   exact h2) ad (ps.length - (k + 1)) c (EItem.flat (ps.drop (k + 1))) (by rw [EItem.flat_len, List.length_drop]; rfl) (fun j u hj => by
   by_cases hlt : k + 1 < ps.length
   ·rw [ha hlt, addr_add]
    have hjl : j < (ps.length - (k + 1)) * 2 := by
     rcases Nat.lt_or_ge j ((ps.length - (k + 1)) * 2) with h | h
     ·exact h
     ·rw [List.getElem?_eq_none (by rw [EItem.flat_len, List.length_drop]; exact h)] at hj; cases hj
    obtain ⟨C, h1, _, _, _, h5⟩ := hind
    rw [cell0 h1, h5 _ (show (k + 1) * 2 + j < ps.length * 2 by omega)]
    have e2 : EItem.flat ps = EItem.flat (ps.take (k + 1)) ++ EItem.flat (ps.drop (k + 1)) := by rw [← EItem.flat_append, List.take_append_drop]
    have e3 : (EItem.flat (ps.take (k + 1))).length = (k + 1) * 2 := by rw [EItem.flat_len, List.length_take, Nat.min_eq_left (by omega)]; rfl
    rw [e2, List.getElem?_append_right (by omega), e3, Nat.add_sub_cancel_left]
    exact hj
   ·rw [List.drop_eq_nil_of_le (by omega)] at hj; simp [Enc.flat] at hj) (EItem.flat_one _) (by omega)
  exact hr)
 have HF := Hd h
 have hnn : (ps.take k ++ ps.drop (k + 1)).length = k + (ps.length - (k + 1)) := by simp; omega
 obtain ⟨n, hnl⟩ : ∃ n, n = ps.length := ⟨_, rfl⟩
 have HNN := Hd hnn
 rw [← hnl] at hk hn hcap HAP HNN ⊢
 have HNL := Hd hnl
 have a0 : (0 : Int) ≤ k := by omega
 have a1 : (k : Int) ≤ (k : Int) + 1 := by omega
 have a2 : (k : Int) + 1 ≤ n := by omega
 have a3 : (n : Int) ≤ cv := by omega
 have a4 : (k : Int) ≤ n := by omega
 have a5 : (k : Int) + 1 ≤ cv := by omega
 have a6 : (k : Int) ≤ cv := by omega
 have a7 : ((k : Int) == (k : Int) + 1) = false := by simp; omega
 have a8 : ((k : Int) + 1).toNat = k + 1 := by omega
 have a9 : (0 : Int) ≤ (k : Int) + 1 := by omega
 clear hnn hnl h hin hind hi0 hz0 hz1 hz2
 go_enter Tryz.func84, Tryz.ntmps84
 go_upto_region 5 with fail
 have HREST : Hid (∀ (w7 : World), w7.ownsRow base 50 2 (.slice (some ⟨g, 0, none⟩) (k + (n - (k + 1))) cv) (k + (n - (k + 1))) (EItem.flat (ps.take k) ++ EItem.flat (ps.drop (k + 1))) → w.drew.grownBy w7 (some g) → ∃ w8, (∀ (ty : TypeId) (c : Nat), (Builtin.clear_ #[26] ty #[.slice (some ⟨g, (k + (n - (k + 1))) * 2, none⟩) (n - (k + (n - (k + 1)))) c]).run Tryz.prog w7 = .ok (.tuple #[]) w8) ∧ FreshI base w8 (.slice (some ⟨g, 0, none⟩) (k + (n - (k + 1))) cv) (ps.take k ++ ps.drop (k + 1)) ∧ Below base w w8) := Hd (fun w7 hrow hgr => by
  rw [← EItem.flat_append] at hrow
  have hrow2 : EItem.Row base w7 (.slice (some ⟨g, 0, none⟩) (k + (n - (k + 1))) cv) (ps.take k ++ ps.drop (k + 1)) := by
   unfold Enc.Row
   rw [HNN.out]
   exact hrow
  obtain ⟨hin7, -, -⟩ := hrow2.at
  obtain ⟨w8, hclr, hin8, hbl8, hsz8, hot8⟩ := hin7.clear (P := Tryz.prog) (k + (n - (k + 1))) n (by rw [HNN.out]; exact Nat.le_refl _) (by omega) hcap 26 (.agg #[.string ⟨#[]⟩, .slice none 0 0]) Tryz.underlying26 Tryz.zeroValue50 rfl (fun u hu => by change u ∈ [Value.string ⟨#[]⟩, Value.slice none 0 0] at hu; rw [List.mem_cons, List.mem_singleton] at hu; rcases hu with h | h <;> (rw [h]; rfl))
  rw [← HNN.out, List.take_length] at hin8
  refine ⟨w8, hclr, ?_, hbl8 base w hgb ((below_drew1 (Below.refl base w)).grown hgr hbase (fun j hj => by cases hj; exact hgb))⟩
  have hp := FreshI.part HF.out (qs := ps.take k ++ ps.drop (k + 1)) (fun q hq => by
   rcases List.mem_append.1 hq with h | h
   ·exact List.mem_of_mem_take h
   ·exact List.mem_of_mem_drop h) (HF.out.2.2.sublist (by
    have e : ps = ps.take k ++ ps.drop k := (List.take_append_drop k ps).symm
    have h1 : (ps.take k ++ ps.drop (k + 1)).Sublist (ps.take k ++ ps.drop k) := (List.Sublist.refl _).append (List.drop_sublist_drop_left _ (by omega))
    rw [List.take_append_drop] at h1
    exact h1)) hin8 (fun b h1 h2 => by rw [hot8 b h2, hgr.block b h1 (fun e => h2 (Option.some.inj e))]; rfl)
  rw [HNN.out] at hp
  exact hp)
 have b0 : (0 : Int) ≤ ((k + (n - (k + 1)) : Nat) : Int) := by omega
 have b1 : ((k + (n - (k + 1)) : Nat) : Int) ≤ n := by omega
 have b2 : ((k + (n - (k + 1)) : Nat) : Int) ≤ cv := by omega
 have b3 : ¬ cv = k + (n - (k + 1)) := by omega
 by_cases hfull : cv = k + 1
 ·obtain ⟨w7, hr7, hrow7, hgr7⟩ := HAP.out ⟨g, 0, none⟩ (cv - (k + 1)) (fun h => by omega)
  obtain ⟨w8, hclr, hf8, hb8⟩ := HREST.out w7 hrow7 hgr7
  have HF8 := Hd hf8
  have HB8 := Hd hb8
  clear HREST HAP hrow7 hgr7 hf8 hb8
  refine NQ.to ?_
  refine wp_region_any (by kernel_rfl) ?_
  try (change wpAny _ _ _ _ _ _ _ (World.drew _))
  try simp only [Act.put, s1, s2, s3, s4, s5, s6]
  refine wpAny_take (i := 0) (v := .slice (some ⟨g, 0, none⟩) n cv) rfl (by decide +kernel) (by decide +kernel) (by decide +kernel) (fun _ _ _ h => h) (Or.inl ⟨by kernel_rfl, fun w => by go_simp⟩) ?_
  try simp only [Act.put, s1, s2, s3, s4, s5, s6]
  refine wpAny_take (i := 1) (v := .int .i64 k) rfl (by decide +kernel) (by decide +kernel) (by decide +kernel) (fun _ _ _ h => h) (Or.inl ⟨by kernel_rfl, fun w => by go_simp⟩) ?_
  try simp only [Act.put, s1, s2, s3, s4, s5, s6]
  refine wpAny_take (i := 2) (v := .slice (some ⟨g, 0, none⟩) k cv) rfl (by decide +kernel) (by decide +kernel) (by decide +kernel) (fun _ _ _ h => h) (Or.inl ⟨by kernel_rfl, fun w => by go_simp⟩) ?_
  try simp only [Act.put, s1, s2, s3, s4, s5, s6]
  refine wpAny_take (i := 3) (v := .slice (some ⟨g, 0, none⟩) n cv) rfl (by decide +kernel) (by decide +kernel) (by decide +kernel) (fun _ _ _ h => h) (Or.inl ⟨by kernel_rfl, fun w => by go_simp⟩) ?_
  try simp only [Act.put, s1, s2, s3, s4, s5, s6]
  refine wpAny_take (i := 4) (v := .int .i64 ((k : Int) + 1)) rfl (by decide +kernel) (by decide +kernel) (by decide +kernel) (fun _ _ _ h => h) (Or.inl ⟨by kernel_rfl, fun w => by go_simp⟩) ?_
  try simp only [Act.put, s1, s2, s3, s4, s5, s6]
  refine wpAny_take (i := 5) (v := .slice (some ⟨g, 0, none⟩) (n - (k + 1)) (cv - (k + 1))) rfl (by decide +kernel) (by decide +kernel) (by decide +kernel) (fun _ _ _ h => h) (Or.inl ⟨by kernel_rfl, fun w => by go_simp⟩) ?_
  try simp only [Act.put, s1, s2, s3, s4, s5, s6]
  refine wpAny_ready (rs := [6]) (by decide +kernel) (by simp) ?_
  refine (AllReady.cons rfl (fun K hK => ?_) AllReady.nil)
  refine step_append_run rfl _ _ 26 rfl _ _ _ _ rfl rfl hr7 ?_
  refine hK _ _ ?_
  clear hK K
  try simp only [Act.put, s1, s2, s3, s4, s5, s6]
  refine wpAny_take (i := 7) (v := .slice (some ⟨g, 0, none⟩) (k + (n - (k + 1))) cv) rfl (by decide +kernel) (by decide +kernel) (by decide +kernel) (fun _ _ _ h => h) (Or.inl ⟨by kernel_rfl, fun w => by go_simp⟩) ?_
  try simp only [Act.put, s1, s2, s3, s4, s5, s6]
  refine wpAny_done (by kernel_rfl) ?_ _
  try simp only [Act.put, s1, s2, s3, s4, s5, s6]
  simp only [NQ]

  generalize k + (n - (k + 1)) = m at *
  go_wp2_with fail
  go_ret
  exact ⟨_, rfl, HF8.out, HB8.out⟩
 ·obtain ⟨w7, hr7, hrow7, hgr7⟩ := HAP.out ⟨g, (k + 1) * 2, none⟩ (cv - (k + 1)) (fun _ => rfl)
  obtain ⟨w8, hclr, hf8, hb8⟩ := HREST.out w7 hrow7 hgr7
  have HF8 := Hd hf8
  have HB8 := Hd hb8
  clear HREST HAP hrow7 hgr7 hf8 hb8
  refine NQ.to ?_
  refine wp_region_any (by kernel_rfl) ?_
  try (change wpAny _ _ _ _ _ _ _ (World.drew _))
  try simp only [Act.put, s1, s2, s3, s4, s5, s6]
  refine wpAny_take (i := 0) (v := .slice (some ⟨g, 0, none⟩) n cv) rfl (by decide +kernel) (by decide +kernel) (by decide +kernel) (fun _ _ _ h => h) (Or.inl ⟨by kernel_rfl, fun w => by go_simp⟩) ?_
  try simp only [Act.put, s1, s2, s3, s4, s5, s6]
  refine wpAny_take (i := 1) (v := .int .i64 k) rfl (by decide +kernel) (by decide +kernel) (by decide +kernel) (fun _ _ _ h => h) (Or.inl ⟨by kernel_rfl, fun w => by go_simp⟩) ?_
  try simp only [Act.put, s1, s2, s3, s4, s5, s6]
  refine wpAny_take (i := 2) (v := .slice (some ⟨g, 0, none⟩) k cv) rfl (by decide +kernel) (by decide +kernel) (by decide +kernel) (fun _ _ _ h => h) (Or.inl ⟨by kernel_rfl, fun w => by go_simp⟩) ?_
  try simp only [Act.put, s1, s2, s3, s4, s5, s6]
  refine wpAny_take (i := 3) (v := .slice (some ⟨g, 0, none⟩) n cv) rfl (by decide +kernel) (by decide +kernel) (by decide +kernel) (fun _ _ _ h => h) (Or.inl ⟨by kernel_rfl, fun w => by go_simp⟩) ?_
  try simp only [Act.put, s1, s2, s3, s4, s5, s6]
  refine wpAny_take (i := 4) (v := .int .i64 ((k : Int) + 1)) rfl (by decide +kernel) (by decide +kernel) (by decide +kernel) (fun _ _ _ h => h) (Or.inl ⟨by kernel_rfl, fun w => by go_simp⟩) ?_
  try simp only [Act.put, s1, s2, s3, s4, s5, s6]
  refine wpAny_take (i := 5) (v := .slice (some ⟨g, (k + 1) * 2, none⟩) (n - (k + 1)) (cv - (k + 1))) rfl (by decide +kernel) (by decide +kernel) (by decide +kernel) (fun _ _ _ h => h) (Or.inl ⟨by kernel_rfl, fun w => by go_simp⟩) ?_
  try simp only [Act.put, s1, s2, s3, s4, s5, s6]
  refine wpAny_ready (rs := [6]) (by decide +kernel) (by simp) ?_
  refine (AllReady.cons rfl (fun K hK => ?_) AllReady.nil)
  refine step_append_run rfl _ _ 26 rfl _ _ _ _ rfl rfl hr7 ?_
  refine hK _ _ ?_
  clear hK K
  try simp only [Act.put, s1, s2, s3, s4, s5, s6]
  refine wpAny_take (i := 7) (v := .slice (some ⟨g, 0, none⟩) (k + (n - (k + 1))) cv) rfl (by decide +kernel) (by decide +kernel) (by decide +kernel) (fun _ _ _ h => h) (Or.inl ⟨by kernel_rfl, fun w => by go_simp⟩) ?_
  try simp only [Act.put, s1, s2, s3, s4, s5, s6]
  refine wpAny_done (by kernel_rfl) ?_ _
  try simp only [Act.put, s1, s2, s3, s4, s5, s6]
  simp only [NQ]

  generalize k + (n - (k + 1)) = m at *
  go_wp2_with fail
  go_ret
  exact ⟨_, rfl, HF8.out, HB8.out⟩
/-- Valid items have each name once: without the one that is found. -/
theorem dropN_erase {l : List ItemD} (h : risB l = true) {k : Nat} (hk : k < l.length) {nm : ByteArray} (hn : l[k].name = nm) : dropN l nm = l.take k ++ l.drop (k + 1) := by
 have hpw := risB_iff.1 h
 have e : l = l.take k ++ l[k] :: l.drop (k + 1) := by rw [List.getElem_cons_drop, List.take_append_drop]
 have hpw2 := hpw
 rw [e] at hpw2
 obtain ⟨p1, p2, p3⟩ := List.pairwise_append.1 hpw2
 obtain ⟨p4, _⟩ := List.pairwise_cons.1 p2
 unfold dropN
 have h1 : (l.take k).filter (fun y => !decide (y.name = nm)) = l.take k := by
  rw [List.filter_eq_self]
  intro a ha
  have := p3 a ha l[k] (.head _)
  have hne : a.name ≠ nm := fun e => by rw [e, hn] at this; exact ltK_irrefl _ this
  simp [hne]
 have h2 : (l.drop (k + 1)).filter (fun y => !decide (y.name = nm)) = l.drop (k + 1) := by
  rw [List.filter_eq_self]
  intro a ha
  have := p4 a ha
  have hne : a.name ≠ nm := fun e => by rw [e, hn] at this; exact ltK_irrefl _ this
  simp [hne]
 refine (congrArg (List.filter (fun y => !decide (y.name = nm))) e).trans ?_
 rw [List.filter_append, List.filter_cons, h1, h2]
 simp [hn]
def remE (l : List ItemD) (nm : ByteArray) : Int := if validI l then (if l.any (fun x => decide (x.name = nm)) then 0 else 9) else 2
/-- What Remove answers. -/
def RemPost (l : List ItemD) (nm : ByteArray) (w : World) (e : Ending) (w' : World) : Prop :=
 ∃ v', e = .returned (.tuple #[v', .int .i64 (remE l nm)]) ∧ Below w.heap.size w w' ∧ (remE l nm ≠ 0 → v' = .slice none 0 0) ∧ (remE l nm = 0 → ∃ ps, ps.map (·.x) = dropN l nm ∧ FreshI w.heap.size w' v' ps)
theorem itemsRemove_any (l : List ItemD) (nm : ByteArray) (v : Value) (w : World) (h : Arr ItemR 2 w v l) (hl : Lt l) (hG : GlobIs w) : Calls Tryz.prog 39 #[v, .string nm] w (RemPost l nm w) := by
 have HI := Hd (itemsIndex_any nm l v w h)
 have HA := Hd h
 have HGL := Hd hG
 have HLT := Hd hl
 have hn := h.len
 have HRE : Hid (remE l nm = if validI l then (if l.any (fun x => decide (x.name = nm)) then 0 else 9) else 2) := Hd rfl
 clear h hG hl
 go_enter Tryz.func39, Tryz.ntmps39
 go_wp2_with fail
 refine HI.out.mono ?_
 rintro e w1 ⟨i, rfl, hi, hb1⟩
 have HV := Hd (itemsValid_any l v w1 (HA.out.items hb1) HLT.out (HGL.out.below hb1))
 have HB1 := Hd hb1
 have HIX := Hd hi
 obtain ⟨r, hr⟩ : ∃ r, r = validI l := ⟨_, rfl⟩
 rw [← hr] at HV HRE
 have HVL := Hd hr
 clear hr hi hb1 HI
 cases r with
 | false =>
  have HE : Hid (remE l nm = 2) := Hd HRE.out
  clear HRE
  go_wp2_with fail
  refine HV.out.mono ?_
  rintro e w2 ⟨rfl, hb2⟩
  have HB2 := Hd (btr HB1.out hb2)
  go_wp2_with fail
  go_ret2
  exact ⟨.slice none 0 0, by rw [HE.out]; rfl, HB2.out, fun _ => rfl, fun h => by rw [HE.out] at h; cases h⟩
 | true =>
  have hi := HIX.out
  rcases hi with ⟨rfl, hany⟩ | ⟨k, hk, rfl, hpk, htk⟩
  ·have HE : Hid (remE l nm = 9) := Hd (by rw [HRE.out, hany]; rfl)
   clear HRE hany HIX
   go_wp2_with fail
   refine HV.out.mono ?_
   rintro e w2 ⟨rfl, hb2⟩
   have HB2 := Hd (btr HB1.out hb2)
   go_wp2_with fail
   go_ret2
   exact ⟨.slice none 0 0, by rw [HE.out]; rfl, HB2.out, fun _ => rfl, fun h => by rw [HE.out] at h; cases h⟩
  ·have HE : Hid (remE l nm = 0) := Hd (by
    have : l.any (fun x => decide (x.name = nm)) = true := List.any_eq_true.2 ⟨_, List.getElem_mem hk, hpk⟩
    rw [HRE.out, this]; rfl)
   have HPK : Hid (l[k].name = nm) := Hd (by simpa using hpk)
   have t1 : decide ((k : Int) < 0) = false := decide_eq_false (by omega)
   have a1 : ¬ (k : Int) < 0 := by omega
   have hkw := wr1 k (by omega)
   clear HRE HIX hpk htk
   go_wp2_with fail
   refine HV.out.mono ?_
   rintro e w2 ⟨rfl, hb2⟩
   have HB2 := Hd (btr HB1.out hb2)
   have HCP := Hd (itemsCopy_any l v w2 (HA.out.items HB2.out) HLT.out)
   clear hb2 HV
   go_wp2_with fail
   refine HCP.out.mono ?_
   rintro e w3 ⟨v3, ps, rfl, hps, hf3, hb3⟩
   have hkp : k < ps.length := by have := congrArg List.length hps; rw [List.length_map] at this; omega
   have HD := Hd (deleteItems_any w2.heap.size k ps v3 w3 hkp hb3.size hf3)
   have HM : Hid ((ps.take k ++ ps.drop (k + 1)).map (·.x) = dropN l nm) := Hd (by
    rw [dropN_erase (by have := HVL.out; unfold validI at this; simp only [Bool.true_eq, Bool.and_eq_true] at this; exact this.1.2) hk HPK.out, ← hps, List.map_append, List.map_take, List.map_drop])
   have HB3 := Hd hb3
   clear hf3 hb3 hps HCP
   go_wp2_with fail
   refine HD.out.mono ?_
   rintro e w4 ⟨v4, rfl, hf4, hb4⟩
   have HF4 := Hd (hf4.mono HB2.out.size)
   have HB4 := Hd (HB2.out.trans ((HB3.out.trans hb4).mono HB2.out.size))
   clear hf4 hb4 HD
   go_wp2_with fail
   go_ret2
   exact ⟨_, by rw [HE.out]; rfl, HB4.out, fun h => absurd HE.out h, fun _ => ⟨_, HM.out, HF4.out⟩⟩
end Go.Proofs.YtfnfbcaoihhbpaaGreatDoor

