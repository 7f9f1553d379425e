/- cart.Canon walked. -/
import Derived.Test.YtadbmineobldbaaGreatDoorD3
import Derived.Test.YtadbmineobldbaaGreatDoorD4
import Derived.Test.YtadbmineobldbaaGreatDoorIt10
set_option linter.unusedSimpArgs false
set_option linter.unusedVariables false
namespace Go.Proofs.YtadbmineobldbaaGreatDoor
open Go.RowKit Go.Maps Go.Sort Go.Shelf

theorem cartCanon1_any (a b : ItW) (w : World) : Calls Tryz.prog 48 #[.agg #[.string a.x.name, .slice a.mo a.x.marks.length a.mc], .agg #[.string b.x.name, .slice b.mo b.x.marks.length b.mc]] w fun e w' => e = .returned (.int .i64 (icmp a b)) ∧ Grown w w' := by
  have HC := Hd (fun wz => cmpStr_any a.x.name b.x.name wz)
  have HF : Hid (icmp a b = scmp a.x.name b.x.name) := Hd rfl
  go_enter Tryz.func48, Tryz.ntmps48
  go_wp2_with fail
  refine (HC.out _).mono ?_;rintro e w1 ⟨rfl, rfl⟩
  go_wp2_with fail
  go_ret
  exact ⟨by rw [HF.out]; rfl, grown_two _ _ _⟩
theorem sortItemsC_any (g cap : Nat) (ps : List ItW) (w : World) (h : EItem.In w g cap ps) (hl : ps.length ≤ 10000000) :
    Calls Tryz.prog 47 #[.slice (some ⟨g, 0, none⟩) ps.length cap, .func (.func 48) #[] #[]] w (SortPost w g cap ps) := by
  have eg : ∀ args w, (callFunc 48 args).run Tryz.prog w = .ok (.enter 48 args) w := enters_of Tryz.func48 (by kernel_rfl) rfl
  obtain ⟨C, h1, _⟩ := id h;have hcl : CmpLays Tryz.prog 48 #[] encT 2 icmp g 0 ps.toArray.size w := fun _ _ _ _ x y => cartCanon1_any x y _
  have hcon := AnyQ.slices_SortFunc Tryz.sortItem 2 Tryz.isAgg56 Tryz.sizeOf56 encT (fun _ => rfl) (fun x => EItem.one x) icmp swoI 48 #[] g 0 cap ps.toArray w eg hcl h.holds (lt_of_heap h1) (by simp; omega)
  change Calls Tryz.prog 47 _ _ _ at hcon;refine hcon.mono fun _ _ ⟨he, d', n, os, hp, hs, hw⟩ => ⟨he, d'.toList, ?_, ?_, ?_, ?_, ?_⟩
  · obtain ⟨p1, _, p3⟩ := hp
    have e1 : d'.extract 0 ps.toArray.size = d' := by rw [← p1]; exact Array.extract_size
    rw [e1, Array.extract_size] at p3;exact p3
  · obtain ⟨p1, _⟩ := hp
    rw [List.pairwise_iff_getElem];intro i j hi hj hij;have hj2 : j < d'.size := by simpa using hj
    have := hs i j (Nat.zero_le _) hij (by omega)
    rw [ltOf_icmp, getElem!_pos d' j hj2, getElem!_pos d' i (by omega)] at this
    exact of_decide_eq_false this
  · rw [hw]
    obtain ⟨p1, _⟩ := hp;have := h.sorted d'.toList (by simpa using p1) n os
    rw [Array.toArray_toList] at this;exact this
  · rw [hw]; exact (heap_sorted h1 encT 2 n 0 d' os).2
  · rw [hw]; exact fun b hb hg => heap_sorted_ot encT 2 n 0 d' os b hb hg
theorem sortFresh {base : Nat} {w : World} {v : Value} {ps : List ItW} (hF : FreshI base w v ps) (hl : ps.length ≤ 10000000) : Calls Tryz.prog 47 #[v, .func (.func 48) #[] #[]] w fun e w' => e = .returned (.tuple #[]) ∧ ∃ qs : List ItW, qs.Perm ps ∧ qs.Pairwise (fun a b => ¬ ltK b.x.name a.x.name) ∧ FreshI base w' v qs ∧ (∀ B w0, B ≤ base → Below B w0 w → Below B w0 w') ∧ ∀ b, b < w.heap.size → v.ownBlock ≠ some b → w'.heap[b]? = w.heap[b]? := by
  obtain ⟨h1, h2, h3⟩ := id hF
  by_cases hn : ps = []
  · subst hn
    obtain ⟨a, c, rfl⟩ := h1.slice;exact (AnyF.slices_SortFunc_none Tryz.sortItem a c _ w).mono fun e w' ⟨g1, g2⟩ => ⟨g1, [], List.Perm.refl _, List.Pairwise.nil, by rw [g2]; exact hF, fun _ _ _ hb => by rw [g2]; exact hb, fun _ _ _ => by rw [g2]⟩
  · obtain ⟨g, cap, rfl, hin, hg⟩ := h1.some hn
    refine (sortItemsC_any g cap ps w hin hl).mono fun e w' ⟨g1, qs, g2, g3, g4, g5, g6⟩ => ⟨g1, qs, g2, g3, ⟨?_, fun p hp => ?_, (g2.symm.pairwise_iff (fun h => Apart.symm h)).1 h3⟩, fun B w0 hB hb => g5 B w0 (Nat.le_trans hB hg) hb, fun b hb hne => g6 b hb (fun e => hne (by rw [e]; rfl))⟩
    · have := g4.own hg
      rw [g2.length_eq] at this;exact this
    · obtain ⟨i1, i2⟩ := h2 p (g2.mem_iff.1 hp)
      exact ⟨i1.stay (fun k hk => g6 k (i1.2.1.lt k hk).2 (fun e => i2 g rfl (e ▸ hk))), i2⟩
def canonW (p : ItW) : ItW := ⟨canonItem p.x, p.mo, p.mc⟩
theorem canonW_v (p : ItW) : (canonW p).v = p.v := by
  unfold ItW.v canonW canonItem;rw [(sortedM_perm _).length_eq]
theorem canonW_enc (p : ItW) : encT (canonW p) = encT p := by
  unfold encT;rw [canonW_v]; rfl
theorem fresh_set {base : Nat} {w w' : World} {v : Value} {L : List ItW} {k : Nat} (hk : k < L.length) (hF : FreshI base w v L) (hrow : EMark.Row base w' L[k].v (sortedM L[k].x.marks)) (hkeep : ∀ b, b < w.heap.size → L[k].v.ownBlock ≠ some b → w'.heap[b]? = w.heap[b]?) : FreshI base w' v (L.set k (canonW L[k])) := by
  obtain ⟨h1, h2, h3⟩ := hF;have hfl : EItem.flat (L.set k (canonW L[k])) = EItem.flat L := by
    have e1 : (L.set k (canonW L[k])).map EItem.enc = L.map EItem.enc := by
      rw [List.map_set];have : EItem.enc (canonW L[k]) = (L.map EItem.enc)[k]'(by simpa using hk) := by rw [List.getElem_map]; exact canonW_enc _
      rw [this, List.set_getElem_self]
    unfold Enc.flat;rw [List.flatMap_def, List.flatMap_def, e1]
  have hvm : (L.set k (canonW L[k])).map ItW.v = L.map ItW.v := by
    rw [List.map_set];have : (canonW L[k]).v = (L.map ItW.v)[k]'(by simpa using hk) := by rw [List.getElem_map]; exact canonW_v _
    rw [this, List.set_getElem_self]
  have hm := h2 _ (List.getElem_mem hk);refine ⟨?_, fun p hp => ?_, ?_⟩
  · have h4 : EItem.Row base w' v L := h1.stay (fun j hj => hkeep j (h1.lt j hj).2 (hm.2 j hj))
    unfold Enc.Row at h4 ⊢;rw [hfl, List.length_set];exact h4
  · obtain ⟨i, hi, rfl⟩ := List.mem_iff_getElem.1 hp
    rw [List.length_set] at hi
    by_cases hik : k = i
    · subst hik
      rw [List.getElem_set_self];refine ⟨⟨hm.1.1, by rw [canonW_v]; exact hrow, fun m hmm => hm.1.2.2 m ((sortedM_perm _).mem_iff.1 hmm)⟩, by rw [canonW_v]; exact hm.2⟩
    · rw [List.getElem_set_ne hik]
      have hi2 := h2 _ (List.getElem_mem hi);refine ⟨hi2.1.stay (fun j hj => hkeep j (hi2.1.2.1.lt j hj).2 (fun e => ?_)), hi2.2⟩
      rw [List.pairwise_iff_getElem] at h3
      rcases Nat.lt_or_gt_of_ne hik with h | h
      · exact h3 k i hk hi h j e hj
      · exact h3 i k hi hk h j hj e
  · have := (List.pairwise_map (f := ItW.v) (R := Apart) (l := L)).2 h3
    rw [← hvm] at this;exact List.pairwise_map.1 this
theorem nodup_item {l : List ItemD} (h : (allDots l).Nodup) {x : ItemD} (hx : x ∈ l) : (dotsM x.marks).Nodup := by
  obtain ⟨s, t, rfl⟩ := List.append_of_mem hx;rw [allDots_append, allDots_cons] at h;exact (List.nodup_append.1 (List.nodup_append.1 h).2.1).1
theorem set2_same3 {w : World} {b : Nat} {y0 y1 y2 : Value} (x0 x1 : Value) {T : TypeId} (h : w.heap[b]? = some (.cells #[y0, y1, y2] T)) : (set2 w b x0 x1).heap[b]? = some (.cells #[x0, x1, y2] T) := by
  unfold set2;rw [setCell_same (setCell_same h 0 x0) 1 x1]
  rfl
set_option linter.unusedSimpArgs false in
set_option linter.unusedVariables false in
set_option maxRecDepth 100000 in
set_option maxHeartbeats 16000000 in
theorem cartCanon_any (c : CartD) (v1 v2 v3 : Value) (w : World) (h : CartA w v1 v2 v3 c) (hl : SzC c) (hds : (allDots c.items).length ≤ 9000) (hG : GlobIs w) :
    Calls Tryz.prog 13 #[.agg #[v1, v2, v3]] w (CartPost (canonC c) (canonE c) w) := by
  obtain ⟨o1, n1, k1, o2, n2, k2, o3, n3, k3, rfl, rfl, rfl, hn1, hn2, hn3⟩ := opn4 h;obtain ⟨W1, HW, HB, HS, HK0, HK1⟩ := box2 w #[.slice o1 n1 k1, .slice o2 n2 k2, .slice o3 n3 k3] 28 #[.slice none 0 0, .slice none 0 0, .slice none 0 0] 28;have HC := Hd (fun wz (hz : Below W1.heap.size W1 wz) => And.intro (cel3 (HK0.out wz hz)) (cel3 (HK1.out wz hz)))
  have HA := Hd (h.below HB.out);have HGL := Hd (hG.below HB.out);have HSZ := Hd hl;have HV := Hd (ctxValid_any c.vec c.cloud _ _ W1 HA.out.1 HA.out.2.1);have HDF : Hid (∀ wz, Below W1.heap.size W1 wz → Calls Tryz.prog 46 #[.slice o3 n3 k3] wz fun e w' => e = .returned (.bool (diffI c.items)) ∧ Below wz.heap.size wz w') := Hd (fun wz hz => cartDifferent_any c.items _ wz (HA.out.below hz).2.2 hl.1)
  have HCP : Hid (∀ wz, Below W1.heap.size W1 wz → Calls Tryz.prog 33 #[.agg #[.slice o1 n1 k1, .slice o2 n2 k2, .slice o3 n3 k3]] wz fun e w' => ∃ x1 x2 x3, e = .returned (.agg #[x1, x2, x3]) ∧ OwnC wz.heap.size w' x1 x2 x3 c ∧ Below wz.heap.size wz w') := Hd (fun wz hz => cartCopy_any c _ _ _ wz (HA.out.below hz) hl)
  have eg2 : ∀ args w, (callFunc 51 args).run Tryz.prog w = .ok (.enter 51 args) w := enters_of Tryz.func51 (by kernel_rfl) rfl
  have HSM := Hd (fun base v (ms : List MarkD) wz (hr : EMark.Row base wz v ms) (hn : ms.length ≤ 10000000) => sortMarks_row 51 eg2 cartCanon2_any base v ms wz hr hn)
  have HRC : Hid (canonC c = if canonOk c then canonOf c else zeroC) := Hd rfl
  have HEC : Hid (canonE c = if canonOk c then 0 else 2) := Hd rfl
  have HOK : Hid (canonOk c = (validX c.vec c.cloud && diffI c.items && validI (canonI c.items))) := Hd rfl;have HDS := Hd hds;have HBW := Hd HB.out;have hsz := HS.out;have HN3 := Hd hn3;clear HB h hl hG hds hn1 hn2 hn3 eg2;obtain ⟨r1, hr1⟩ : ∃ r, r = validX c.vec c.cloud := ⟨_, rfl⟩;obtain ⟨r2, hr2⟩ : ∃ r, r = diffI c.items := ⟨_, rfl⟩;rw [← hr1] at HV HOK;rw [← hr2] at HDF HOK;have HR1' := Hd hr1;have HR2' := Hd hr2;clear hr1 hr2;generalize canonC c = RC at *
  generalize canonE c = EC at *
  obtain ⟨⟨c0, c1, c2⟩, c3, c4, c5⟩ := HC.out W1 brf
  go_enter Tryz.func13, Tryz.ntmps13
  go_wp2_with fail
  rw [← HW.out]
  go_wp2_with fail
  refine HV.out.mono ?_;rintro e w2 ⟨rfl, hb2⟩;have HB2 := Hd hb2;clear c0 c1 c2 c3 c4 c5 hb2 HV
  cases r1 with
  | false =>
    have HE2 : Hid (EC = 2) := Hd (by rw [HEC.out, HOK.out]; rfl)
    have HR2 : Hid (RC = zeroC) := Hd (by rw [HRC.out, HOK.out]; rfl)
    clear HRC HEC HOK HDF HCP HSM HR1' HR2';have HF := Hd (set3c_below (b := w.heap.size + 1) (.slice none 0 0) (.slice none 0 0) (.slice none 0 0) (btr HBW.out HB2.out) (by omega))
    obtain ⟨⟨z0, z1, z2⟩, y0, y1, y2⟩ := HC.out _ HB2.out;have g0 := froz0 (HK1.out _ HB2.out) 0;have g1 := froz0 (HK1.out _ HB2.out) 1;have g2 := froz0 (HK1.out _ HB2.out) 2
    go_wp2_with fail
    (try simp only [Exit.inBlock, Exit.then])
    refine bodyPost_ret (v := .tuple #[.agg #[.slice none 0 0, .slice none 0 0, .slice none 0 0], .int .i64 2]) ?_ rfl ⟨_, _, _, by rw [HE2.out], by rw [HR2.out]; exact OwnC.zero _ _, HF.out⟩
    rw [results_cell_tmp rfl];go_simp
  | true =>
    have HDF2 := Hd (HDF.out w2 HB2.out);obtain ⟨⟨c0, c1, c2⟩, c3, c4, c5⟩ := HC.out w2 HB2.out
    go_wp2_with fail
    refine HDF2.out.mono ?_;rintro e w3 ⟨rfl, hb3⟩;have HB3 := Hd (btr HB2.out hb3);clear c0 c1 c2 c3 c4 c5 hb3 HDF HDF2 HB2
    cases r2 with
    | false =>
      have HE2 : Hid (EC = 2) := Hd (by rw [HEC.out, HOK.out]; rfl)
      have HR2 : Hid (RC = zeroC) := Hd (by rw [HRC.out, HOK.out]; rfl)
      clear HRC HEC HOK HCP HSM HR1' HR2';have HF := Hd (set3c_below (b := w.heap.size + 1) (.slice none 0 0) (.slice none 0 0) (.slice none 0 0) (btr HBW.out HB3.out) (by omega))
      obtain ⟨⟨z0, z1, z2⟩, y0, y1, y2⟩ := HC.out _ HB3.out;have g0 := froz0 (HK1.out _ HB3.out) 0;have g1 := froz0 (HK1.out _ HB3.out) 1;have g2 := froz0 (HK1.out _ HB3.out) 2
      go_wp2_with fail
      (try simp only [Exit.inBlock, Exit.then])
      refine bodyPost_ret (v := .tuple #[.agg #[.slice none 0 0, .slice none 0 0, .slice none 0 0], .int .i64 2]) ?_ rfl ⟨_, _, _, by rw [HE2.out], by rw [HR2.out]; exact OwnC.zero _ _, HF.out⟩
      rw [results_cell_tmp rfl];go_simp
    | true =>
      have hdf : (c.items.map (·.name)).Nodup ∧ (allDots c.items).Nodup := by
        have := HR2'.out.symm;unfold diffI at this
        simpa using this
      have HND := Hd hdf;have HCP3 := Hd (HCP.out w3 HB3.out);obtain ⟨⟨c0, c1, c2⟩, c3, c4, c5⟩ := HC.out w3 HB3.out
      go_wp2_with fail
      refine HCP3.out.mono ?_;rintro e w4 ⟨y1, y2, y3, rfl, ⟨hy1, hy2, ps, hps, hfr⟩, hb4⟩;obtain ⟨a1, b1, rfl⟩ := hy1.slice;obtain ⟨a2, b2, rfl⟩ := hy2.slice;obtain ⟨a3, b3, rfl⟩ := hfr.1.slice;have hpl : ps.length = n3 := by rw [HN3.out, ← hps, List.length_map]
      rw [hpl] at hfr ⊢;obtain ⟨W5, hW5⟩ : ∃ x, x = w4.alloc (.cells #[.slice a1 c.vec.length b1, .slice a2 c.cloud.length b2, .slice a3 n3 b3] 28) := ⟨_, rfl⟩;have hb5 : Below w4.heap.size w4 W5 := by rw [hW5]; exact bal
      have hx5 : W5.heap[w4.heap.size]? = some (.cells #[.slice a1 c.vec.length b1, .slice a2 c.cloud.length b2, .slice a3 n3 b3] 28) := by rw [hW5]; exact alloc_new _ _
      have HFR5 := Hd (hfr.below hb5);have HB5 := Hd (btr HB3.out (btr hb4 hb5));have HOB : Hid (∀ j, (Value.slice a3 n3 b3).ownBlock = some j → w3.heap.size ≤ j ∧ j < w4.heap.size) := Hd (fun j hj => hfr.1.lt j hj)
      have HOM : Hid (∀ p ∈ ps, ∀ j, p.v.ownBlock = some j → j < w4.heap.size) := Hd (fun p hp j hj => ((hfr.2.1 p hp).1.2.1.lt j hj).2)
      have HPL := Hd hpl;have hl3 : n3 ≤ 1000 := by have := HSZ.out.1.1; rw [HN3.out]; exact this
      have HSF := Hd (sortFresh HFR5.out (by omega))
      have hbase : W1.heap.size ≤ w3.heap.size := HB3.out.size;have hw34 : w3.heap.size ≤ w4.heap.size := hb4.size;obtain ⟨d0, d1, d2⟩ := cel3 hx5;have HX5 := Hd hx5;have HW5 := Hd hW5;have HPS := Hd hps;clear hps;clear c0 c1 c2 c3 c4 c5 HCP HCP3 hy1 hy2 hfr hb4 hb5 hx5 hW5 hdf hpl
      go_upto_region 4 with fail
      rw [← HW5.out];clear HW5;generalize w4.heap.size = bo at *
      generalize w3.heap.size = bs at *
      go_wp2_with fail
      refine HSF.out.mono ?_;rintro e w6 ⟨rfl, qs, hqp, hqs, hfq, hbq, hkq⟩;have HB6 := Hd (hbq W1.heap.size W1 hbase HB5.out);have hx6 := (hkq _ (lt_of_heap HX5.out) (fun e => by have := (HOB.out _ e).2; omega)).trans HX5.out
      have HX6 := Hd hx6;have HFQ := Hd hfq;have hql : qs.length = n3 := by rw [hqp.length_eq]; exact HPL.out
      have HQL := Hd hql;have HLX : Hid ((qs.map canonW).map (fun p => p.x) = canonI c.items) := Hd (by
        have e : (qs.map canonW).map (fun p => p.x) = (qs.map (fun p => p.x)).map canonItem := by rw [List.map_map, List.map_map]; rfl
        rw [e];refine canonI_unique HND.out.1 ?_ ?_
        · have := (hqp.map (fun p => p.x)).map canonItem
          rw [HPS.out] at this;exact this
        · rw [List.pairwise_map, List.pairwise_map]
          exact hqs.imp (fun h => h))
      have HQN : Hid (∀ q ∈ qs, (dotsM q.x.marks).Nodup ∧ q.x.marks.length ≤ 1000 ∧ ∀ j, q.v.ownBlock = some j → j < bo) := Hd (fun q hq => by
        have hp := hqp.mem_iff.1 hq;have hx : q.x ∈ c.items := by rw [← HPS.out]; exact List.mem_map.2 ⟨q, hp, rfl⟩
        exact ⟨nodup_item HND.out.2 hx, HSZ.out.1.2 _ hx, HOM.out q hp⟩)
      obtain ⟨d0, d1, d2⟩ := cel3 hx6;clear hqp hqs hfq hbq hkq hx6 hql HSF HFR5 HB5 HX5 HPS HOM HPL
      go_wp2_with fail
      go_loopw [26] (fun iv wr => ∃ k : Nat, k ≤ n3 ∧ iv = .int .i64 k ∧ FreshI bs wr (.slice a3 n3 b3) ((qs.take k).map canonW ++ qs.drop k) ∧ wr.heap[bo]? = some (.cells #[.slice a1 c.vec.length b1, .slice a2 c.cloud.length b2, .slice a3 n3 b3] 28) ∧ Below W1.heap.size W1 wr) (fun iv _ => n3 - (intOf iv).toNat)
      case atStart => exact ⟨0, Nat.zero_le _, rfl, by simpa using HFQ.out, HX6.out, HB6.out⟩
      case round =>
        clear HFQ HX6 HB6 d0 d1 d2;obtain ⟨k, hk, rfl, hF, hx, hB⟩ := hrel;have HF := Hd hF;have HX := Hd hx;have HB := Hd hB;clear hF hx hB
        by_cases hlt : k < n3
        · have hkq : k < qs.length := by have := HQL.out; omega
          have hLl : ((qs.take k).map canonW ++ qs.drop k).length = n3 := by
            rw [List.length_append, List.length_map, List.length_take, List.length_drop];have := HQL.out;omega
          have hkL : k < ((qs.take k).map canonW ++ qs.drop k).length := by omega
          have hLk : ((qs.take k).map canonW ++ qs.drop k)[k] = qs[k] := by
            rw [List.getElem_append_right (by rw [List.length_map, List.length_take]; omega)]
            rw [List.getElem_drop]
            congr 1
            rw [List.length_map, List.length_take];omega
          have hset : ((qs.take k).map canonW ++ qs.drop k).set k (canonW qs[k]) = (qs.take (k + 1)).map canonW ++ qs.drop (k + 1) := by
            have hl1 : ((qs.take k).map canonW).length = k := by rw [List.length_map, List.length_take]; omega
            rw [List.set_append_right _ _ (by omega), hl1, Nat.sub_self, List.take_succ_eq_append_getElem hkq, List.map_append, List.append_assoc]
            congr 1
            rw [← List.getElem_cons_drop (h := hkq)]
            rfl
          obtain ⟨g, cap, hgv, hin, hgb⟩ := HF.out.1.some (by intro e; rw [e] at hkL; simp at hkL)
          have c0 : wr.cell? ⟨g, k * 2, none⟩ = some (.string qs[k].x.name) := by
            have := hin.cell k hkL 0 (by decide)
            rw [hLk] at this;exact this
          have c1 : wr.cell? ⟨g, k * 2 + 1, none⟩ = some (.slice qs[k].mo qs[k].x.marks.length qs[k].mc) := by
            have := hin.cell k hkL 1 (by decide)
            rw [hLk] at this;exact this
          have hok := (HF.out.2.1 _ (List.getElem_mem hkL)).1.2.1;rw [hLk] at hok;obtain ⟨hnd, hml, hob⟩ := HQN.out _ (List.getElem_mem hkq);have HFS : Hid (∀ (W7 w8 : World), Below wr.heap.size wr W7 → EMark.Row bs w8 qs[k].v (sortedM qs[k].x.marks) → (∀ b, b < W7.heap.size → qs[k].v.ownBlock ≠ some b → w8.heap[b]? = W7.heap[b]?) → FreshI bs w8 (.slice a3 n3 b3) ((qs.take (k + 1)).map canonW ++ qs.drop (k + 1))) := Hd (fun W7 w8 hb hr hkeep => by
            rw [← hset];have := fresh_set (w' := w8) hkL (HF.out.below hb) (by rw [hLk]; exact hr) (by rw [hLk]; exact hkeep)
            rw [hLk] at this;exact this)
          injection hgv with e1 e2 e3
          clear hset hLk hin hgb e2 e3 hLl hkL;generalize qs[k] = q at *
          subst e1;obtain ⟨W7, hW7⟩ : ∃ x, x = wr.alloc (.cells #[.string q.x.name, .slice q.mo q.x.marks.length q.mc] 56) := ⟨_, rfl⟩;have hb7 : Below wr.heap.size wr W7 := by rw [hW7]; exact bal
          have hx7 : W7.heap[wr.heap.size]? = some (.cells #[.string q.x.name, .slice q.mo q.x.marks.length q.mc] 56) := by rw [hW7]; exact alloc_new _ _
          have y1 : W7.cell? ⟨wr.heap.size, 1, none⟩ = some (.slice q.mo q.x.marks.length q.mc) := cl0 hx7 1 rfl;have HSM7 := Hd (HSM.out bs q.v q.x.marks W7 (hok.below hb7) (by omega))
          have HB7 := Hd (btr HB.out hb7);have HX7 := Hd ((hb7.block _ (lt_of_heap HX.out)).trans HX.out);have HFS7 := Hd (fun w8 => HFS.out W7 w8 hb7)
          have HUN : Hid (∀ ms : List MarkD, ms.Perm q.x.marks → ms.Pairwise leM → ms = sortedM q.x.marks) := Hd (fun ms h1 h2 => sortedM_unique h1 h2 hnd)
          have HW7 := Hd hW7;have HOBq := Hd hob;have a0 : (0 : Int) ≤ k := by omega
          have a1' : (k : Int) < (n3 : Int) := by omega
          have hkw : IntKind.i64.wrap ((k : Int) + 1) = (k : Int) + 1 := by rw [IntKind.wrap_i64]; omega
          unfold ItW.v at HSM7;clear hok hnd hml hob hb7 hx7 hW7 HFS HX HF
          go_upto_region 8 with fail
          rw [← HW7.out];clear HW7 c0 c1
          go_wp2_with fail
          refine HSM7.out.mono ?_;rintro e w8 ⟨rfl, ms, hm1, hm2, hm3, hm4, hm5⟩;rw [HUN.out ms hm1 hm2] at hm3;have HF8 := Hd (HFS7.out w8 hm3 hm5);have HX8 := Hd ((hm5 _ (lt_of_heap HX7.out) (fun e => by have := HOBq.out _ e; omega)).trans HX7.out)
          have HB8 := Hd (hm4 W1.heap.size W1 hbase HB7.out);clear hm1 hm2 hm3 hm4 hm5 HSM7 HFS7 HX7 HB7 y1
          go_wp2_with fail
          go_roundw
          case rel => exact ⟨k + 1, by omega, by go_num, HF8.out, HX8.out, HB8.out⟩
          case measure => simp [intOf]; omega
        · have hke : k = n3 := by omega
          have a1' : ¬ ((k : Int) < (n3 : Int)) := by omega
          have hfin := HF.out;rw [hke, ← HQL.out, List.take_length, List.drop_length, List.append_nil] at hfin;rw [HQL.out] at hfin;have HFF := Hd hfin;have HNB0 : Hid (∀ j, ((Value.slice a3 n3 b3).ownBlock = some j ∨ ∃ p ∈ qs.map canonW, p.v.ownBlock = some j) → j ≠ bo) := Hd (fun j hj e => by
            rcases hj with hj | ⟨p, hp, hj⟩
            · have := (HOB.out j hj).2; omega
            · obtain ⟨q, hq, rfl⟩ := List.mem_map.1 hp
              rw [canonW_v] at hj;have := (HQN.out q hq).2.2 j hj;omega)
          have hlt2 : Lt (canonI c.items) := by
            have hp := canonI_perm c.items;refine ⟨by rw [hp.length_eq, List.length_map]; exact HSZ.out.1.1, fun x hx => ?_⟩
            obtain ⟨y, hy, rfl⟩ := List.mem_map.1 (hp.mem_iff.1 hx)
            show (sortedM y.marks).length ≤ 1000
            rw [(sortedM_perm _).length_eq];exact HSZ.out.1.2 y hy
          have harr := hfin.arr;rw [HLX.out] at harr;have HVA := Hd (itemsValid_any (canonI c.items) _ wr harr hlt2 (HGL.out.below HB.out));have HARR := Hd harr;have HLT2 := Hd hlt2;obtain ⟨r3, hr3⟩ : ∃ r, r = validI (canonI c.items) := ⟨_, rfl⟩;rw [← hr3] at HVA HOK;have HR3 := Hd hr3;obtain ⟨d0, d1, d2⟩ := cel3 HX.out;clear hfin harr hlt2 HF HQN HOB HSM hr3
          go_wp2_with fail
          refine HVA.out.mono ?_;rintro e w7 ⟨rfl, hb7⟩;have HB7 := Hd (btr HB.out hb7);have HXO : Hid (∀ wz, Below w7.heap.size w7 wz → wz.heap[bo]? = some (.cells #[.slice a1 c.vec.length b1, .slice a2 c.cloud.length b2, .slice a3 n3 b3] 28)) := Hd (fun wz hz => by
            have h1 := (hb7.block _ (lt_of_heap HX.out)).trans HX.out;exact (hz.block _ (lt_of_heap h1)).trans h1)
          have HFI := Hd (HFF.out.below hb7);have HAR7 := Hd (HARR.out.items hb7);clear hb7 HFF HARR HVA d0 d1 d2 HX HB
          cases r3 with
          | false =>
            have HE2 : Hid (EC = 2) := Hd (by rw [HEC.out, HOK.out]; rfl)
            have HR2 : Hid (RC = zeroC) := Hd (by rw [HRC.out, HOK.out]; rfl)
            clear HRC HEC HOK HR1' HR2' HAR7 HFI HNB0 HND HLX;have HF := Hd (set3c_below (b := w.heap.size + 1) (.slice none 0 0) (.slice none 0 0) (.slice none 0 0) (btr HBW.out HB7.out) (by omega))
            obtain ⟨⟨z0, z1, z2⟩, y0, y1, y2⟩ := HC.out _ HB7.out;have g0 := froz0 (HK1.out _ HB7.out) 0;have g1 := froz0 (HK1.out _ HB7.out) 1;have g2 := froz0 (HK1.out _ HB7.out) 2
            go_wp2_with fail
            (try simp only [Exit.inBlock, Exit.then])
            refine bodyPost_ret (v := .tuple #[.agg #[.slice none 0 0, .slice none 0 0, .slice none 0 0], .int .i64 2]) ?_ rfl ⟨_, _, _, by rw [HE2.out], by rw [HR2.out]; exact OwnC.zero _ _, HF.out⟩
            rw [results_cell_tmp rfl];go_simp
          | true =>
            have HE1 : Hid (EC = 0) := Hd (by rw [HEC.out, HOK.out]; rfl)
            obtain ⟨R, hR⟩ : ∃ R, R = addX (c.vec, c.cloud) (setD (allDots (canonI c.items))) := ⟨_, rfl⟩;have HR1 : Hid (RC = ⟨R.1, R.2, canonI c.items⟩) := Hd (by rw [HRC.out, HOK.out, hR]; rfl)
            have hsl : (setD (allDots (canonI c.items))).length ≤ 9000 := Nat.le_trans (setD_leL _) (by rw [(allDots_canonI c.items).length_eq]; exact HDS.out)
            have hvd : (setD (allDots (canonI c.items))).all validDotD = true := by
              rw [List.all_eq_true];intro d hd;rw [setD_mem] at hd;exact List.all_eq_true.1 (allDots_valid HR3.out.symm) d hd
            have HDT : Hid (∀ wz, Below w7.heap.size w7 wz → Calls Tryz.prog 55 #[.slice a3 n3 b3] wz fun e w' => ∃ v', e = .returned v' ∧ EDot.Row wz.heap.size w' v' (setD (allDots (canonI c.items))) ∧ Below wz.heap.size wz w') := Hd (fun wz hz => itemsDots_any (canonI c.items) _ wz (HAR7.out.items hz) HLT2.out)
            have HDI : Hid (∀ d ∈ setD (allDots (canonI c.items)), DI d) := Hd (fun d hd => HAR7.out.itemsI d ((setD_mem _ _).1 hd))
            have HAD : Hid (∀ wz z, Below w7.heap.size w7 wz → Arr DotR 2 wz z (setD (allDots (canonI c.items))) → Calls Tryz.prog 54 #[.agg #[.slice o1 n1 k1, .slice o2 n2 k2], z] wz (CtxPost R 0 wz)) := Hd (fun wz z hz hz2 => by
              rw [hR];have hh := HA.out.below (btr HB7.out hz);exact ctxAdd_any c.vec c.cloud _ _ _ _ wz hh.1 hh.2.1 hz2 HR1'.out.symm hvd (by have := HSZ.out.2; omega))
            have hbo : w.heap.size + 1 < bo := by omega
            have HSTO : Hid (∀ (w9 : World) (z1 z2 : Value), Below w7.heap.size w7 w9 → ((set2 w9 bo z1 z2).cell? ⟨w.heap.size, 0, none⟩ = some (.slice o1 n1 k1) ∧ (set2 w9 bo z1 z2).cell? ⟨w.heap.size, 1, none⟩ = some (.slice o2 n2 k2)) ∧ (set2 w9 bo z1 z2).cell? ⟨bo, 2, none⟩ = some (.slice a3 n3 b3)) := Hd (fun w9 z1 z2 hz => by
              have hne : w.heap.size ≠ bo := by omega
              rw [set2_cell hne, set2_cell hne];have hc := (HC.out w9 (btr HB7.out hz)).1;exact ⟨⟨hc.1, hc.2.1⟩, (cel3 (set2_same3 z1 z2 (HXO.out w9 hz))).2.2⟩)
            have HNB := Hd HNB0.out;clear hsl hvd hR HRC HEC HOK HR1' HR2' HAR7 HNB0 HND HLT2
            go_upto_region 12 with fail
            refine NQ.to ?_;refine wp_region_held_drew (S := (fun wz => (wz.cell? ⟨w.heap.size, 0, none⟩ = some (.slice o1 n1 k1) ∧ wz.cell? ⟨w.heap.size, 1, none⟩ = some (.slice o2 n2 k2)) ∧ wz.cell? ⟨bo, 2, none⟩ = some (.slice a3 n3 b3))) (by kernel_rfl) (⟨⟨(HC.out _ (btr HB7.out bdr)).1.1, (HC.out _ (btr HB7.out bdr)).1.2.1⟩, (cel3 (HXO.out _ bdr)).2.2⟩) (fun hS => ?_)
            try simp only [Act.put, s1, s2, s3, List.getElem_toArray, List.getElem_cons_succ, List.getElem_cons_zero]
            refine tkN (i := 0) (v := ?v1) rfl (by decide +kernel) (Or.inl ⟨by kernel_rfl, fun w hSw => ok_of fun z hz => ?h1⟩) hS ?_; (case h1 => (go_simp; exact hz))
            try simp only [Act.put, s1, s2, s3, List.getElem_toArray, List.getElem_cons_succ, List.getElem_cons_zero]
            refine tkN (i := 1) (v := ?v2) rfl (by decide +kernel) (Or.inl ⟨by kernel_rfl, fun w hSw => ok_of fun z hz => ?h2⟩) hS ?_; (case h2 => (obtain ⟨⟨f0, f1⟩, f2⟩ := hSw; go_simp; exact hz))
            try simp only [Act.put, s1, s2, s3, List.getElem_toArray, List.getElem_cons_succ, List.getElem_cons_zero]
            refine tkN (i := 2) (v := ?v3) rfl (by decide +kernel) (Or.inl ⟨by kernel_rfl, fun w hSw => ok_of fun z hz => ?h3⟩) hS ?_; (case h3 => (go_simp; exact hz))
            try simp only [Act.put, s1, s2, s3, List.getElem_toArray, List.getElem_cons_succ, List.getElem_cons_zero]
            refine tkN (i := 3) (v := ?v4) rfl (by decide +kernel) (Or.inl ⟨by kernel_rfl, fun w hSw => ok_of fun z hz => ?h4⟩) hS ?_; (case h4 => (obtain ⟨⟨f0, f1⟩, f2⟩ := hSw; go_simp; exact hz))
            try simp only [Act.put, s1, s2, s3, List.getElem_toArray, List.getElem_cons_succ, List.getElem_cons_zero]
            refine wpAnyH_ready (rs := [4]) (by decide +kernel) (by simp) ?_
            refine (AllReadyH.cons rfl (fun K hK => ?_) AllReadyH.nil)
            go_simp
            go_at_call 55
            refine (HDT.out _ bdr).mono ?_;rintro e w8 ⟨v8, rfl, hr8, hb8⟩;have hb78 := (show Below w7.heap.size w7 _ from bdr).trans (hb8.mono (Nat.le_refl _))
            go_simp;refine Shut.out hK _ _ (⟨⟨(HC.out _ (btr HB7.out hb78)).1.1, (HC.out _ (btr HB7.out hb78)).1.2.1⟩, (cel3 (HXO.out _ hb78)).2.2⟩) (fun hS2 => ?_)
            clear hK K hS;have hS := hS2;clear hS2
            try simp only [Act.put, s1, s2, s3, List.getElem_toArray, List.getElem_cons_succ, List.getElem_cons_zero]
            refine wpAnyH_ready (rs := [5]) (by decide +kernel) (by simp) ?_
            refine (AllReadyH.cons rfl (fun K hK => ?_) AllReadyH.nil)
            go_simp
            go_at_call 54
            refine (HAD.out _ _ hb78 (hr8.dots HDI.out)).mono ?_;rintro e w9 ⟨u1, u2, rfl, hr9, hr10, hb9⟩;have hb79 := btr hb78 hb9;obtain ⟨p9, q9, rfl⟩ := hr9.slice;obtain ⟨p10, q10, rfl⟩ := hr10.slice;go_simp;refine Shut.out hK _ _ (⟨⟨(HC.out _ (btr HB7.out hb79)).1.1, (HC.out _ (btr HB7.out hb79)).1.2.1⟩, (cel3 (HXO.out _ hb79)).2.2⟩) (fun hS2 => ?_)
            clear hK K hS;have hS := hS2;clear hS2
            try simp only [Act.put, s1, s2, s3, List.getElem_toArray, List.getElem_cons_succ, List.getElem_cons_zero]
            refine tkN (i := 6) (v := ?v5) rfl (by decide +kernel) (Or.inl ⟨by kernel_rfl, fun w hSw => ok_of fun z hz => ?h5⟩) hS ?_; (case h5 => (go_simp; exact hz))
            try simp only [Act.put, s1, s2, s3, List.getElem_toArray, List.getElem_cons_succ, List.getElem_cons_zero]
            refine tkN (i := 7) (v := ?v6) rfl (by decide +kernel) (Or.inl ⟨by kernel_rfl, fun w hSw => ok_of fun z hz => ?h6⟩) hS ?_; (case h6 => (go_simp; exact hz))
            try simp only [Act.put, s1, s2, s3, List.getElem_toArray, List.getElem_cons_succ, List.getElem_cons_zero]
            refine tkN (i := 8) (v := ?v7) rfl (by decide +kernel) (Or.inl ⟨by kernel_rfl, fun w hSw => ok_of fun z hz => ?h7⟩) hS ?_; (case h7 => (go_simp; exact hz))
            try simp only [Act.put, s1, s2, s3, List.getElem_toArray, List.getElem_cons_succ, List.getElem_cons_zero]
            refine tkN (i := 9) (v := ?v8) rfl (by decide +kernel) (Or.inl ⟨by kernel_rfl, fun w hSw => ok_of fun z hz => ?h8⟩) hS ?_; (case h8 => (go_simp; exact hz))
            try simp only [Act.put, s1, s2, s3, List.getElem_toArray, List.getElem_cons_succ, List.getElem_cons_zero]
            refine wpAnyH_ready (rs := [10]) (by decide +kernel) (by simp) ?_
            refine (AllReadyH.cons rfl (fun K hK => ?_) AllReadyH.nil)
            have hz := HXO.out _ hb79;have f0 := froz0 hz 0;have f1 := froz0 hz 1;obtain ⟨e0, e1, e2⟩ := cel3 hz;go_simp;refine Shut.out hK _ _ (HSTO.out w9 (.slice p9 R.1.length q9) (.slice p10 R.2.length q10) hb79) (fun hS2 => ?_)
            clear hK K hS;have hS := hS2;clear hS2
            try simp only [Act.put, s1, s2, s3, List.getElem_toArray, List.getElem_cons_succ, List.getElem_cons_zero]
            refine wpAnyH_done (by kernel_rfl) ?_ _
            try simp only [Act.put, s1, s2, s3, List.getElem_toArray, List.getElem_cons_succ, List.getElem_cons_zero]
            simp only [NQ];generalize hW9 : (w9.setCell ⟨bo, 0, none⟩ (.slice p9 R.1.length q9)).setCell ⟨bo, 1, none⟩ (.slice p10 R.2.length q10) = W9;have hS9 : set2 w9 bo (.slice p9 R.1.length q9) (.slice p10 R.2.length q10) = W9 := hW9;have hbo7 := lt_of_heap (HXO.out w7 brf);have hz := HXO.out _ hb79;have hz9 := set2_same3 (.slice p9 R.1.length q9) (.slice p10 R.2.length q10) hz;have hzr := (set2_other (x0 := .slice p9 R.1.length q9) (x1 := .slice p10 R.2.length q10) (show w.heap.size + 1 ≠ bo by omega)).trans (HK1.out _ (btr HB7.out hb79))
            rw [hS9] at hz9 hzr;obtain ⟨x0, x1, x2⟩ := cel3 hz9;obtain ⟨y0, y1, y2⟩ := cel3 hzr;have g0 := froz0 hzr 0;have g1 := froz0 hzr 1;have g2 := froz0 hzr 2;have h87 := hb78.size;have hst : ∀ k, k ≠ bo → k ≠ w.heap.size + 1 → (set3c W9 (w.heap.size + 1) (.slice p9 R.1.length q9) (.slice p10 R.2.length q10) (.slice a3 n3 b3)).heap[k]? = w9.heap[k]? := fun k h1 h2 => by rw [set3c_other h2, ← hS9, set2_other h1]
            have hF9 := HFI.out.below hb79;have hbw7 := HB7.out.size;have HF : Hid (OwnC w.heap.size (set3c W9 (w.heap.size + 1) (.slice p9 R.1.length q9) (.slice p10 R.2.length q10) (.slice a3 n3 b3)) (.slice p9 R.1.length q9) (.slice p10 R.2.length q10) (.slice a3 n3 b3) ⟨R.1, R.2, canonI c.items⟩) := Hd ⟨(hr9.mono (by omega)).stay (fun k hk => hst k (by have := (hr9.lt k hk).1; omega) (by have := (hr9.lt k hk).1; omega)), (hr10.mono (by omega)).stay (fun k hk => hst k (by have := (hr10.lt k hk).1; omega) (by have := (hr10.lt k hk).1; omega)), _, HLX.out, (hF9.stayF (fun k hk h1 h2 => hst k (fun e => HNB.out k h2 e) (by omega))).mono (by omega)⟩
            have HBF : Hid (Below w.heap.size w (set3c W9 (w.heap.size + 1) (.slice p9 R.1.length q9) (.slice p10 R.2.length q10) (.slice a3 n3 b3))) := Hd (set3c_below _ _ _ (by rw [← hS9]; exact set2_below _ _ (btr HBW.out (btr HB7.out hb79)) (by omega)) (by omega))
            clear hS hr8 hr9 hr10 hF9 hst hz hz9 hzr hW9 hS9 hb79 hb78 hb8 hb9
            go_wp2_with fail
            (try simp only [Exit.inBlock, Exit.then])
            refine bodyPost_ret (v := .tuple #[.agg #[.slice p9 R.1.length q9, .slice p10 R.2.length q10, .slice a3 n3 b3], .int .i64 0]) ?_ rfl ⟨_, _, _, by rw [HE1.out], by rw [HR1.out]; exact HF.out, HBF.out⟩
            rw [results_cell_tmp rfl];go_simp
end Go.Proofs.YtadbmineobldbaaGreatDoor
