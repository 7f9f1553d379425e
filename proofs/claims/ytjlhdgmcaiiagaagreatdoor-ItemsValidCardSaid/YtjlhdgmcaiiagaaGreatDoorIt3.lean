/- Clone at marks and items, items.Copy. -/
import Derived.Test.YtjlhdgmcaiiagaaGreatDoorItRow
namespace Go.Proofs.YtjlhdgmcaiiagaaGreatDoor
open Go.RowKit Go.Maps Go.Sort Go.Shelf

theorem Arr.itws {w w' : World} {v : Value} {l : List ItW} (h : Arr ItwR 2 w v l) (hb : Below w.heap.size w w') : Arr ItwR 2 w' v l := h.mono (fun _ _ h => ⟨h.1, h.2.1, h.2.2.marks hb⟩) hb

set_option maxRecDepth 100000 in
set_option maxHeartbeats 2000000 in
theorem cloneMarks_any (l : List MarkD) (v : Value) (w : World) (h : Arr MarkR EMark.k w v l) (hl : l.length ≤ 1000000) : Calls Tryz.prog 65 #[v] w fun e w' => ∃ v', e = .returned v' ∧ EMark.Row w.heap.size w' v' l ∧ Below w.heap.size w w' := by
  obtain ⟨a, cap, rfl, -⟩ := id h
  cases a with
  | none =>
    have hle : l = [] := by
      rcases l with _ | ⟨x, l⟩
      · rfl
      · obtain ⟨o, c, he, _, _, hel⟩ := h
        obtain ⟨b, off, cs, h1, _⟩ := hel 0 (by simp)
        cases he
        cases h1
    subst hle
    clear h
    have hnil : ∀ W, (binOp .eql 29 (.slice none 0 cap) (.slice none 0 0)).run Tryz.prog W = .ok (.bool true) W := fun W => Lib.run_eql_slice_nil_nil W _ _ Tryz.underlying29
    go_enter Tryz.func65, Tryz.ntmps65
    go_wp2_with fail
    go_ret
    exact ⟨_, rfl, Enc.Row.nil _ _, Below.refl _ _⟩
  | some a =>
    have HS := Lib.hid (show SrcIs (w.alloc (.cells #[] 62)) (.slice (some a) l.length cap) l.length (EMark.flat l) from by
      by_cases hn : l = []
      · subst hn
        exact Or.inr ⟨a, cap, rfl, fun j u hj => by simp [Enc.flat] at hj⟩
      · have h2 : Arr MarkR EMark.k (w.alloc (.cells #[] 62)) (.slice (some a) l.length cap) l := h.marks ((Below.refl _ _).alloc (Nat.le_refl _) _)
        exact h2.srcE EMark (fun _ _ h => h.1) hn)
    have HE0 : Hid (EMark.Row w.heap.size (w.alloc (.cells #[] 62)) (.slice (some ⟨w.heap.size, 0, none⟩) 0 0) []) := Lib.hid ⟨by simp [Enc.flat], Or.inr ⟨w.heap.size, 0, #[], rfl, Nat.le_refl _, alloc_new _ _, Nat.le_refl _, by unfold maxLen; omega, by simp, by simp [Enc.flat]⟩⟩
    clear h
    have hnil : ∀ W, (binOp .eql 29 (.slice (some a) l.length cap) (.slice none 0 0)).run Tryz.prog W = .ok (.bool false) W := fun W => Lib.run_eql_slice_some_nil W _ _ _ Tryz.underlying29
    go_enter Tryz.func65, Tryz.ntmps65
    go_wp2_with (at_builtin; refine wpList_row rfl _ _ 29 rfl EMark w.heap.size (.agg #[.int .i64 0, .int .i64 0, .int .i64 0, .int .u64 0]) 32 Tryz.underlying29 infoMark (by decide) (by decide) (.slice (some ⟨w.heap.size, 0, none⟩) 0 0) [] rfl HE0.out _ l rfl HS.out (by simp; omega) (by simp) ?_; intro v8 w8 hown8 hgr8)
    rw [List.nil_append] at hown8
    go_ret
    exact ⟨_, rfl, hown8, ((Below.refl _ _).alloc (Nat.le_refl _) _).grown hgr8 (by simp) (by intro k hk; simp [Value.ownBlock] at hk; omega)⟩

set_option maxRecDepth 100000 in
set_option maxHeartbeats 2000000 in
theorem cloneItems_any (l : List ItW) (v : Value) (w : World) (h : Arr ItwR EItem.k w v l) (hl : l.length ≤ 1000000) : Calls Tryz.prog 64 #[v] w fun e w' => ∃ v', e = .returned v' ∧ EItem.Row w.heap.size w' v' l ∧ Below w.heap.size w w' := by
  obtain ⟨a, cap, rfl, -⟩ := id h
  cases a with
  | none =>
    have hle : l = [] := by
      rcases l with _ | ⟨x, l⟩
      · rfl
      · obtain ⟨o, c, he, _, _, hel⟩ := h
        obtain ⟨b, off, cs, h1, _⟩ := hel 0 (by simp)
        cases he
        cases h1
    subst hle
    clear h
    have hnil : ∀ W, (binOp .eql 22 (.slice none 0 cap) (.slice none 0 0)).run Tryz.prog W = .ok (.bool true) W := fun W => Lib.run_eql_slice_nil_nil W _ _ Tryz.underlying22
    go_enter Tryz.func64, Tryz.ntmps64
    go_wp2_with fail
    go_ret
    exact ⟨_, rfl, Enc.Row.nil _ _, Below.refl _ _⟩
  | some a =>
    have HS := Lib.hid (show SrcIs (w.alloc (.cells #[] 31)) (.slice (some a) l.length cap) l.length (EItem.flat l) from by
      by_cases hn : l = []
      · subst hn
        exact Or.inr ⟨a, cap, rfl, fun j u hj => by simp [Enc.flat] at hj⟩
      · have h2 : Arr ItwR EItem.k (w.alloc (.cells #[] 31)) (.slice (some a) l.length cap) l := h.itws ((Below.refl _ _).alloc (Nat.le_refl _) _)
        exact h2.srcE EItem (fun _ _ h => h.1) hn)
    have HE0 : Hid (EItem.Row w.heap.size (w.alloc (.cells #[] 31)) (.slice (some ⟨w.heap.size, 0, none⟩) 0 0) []) := Lib.hid ⟨by simp [Enc.flat], Or.inr ⟨w.heap.size, 0, #[], rfl, Nat.le_refl _, alloc_new _ _, Nat.le_refl _, by unfold maxLen; omega, by simp, by simp [Enc.flat]⟩⟩
    clear h
    have hnil : ∀ W, (binOp .eql 22 (.slice (some a) l.length cap) (.slice none 0 0)).run Tryz.prog W = .ok (.bool false) W := fun W => Lib.run_eql_slice_some_nil W _ _ _ Tryz.underlying22
    go_enter Tryz.func64, Tryz.ntmps64
    go_wp2_with (at_builtin; refine wpList_row rfl _ _ 22 rfl EItem w.heap.size (.agg #[.string ⟨#[]⟩, .slice none 0 0]) 40 Tryz.underlying22 infoItem (by decide) (by decide) (.slice (some ⟨w.heap.size, 0, none⟩) 0 0) [] rfl HE0.out _ l rfl HS.out (by simp; omega) (by simp) ?_; intro v8 w8 hown8 hgr8)
    rw [List.nil_append] at hown8
    go_ret
    exact ⟨_, rfl, hown8, ((Below.refl _ _).alloc (Nat.le_refl _) _).grown hgr8 (by simp) (by intro k hk; simp [Value.ownBlock] at hk; omega)⟩

theorem setCell_other {w : World} {g b i : Nat} {v : Value} (h : b ≠ g) : (w.setCell ⟨g, i, none⟩ v).heap[b]? = w.heap[b]? := by
  simp only [World.setCell]
  rw [Array.getElem?_modify, if_neg (fun e => h e.symm)]
/-- Another list of marks in an item. -/
theorem setMarks_in {w : World} {g cap : Nat} {d : List ItW} (h : EItem.In w g cap d) (i : Nat) (hi : i < d.length) (q : ItW) (hq : q.x.name = d[i].x.name) : EItem.In (w.setCell ⟨g, i * 2 + 1, none⟩ q.v) g cap (d.set i q) := by
  obtain ⟨C, h1, h2, h3, h4, h5⟩ := h
  have h2' : C.size = cap * 2 := h2
  refine ⟨_, setCell_same h1 _ _, by simp; exact h2, by simpa using h3, h4, fun t ht => ?_⟩
  have ht' : t < d.length * EItem.k := by simpa using ht
  rw [EItem.flat_set d i hi q t]
  by_cases e : t = i * 2 + 1
  · subst e
    rw [Array.getElem?_setIfInBounds_self_of_lt (by omega), if_pos (by show i * 2 ≤ i * 2 + 1 ∧ i * 2 + 1 < i * 2 + 2; omega), show i * 2 + 1 - i * EItem.k = 1 by show i * 2 + 1 - i * 2 = 1; omega]
    rfl
  · rw [Array.getElem?_setIfInBounds_ne (by omega), h5 t ht']
    split
    · rename_i h6
      have h6' : i * 2 ≤ t ∧ t < i * 2 + 2 := h6
      have e2 : t = i * 2 + 0 := by omega
      subst e2
      have h7 := EItem.flat_get d i hi 0 (by decide)
      rw [show i * 2 + 0 = i * EItem.k + 0 from rfl, h7, Nat.add_zero, Nat.sub_self]
      show (encT d[i])[0]? = (encT q)[0]?
      simp [encT, hq]
    · rfl

/-- A copy: the same items, in memory of their own. -/
def CopyPost (l : List ItemD) (w : World) (e : Ending) (w' : World) : Prop := ∃ v' ps, e = .returned v' ∧ ps.map (·.x) = l ∧ FreshI w.heap.size w' v' ps ∧ Below w.heap.size w w'
/-- One round of Copy. -/
theorem copy_step {w wr w2 : World} {g c1 k : Nat} {ps qs : List ItW} {p : ItW} (hk : k < ps.length) (hp : ps[k] = p) (hrow : EItem.Row w.heap.size wr (.slice (some ⟨g, 0, none⟩) ps.length c1) (qs ++ ps.drop k)) (hql : qs.length = k)
    (hok : ∀ q ∈ qs, ItOk w.heap.size wr q ∧ Apart (.slice (some ⟨g, 0, none⟩) ps.length c1) q.v) (hap : qs.Pairwise (fun a b => Apart a.v b.v)) (hB : Below w.heap.size w wr) (hb2 : Below wr.heap.size wr w2) (mo : Option Addr) (mc : Nat)
    (hrow2 : EMark.Row wr.heap.size w2 (.slice mo p.x.marks.length mc) p.x.marks) (hns : p.x.name.size ≤ maxLen) (hmi : ∀ m ∈ p.x.marks, MI m) :
    EItem.Row w.heap.size (w2.setCell ⟨g, k * 2 + 1, none⟩ (.slice mo p.x.marks.length mc)) (.slice (some ⟨g, 0, none⟩) ps.length c1) ((qs ++ [⟨p.x, mo, mc⟩]) ++ ps.drop (k + 1)) ∧
    (∀ q ∈ qs ++ [⟨p.x, mo, mc⟩], ItOk w.heap.size (w2.setCell ⟨g, k * 2 + 1, none⟩ (.slice mo p.x.marks.length mc)) q ∧ Apart (.slice (some ⟨g, 0, none⟩) ps.length c1) q.v) ∧
    (qs ++ [⟨p.x, mo, mc⟩] : List ItW).Pairwise (fun a b => Apart a.v b.v) ∧ Below w.heap.size w (w2.setCell ⟨g, k * 2 + 1, none⟩ (.slice mo p.x.marks.length mc)) := by
  obtain ⟨hin, hgb, hn⟩ := hrow.at
  have hdl : k < (qs ++ ps.drop k).length := by simp; omega
  have hdk : (qs ++ ps.drop k)[k] = ps[k] := by
    rw [List.getElem_append_right (by omega)]; simp [hql]
  have hset := setMarks_in (hin.of_heap (hb2.block g hin.gl)) k hdl ⟨p.x, mo, mc⟩ (by rw [hdk, hp])
  have hl1 : (qs ++ ps.drop k).set k ⟨p.x, mo, mc⟩ = (qs ++ [⟨p.x, mo, mc⟩]) ++ ps.drop (k + 1) := by
    rw [List.set_append_right _ _ (by omega), hql, Nat.sub_self, List.append_assoc, List.drop_eq_getElem_cons hk]
    rfl
  rw [hl1] at hset
  have hl2 : ((qs ++ [(⟨p.x, mo, mc⟩ : ItW)]) ++ ps.drop (k + 1)).length = ps.length := by simp; omega
  have hown := hset.own hgb
  rw [hl2] at hown
  have hgw : g < wr.heap.size := hin.gl
  have hnew : ∀ j, (Value.slice mo p.x.marks.length mc).ownBlock = some j → wr.heap.size ≤ j := fun j hj => (hrow2.lt j hj).1
  refine ⟨hown, fun q hq => ?_, List.pairwise_append.2 ⟨hap, List.pairwise_singleton _ _, fun a ha b hb => ?_⟩, (hB.trans (hb2.mono hB.size)).setCell hgb _⟩
  · rcases List.mem_append.1 hq with hq | hq
    · obtain ⟨h1, h2⟩ := hok q hq
      refine ⟨(h1.below hb2).stay (fun j hj => setCell_other (fun e => ?_)), h2⟩
      subst e
      exact h2 j rfl hj
    · simp at hq
      subst hq
      have hag : Apart (.slice (some ⟨g, 0, none⟩) ps.length c1) (Value.slice mo p.x.marks.length mc) := fun j hj hj2 => by
        have := hnew j hj2
        have e : g = j := by simpa [Value.ownBlock] using hj
        omega
      refine ⟨⟨hns, (hrow2.mono hB.size).stay (fun j hj => setCell_other (fun e => ?_)), hmi⟩, hag⟩
      have := hnew j hj
      omega
  · simp at hb
    subst hb
    intro j hj hj2
    have h1 := ((hok a ha).1.2.1.lt j hj).2
    have h2 := hnew j hj2
    omega

set_option maxRecDepth 100000 in
set_option maxHeartbeats 4000000 in
theorem itemsCopy_any (l : List ItemD) (v : Value) (w : World) (h : Arr ItemR 2 w v l) (hl : Lt l) : Calls Tryz.prog 36 #[v] w (CopyPost l w) := by
  obtain ⟨ps, hps, harr⟩ := h.itw
  have hlen : ps.length = l.length := by rw [← hps, List.length_map]
  have hlm : ∀ p ∈ ps, p.x.marks.length ≤ 1000 := fun p hp => hl.2 _ (by rw [← hps]; exact List.mem_map_of_mem hp)
  have HC := Lib.hid (cloneItems_any ps v w harr (by have := hl.1; omega))
  have HPS := Lib.hid hps
  have HLM := Lib.hid hlm
  have hnm : ps.length ≤ 1000 := by have := hl.1; omega
  obtain ⟨o, c, rfl, h2, h3, hel⟩ := harr
  have HEL := Lib.hid hel
  clear hps hlm h hl hel h2 h3 hlen
  go_enter Tryz.func36, Tryz.ntmps36
  go_wp2_with fail
  refine HC.out.mono ?_
  rintro e w1 ⟨v1, rfl, hrow1, hb1⟩
  have HROW1 := Lib.hid hrow1
  have HB1 := Lib.hid hb1
  have HG : Hid (ps ≠ [] → ∃ g cap, v1 = .slice (some ⟨g, 0, none⟩) ps.length cap ∧ w.heap.size ≤ g) := Lib.hid (fun hn => by
    obtain ⟨g, cap, e, _, h⟩ := hrow1.some hn
    exact ⟨g, cap, e, h⟩)
  obtain ⟨a1, c1, rfl⟩ := hrow1.slice
  clear hrow1 hb1 HC
  go_wp2_with fail
  go_loopw [10] (fun i wr => ∃ (k : Nat) (qs : List ItW), k ≤ ps.length ∧ i = .int .i64 k ∧ qs.map (·.x) = (ps.map (·.x)).take k ∧ EItem.Row w.heap.size wr (.slice a1 ps.length c1) (qs ++ ps.drop k) ∧ (∀ q ∈ qs, ItOk w.heap.size wr q ∧ Apart (.slice a1 ps.length c1) q.v) ∧ qs.Pairwise (fun a b => Apart a.v b.v) ∧ Below w.heap.size w wr) (fun i _ => ps.length - (intOf i).toNat)
  case atStart => exact ⟨0, [], Nat.zero_le _, rfl, by simp, by rw [List.drop_zero, List.nil_append]; exact HROW1.out, fun q hq => by simp at hq, List.Pairwise.nil, HB1.out⟩
  case round =>
    obtain ⟨k, qs, hk, rfl, hqs, hrow, hok, hap, hB⟩ := hrel
    have HOK := Lib.hid hok
    have HAP := Lib.hid hap
    have HQS := Lib.hid hqs
    have HROW := Lib.hid hrow
    have HB := Lib.hid hB
    have hql : qs.length = k := by
      have := congrArg List.length hqs
      simp at this
      omega
    clear hok hap hqs hrow hB
    by_cases hlt : k < ps.length
    · obtain ⟨b, off, cs, rfl, hbl, -, ⟨rfl, hns, hmk⟩, hcs⟩ := HEL.out k hlt
      obtain ⟨g, cap, hv, hgb⟩ := HG.out (by intro e; rw [e] at hlt; simp at hlt)
      have hlk := HLM.out _ (List.getElem_mem hlt)
      cases hv
      obtain ⟨hin, -, -⟩ := HROW.out.at
      have hgw := hin.gl
      have e0 := hcs 0 (by decide)
      have e1 := hcs 1 (by decide)
      have c0 : wr.cell? ⟨b, off + k * 2, none⟩ = some (.string ps[k].x.name) := by rw [HB.out.cell (p := ⟨_, _, _⟩) hbl]; exact e0
      have c1 : wr.cell? ⟨b, off + k * 2 + 1, none⟩ = some (.slice ps[k].mo ps[k].x.marks.length ps[k].mc) := by rw [HB.out.cell (p := ⟨_, _, _⟩) hbl]; exact e1
      have hdl : k < (qs ++ ps.drop k).length := by simp; omega
      have hdk : (qs ++ ps.drop k)[k] = ps[k] := by
        rw [List.getElem_append_right (by omega)]; simp [hql]
      have hc1 : wr.cell? ⟨g, k * 2 + 1, none⟩ = some (.slice ps[k].mo ps[k].x.marks.length ps[k].mc) := by
        have := hin.cell k hdl 1 (by decide)
        rw [hdk] at this
        exact this
      have hf1 : wr.frozen? ⟨g, k * 2 + 1, none⟩ = false := hin.froz _
      have HSTEP := Lib.hid (fun (w2 : World) (hb2 : Below wr.heap.size wr w2) (mo : Option Addr) (mc : Nat) (hr : EMark.Row wr.heap.size w2 (.slice mo ps[k].x.marks.length mc) ps[k].x.marks) => copy_step (p := ps[k]) hlt rfl HROW.out hql HOK.out HAP.out HB.out hb2 mo mc hr hns (hmk.marksMI))
      have HQ2 : Hid (∀ mo mc, ((qs ++ [⟨ps[k].x, mo, mc⟩] : List ItW).map (·.x)) = (ps.map (·.x)).take (k + 1)) := Lib.hid (fun mo mc => by
        rw [List.map_append, HQS.out, List.take_succ_eq_append_getElem (by simpa using hlt)]; simp)
      have hal : Below wr.heap.size wr (wr.alloc (.cells #[.string ps[k].x.name, .slice ps[k].mo ps[k].x.marks.length ps[k].mc] 31)) := (Below.refl _ _).alloc (Nat.le_refl _) _
      have HAL := Lib.hid hal
      have HCM := Lib.hid (cloneMarks_any ps[k].x.marks (.slice ps[k].mo ps[k].x.marks.length ps[k].mc) _ ((hmk.marks HB.out).marks hal) (by omega))
      generalize ps[k] = p at *
      have a1 : (k : Int) < ps.length := by omega
      have a0 : (0 : Int) ≤ k := by omega
      have hkw : IntKind.i64.wrap ((k : Int) + 1) = (k : Int) + 1 := by rw [IntKind.wrap_i64]; omega
      clear hal hin e0 e1 hcs hmk hdk hdl HROW HOK HAP HQS
      go_wp2_with fail
      refine HCM.out.mono ?_
      rintro e w2 ⟨v2, rfl, hrow2, hb2⟩
      have hb3 : Below wr.heap.size wr w2 := HAL.out.trans (hb2.mono HAL.out.size)
      obtain ⟨mo2, mc2, rfl⟩ := hrow2.slice
      have f1 : w2.cell? ⟨g, k * 2 + 1, none⟩ = some (.slice p.mo p.x.marks.length p.mc) := by rw [hb3.cell (p := ⟨_, _, _⟩) hgw]; exact hc1
      have f2 : w2.frozen? ⟨g, k * 2 + 1, none⟩ = false := by rw [← hf1]; unfold World.frozen?; rw [hb3.block g hgw]
      have HS := Lib.hid (HSTEP.out w2 hb3 mo2 mc2 (hrow2.mono HAL.out.size))
      have HQ3 := Lib.hid (HQ2.out mo2 mc2)
      clear hb2 hb3 hrow2 HSTEP HQ2
      go_wp2_with fail
      go_roundw
      case rel => exact ⟨k + 1, _, by omega, by go_num, HQ3.out, HS.out⟩
      case measure => simp [intOf]; omega
    · have hke : k = ps.length := by omega
      have hrow := HROW.out
      rw [hke, List.drop_length, List.append_nil] at hrow
      have hqs := HQS.out
      rw [hke, List.take_of_length_le (by simp)] at hqs
      have HF := Lib.hid (show FreshI w.heap.size wr (.slice a1 ps.length c1) qs from ⟨hrow, HOK.out, HAP.out⟩)
      have HF2 := Lib.hid (hqs.trans HPS.out)
      clear hrow hqs
      go_wp2_with fail
      go_ret
      exact ⟨_, qs, rfl, HF2.out, HF.out, HB.out⟩
end Go.Proofs.YtjlhdgmcaiiagaaGreatDoor
