/- slices.DeleteFunc at items. -/
import Derived.Test.YtjlhdgmcaiiagaaGreatDoorIt8
namespace Go.Proofs.YtjlhdgmcaiiagaaGreatDoor
open Go.RowKit Go.Maps

/-- A part of a fresh list of items, in its block. -/
theorem FreshI.part {base : Nat} {w w4 : World} {g c n : Nat} {ps qs : List ItW} (h : FreshI base w (.slice (some ⟨g, 0, none⟩) n c) ps) (hm : ∀ q ∈ qs, q ∈ ps) (hpw : qs.Pairwise (fun a b => Apart a.v b.v)) (hin : EItem.In w4 g c qs) (hst : ∀ b, b < w.heap.size → b ≠ g → w4.heap[b]? = w.heap[b]?) : FreshI base w4 (.slice (some ⟨g, 0, none⟩) qs.length c) qs := by
  obtain ⟨h1, h2, h3⟩ := h
  obtain ⟨-, hgb, -⟩ := h1.at
  refine ⟨hin.own hgb, fun p hp => ?_, hpw⟩
  obtain ⟨a1, a2⟩ := h2 p (hm p hp)
  refine ⟨a1.stay (fun k hk => hst k (a1.2.1.lt k hk).2 (fun e => ?_)), fun k hk hk2 => a2 k hk hk2⟩
  subst e
  exact a2 k rfl hk
theorem filter_take {α : Type} (p : α → Bool) (l : List α) (k : Nat) (h : k < l.length) : (l.take (k + 1)).filter p = (l.take k).filter p ++ (if p l[k] then [l[k]] else []) := by
  rw [List.take_succ_eq_append_getElem h, List.filter_append]
  simp [List.filter_cons]
theorem take_set_snoc {α : Type} (d : List α) (m : Nat) (y : α) (hm : m < d.length) : (d.set m y).take (m + 1) = d.take m ++ [y] := by
  rw [List.take_succ_eq_append_getElem (by simpa using hm), List.getElem_set_self, List.take_set, List.set_eq_of_length_le (by simp; omega)]
def DelPost (base : Nat) (ps : List ItW) (p : ItemD → Bool) (w : World) (e : Ending) (w' : World) : Prop := ∃ v' qs, e = .returned v' ∧ qs.map (·.x) = (ps.map (·.x)).filter (fun x => !p x) ∧ FreshI base w' v' qs ∧ Below base w w'
theorem filter_all {α : Type} (p : α → Bool) (l : List α) (h : l.any p = false) : l.filter (fun x => !p x) = l := by
  rw [List.filter_eq_self]
  intro a ha
  rw [List.any_eq_false] at h
  simpa using h a ha
set_option maxRecDepth 100000 in
set_option maxHeartbeats 8000000 in
theorem deleteFuncItems_any (p : ItemD → Bool) (f q : Nat) (eg : ∀ args w, (callFunc f args).run Tryz.prog w = .ok (.enter f args) w) (base : Nat) (ps : List ItW) (v : Value) (w : World)
    (hp : ∀ (x : ItemD) (mo : Option Addr) (mc : Nat) W, W.heap[q]? = w.heap[q]? → Calls Tryz.prog f #[.agg #[.string x.name, .slice mo x.marks.length mc], .pointer (some ⟨q, 0, none⟩)] W fun e w' => e = .returned (.bool (p x)) ∧ Below W.heap.size W w')
    (hqw : q < w.heap.size) (hqv : v.ownBlock ≠ some q) (hbase : base ≤ w.heap.size) (h : FreshI base w v ps) : Calls Tryz.prog 53 #[v, .func (.func f) #[] #[.pointer (some ⟨q, 0, none⟩)]] w (DelPost base ps p w) := by
  have hn := h.1.le
  unfold maxLen at hn
  have HI := Lib.hid (indexFuncItems_any p f q eg (ps.map (·.x)) v w (fun x mo mc W hW => hp x mo mc W (hW.block q hqw)) h.arr)
  have HP := Lib.hid hp
  have HF := Lib.hid h
  obtain ⟨av, cv, rfl⟩ := h.1.slice
  clear h hp
  go_enter Tryz.func53, Tryz.ntmps53
  go_wp2_with fail
  refine HI.out.mono ?_
  rintro e w1 ⟨i, rfl, hi, hb1⟩
  have HF1 := Lib.hid (HF.out.below hb1)
  have hq1 : w1.heap[q]? = w.heap[q]? := hb1.block q hqw
  have hqw1 : q < w1.heap.size := Nat.lt_of_lt_of_le hqw hb1.size
  have HB1 : Hid (Below base w w1) := Lib.hid (hb1.mono hbase)
  rcases hi with ⟨rfl, hany⟩ | ⟨k0, hk0, rfl, hpk, htk⟩
  · have HFL : Hid (ps.map (·.x) = (ps.map (·.x)).filter (fun x => !p x)) := Lib.hid (filter_all p _ hany).symm
    clear hany hb1 HI
    go_wp2_with fail
    go_ret
    exact ⟨_, ps, rfl, HFL.out, HF1.out, HB1.out⟩
  · have hk : k0 < ps.length := by simpa using hk0
    obtain ⟨g, cap, hv, hin, hgb⟩ := HF1.out.1.some (by intro e; rw [e] at hk; simp at hk)
    cases hv
    have hgq : q ≠ g := fun e => hqv (by subst e; rfl)
    have hgq1 : g < w1.heap.size := hin.gl
    have hcap : ps.length ≤ cv := by obtain ⟨_, _, _, h3, _⟩ := hin; exact h3
    have HIN := Lib.hid hin
    have HT0 : Hid (ps.take k0 = (ps.take (k0 + 1)).filter (fun a => !p a.x)) := Lib.hid (by
      rw [filter_take _ _ _ hk, if_neg (by simpa using hpk), List.append_nil]
      symm
      rw [List.filter_eq_self]
      intro a ha
      rw [List.any_eq_false] at htk
      have := htk a.x (by rw [← List.map_take]; exact List.mem_map_of_mem ha)
      simpa using this)
    have HQ1 := Lib.hid hq1
    have t0 : ((k0 : Int) == -1) = false := by simp
    have t00 : (k0 : Int) ≠ -1 := by omega
    have hkw0 : IntKind.i64.wrap ((k0 : Int) + 1) = (k0 : Int) + 1 := by rw [IntKind.wrap_i64]; omega
    have hk00 : (k0 : Int) ≠ -1 := by omega
    clear hin hb1 hpk htk HI hk0 hq1
    go_wp2_with fail
    go_loopw [5, 6] (fun a b wr => ∃ (m k : Nat) (d : List ItW), a = .int .i64 m ∧ b = .int .i64 k ∧ k ≤ ps.length ∧ m < k ∧ d.length = ps.length ∧ EItem.In wr g cv d ∧ d.take m = (ps.take k).filter (fun a => !p a.x) ∧ (∀ i, k ≤ i → d[i]? = ps[i]?) ∧ (∀ b, b < w1.heap.size → b ≠ g → wr.heap[b]? = w1.heap[b]?) ∧ w1.heap.size ≤ wr.heap.size ∧ Below base w wr) (fun _ b _ => ps.length - (intOf b).toNat)
    case atStart => exact ⟨k0, k0 + 1, ps, rfl, by go_num, by omega, by omega, rfl, HIN.out, HT0.out, fun _ _ => rfl, fun _ _ _ => rfl, Nat.le_refl _, HB1.out⟩
    case round =>
      obtain ⟨m, k, d, rfl, rfl, hkl, hmk, hdl, hdin, htk, hsame, hoth, hw1r, hB⟩ := hrel
      have HTK := Lib.hid htk
      have HSAME := Lib.hid hsame
      have HOTH := Lib.hid hoth
      have HB := Lib.hid hB
      have HDIN := Lib.hid hdin
      have hgr := hdin.gl
      clear htk hsame hoth hB hdin
      by_cases hlt : k < ps.length
      · have hkd : k < d.length := by omega
        have hmd : m < d.length := by omega
        have edk : d[k] = ps[k] := by
          have := HSAME.out k (Nat.le_refl _)
          rw [List.getElem?_eq_getElem hkd, List.getElem?_eq_getElem hlt] at this
          exact Option.some.inj this
        have c0 : wr.cell? ⟨g, k * 2, none⟩ = some (.string ps[k].x.name) := by have := HDIN.out.cell k hkd 0 (by decide); rw [edk] at this; exact this
        have c1 : wr.cell? ⟨g, k * 2 + 1, none⟩ = some (.slice ps[k].mo ps[k].x.marks.length ps[k].mc) := by have := HDIN.out.cell k hkd 1 (by decide); rw [edk] at this; exact this
        have m0 : wr.cell? ⟨g, m * 2, none⟩ = some (.string d[m].x.name) := HDIN.out.cell m hmd 0 (by decide)
        have m1 : wr.cell? ⟨g, m * 2 + 1, none⟩ = some (.slice d[m].mo d[m].x.marks.length d[m].mc) := HDIN.out.cell m hmd 1 (by decide)
        have g0 := HDIN.out.froz (m * 2)
        have g1 := HDIN.out.froz (m * 2 + 1)
        have hal : Below wr.heap.size wr (wr.alloc (.cells #[.string ps[k].x.name, .slice ps[k].mo ps[k].x.marks.length ps[k].mc] 31)) := (Below.refl _ _).alloc (Nat.le_refl _) _
        have hn2 : (wr.alloc (.cells #[.string ps[k].x.name, .slice ps[k].mo ps[k].x.marks.length ps[k].mc] 31)).heap[wr.heap.size]? = some (.cells #[.string ps[k].x.name, .slice ps[k].mo ps[k].x.marks.length ps[k].mc] 31) := alloc_new _ _
        have HPX := Lib.hid (HP.out ps[k].x ps[k].mo ps[k].mc (wr.alloc (.cells #[.string ps[k].x.name, .slice ps[k].mo ps[k].x.marks.length ps[k].mc] 31)) (by rw [hal.block q (by omega), HOTH.out q hqw1 hgq]; exact HQ1.out))
        have HAL := Lib.hid hal
        have HN2 := Lib.hid hn2
        have HFT := Lib.hid (filter_take (fun a : ItW => !p a.x) ps k hlt)
        have HSET := Lib.hid (fun (wz : World) (hz : Below wr.heap.size wr wz) => (HDIN.out.of_heap (hz.block g hgr)).set m hmd ps[k])
        have HST := Lib.hid (take_set_snoc d m ps[k] hmd)
        have HS3 : Hid (∀ i, k + 1 ≤ i → (d.set m ps[k])[i]? = ps[i]?) := Lib.hid (fun i hi => by rw [List.getElem?_set_ne (by omega)]; exact HSAME.out i (by omega))
        generalize ps[k] = y at *
        generalize d[m] = z at *
        have a0 : (0 : Int) ≤ k := by omega
        have a1 : (k : Int) < ps.length := by omega
        have b0 : (0 : Int) ≤ m := by omega
        have b1 : (m : Int) < ps.length := by omega
        have hkw : IntKind.i64.wrap ((k : Int) + 1) = (k : Int) + 1 := by rw [IntKind.wrap_i64]; omega
        have hmw : IntKind.i64.wrap ((m : Int) + 1) = (m : Int) + 1 := by rw [IntKind.wrap_i64]; omega
        clear hal hn2 edk
        obtain ⟨r, hr⟩ : ∃ r, r = p y.x := ⟨_, rfl⟩
        rw [← hr] at HPX HFT
        clear hr
        cases r with
        | true =>
          have HC3 : Hid (d.take m = (ps.take (k + 1)).filter (fun a => !p a.x)) := Lib.hid (by rw [HFT.out, HTK.out]; simp)
          go_wp2_with (go_at_fn f; refine HPX.out.mono ?_; rintro e w2 ⟨rfl, hb2⟩)
          have hb3 := HAL.out.trans (hb2.mono HAL.out.size)
          have hot2 : ∀ b, b < w1.heap.size → b ≠ g → w2.heap[b]? = w1.heap[b]? := fun b h1 h2 => by rw [hb3.block b (by omega)]; exact HOTH.out b h1 h2
          have hbf := HB.out.trans (hb3.mono (Nat.le_trans hbase HB.out.size))
          have hin2 := HDIN.out.of_heap (hb3.block g hgr)
          have hws := Nat.le_trans hw1r hb3.size
          go_roundw
          case rel => exact ⟨m, k + 1, d, rfl, by go_num, by omega, by omega, hdl, hin2, HC3.out, fun i hi => HSAME.out i (by omega), hot2, hws, hbf⟩
          case measure => simp [intOf]; omega
        | false =>
          have HC3 : Hid ((d.set m y).take (m + 1) = (ps.take (k + 1)).filter (fun a => !p a.x)) := Lib.hid (by rw [HST.out, HFT.out, HTK.out]; rfl)
          go_wp2_with (go_at_fn f; refine HPX.out.mono ?_; rintro e w2 ⟨rfl, hb2⟩; have hb3 := HAL.out.trans (hb2.mono HAL.out.size); have hx2 : w2.heap[wr.heap.size]? = some (.cells #[.string y.x.name, .slice y.mo y.x.marks.length y.mc] 31) := (by rw [hb2.block _ (by simp)]; exact HN2.out); have p0 : w2.cell? ⟨wr.heap.size, 0, none⟩ = some (.string y.x.name) := (by rw [cell0 hx2 0]; rfl); have p1 : w2.cell? ⟨wr.heap.size, 1, none⟩ = some (.slice y.mo y.x.marks.length y.mc) := (by rw [cell0 hx2 1]; rfl); have k0 : w2.cell? ⟨g, m * 2, none⟩ = some (.string z.x.name) := (by rw [hb3.cell (p := ⟨_, _, _⟩) hgr]; exact m0); have k1 : w2.cell? ⟨g, m * 2 + 1, none⟩ = some (.slice z.mo z.x.marks.length z.mc) := (by rw [hb3.cell (p := ⟨_, _, _⟩) hgr]; exact m1); have l0 : w2.frozen? ⟨g, m * 2, none⟩ = false := (by rw [hb3.frozen (p := ⟨_, _, _⟩) hgr]; exact g0); have l1 : w2.frozen? ⟨g, m * 2 + 1, none⟩ = false := (by rw [hb3.frozen (p := ⟨_, _, _⟩) hgr]; exact g1))
          have hot2 : ∀ b, b < w1.heap.size → b ≠ g → ((w2.setCell ⟨g, m * 2, none⟩ (.string y.x.name)).setCell ⟨g, m * 2 + 1, none⟩ (.slice y.mo y.x.marks.length y.mc)).heap[b]? = w1.heap[b]? := fun b h1 h2 => by rw [setCell_other h2, setCell_other h2, hb3.block b (by omega)]; exact HOTH.out b h1 h2
          have hbf : Below base w ((w2.setCell ⟨g, m * 2, none⟩ (.string y.x.name)).setCell ⟨g, m * 2 + 1, none⟩ (.slice y.mo y.x.marks.length y.mc)) := ((HB.out.trans (hb3.mono (Nat.le_trans hbase HB.out.size))).setCell hgb _).setCell hgb _
          have hin2 : EItem.In ((w2.setCell ⟨g, m * 2, none⟩ (.string y.x.name)).setCell ⟨g, m * 2 + 1, none⟩ (.slice y.mo y.x.marks.length y.mc)) g cv (d.set m y) := HSET.out w2 hb3
          have hws : w1.heap.size ≤ ((w2.setCell ⟨g, m * 2, none⟩ (.string y.x.name)).setCell ⟨g, m * 2 + 1, none⟩ (.slice y.mo y.x.marks.length y.mc)).heap.size := by rw [setCell_size, setCell_size]; exact Nat.le_trans hw1r hb3.size
          go_roundw
          case rel => exact ⟨m + 1, k + 1, d.set m y, by go_num, by go_num, by omega, by omega, by rw [List.length_set]; exact hdl, hin2, HC3.out, HS3.out, hot2, hws, hbf⟩
          case measure => simp [intOf]; omega
      · have hke : k = ps.length := by omega
        have HFT : Hid (d.take m = ps.filter (fun a => !p a.x)) := Lib.hid (by have := HTK.out; rw [hke, List.take_length] at this; exact this)
        obtain ⟨w4, hclr, hin4, hbl4, hsz4, hot4⟩ := HDIN.out.clear (P := Tryz.prog) m ps.length (by omega) (by omega) hcap 22 (.agg #[.string ⟨#[]⟩, .slice none 0 0]) Tryz.underlying22 Tryz.zeroValue31 rfl (fun u hu => by change u ∈ [Value.string ⟨#[]⟩, Value.slice none 0 0] at hu; rw [List.mem_cons, List.mem_singleton] at hu; rcases hu with h | h <;> (rw [h]; rfl))
        have hclr2 : ∀ (ty : TypeId) (c : Nat), (Builtin.clear_ #[22] ty #[.slice (some ⟨g, m * 2, none⟩) (ps.length - m) c]).run Tryz.prog wr = .ok (.tuple #[]) w4 := hclr
        have HB4 := Lib.hid (hbl4 base w hgb HB.out)
        have hfr : FreshI base w4 (.slice (some ⟨g, 0, none⟩) (d.take m).length cv) (d.take m) := FreshI.part HF1.out (fun a ha => by rw [HFT.out] at ha; exact (List.mem_filter.1 ha).1) (by rw [HFT.out]; exact HF1.out.2.2.sublist List.filter_sublist) hin4 (fun b h1 h2 => by rw [hot4 b h2]; exact HOTH.out b h1 h2)
        have hlen : (d.take m).length = m := by rw [List.length_take]; omega
        have hmap : (d.take m).map (·.x) = (ps.map (·.x)).filter (fun x => !p x) := by rw [HFT.out, List.filter_map]; rfl
        rw [hlen] at hfr
        have HFR := Lib.hid hfr
        have HMAP := Lib.hid hmap
        have hcm : ¬ cv = m := by omega
        have b4 : (0 : Int) ≤ m := by omega
        have b5 : (m : Int) ≤ ps.length := by omega
        have b7 : (m : Int) ≤ cv := by omega
        clear hclr hin4 hbl4 hfr hlen hmap hot4
        go_wp2_with fail
        go_ret
        exact ⟨_, d.take m, rfl, HMAP.out, HFR.out, HB4.out⟩
end Go.Proofs.YtjlhdgmcaiiagaaGreatDoor
