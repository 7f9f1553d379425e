/- Book.Copy walked: the copy is a book of its own, with the same pages in whatever order. -/
import Derived.Test.YtdeljhehcjknbaaDoorS45
import Derived.Test.YtdeljhehcjknbaaDoorS48
namespace Go.Proofs.YtdeljhehcjknbaaDoor
open Go.RowKit Go.Maps Go.Sort Go.Lib

def pgF (x : PgR) : ByteArray × Value := (x.cart, x.ptr)
theorem ptrs_map (L : List PgR) : ptrs L = L.map pgF := rfl

/-- A page like x is laid into the copy. -/
theorem BookIs.copy_new {w4 : World} {b r p mb N : Nat} {L : List PgR} {x : PgR} (hb4 : w4.heap[b]? = some (.cells #[.map (some r)] 34)) (hm4 : MapIs w4 r (ptrs L ++ [(x.cart, .pointer (some ⟨p, 0, none⟩))])) (hold : ∀ x ∈ L, x.is w4)
    (hp4 : w4.heap[p]? = some (.cells #[.string x.owner, .map (some mb)] 80)) (hmb : MapIs w4 mb (memV x.mem)) (nd : (foot b (some r) L).Nodup) (hN : ∀ k ∈ foot b (some r) L, k < N) (hpN : N ≤ p) (hmN : N ≤ mb) (hpm : p ≠ mb) (wf : ∀ x ∈ L, x.wf) (len : L.length < 500)
    (hx : x.wf) : BookIs w4 b (some r) (L ++ [⟨x.cart, p, mb, x.owner, x.mem⟩]) := by
  refine ⟨hb4, ?_, ?_, ?_, ?_, ?_⟩
  · show MapIs w4 r _
    simpa [ptrs, PgR.ptr] using hm4
  · intro y hy
    rcases List.mem_append.1 hy with hy | hy
    · exact hold y hy
    · simp at hy; subst hy; exact ⟨hp4, hmb⟩
  · rw [foot_push]
    refine List.nodup_append.2 ⟨nd, by simp [hpm], ?_⟩
    intro y hy z hz e
    have := hN y hy
    simp at hz
    rcases hz with rfl | rfl <;> omega
  · intro y hy
    rcases List.mem_append.1 hy with hy | hy
    · exact wf y hy
    · simp at hy; subst hy; exact hx
  · simp; omega
theorem pgA_none_of {L : List PgR} {c : ByteArray} (h : c ∉ L.map (·.cart)) : pgA L c = none := by
  induction L with
  | nil => rfl
  | cons y L ih =>
    simp only [List.map_cons, List.mem_cons, not_or] at h
    simp only [pgA]
    rw [if_neg h.1, ih h.2]

/-- The copy under way: at block b, all of it new and apart from block i. -/
def CopyAt (B b r i : Nat) (w : World) (done L2 : List PgR) : Prop :=
  BookIs w b (some r) L2 ∧ L2.map PgR.abs = done.map PgR.abs ∧ ∀ k ∈ foot b (some r) L2, B ≤ k ∧ k ≠ i

def CopyPost (w : World) (A : List APg) (e : Ending) (w' : World) : Prop :=
  ∃ c B, e = .returned (.pointer (some ⟨c, 0, none⟩)) ∧ Own (fun k => w.heap.size ≤ k) w' c B ∧ B.Perm A ∧ Below w.heap.size w w'

/-- One round: the page of x has been laid into the copy. -/
theorem CopyAt.step {B b r i p mb : Nat} {w w1 w3 w4 : World} {done L2 : List PgR} {x : PgR} (h : CopyAt B b r i w done L2) (hw1 : w.grownBy w1 (some i)) (hs1 : w1.heap.size = w.heap.size) (hB : B ≤ w.heap.size) (hi : i < w.heap.size)
    (hb3 : Below w1.heap.size w1 w3) (hp3 : w3.heap[p]? = some (.cells #[.string x.owner, .map (some mb)] 80)) (hmb : MapIs w3 mb (memV x.mem)) (hp : w1.heap.size ≤ p) (hm : w1.heap.size ≤ mb) (hpm : p ≠ mb)
    (hg : w3.grownBy w4 (some r)) (hm4 : MapIs w4 r (putA (ptrs L2) x.cart (.pointer (some ⟨p, 0, none⟩)))) 
    (hn : x.cart ∉ done.map (fun x => (pgF x).1)) (hx : x.wf) (hl : done.length < 500) :
    CopyAt B b r i w4 (done ++ [x]) (L2 ++ [⟨x.cart, p, mb, x.owner, x.mem⟩]) := by
  obtain ⟨h1, h2, h3⟩ := h
  have hfl := h1.foot_lt
  have hr : r ∈ foot b (some r) L2 := by simp [foot]
  have hbF : b ∈ foot b (some r) L2 := by simp [foot]
  have hlen : L2.length = done.length := by have := congrArg List.length h2; simpa using this
  have hc : x.cart ∉ L2.map (·.cart) := by
    intro hmem
    have e : L2.map (·.cart) = done.map (fun x => (pgF x).1) := by
      have := congrArg (List.map APg.cart) h2
      simpa [List.map_map, Function.comp_def, PgR.abs, pgF] using this
    rw [e] at hmem; exact hn hmem
  rw [putA_ptrs_none _ (pgA_none_of hc)] at hm4
  have hkeep : ∀ k ∈ foot b (some r) L2, k ≠ r → w4.heap[k]? = w.heap[k]? := fun k hk hkr => by
    have hkl := hfl k hk
    rw [hg.block k (by have := hb3.size; omega) (fun e => hkr (by cases e; rfl)), hb3.block k (by omega), hw1.block k hkl (fun e => (h3 k hk).2 (by cases e; rfl))]
  have hrl := hfl r hr
  have hbr : b ≠ r := by have := h1.nd; simp [foot] at this; exact fun e => this.1.1 e
  have hnew : ∀ k, w1.heap.size ≤ k → k < w3.heap.size → w4.heap[k]? = w3.heap[k]? := fun k hk hk3 => hg.block k hk3 (fun e => by cases e; omega)
  refine ⟨BookIs.copy_new (N := w.heap.size) (by rw [hkeep b hbF hbr]; exact h1.hb) hm4 (fun y hy => ?_) (by rw [hnew p hp (lt_of_heap hp3)]; exact hp3) (hmb.of_block (hnew mb hm hmb.lt)) h1.nd hfl (by omega) (by omega) hpm h1.wf (by omega) hx, by simp [h2, PgR.abs], fun k hk => ?_⟩
  · obtain ⟨y1, y2⟩ := h1.hp y hy
    have hyr : y.p ≠ r ∧ y.mb ≠ r := by
      have := h1.nd
      simp [foot] at this
      have h2 := this.2.1 y hy
      exact ⟨fun e => h2.1 e.symm, fun e => h2.2 e.symm⟩
    have e1 : y.p ∈ foot b (some r) L2 := by simp [foot]; right; right; exact ⟨y, hy, Or.inl rfl⟩
    have e2 : y.mb ∈ foot b (some r) L2 := by simp [foot]; right; right; exact ⟨y, hy, Or.inr rfl⟩
    exact ⟨by rw [hkeep _ e1 hyr.1]; exact y1, y2.of_block (hkeep _ e2 hyr.2)⟩
  · rw [foot_push] at hk
    rcases List.mem_append.1 hk with hk | hk
    · exact h3 k hk
    · simp at hk
      rcases hk with rfl | rfl
      · exact ⟨by omega, by omega⟩
      · exact ⟨by omega, by omega⟩
theorem copy_start (w : World) (o : Obj) : CopyAt w.heap.size (w.heap.size + 1) w.heap.size (w.heap.size + 2) (((w.alloc (.map #[] 0)).alloc (.cells #[.map (some w.heap.size)] 34)).alloc o) [] [] := by
  have hb : (((w.alloc (.map #[] 0)).alloc (.cells #[.map (some w.heap.size)] 34)).alloc o).heap[w.heap.size + 1]? = some (.cells #[.map (some w.heap.size)] 34) := by
    rw [alloc_old _ _ (by simp)]
    have := alloc_new (w.alloc (.map #[] 0)) (.cells #[.map (some w.heap.size)] 34)
    rw [alloc_size] at this
    exact this
  refine ⟨⟨hb, ?_, by simp, by simp [foot], by simp, by simp⟩, rfl, fun k hk => ?_⟩
  · show MapIs _ w.heap.size (ptrs [])
    exact ((mapIs_new w).alloc _).alloc _
  · simp [foot] at hk
    rcases hk with rfl | rfl
    · exact ⟨by omega, by omega⟩
    · exact ⟨by omega, by omega⟩
theorem CopyAt.post {b r i : Nat} {w w' : World} {done L2 L : List PgR} (h : CopyAt w.heap.size b r i w' done L2) (hp : done.Perm L) (hb : Below w.heap.size w w') : CopyPost w (L.map PgR.abs) (.returned (.pointer (some ⟨b, 0, none⟩))) w' :=
  ⟨b, L2.map PgR.abs, rfl, ⟨fun k => k ∈ foot b (some r) L2, ⟨some r, L2, h.1, rfl, fun _ h => h, h.1.foot_lt⟩, fun k hk => (h.2.2 k hk).1⟩, by rw [h.2.1]; exact hp.map _, hb⟩

set_option maxRecDepth 100000 in
set_option maxHeartbeats 4000000 in
theorem copy_any {G : Nat → Prop} {w : World} {b : Nat} {A : List APg} (h : Own G w b A) : Calls Tryd.prog 22 #[.pointer (some ⟨b, 0, none⟩)] w (CopyPost w A) := by
  obtain ⟨F, ⟨mr, L, hB, rfl, -, -⟩, -⟩ := h
  have c0 := cell0 hB.hb 0
  simp only [List.getElem?_toArray, List.getElem?_cons_zero] at c0
  have hbl := lt_of_heap hB.hb
  have hmm := @run_makeMap Tryd.prog
  have e1 : ((w.alloc (.map #[] 0)).alloc (.cells #[.map (some w.heap.size)] 34)).heap.size = w.heap.size + 2 := by simp
  cases mr with
  | none =>
    have e : ptrs L = [] := hB.hm
    have e2 : L = [] := List.eq_nil_of_length_eq_zero (by rw [← lenPtrs, e]; rfl)
    subst e2
    have hrg := run_range_nilMap (P := Tryd.prog) ((w.alloc (.map #[] 0)).alloc (.cells #[.map (some w.heap.size)] 34)) 32 9 75 Tryd.underlying32
    have hnx : ∀ ty, (Instr.next (.pointer (some ⟨((w.alloc (.map #[] 0)).alloc (.cells #[.map (some w.heap.size)] 34)).heap.size, 0, none⟩)) false ty).run Tryd.prog (((w.alloc (.map #[] 0)).alloc (.cells #[.map (some w.heap.size)] 34)).alloc (.mapIter none 0 #[] 0)) = _ := fun ty => run_next_nilMap _ ty 0 0 #[]
    rw [e1] at hrg hnx
    clear hB e e1
    go_enter Tryd.func22, Tryd.ntmps22
    go_wp2
    refine wp_loop_rounds 1 ?_
    rw [rounds_succ]
    go_wp2
    go_ret
    exact (copy_start w _).post (List.Perm.refl _) (((Below.refl _ _).alloc (Nat.le_refl _) _).alloc (by simp) _ |>.alloc (by simp; omega) _)
  | some r =>
    have HM := Lib.hid (show MapIs w r (L.map pgF) from hB.hm)
    have HB := Lib.hid hB
    have hrl := HM.out.lt
    clear hB
    go_enter Tryd.func22, Tryd.ntmps22
    go_wp2_with (first | (at_range; refine wpList_rangeS (f := pgF) rfl _ rfl Tryd.underlying32 rfl (((HM.out.alloc _).alloc _)) ?_; intro o0 hra) | go_in)
    go_frame
    rw [e1] at hra ⊢
    have HB0 : Hid (Below w.heap.size w (((w.alloc (.map #[] 0)).alloc (.cells #[.map (some w.heap.size)] 34)).alloc o0)) := Lib.hid (((Below.refl _ _).alloc (Nat.le_refl _) _).alloc (by simp) _ |>.alloc (by simp; omega) _)
    have HC0 := Lib.hid (copy_start w o0)
    have HRA := Lib.hid hra
    clear hra
    go_loopw [4, 5] (fun _ _ wr => ∃ done L2, RangeAt pgF wr (w.heap.size + 2) r L done ∧ CopyAt w.heap.size (w.heap.size + 1) w.heap.size (w.heap.size + 2) wr done L2 ∧ Below w.heap.size w wr) (fun _ _ wr => L.length - World.came wr (w.heap.size + 2))
    case atStart => exact ⟨[], [], HRA.out, HC0.out, HB0.out⟩
    case round =>
      obtain ⟨done, L2, hra, hcp, hbl2⟩ := hrel
      obtain ⟨hil, hrl2, hne⟩ := hra.lt
      go_wp2_with (first | (at_next; refine wpList_nextS rfl _ rfl rfl hra ?_ ?_) | go_in)
      · intro hp
        go_wp2
        go_ret
        exact hcp.post hp hbl2
      · intro x w1 hx hn hra1 hg1 hs1 hen
        have hbl3 : Below w.heap.size w w1 := hbl2.grown hg1 hbl2.size (fun k hk => by cases hk; omega)
        obtain ⟨hxp, hxm⟩ := HB.out.hp x hx
        have hxpl := lt_of_heap hxp
        have hxml := hxm.lt
        have hxp1 : w1.heap[x.p]? = some (.cells #[.string x.owner, .map (some x.mb)] 80) := by rw [hbl3.block _ hxpl]; exact hxp
        have HXM := Lib.hid (show MapIs w1 x.mb (memV x.mem) from hxm.of_block (hbl3.block _ hxml))
        have hwf := HB.out.wf x hx
        have hbF := hcp.1.foot_lt (w.heap.size + 1) (by simp [foot])
        have hrF := hcp.1.foot_lt w.heap.size (by simp [foot])
        have hb1 : w1.heap[w.heap.size + 1]? = some (.cells #[.map (some w.heap.size)] 34) := by rw [hg1.block _ hbF (fun e => by have := Option.some.inj e; omega)]; exact hcp.1.hb
        have HM1 := Lib.hid (show MapIs w1 w.heap.size (ptrs L2) from MapIs.of_block hcp.1.hm (hg1.block _ hrF (fun e => by have := Option.some.inj e; omega)))
        have d0 : w1.cell? ⟨w.heap.size + 1, 0, none⟩ = some (.map (some w.heap.size)) := by rw [cell0 hb1 0]; rfl
        have d1 : w1.cell? ⟨x.p, 0, none⟩ = some (.string x.owner) := by rw [cell0 hxp1 0]; rfl
        have d2 : w1.cell? ⟨x.p, 1, none⟩ = some (.map (some x.mb)) := by rw [cell0 hxp1 1]; rfl
        have hdl : done.length < 500 := by have h1 := hra1.le; have h2 := HB.out.len; rw [List.length_append, List.length_singleton] at h1; omega
        have HST := Lib.hid (fun w3 w4 p mb hb3 hp3 hmb hp hm hpm hg hm4 => CopyAt.step (x := x) (p := p) (mb := mb) (w3 := w3) (w4 := w4) hcp hg1 hs1 hbl2.size hil hb3 hp3 hmb hp hm hpm hg hm4 (by intro hm; obtain ⟨y, hy, e⟩ := List.mem_map.1 hm; exact hn y hy e) hwf hdl)
        have HRA1 := Lib.hid hra1
        have HBL3 := Lib.hid hbl3
        have HCL := Lib.hid (fun w0 (h : MapIs w0 x.mb (memV x.mem)) => clone_any x.mb (memV x.mem) w0 h)
        have hcam : World.came wr (w.heap.size + 2) = done.length := hra.came
        have hdle := hra1.le
        have hz1 : w1.heap.size = wr.heap.size := hs1
        clear hxp hxm hxp1 hwf hb1 hra hra1 hcp hbl2 hbl3 hn hdl
        simp only [pgF, PgR.ptr] at hen ⊢
        go_upto_region 7 with go_in
        have l1 : x.p < wr.heap.size := by have := HBL3.out.size; omega
        have l2 : w.heap.size + 1 < wr.heap.size := by omega
        have l3 : x.p < w1.heap.size := by omega
        have l4 : w.heap.size + 1 < w1.heap.size := by omega
        have FIN : Hid (∀ o2 w4, MapIs (w1.alloc o2) wr.heap.size (memV x.mem) → MapIs w4 w.heap.size (putA (ptrs L2) x.cart (.pointer (some ⟨wr.heap.size + 1, 0, none⟩))) → (((w1.alloc o2).alloc (.cells #[.string x.owner, .map (some wr.heap.size)] 80)).drew).grownBy w4 (some w.heap.size) →
            (∃ done' L2', RangeAt pgF w4 (w.heap.size + 2) r L done' ∧ CopyAt w.heap.size (w.heap.size + 1) w.heap.size (w.heap.size + 2) w4 done' L2' ∧ Below w.heap.size w w4) ∧ L.length - World.came w4 (w.heap.size + 2) < L.length - World.came wr (w.heap.size + 2)) := Lib.hid (by
          intro o2 w4 hm2 hm4 hg4
          obtain ⟨W3, hW3⟩ : ∃ W3, W3 = (((w1.alloc o2).alloc (.cells #[.string x.owner, .map (some wr.heap.size)] 80)).drew) := ⟨_, rfl⟩
          have hb3 : Below w1.heap.size w1 W3 := by rw [hW3]; exact (((Below.refl _ _).alloc (Nat.le_refl _) _).alloc (by simp) _).drew
          have hz3 : W3.heap.size = w1.heap.size + 2 := by rw [hW3]; show ((w1.alloc o2).alloc _).heap.size = _; simp
          have hp3 : W3.heap[wr.heap.size + 1]? = some (.cells #[.string x.owner, .map (some wr.heap.size)] 80) := by
            rw [hW3]
            have := alloc_new (w1.alloc o2) (.cells #[.string x.owner, .map (some wr.heap.size)] 80)
            rw [alloc_size, hz1] at this
            exact this
          have hmb3 : MapIs W3 wr.heap.size (memV x.mem) := by rw [hW3]; exact (hm2.alloc _).of_block rfl
          rw [← hW3] at hg4
          have hfar : ∀ k, k < w1.heap.size → k ≠ w.heap.size → w4.heap[k]? = w1.heap[k]? := fun k h1 h2 => by
            rw [hg4.block k (by omega) (fun e => by have := Option.some.inj e; omega), hb3.block k h1]
          have hRA := HRA1.out.of (hfar _ (by omega) (by omega)) (hfar r (by have := hrl; omega) (by have := hrl; omega))
          refine ⟨⟨_, _, hRA, HST.out W3 w4 (wr.heap.size + 1) wr.heap.size hb3 hp3 hmb3 (by omega) (by omega) (by omega) hg4 hm4, ?_⟩, ?_⟩
          · exact (HBL3.out.trans (hb3.mono HBL3.out.size)).grown hg4 (by have := HBL3.out.size; omega) (fun k hk => by cases hk; exact Nat.le_refl _)
          · rw [hRA.came, hcam]
            have := hRA.le
            rw [List.length_append, List.length_singleton] at this ⊢
            omega)
        have HUP := Lib.hid (fun o2 => MapIs.update (P := Tryd.prog) (w := ((w1.alloc o2).alloc (.cells #[.string x.owner, .map (some wr.heap.size)] 80)).drew) (((HM1.out.alloc o2).alloc (.cells #[.string x.owner, .map (some wr.heap.size)] 80)).of_block rfl) Tryd.underlying32 Tryd.underlying9 x.cart (.pointer (some ⟨wr.heap.size + 1, 0, none⟩)))
        go_region_law (go_simp; go_at_call 39; refine (HCL.out _ (by first | exact HXM.out | exact HXM.out.of_block rfl)).mono ?_; rintro e w2 ⟨rfl, hm2, o2, rfl⟩; obtain ⟨w4, hu4, hm4, hg4⟩ := HUP.out o2)
        all_goals
          go_wp2
          go_roundw
          case rel => exact (FIN.out o2 w4 (by first | exact hm2 | (rw [← hz1]; exact hm2)) hm4 hg4).1
          case measure => exact (FIN.out o2 w4 (by first | exact hm2 | (rw [← hz1]; exact hm2)) hm4 hg4).2
end Go.Proofs.YtdeljhehcjknbaaDoor
