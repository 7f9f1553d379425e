/- items.index, items.Find. -/
import Derived.Test.YtjlhdgmcaiiagaaGreatDoorIt4
import Derived.Laws.ResultCell
namespace Go.Proofs.YtjlhdgmcaiiagaaGreatDoor
open Go.RowKit Go.Maps

def IdxIs {α : Type} (p : α → Bool) (l : List α) (i : Int) : Prop := (i = -1 ∧ l.any p = false) ∨ ∃ k, ∃ h : k < l.length, i = (k : Int) ∧ p l[k] = true ∧ (l.take k).any p = false
def IdxAt {α : Type} (p : α → Bool) (l : List α) (w : World) (e : Ending) (w' : World) : Prop := ∃ i : Int, e = .returned (.int .i64 i) ∧ IdxIs p l i ∧ Below w.heap.size w w'
set_option maxRecDepth 100000 in
set_option maxHeartbeats 4000000 in
theorem indexFuncItems_any (p : ItemD → Bool) (g q : Nat) (eg : ∀ args w, (callFunc g args).run Tryz.prog w = .ok (.enter g args) w)
    (l : List ItemD) (v : Value) (w : World) (hp : ∀ (x : ItemD) (mo : Option Addr) (mc : Nat) W, Below w.heap.size w W → Calls Tryz.prog g #[.agg #[.string x.name, .slice mo x.marks.length mc], .pointer (some ⟨q, 0, none⟩)] W fun e w' => e = .returned (.bool (p x)) ∧ Below W.heap.size W w')
    (h : Arr ItemR 2 w v l) : Calls Tryz.prog 80 #[v, .func (.func g) #[] #[.pointer (some ⟨q, 0, none⟩)]] w (IdxAt p l w) := by
  have hn := h.len
  obtain ⟨o, c, rfl, hel⟩ := h.itemAt
  have HEL := Lib.hid hel
  have HP := Lib.hid hp
  clear hel h hp
  go_enter Tryz.func80, Tryz.ntmps80
  go_wp2_with fail
  go_loopw [8] (fun i wr => ∃ k : Nat, k ≤ l.length ∧ i = .int .i64 k ∧ (l.take k).any p = false ∧ Below w.heap.size w wr) (fun i _ => l.length - (intOf i).toNat)
  case atStart => exact ⟨0, Nat.zero_le _, rfl, rfl, Below.refl _ _⟩
  case round =>
    obtain ⟨k, hk, rfl, hall, hB⟩ := hrel
    have HALL := Lib.hid hall
    have HB := Lib.hid hB
    clear hall hB
    by_cases hlt : k < l.length
    · obtain ⟨b, off, mv, rfl, hbl, e0, e1, -, hm⟩ := HEL.out k hlt
      obtain ⟨o3, k3, rfl, -⟩ := id hm
      have c0 : wr.cell? ⟨b, off + k * 2, none⟩ = some (.string l[k].name) := by rw [HB.out.cell (p := ⟨_, _, _⟩) hbl]; exact e0
      have c1 : wr.cell? ⟨b, off + k * 2 + 1, none⟩ = some (.slice o3 l[k].marks.length k3) := by rw [HB.out.cell (p := ⟨_, _, _⟩) hbl]; exact e1
      have HS := Lib.hid (any_take_snoc p l k hlt)
      have HIX : Hid (p l[k] = true → IdxIs p l (k : Int)) := Lib.hid (fun h => Or.inr ⟨k, hlt, rfl, h, HALL.out⟩)
      have HPX := Lib.hid (HP.out l[k] o3 k3 wr HB.out)
      generalize l[k] = x at *
      have a0 : (0 : Int) ≤ k := by omega
      have a1 : (k : Int) < l.length := by omega
      have hkw : IntKind.i64.wrap ((k : Int) + 1) = (k : Int) + 1 := by rw [IntKind.wrap_i64]; omega
      clear e0 e1 hm
      obtain ⟨r, hr⟩ : ∃ r, r = p x := ⟨_, rfl⟩
      rw [← hr] at HPX HS HIX
      clear hr
      cases r with
      | true =>
        have HF := Lib.hid (HIX.out rfl)
        go_wp2_with (go_at_fn g; refine HPX.out.mono ?_; rintro e w2 ⟨rfl, hb2⟩)
        go_ret
        exact ⟨k, rfl, HF.out, HB.out.trans (hb2.mono HB.out.size)⟩
      | false =>
        have HF : Hid ((l.take (k + 1)).any p = false) := Lib.hid (by rw [HS.out, HALL.out]; rfl)
        go_wp2_with (go_at_fn g; refine HPX.out.mono ?_; rintro e w2 ⟨rfl, hb2⟩)
        have hbf := HB.out.trans (hb2.mono HB.out.size)
        go_roundw
        case rel => exact ⟨k + 1, by omega, by go_num, HF.out, hbf⟩
        case measure => simp [intOf]; omega
    · have hke : k = l.length := by omega
      have HF : Hid (IdxIs p l (-1)) := Lib.hid (Or.inl ⟨rfl, by have := HALL.out; rw [hke, List.take_length] at this; exact this⟩)
      clear HALL
      go_wp2_with fail
      go_ret
      exact ⟨-1, rfl, HF.out, HB.out⟩
set_option maxRecDepth 100000 in
theorem itemsIndex1_any (nm : ByteArray) (q : Nat) (x : ItemD) (mo : Option Addr) (mc : Nat) (w : World) (hq : w.cell? ⟨q, 0, none⟩ = some (.string nm)) : Calls Tryz.prog 84 #[.agg #[.string x.name, .slice mo x.marks.length mc], .pointer (some ⟨q, 0, none⟩)] w fun e w' => e = .returned (.bool (decide (x.name = nm))) ∧ Below w.heap.size w w' := by
  have HF := Lib.hid (strDec x.name nm)
  have hql : q < w.heap.size := by
    obtain ⟨b, off, he, hlt⟩ := addr_plain hq
    cases he
    exact hlt
  have hqn : ¬ q = w.heap.size := by omega
  go_enter Tryz.func84, Tryz.ntmps84
  go_wp2_with fail
  go_ret
  exact ⟨by rw [← HF.out]; rfl, (Below.refl _ _).alloc (Nat.le_refl _) _⟩
set_option maxRecDepth 100000 in
theorem itemsIndex_any (nm : ByteArray) (l : List ItemD) (v : Value) (w : World) (h : Arr ItemR 2 w v l) : Calls Tryz.prog 59 #[v, .string nm] w (IdxAt (fun x => decide (x.name = nm)) l w) := by
  have eg : ∀ args w, (callFunc 84 args).run Tryz.prog w = .ok (.enter 84 args) w := enters_of Tryz.func84 (by kernel_rfl) rfl
  have hb1 : Below w.heap.size w (w.alloc (.cells #[.string nm] 9)) := (Below.refl _ _).alloc (Nat.le_refl _) _
  have HB1 := Lib.hid hb1
  have HI := Lib.hid (indexFuncItems_any (fun x => decide (x.name = nm)) 84 w.heap.size eg l v (w.alloc (.cells #[.string nm] 9)) (fun x mo mc W hW => itemsIndex1_any nm w.heap.size x mo mc W (by rw [hW.cell (p := ⟨w.heap.size, 0, none⟩) (by simp), cell0 (alloc_new w _) 0]; rfl)) (h.items hb1))
  clear h hb1
  go_enter Tryz.func59, Tryz.ntmps59
  go_wp2_with fail
  refine HI.out.mono ?_
  rintro e w2 ⟨i, rfl, hi, hb2⟩
  have HF := Lib.hid hi
  clear hi
  go_wp2_with fail
  go_ret
  exact ⟨i, rfl, HF.out, HB1.out.trans (hb2.mono HB1.out.size)⟩

/-- A part of a slice. -/
theorem Arr.part {α : Type} {R : World → α → List Value → Prop} {sz : Nat} {w : World} {b off n c : Nat} {l : List α} (h : Arr R sz w (.slice (some ⟨b, off, none⟩) n c) l) (i j : Nat) (hij : i ≤ j) (hj : j ≤ l.length) : Arr R sz w (.slice (some ⟨b, off + i * sz, none⟩) (j - i) (c - i)) ((l.take j).drop i) := by
  obtain ⟨o, cap, hv, h2, h3, hel⟩ := h
  cases hv
  have hl : ((l.take j).drop i).length = j - i := by simp; omega
  refine ⟨_, c - i, by rw [hl], by rw [hl]; omega, by omega, fun t ht => ?_⟩
  rw [hl] at ht
  obtain ⟨b', off', cs, he, h5, h6, h7, h8⟩ := hel (i + t) (by omega)
  cases he
  refine ⟨b, off + i * sz, cs, rfl, h5, h6, ?_, fun k hk => ?_⟩
  · simp only [List.getElem_drop, List.getElem_take]; exact h7
  · rw [show off + i * sz + t * sz + k = off + (i + t) * sz + k by rw [Nat.add_mul]; omega]
    exact h8 k hk
theorem results_cell_one {fn : Func} {p : Tmp} {ty : TypeId} (h : fn.results = #[.cell p ty]) (tmps : Array Value) (P : Program) (w : World) :
    (results fn tmps).run P w = ((asAddr (tmps.getD p undef)).run P w).andThen fun a w₁ => (loadVar ty a).run P w₁ := by
  simp only [results, h]
  simp [Sem.run_bind, Result.andThen]
def zeroItem : Value := .agg #[.string ⟨#[]⟩, .slice none 0 0]
/-- What Find answers. -/
def FindPost (nm : ByteArray) (l : List ItemD) (w : World) (e : Ending) (w' : World) : Prop :=
  Below w.heap.size w w' ∧ ((l.any (fun x => decide (x.name = nm)) = false ∧ e = .returned (.tuple #[.agg #[.string ⟨#[]⟩, .slice none 0 0], .int .i64 9])) ∨
    ∃ k, ∃ h : k < l.length, l[k].name = nm ∧ (l.take k).any (fun x => decide (x.name = nm)) = false ∧ ∃ mo mc, e = .returned (.tuple #[.agg #[.string l[k].name, .slice mo l[k].marks.length mc], .int .i64 0]) ∧ EMark.Row w.heap.size w' (.slice mo l[k].marks.length mc) l[k].marks)
set_option maxRecDepth 100000 in
set_option maxHeartbeats 4000000 in
theorem itemsFind_any (nm : ByteArray) (l : List ItemD) (v : Value) (w : World) (h : Arr ItemR 2 w v l) (hl : Lt l) : Calls Tryz.prog 33 #[v, .string nm] w (FindPost nm l w) := by
  have hn := h.len
  obtain ⟨W1, hW1⟩ : ∃ W1, W1 = w.alloc (.cells #[.string ⟨#[]⟩, .slice none 0 0] 31) := ⟨_, rfl⟩
  have hb1 : Below w.heap.size w W1 := by rw [hW1]; exact (Below.refl _ _).alloc (Nat.le_refl _) _
  have hg1 : W1.heap[w.heap.size]? = some (.cells #[.string ⟨#[]⟩, .slice none 0 0] 31) := by rw [hW1]; exact alloc_new _ _
  have hgl1 := lt_of_heap hg1
  have HI := Lib.hid (itemsIndex_any nm l v W1 (h.items hb1))
  have HA := Lib.hid h
  have HLT := Lib.hid hl
  have HG1 := Lib.hid hg1
  have HB1 := Lib.hid hb1
  have HW := Lib.hid hW1
  obtain ⟨o, c, rfl, -⟩ := id h
  clear hg1 hb1 hW1 h hl
  go_enter Tryz.func33, Tryz.ntmps33
  go_wp2_with fail
  rw [← HW.out]
  refine HI.out.mono ?_
  rintro e w2 ⟨i, rfl, hi, hb2⟩
  have hg2 : w2.heap[w.heap.size]? = some (.cells #[.string ⟨#[]⟩, .slice none 0 0] 31) := by rw [hb2.block _ hgl1]; exact HG1.out
  have d0 : w2.cell? ⟨w.heap.size, 0, none⟩ = some (.string ⟨#[]⟩) := by rw [cell0 hg2 0]; rfl
  have d1 : w2.cell? ⟨w.heap.size, 1, none⟩ = some (.slice none 0 0) := by rw [cell0 hg2 1]; rfl
  have f0 : w2.frozen? ⟨w.heap.size, 0, none⟩ = false := froz0 hg2 0
  have f1 : w2.frozen? ⟨w.heap.size, 1, none⟩ = false := froz0 hg2 1
  have hgl2 : w.heap.size < w2.heap.size := lt_of_heap hg2
  have HB2 := Lib.hid (HB1.out.trans (hb2.mono HB1.out.size))
  rcases hi with ⟨rfl, hany⟩ | ⟨k, hk, rfl, hp, ht⟩
  · have HF := Lib.hid hany
    clear hany hg2 hb2 HI
    go_wp2_with fail
    (try simp only [Exit.inBlock, Exit.then])
    refine bodyPost_ret (v := .tuple #[.agg #[.string ⟨#[]⟩, .slice none 0 0], .int .i64 9]) ?_ rfl ⟨(HB2.out.setCell (Nat.le_refl _) _).setCell (Nat.le_refl _) _, Or.inl ⟨HF.out, rfl⟩⟩
    rw [results_cell_tmp rfl]
    go_simp
  · obtain ⟨b, off, rfl⟩ : ∃ b off, o = some ⟨b, off, none⟩ := by
      obtain ⟨o', c', hv, hel⟩ := HA.out.itemAt
      obtain ⟨b, off, _, he, _⟩ := hel k hk
      cases hv
      exact ⟨b, off, he⟩
    have harr := (HA.out.items HB2.out).part k (k + 1) (by omega) (by omega)
    have hpart : (l.take (k + 1)).drop k = [l[k]] := by
      rw [List.take_succ_eq_append_getElem hk, List.drop_append_of_le_length (by simp; omega)]; simp
    rw [hpart, show k + 1 - k = 1 by omega] at harr
    have hcap : l.length ≤ c := by obtain ⟨_, _, hv, h2, _⟩ := HA.out; cases hv; exact h2
    have HCP := Lib.hid (itemsCopy_any [l[k]] _ w2 harr ⟨by simp, fun x hx => by simp at hx; subst hx; exact HLT.out.2 _ (List.getElem_mem hk)⟩)
    have HP1 : Hid (l[k].name = nm) := Lib.hid (by simpa using hp)
    have HT := Lib.hid ht
    have a0 : (0 : Int) ≤ k := by omega
    have a1 : ¬ (k : Int) < 0 := by omega
    have a2 : (k : Int) < l.length := by omega
    have a3 : (k : Int) + 1 ≤ l.length := by omega
    have a4 : (k : Int) + 1 ≤ c := by omega
    have a5 : (k : Int) ≤ (k : Int) + 1 := by omega
    have a6 : ((k : Int) + 1).toNat = k + 1 := by omega
    have a7 : k + 1 - k = 1 := by omega
    have t1 : decide ((k : Int) < 0) = false := decide_eq_false a1
    have hkw : IntKind.i64.wrap ((k : Int) + 1) = (k : Int) + 1 := by rw [IntKind.wrap_i64]; omega
    clear harr hpart ht hp HI
    obtain ⟨x, hx⟩ : ∃ x, x = l[k] := ⟨_, rfl⟩
    rw [← hx] at HCP
    have HG2 := Lib.hid hg2
    clear hg2 d0 d1 f0 f1
    go_wp2_with fail
    refine HCP.out.mono ?_
    rintro e w3 ⟨v3, ps, rfl, hps, hfr, hb3⟩
    obtain ⟨p, rfl⟩ : ∃ p, ps = [p] := by
      match ps, hps with
      | [p], _ => exact ⟨p, rfl⟩
    have hpx : p.x = x := by simpa using hps
    obtain ⟨hrow, hok, -⟩ := hfr
    obtain ⟨⟨-, hmrow, -⟩, -⟩ := hok p (by simp)
    obtain ⟨g, cap, rfl, hin, hgb⟩ := hrow.some (by simp)
    have k0 : w3.cell? ⟨g, 0, none⟩ = some (.string x.name) := by
      have := hin.cell 0 (by simp) 0 (by decide)
      rw [← hpx]
      exact this
    have k1 : w3.cell? ⟨g, 1, none⟩ = some (.slice p.mo x.marks.length p.mc) := by
      have := hin.cell 0 (by simp) 1 (by decide)
      rw [← hpx]
      exact this
    have hg3 : w3.heap[w.heap.size]? = some (.cells #[.string ⟨#[]⟩, .slice none 0 0] 31) := by rw [hb3.block _ hgl2]; exact HG2.out
    have d0 : w3.cell? ⟨w.heap.size, 0, none⟩ = some (.string ⟨#[]⟩) := by rw [cell0 hg3 0]; rfl
    have d1 : w3.cell? ⟨w.heap.size, 1, none⟩ = some (.slice none 0 0) := by rw [cell0 hg3 1]; rfl
    have f0 : w3.frozen? ⟨w.heap.size, 0, none⟩ = false := froz0 hg3 0
    have f1 : w3.frozen? ⟨w.heap.size, 1, none⟩ = false := froz0 hg3 1
    have HB3 := Lib.hid (HB2.out.trans (hb3.mono HB2.out.size))
    have HMR : Hid (EMark.Row w.heap.size ((w3.setCell ⟨w.heap.size, 0, none⟩ (.string x.name)).setCell ⟨w.heap.size, 1, none⟩ (.slice p.mo x.marks.length p.mc)) (.slice p.mo x.marks.length p.mc) x.marks) := Lib.hid (by
      rw [← hpx]
      refine ((show EMark.Row w2.heap.size w3 (.slice p.mo p.x.marks.length p.mc) p.x.marks from hmrow).mono (Nat.le_of_lt hgl2)).stay (fun j hj => ?_)
      have hj2 := (hmrow.lt j hj).1
      rw [setCell_other (by omega), setCell_other (by omega)])
    clear hb3 hrow hok hmrow hin hg3 hps hpx
    go_wp2_with fail
    (try simp only [Exit.inBlock, Exit.then])
    refine bodyPost_ret (v := .tuple #[.agg #[.string x.name, .slice p.mo x.marks.length p.mc], .int .i64 0]) ?_ rfl ⟨(HB3.out.setCell (Nat.le_refl _) _).setCell (Nat.le_refl _) _, Or.inr ⟨k, hk, HP1.out, HT.out, p.mo, p.mc, by rw [← hx], by rw [← hx]; exact HMR.out⟩⟩
    rw [results_cell_tmp rfl]
    go_simp
end Go.Proofs.YtjlhdgmcaiiagaaGreatDoor

