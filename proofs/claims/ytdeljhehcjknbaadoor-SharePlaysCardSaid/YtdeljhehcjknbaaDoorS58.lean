/- SharePlays walked: true for all calls, wherever the table of rows lies. -/
import Derived.Test.YtdeljhehcjknbaaDoorS57
import Derived.Maps.AppendAt
namespace Go.Proofs.YtdeljhehcjknbaaDoor
open Go.RowKit Go.Maps Go.Sort Go.Lib

/-- The people behind the first loop's append: whose row it is, and what else stays. -/
def PeopleIs (base bB bM z : Nat) (A B : List APg) (C : Array Value) (n : Nat) (w : World) (pv : Value) (wx : World) : Prop :=
  ∃ pl : List ByteArray, wx.ownsRow base 9 1 pv pl.length (flatS pl) ∧ pl.length ≤ n ∧ Mid base (fun q => pv.ownBlock = some q ∨ q = z) wx bB bM B A ∧ Below base w wx ∧ wx.heap[z]? = some (.cells C 29)

set_option maxRecDepth 100000 in
set_option maxHeartbeats 8000000 in
theorem plays_in (l : List ActR) (v : Value) (w : World) (hR : RowsLie w) (hv : ActsIs w v l) (hf : ∀ a ∈ l, a.fits) (h60 : l.length ≤ 60) :
    Calls Tryd.prog 6 #[v] w fun e w' => e = .returned (.bool true) ∧ Below w.heap.size w w' := by
  obtain ⟨o, cap, rfl, _, hacts⟩ := hv
  have HR := Lib.hid hR
  have HA := Lib.hid hacts
  have HF := Lib.hid hf
  have h0 : 0 < w.heap.size := by obtain ⟨C, tt, fz, h1, _⟩ := hR; exact lt_of_heap h1
  have hl0 : ¬ (60 : Int) < l.length := by omega
  obtain ⟨i9, hi9, hz0, hz1, hz2⟩ := info_parts Tryd_info9
  have HI := Lib.hid (And.intro hi9 (And.intro hz0 (And.intro hz1 hz2)))
  clear hR hacts hf hi9 hz0 hz1 hz2
  go_enter Tryd.func6, Tryd.ntmps6
  go_wp2_with fail
  have HM0 := Lib.hid (Mid.new (w := w) (S := fun _ => False) (base := w.heap.size) (fun k hk => hk.elim) (Nat.le_refl _))
  have HROW0 := Lib.hid (World.ownsRow_lit (base := w.heap.size) (e := 9) (size := 1) ((w.alloc (.cells #[.map none] 34)).alloc (.cells #[.slice none 0 0] 38)) #[.string ⟨#[97, 110, 110]⟩, .string ⟨#[98, 111, 98]⟩, .string ⟨#[]⟩] 3 (by simp; omega) (by unfold maxLen; omega) rfl)
  go_loopw [3, 5, 6] (fun bv pv i wr => ∃ (k bB : Nat) (A B : List APg) (pl : List ByteArray), k ≤ l.length ∧ i = .int .i64 k ∧ bv = .pointer (some ⟨bB, 0, none⟩) ∧ Mid w.heap.size (fun q => pv.ownBlock = some q) wr bB (w.heap.size + 1) B A ∧ B.Perm A ∧ wr.ownsRow w.heap.size 9 1 pv pl.length (flatS pl) ∧ pl.length ≤ 3 + 2 * k ∧ Below w.heap.size w wr) (fun _ _ i _ => l.length - (intOf i).toNat)
  case atStart =>
    refine ⟨0, w.heap.size, [], [], [ann, bob, ⟨#[]⟩], Nat.zero_le _, rfl, rfl, ?_, List.Perm.refl _, ?_, Nat.le_refl _, ?_⟩
    · refine HM0.out.of (fun k _ hk => alloc_old _ _ hk) (by simp) (fun k hk => ?_) (fun k hk => ?_)
      · simp [Value.ownBlock] at hk; right; simp; omega
      · simp [Value.ownBlock] at hk; simp; omega
    · have h9 := HROW0.out
      simp only [alloc_size] at h9
      exact h9
    · exact (((Below.refl _ _).alloc (Nat.le_refl _) _).alloc (by simp) _).alloc (by simp; omega) _
  case round =>
    obtain ⟨k, bB, A, B, pl, hk, rfl, rfl, hM, hp, hrow, hpl, hB⟩ := hrel
    obtain ⟨wo, rfl⟩ : ∃ wo : World, wo = wr := ⟨_, rfl⟩
    have HB := Lib.hid hB
    have HM := Lib.hid hM
    have HP := Lib.hid hp
    have HROW := Lib.hid hrow
    by_cases hlt : k < l.length
    · obtain ⟨b, off, rfl, hb, hcells⟩ := HA.out k hlt
      have hk0 : (0 : Int) ≤ k := by omega
      have hk1 : (k : Int) < l.length := by omega
      have hcw : ∀ j, j < 11 → wo.cell? ⟨b, off + k * 11 + j, none⟩ = l[k].cells[j]? := fun j hj => by
        rw [← hcells j hj]; unfold World.cell?; rw [HB.out.block b hb]
      have hfit := HF.out l[k] (List.getElem_mem hlt)
      clear hcells
      generalize l[k] = a at *
      obtain ⟨what, by_, crt, who, right, op, key, other, item, qty, da, dl, dc⟩ := a
      have c0 := hcw 0 (by omega)
      have c1 := hcw 1 (by omega)
      have c2 := hcw 2 (by omega)
      have c3 := hcw 3 (by omega)
      have c4 := hcw 4 (by omega)
      have c5 := hcw 5 (by omega)
      have c6 := hcw 6 (by omega)
      have c7 := hcw 7 (by omega)
      have c8 := hcw 8 (by omega)
      have c9 := hcw 9 (by omega)
      have c10 := hcw 10 (by omega)
      simp only [ActR.cells, CallR.cells, List.cons_append, List.nil_append, List.getElem?_cons_zero, List.getElem?_cons_succ, Nat.add_zero] at c0 c1 c2 c3 c4 c5 c6 c7 c8 c9 c10
      clear hcw
      have HFIT := Lib.hid hfit
      have HS := Lib.hid (fun w0 => short_any ⟨what, by_, crt, who, right, op, key, other, item, qty, da, dl, dc⟩ w0 hfit)
      unfold ActR.val at HS
      simp only at HS
      obtain ⟨ap, cp, rfl⟩ := owns_slice hrow
      clear hM hp hrow hB hfit
      have HBz := HB.out.size
      go_upto_region 9 with fail
      obtain ⟨W1, hW1⟩ : ∃ W1, W1 = wo.alloc (.cells #[.int .i64 what, .string by_, .string crt, .string who, .int .i64 right, .int .i64 op, .string key, .string other, .string item, .int .i64 qty, .slice da dl dc] 29) := ⟨_, rfl⟩
      have hb1 : Below wo.heap.size wo W1 := by rw [hW1]; exact (Below.refl _ _).alloc (Nat.le_refl _) _
      have hz1 : wo.heap.size < W1.heap.size := by rw [hW1]; simp
      have hR1 : W1.heap[wo.heap.size]? = some (.cells #[.int .i64 what, .string by_, .string crt, .string who, .int .i64 right, .int .i64 op, .string key, .string other, .string item, .int .i64 qty, .slice da dl dc] 29) := by rw [hW1, alloc_new]
      rw [← hW1]
      clear hW1 c0 c1 c2 c3 c4 c5 c6 c7 c8 c9 c10
      have HK5 : Hid (∀ wx : World, wx.heap[wo.heap.size]? = W1.heap[wo.heap.size]? → (wx.cell? ⟨wo.heap.size, 0, none⟩ = some (.int .i64 what) ∧ wx.cell? ⟨wo.heap.size, 1, none⟩ = some (.string by_) ∧ wx.cell? ⟨wo.heap.size, 2, none⟩ = some (.string crt) ∧ wx.cell? ⟨wo.heap.size, 3, none⟩ = some (.string who) ∧ wx.cell? ⟨wo.heap.size, 4, none⟩ = some (.int .i64 right) ∧ wx.cell? ⟨wo.heap.size, 5, none⟩ = some (.int .i64 op) ∧ wx.cell? ⟨wo.heap.size, 6, none⟩ = some (.string key) ∧ wx.cell? ⟨wo.heap.size, 7, none⟩ = some (.string other) ∧ wx.cell? ⟨wo.heap.size, 8, none⟩ = some (.string item) ∧ wx.cell? ⟨wo.heap.size, 9, none⟩ = some (.int .i64 qty) ∧ wx.cell? ⟨wo.heap.size, 10, none⟩ = some (.slice da dl dc))) := Lib.hid (fun wx h => by
        rw [hR1] at h
        exact ⟨by rw [cell0 h 0]; rfl, by rw [cell0 h 1]; rfl, by rw [cell0 h 2]; rfl, by rw [cell0 h 3]; rfl, by rw [cell0 h 4]; rfl, by rw [cell0 h 5]; rfl, by rw [cell0 h 6]; rfl, by rw [cell0 h 7]; rfl, by rw [cell0 h 8]; rfl, by rw [cell0 h 9]; rfl, by rw [cell0 h 10]; rfl⟩)
      obtain ⟨c0, c1, c2, c3, c4, c5, c6, c7, c8, c9, c10⟩ := HK5.out _ rfl
      go_wp2_with fail
      refine (HS.out _).mono ?_
      rintro e w2 ⟨rfl, hb2⟩
      generalize decide (ActR.short _) = sh
      have hb12 : Below wo.heap.size wo w2 := hb1.trans (hb2.mono (Nat.le_of_lt hz1))
      have HB2 := Lib.hid (HB.out.trans (hb12.mono HBz))
      have hz2 : wo.heap.size < w2.heap.size := Nat.lt_of_lt_of_le hz1 hb2.size
      cases sh
      · have HKN := Lib.hid (known_any w2 (rowsLie_base HR.out HB2.out h0))
        go_wp2_with (go_at_call 9; refine HKN.out.mono ?_; rintro e w6 ⟨rfl, hb6⟩)
        go_ret
        exact ⟨rfl, HB2.out.trans (hb6.mono HB2.out.size)⟩
      have hR2 : w2.heap[wo.heap.size]? = some (.cells #[.int .i64 what, .string by_, .string crt, .string who, .int .i64 right, .int .i64 op, .string key, .string other, .string item, .int .i64 qty, .slice da dl dc] 29) := by rw [hb2.block _ hz1]; exact hR1
      have hKeep2 := HK5.out w2 (hb2.block _ hz1)
      obtain ⟨d0, d1, d2, d3, d4, d5, d6, d7, d8, d9, d10⟩ := hKeep2
      have HR2 := Lib.hid hR2
      have HROW2 := Lib.hid (row_below HROW.out hb12)
      have hbz2 : w.heap.size ≤ w2.heap.size := HB2.out.size
      have FINB : Hid (PeopleIs w.heap.size bB (w.heap.size + 1) wo.heap.size A B #[.int .i64 what, .string by_, .string crt, .string who, .int .i64 right, .int .i64 op, .string key, .string other, .string item, .int .i64 qty, .slice da dl dc] (pl.length + 2) w (.slice ap pl.length cp) w2) := Lib.hid ⟨pl, HROW2.out, by omega, HM.out.of (fun q _ hq => hb12.block q hq) hb12.size (fun q hq => by rcases hq with hq | hq; exact Or.inl hq; exact Or.inr (by omega)) (fun q hq => by rcases hq with hq | hq; exact Nat.lt_of_lt_of_le (HM.out.slt hq) hb12.size; omega), HB2.out, HR2.out⟩
      have FINA : Hid (∀ w4 v', w4.ownsRow w.heap.size 9 1 v' (pl.length + 2) (flatS pl ++ [.string by_, .string who]) → (w2.alloc (.cells #[.string by_, .string who] 9)).grownBy w4 (Value.slice ap pl.length cp).ownBlock → (v'.ownBlock = (Value.slice ap pl.length cp).ownBlock ∨ v'.ownBlock = some (w2.heap.size + 1)) → PeopleIs w.heap.size bB (w.heap.size + 1) wo.heap.size A B #[.int .i64 what, .string by_, .string crt, .string who, .int .i64 right, .int .i64 op, .string key, .string other, .string item, .int .i64 qty, .slice da dl dc] (pl.length + 2) w v' w4) := Lib.hid (by
        intro w4 v' hr hg hat
        have hs4 := hg.size
        rw [alloc_size] at hs4
        have hown := HROW2.out.lt
        have hkeep : ∀ q, (Value.slice ap pl.length cp).ownBlock ≠ some q → q < w2.heap.size → w4.heap[q]? = w2.heap[q]? := fun q hq hql => by
          rw [hg.block q (by rw [alloc_size]; omega) (fun e => hq e.symm), alloc_old _ _ hql]
        have hzo : (Value.slice ap pl.length cp).ownBlock ≠ some wo.heap.size := fun e => by have := (HROW.out.lt _ e).2; omega
        refine ⟨pl ++ [by_, who], ?_, by simp, HM.out.of (fun q hq hql => ?_) (Nat.le_trans hb12.size (by omega)) (fun q hq => ?_) (fun q hq => ?_), ?_, ?_⟩
        · have e1 : (pl ++ [by_, who]).length = pl.length + 2 := by simp
          have e2 : flatS (pl ++ [by_, who]) = flatS pl ++ [.string by_, .string who] := by simp [flatS]
          rw [e1, e2]; exact hr
        · rw [hkeep q (fun e => hq e) (Nat.lt_of_lt_of_le hql hb12.size), hb12.block q hql]
        · rcases hq with hq | hq
          · rcases hat with h | h
            · exact Or.inl (by rw [← h]; exact hq)
            · rw [h] at hq; have := Option.some.inj hq; exact Or.inr (by have := hb12.size; omega)
          · exact Or.inr (by omega)
        · rcases hq with hq | hq
          · exact (hr.lt _ hq).2
          · omega
        · refine HB2.out.trans ⟨hg.os, hg.tape, hg.output, by omega, fun q hq => ?_⟩
          exact hkeep q (fun e => by have := (hown _ e).1; omega) (by omega)
        · rw [hkeep _ hzo hz2]; exact HR2.out)
      have HSRC : Hid (∀ j u, [Value.string by_, .string who][j]? = some u → (w2.alloc (.cells #[.string by_, .string who] 9)).cell? ((⟨w2.heap.size, 0, none⟩ : Addr).add j) = some u) := Lib.hid (fun j u h => alloc_cells2 w2 #[.string by_, .string who] 9 j u (by simpa using h))
      have hpl2 : pl.length ≤ 200 := by omega
      clear hb12 hb1 hR1 hb2 hR2 c0 c1 c2 c3 c4 c5 c6 c7 c8 c9 c10
      go_upto_if 33 with fail
      go_cut [5] from 33 to 40 (fun pv wx => PeopleIs w.heap.size bB (w.heap.size + 1) wo.heap.size A B #[.int .i64 what, .string by_, .string crt, .string who, .int .i64 right, .int .i64 op, .string key, .string other, .string item, .int .i64 qty, .slice da dl dc] (pl.length + 2) w pv wx)
      case first =>
        by_cases hk10 : k < 10
        · have hki : (k : Int) < 10 := by omega
          go_wp2_with (at_builtin; refine wpList_append_own_at _ rfl _ _ 43 rfl w.heap.size 9 i9 (.string ⟨#[]⟩) 1 16 Tryd.underlying43 HI.out.1 HI.out.2.1 HI.out.2.2.1 HI.out.2.2.2 rfl (by decide) (.slice ap pl.length cp) pl.length (flatS pl) rfl (HROW2.out.alloc _) ⟨w2.heap.size, 0, none⟩ 2 2 [.string by_, .string who] rfl rfl HSRC.out (by simp [Value.oneCell']) (by unfold maxLen; omega) (by omega) (by simp; omega) ?_; intro v4 w4 hown4 hgr4 _ hat4; have hfin := FINA.out w4 v4 hown4 hgr4 (by rw [alloc_size] at hat4; exact hat4))
          go_meet
          case rel => exact hfin
        · have hki : ¬ (k : Int) < 10 := by omega
          go_wp2_with fail
          go_meet
          case rel => exact FINB.out
      case rest =>
        have hcut' := hcut
        obtain ⟨pl2, hrow3, hpl3, hM3, hB3, hc3⟩ := hcut'
        have HROW3 := Lib.hid hrow3
        have HB3 := Lib.hid hB3
        clear hcut d0 d1 d2 d3 d4 d5 d6 d7 d8 d9 d10 FINA FINB HSRC
        iterate 2 (first | go_values | go_skip | go_guarded | go_step | go_upon | go_back | go_simp)
        refine NQ.to (act_round A B ⟨what, by_, crt, who, right, op, key, other, item, qty, da, dl, dc⟩ w.heap.size bB (w.heap.size + 1) wo.heap.size _ wc hM3 HP.out (Or.inr rfl) HFIT.out (fun wx h => rowsLie_base HR.out (HB3.out.trans h) h0) hc3 _ _ _ _ _ _ _ _ _ _ _ _ _ _ _ _ _ _ _ _ _ _ _ _ _ _ _ _ _ _ _ _ _ _ _ _ _ _ _ _ _ _ _ _ _ _ _ _ _ _ _ _ _ _ _ _ _ _ _ _ _ _ _ _ _ _ _ _ _ _ _ _ _ ?_)
        intros
        rename_i bB2 A2 B2 wx hM4 hp4 hs4
        have HROW4 := Lib.hid (row_stay HROW3.out (fun q hq => hs4.2 q (Or.inl hq)))
        have HAL := Lib.hid (alike_any A2 pl2 bB2 (w.heap.size + 1) _ wx (hM4.looks hp4) (Rd.of_own HROW4.out (by unfold maxLen; omega)))
        have HM4 := Lib.hid hM4
        have HB4 := Lib.hid (HB3.out.trans hs4.1)
        clear hrow3 hM3 hB3 hc3 hM4 hs4
        go_wp2_with (go_at_call 24; refine HAL.out.mono ?_; rintro e w9 ⟨rfl, hb9⟩)
        go_roundw
        case rel =>
          exact ⟨k + 1, bB2, A2, B2, pl2, by omega, by go_num, rfl, HM4.out.of (fun q _ hq => hb9.block q hq) hb9.size (fun q hq => Or.inl (Or.inl hq)) (fun q hq => Nat.lt_of_lt_of_le (HM4.out.slt (Or.inl hq)) hb9.size), hp4, row_below HROW4.out hb9, by omega, HB4.out.trans (hb9.mono HB4.out.size)⟩
        case measure => simp [intOf]; omega
    · have hke : k = l.length := by omega
      subst hke
      have HKN := Lib.hid (known_any wo (rowsLie_base HR.out HB.out h0))
      go_wp2_with (go_at_call 9; refine HKN.out.mono ?_; rintro e w6 ⟨rfl, hb6⟩)
      go_ret
      exact ⟨rfl, HB.out.trans (hb6.mono HB.out.size)⟩
end Go.Proofs.YtdeljhehcjknbaaDoor
