/- spoil: items of one's own are changed, nothing else. -/
import Derived.Test.YtjlhdgmcaiiagaaGreatDoorItRow
namespace Go.Proofs.YtjlhdgmcaiiagaaGreatDoor
open Go.RowKit Go.Maps

/-- Items that may be spoilt: names and quantities that stand in blocks from base on, apart from each other. -/
def Shp (base : Nat) (w : World) (g n k : Nat) : Prop :=
  ∀ i, i < n → ∃ nm mo ml mc, w.cell? ⟨g, i * 2, none⟩ = some (.string nm) ∧ (k ≤ i → nm.size ≤ 100000) ∧ w.frozen? ⟨g, i * 2, none⟩ = false ∧ w.cell? ⟨g, i * 2 + 1, none⟩ = some (.slice mo ml mc) ∧ ml ≤ maxLen ∧
    ∀ t, t < ml → ∃ b q, mo = some ⟨b, 0, none⟩ ∧ base ≤ b ∧ b ≠ g ∧ w.cell? ⟨b, t * 4 + 2, none⟩ = some (.int .i64 q) ∧ w.frozen? ⟨b, t * 4 + 2, none⟩ = false
theorem Shp.name {base g n k i : Nat} {w : World} {s : ByteArray} (h : Shp base w g n k) (hi : i < n) (hk : i ≤ k) : Shp base (w.setCell ⟨g, i * 2, none⟩ (.string s)) g n (k + 1) := by
  intro j hj
  obtain ⟨nm, mo, ml, mc, h1, h2, h3, h4, h5, h6⟩ := h j hj
  have hother : ∀ b t, (b, t) ≠ (g, i * 2) → (w.setCell ⟨g, i * 2, none⟩ (.string s)).cell? ⟨b, t, none⟩ = w.cell? ⟨b, t, none⟩ := fun b t hne => World.cell?_setCell_other w _ _ _ (fun e => hne (by cases e; rfl))
  have hmarks : ∀ t, t < ml → ∃ b q, mo = some ⟨b, 0, none⟩ ∧ base ≤ b ∧ b ≠ g ∧ (w.setCell ⟨g, i * 2, none⟩ (.string s)).cell? ⟨b, t * 4 + 2, none⟩ = some (.int .i64 q) ∧ (w.setCell ⟨g, i * 2, none⟩ (.string s)).frozen? ⟨b, t * 4 + 2, none⟩ = false := fun t ht => by
    obtain ⟨b, q, e1, e2, e3, e4, e5⟩ := h6 t ht
    exact ⟨b, q, e1, e2, e3, by rw [hother _ _ (fun e => e3 (Prod.mk.inj e).1)]; exact e4, by rw [World.frozen?_setCell]; exact e5⟩
  have h4' : (w.setCell ⟨g, i * 2, none⟩ (.string s)).cell? ⟨g, j * 2 + 1, none⟩ = some (.slice mo ml mc) := by rw [hother _ _ (fun e => by have := (Prod.mk.inj e).2; omega)]; exact h4
  by_cases e : j = i
  · subst e
    exact ⟨s, mo, ml, mc, World.cell?_setCell_same w _ _ h1, fun h => by omega, by rw [World.frozen?_setCell]; exact h3, h4', h5, hmarks⟩
  · exact ⟨nm, mo, ml, mc, by rw [hother _ _ (fun e2 => by have := (Prod.mk.inj e2).2; omega)]; exact h1, fun h => h2 (by omega), by rw [World.frozen?_setCell]; exact h3, h4', h5, hmarks⟩
theorem Shp.qty {base g n k b t : Nat} {w : World} {q0 q : Int} (h : Shp base w g n k) (hb : b ≠ g) (h0 : w.cell? ⟨b, t, none⟩ = some (.int .i64 q0)) : Shp base (w.setCell ⟨b, t, none⟩ (.int .i64 q)) g n k := by
  intro j hj
  obtain ⟨nm, mo, ml, mc, h1, h2, h3, h4, h5, h6⟩ := h j hj
  have hother : ∀ b' t', (b', t') ≠ (b, t) → (w.setCell ⟨b, t, none⟩ (.int .i64 q)).cell? ⟨b', t', none⟩ = w.cell? ⟨b', t', none⟩ := fun b' t' hne => World.cell?_setCell_other w _ _ _ (fun e => hne (by cases e; rfl))
  refine ⟨nm, mo, ml, mc, by rw [hother _ _ (fun e => hb (Prod.mk.inj e).1.symm)]; exact h1, h2, by rw [World.frozen?_setCell]; exact h3, by rw [hother _ _ (fun e => hb (Prod.mk.inj e).1.symm)]; exact h4, h5, fun t' ht => ?_⟩
  obtain ⟨b', q', e1, e2, e3, e4, e5⟩ := h6 t' ht
  by_cases e : (b', t' * 4 + 2) = (b, t)
  · injection e with ea eb
    subst ea
    refine ⟨b', q, e1, e2, e3, ?_, by rw [World.frozen?_setCell]; exact e5⟩
    rw [← eb] at h0 ⊢
    exact World.cell?_setCell_same w _ _ h0
  · exact ⟨b', q', e1, e2, e3, by rw [hother _ _ e]; exact e4, by rw [World.frozen?_setCell]; exact e5⟩
theorem Shp.below {base g n k : Nat} {w w' : World} (h : Shp base w g n k) (hb : Below w.heap.size w w') : Shp base w' g n k := by
  intro i hi
  obtain ⟨nm, mo, ml, mc, h1, h2, h3, h4, h5, h6⟩ := h i hi
  have hl : ∀ {b t v}, w.cell? ⟨b, t, none⟩ = some v → b < w.heap.size := fun {b t v} hc => by
    obtain ⟨b', off, e, hlt⟩ := addr_plain hc
    cases e
    exact hlt
  refine ⟨nm, mo, ml, mc, by rw [hb.cell (p := ⟨_, _, _⟩) (hl h1)]; exact h1, h2, by rw [hb.frozen (p := ⟨_, _, _⟩) (hl h1)]; exact h3, by rw [hb.cell (p := ⟨_, _, _⟩) (hl h4)]; exact h4, h5, fun t ht => ?_⟩
  obtain ⟨b, q, e1, e2, e3, e4, e5⟩ := h6 t ht
  exact ⟨b, q, e1, e2, e3, by rw [hb.cell (p := ⟨_, _, _⟩) (hl e4)]; exact e4, by rw [hb.frozen (p := ⟨_, _, _⟩) (hl e4)]; exact e5⟩
theorem FreshI.shp {base : Nat} {w : World} {v : Value} {ps : List ItW} (h : FreshI base w v ps) (hs : ∀ p ∈ ps, p.x.name.size ≤ 100000) : ∃ o c g, v = .slice o ps.length c ∧ (ps.length = 0 ∨ o = some ⟨g, 0, none⟩) ∧ base ≤ g ∧ ps.length ≤ maxLen ∧ Shp base w g ps.length 0 := by
  obtain ⟨h1, h2, h3⟩ := h
  have hle := h1.le
  by_cases hn : ps = []
  · obtain ⟨a, c, rfl⟩ := h1.slice
    subst hn
    exact ⟨a, c, base, rfl, Or.inl rfl, Nat.le_refl _, hle, fun i hi => absurd hi (Nat.not_lt_zero i)⟩
  · obtain ⟨g, cap, rfl, hin, hg⟩ := h1.some hn
    refine ⟨_, cap, g, rfl, Or.inr rfl, hg, hle, fun i hi => ?_⟩
    have hm := List.getElem_mem hi
    obtain ⟨⟨k1, k2, k3⟩, hap⟩ := h2 _ hm
    refine ⟨ps[i].x.name, ps[i].mo, ps[i].x.marks.length, ps[i].mc, ?_, fun _ => hs _ hm, hin.froz _, ?_, k2.le, fun t ht => ?_⟩
    · have := hin.cell i hi 0 (by decide)
      rw [Nat.add_zero] at this
      exact this
    · exact hin.cell i hi 1 (by decide)
    · obtain ⟨b, cap2, he, hin2, hb⟩ := k2.some (by intro e; rw [e] at ht; cases ht)
      have hmo : ps[i].mo = some ⟨b, 0, none⟩ := by
        unfold ItW.v at he
        injection he
      refine ⟨b, ps[i].x.marks[t].qty, hmo, hb, fun e => ?_, hin2.cell t ht 2 (by decide), hin2.froz _⟩
      subst e
      exact hap b rfl (by rw [he]; rfl)

set_option linter.unusedSimpArgs false in
set_option maxRecDepth 100000 in
set_option maxHeartbeats 4000000 in
theorem l9spoil_any (base g n c : Nat) (o : Option Addr) (w : World) (ho : n = 0 ∨ o = some ⟨g, 0, none⟩) (hg : base ≤ g) (hn : n ≤ maxLen) (h : Shp base w g n 0) : Calls Tryz.prog 28 #[.slice o n c] w fun e w' => e = .returned (.tuple #[]) ∧ Below base w w' := by
  have HG := Lib.hid hg
  have hn' : n ≤ 9223372036854775807 := by unfold maxLen at hn; omega
  have HH := Lib.hid h
  clear h hn
  go_enter Tryz.func28, Tryz.ntmps28
  go_wp2_with fail
  go_loopw [6] (fun i wr => ∃ k : Nat, k ≤ n ∧ i = .int .i64 k ∧ Shp base wr g n k ∧ Below base w wr) (fun i _ => n - (intOf i).toNat)
  case atStart => exact ⟨0, Nat.zero_le _, rfl, HH.out, Below.refl _ _⟩
  case round =>
    obtain ⟨k, hk, rfl, hsh, hB⟩ := hrel
    have HS := Lib.hid hsh
    have HB := Lib.hid hB
    clear hsh hB HH
    by_cases hlt : k < n
    · obtain rfl : o = some ⟨g, 0, none⟩ := by
        rcases ho with h | h
        · omega
        · exact h
      obtain ⟨nm, mo, ml, mc, c0, hnl, f0, c1, hml, -⟩ := HS.out k hlt
      have hnl2 := hnl (Nat.le_refl _)
      have HS2 : Hid (Shp base (wr.setCell ⟨g, k * 2, none⟩ (.string (nm ++ ⟨#[120]⟩))) g n (k + 1)) := Lib.hid (HS.out.name hlt (Nat.le_refl _))
      have HB2 : Hid (Below base w (wr.setCell ⟨g, k * 2, none⟩ (.string (nm ++ ⟨#[120]⟩)))) := Lib.hid (HB.out.setCell HG.out _)
      have a0 : (0 : Int) ≤ k := by omega
      have a1 : (k : Int) < n := by omega
      have hkw : IntKind.i64.wrap ((k : Int) + 1) = (k : Int) + 1 := by rw [IntKind.wrap_i64]; omega
      have HC1 : Hid ((wr.setCell ⟨g, k * 2, none⟩ (.string (nm ++ ⟨#[120]⟩))).cell? ⟨g, k * 2 + 1, none⟩ = some (.slice mo ml mc)) := Lib.hid (by rw [World.cell?_setCell_other wr _ _ _ (fun e => by have := congrArg Addr.off e; simp at this)]; exact c1)
      have hml' : ml ≤ 9223372036854775807 := by unfold maxLen at hml; omega
      go_wp2_with fail
      obtain ⟨w4, hw4⟩ : ∃ w4, w4 = wr.setCell ⟨g, k * 2, none⟩ (.string (nm ++ ⟨#[120]⟩)) := ⟨_, rfl⟩
      rw [← hw4] at HS2 HB2 HC1 ⊢
      clear c0 c1 f0 hnl hnl2 hw4 HS HB hml
      go_loopw [23] (fun t wx => ∃ m : Nat, m ≤ ml ∧ t = .int .i64 m ∧ Shp base wx g n (k + 1) ∧ Below base w wx ∧ wx.cell? ⟨g, k * 2 + 1, none⟩ = some (.slice mo ml mc)) (fun t _ => ml - (intOf t).toNat)
      case atStart => exact ⟨0, Nat.zero_le _, rfl, HS2.out, HB2.out, HC1.out⟩
      case round =>
        obtain ⟨m, hm, rfl, hsx, hBx, cx⟩ := hrel
        have HSX := Lib.hid hsx
        have HBX := Lib.hid hBx
        by_cases hmt : m < ml
        · obtain ⟨_, mo2, ml2, mc2, -, -, -, d1, -, d2⟩ := hsx k hlt
          obtain ⟨rfl, rfl, rfl⟩ : mo2 = mo ∧ ml2 = ml ∧ mc2 = mc := by
            rw [cx] at d1
            cases d1
            exact ⟨rfl, rfl, rfl⟩
          obtain ⟨b, q, rfl, hbb, hbg, e0, fe⟩ := d2 m hmt
          have b0 : (0 : Int) ≤ m := by omega
          have b1 : (m : Int) < ml2 := by omega
          have hmw : IntKind.i64.wrap ((m : Int) + 1) = (m : Int) + 1 := by rw [IntKind.wrap_i64]; omega
          have HST : Hid (∀ q' : Int, Shp base (wr.setCell ⟨b, m * 4 + 2, none⟩ (.int .i64 q')) g n (k + 1) ∧ Below base w (wr.setCell ⟨b, m * 4 + 2, none⟩ (.int .i64 q')) ∧ (wr.setCell ⟨b, m * 4 + 2, none⟩ (.int .i64 q')).cell? ⟨g, k * 2 + 1, none⟩ = some (.slice (some ⟨b, 0, none⟩) ml2 mc2)) := Lib.hid (fun q' => ⟨HSX.out.qty hbg e0, HBX.out.setCell hbb _, by rw [World.cell?_setCell_other wr _ _ _ (fun e => hbg (congrArg Addr.block e))]; exact cx⟩)
          clear hsx hBx d1 d2
          go_wp2_with fail
          go_roundw
          case rel => exact ⟨m + 1, by omega, by go_num, (HST.out _).1, (HST.out _).2.1, (HST.out _).2.2⟩
          case measure => simp [intOf]; omega
        · clear hsx hBx
          go_wp2_with fail
          go_roundw
          case rel => exact ⟨k + 1, by omega, by go_num, HSX.out, HBX.out⟩
          case measure => simp [intOf]; omega
    · go_wp2_with fail
      refine bodyPost_end (results_none rfl _ _ _) rfl ?_
      exact ⟨rfl, HB.out⟩
end Go.Proofs.YtjlhdgmcaiiagaaGreatDoor
