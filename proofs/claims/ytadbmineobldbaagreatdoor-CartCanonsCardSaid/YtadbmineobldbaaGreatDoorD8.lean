/- Law 10's spoil: a cart of one's own is changed, nothing else. -/
import Derived.Test.YtadbmineobldbaaGreatDoorC17
import Derived.Test.YtadbmineobldbaaGreatDoorCart
import Derived.Test.YtadbmineobldbaaGreatDoorGrow
set_option linter.unusedSimpArgs false
set_option linter.unusedVariables false
set_option maxRecDepth 100000
set_option maxHeartbeats 4000000
namespace Go.Proofs.YtadbmineobldbaaGreatDoor
open Go.RowKit Go.Maps Go.Sort Go.Shelf

theorem ne_box {w : World} {b t p n1 n2 n3 c1 c2 c3 : Nat} {o1 o2 o3 : Option Addr} {q : Int} {T : TypeId} (h : w.heap[p]? = some (.cells #[.slice o1 n1 c1, .slice o2 n2 c2, .slice o3 n3 c3] T)) (h0 : w.cell? ⟨b, t, none⟩ = some (.int .i64 q)) : b ≠ p := by
 intro e;subst e;have h1 := cell0 h t;rw [h0] at h1
 rcases t with _ | _ | _ | t <;> simp at h1
structure SpoilR (base : Nat) (w : World) (o1 o2 o3 : Option Addr) (n1 n2 n3 c1 c2 c3 g k0 : Nat) (wx : World) : Prop where
 d1 : ShpD base wx o1 n1
 d2 : ShpD base wx o2 n2
 it : Shp base wx g n3 k0
 be : Below base w wx
 bx : wx.heap[w.heap.size]? = some (.cells #[.slice o1 n1 c1, .slice o2 n2 c2, .slice o3 n3 c3] 28)
theorem SpoilR.int {base : Nat} {w : World} {o1 o2 o3 : Option Addr} {n1 n2 n3 c1 c2 c3 g k0 b t : Nat} {wx : World} {q0 : Int} (h : SpoilR base w o1 o2 o3 n1 n2 n3 c1 c2 c3 g k0 wx) (hb : base ≤ b) (hg : n3 = 0 ∨ b ≠ g) (h0 : wx.cell? ⟨b, t, none⟩ = some (.int .i64 q0)) (q : Int) : SpoilR base w o1 o2 o3 n1 n2 n3 c1 c2 c3 g k0 (wx.setCell ⟨b, t, none⟩ (.int .i64 q)) := by
 have hne := ne_box h.bx h0;refine ⟨h.d1.int h0, h.d2.int h0, ?_, h.be.setCell hb _, ?_⟩
 ·rcases hg with rfl | hg
  ·intro i hi; omega
  ·exact h.it.qty hg h0
 ·rw [setCell_other (by first | exact hne | exact hne.symm)]; exact h.bx
theorem ne_boxs {w : World} {b t p n1 n2 n3 c1 c2 c3 : Nat} {o1 o2 o3 : Option Addr} {s : ByteArray} {T : TypeId} (h : w.heap[p]? = some (.cells #[.slice o1 n1 c1, .slice o2 n2 c2, .slice o3 n3 c3] T)) (h0 : w.cell? ⟨b, t, none⟩ = some (.string s)) : b ≠ p := by
 intro e;subst e;have h1 := cell0 h t;rw [h0] at h1
 rcases t with _ | _ | _ | t <;> simp at h1
theorem ShpD.str {base n g i : Nat} {o : Option Addr} {w : World} {s : ByteArray} (h : ShpD base w o n) : ShpD base (w.setCell ⟨g, i * 2, none⟩ (.string s)) o n := by
 intro j hj;obtain ⟨b, q, e1, e2, e3, e4⟩ := h j hj;exact ⟨b, q, e1, e2, by rw [World.cell?_setCell_other w _ _ _ (fun e => by have := congrArg Addr.off e; simp at this; omega)]; exact e3, by rw [World.frozen?_setCell]; exact e4⟩
theorem SpoilR.name {base : Nat} {w : World} {o1 o2 o3 : Option Addr} {n1 n2 n3 c1 c2 c3 g k0 i : Nat} {wx : World} {s0 : ByteArray} (h : SpoilR base w o1 o2 o3 n1 n2 n3 c1 c2 c3 g k0 wx) (hb : base ≤ g) (hi : i < n3) (hk : i ≤ k0) (h0 : wx.cell? ⟨g, i * 2, none⟩ = some (.string s0)) (s : ByteArray) : SpoilR base w o1 o2 o3 n1 n2 n3 c1 c2 c3 g (k0 + 1) (wx.setCell ⟨g, i * 2, none⟩ (.string s)) := by
 have hne := ne_boxs h.bx h0;refine ⟨h.d1.str, h.d2.str, h.it.name hi hk, h.be.setCell hb _, ?_⟩;rw [setCell_other (by first | exact hne | exact hne.symm)]; exact h.bx
end Go.Proofs.YtadbmineobldbaaGreatDoor
set_option linter.unusedSimpArgs false
set_option linter.unusedVariables false
set_option maxRecDepth 100000
set_option maxHeartbeats 4000000
namespace Go.Proofs.YtadbmineobldbaaGreatDoor
open Go.RowKit Go.Maps Go.Sort Go.Shelf

theorem l10spoil_any (base : Nat) (o1 o2 o3 : Option Addr) (n1 n2 n3 c1 c2 c3 g k0 : Nat) (w : World) (h1 : ShpD base w o1 n1) (h2 : ShpD base w o2 n2) (h3 : Shp base w g n3 k0) (ho : n3 = 0 ∨ o3 = some ⟨g, 0, none⟩)
  (hg1 : n3 = 0 ∨ ∀ b, o1 = some ⟨b, 0, none⟩ → b ≠ g) (hg2 : n3 = 0 ∨ ∀ b, o2 = some ⟨b, 0, none⟩ → b ≠ g) (hbs : base ≤ w.heap.size) (hbg : base ≤ g) (hk0 : k0 = 0) (l1 : n1 ≤ maxLen) (l2 : n2 ≤ maxLen) (l3 : n3 ≤ maxLen) :
  Calls Tryz.prog 15 #[.agg #[.slice o1 n1 c1, .slice o2 n2 c2, .slice o3 n3 c3]] w fun e w' => e = .returned (.tuple #[]) ∧ Below base w w' := by
 subst hk0;have m1 : n1 ≤ 9223372036854775807 := by unfold maxLen at l1; omega
 have m2 : n2 ≤ 9223372036854775807 := by unfold maxLen at l2; omega
 have m3 : n3 ≤ 9223372036854775807 := by unfold maxLen at l3; omega
 obtain ⟨W1, HW, HB, HS, HK0⟩ := box1 w #[.slice o1 n1 c1, .slice o2 n2 c2, .slice o3 n3 c3] 28;have HR0 : Hid (SpoilR base w o1 o2 o3 n1 n2 n3 c1 c2 c3 g 0 W1) := Hd ⟨h1.below HB.out, h2.below HB.out, h3.below HB.out, HB.out.mono hbs, HK0.out W1 brf⟩;obtain ⟨x0, x1, x2⟩ := cel3 (HK0.out W1 brf);have HG1 := Hd hg1;have HG2 := Hd hg2;have HO := Hd ho;have HBG := Hd hbg;clear h1 h2 h3 hg1 hg2 ho l1 l2 l3 hbs hbg
 go_enter Tryz.func15, Tryz.ntmps15
 go_wp2_with fail
 rw [← HW.out]
 go_wp2_with fail
 go_loopw [10] (fun i wr => ∃ k : Nat, k ≤ n1 ∧ i = .int .i64 k ∧ SpoilR base w o1 o2 o3 n1 n2 n3 c1 c2 c3 g 0 wr) (fun i _ => n1 - (intOf i).toNat)
 case atStart => exact ⟨0, Nat.zero_le _, rfl, HR0.out⟩
 case round =>
  obtain ⟨k, hk, rfl, hr⟩ := hrel;clear x0 x1 x2;obtain ⟨x0, x1, x2⟩ := cel3 hr.bx
  by_cases hlt : k < n1
  ·obtain ⟨b, q, rfl, hbb, e0, f0⟩ := hr.d1 k hlt
   have a0 : (0 : Int) ≤ k := by omega
   have a1 : (k : Int) < n1 := by omega
   have hkw : IntKind.i64.wrap ((k : Int) + 1) = (k : Int) + 1 := by rw [IntKind.wrap_i64]; omega
   have HST := Hd (hr.int hbb (HG1.out.imp id (fun h => h _ rfl)) e0)
   clear hr
   go_wp2_with fail
   go_roundw
   case rel => exact ⟨k + 1, by omega, by go_num, HST.out _⟩
   case measure => simp [intOf]; omega
  ·have HR1 := Hd hr
   clear hr;have a1 : ¬ (k : Int) < n1 := by omega
   go_wp2_with fail
   obtain ⟨wa, hwa⟩ : ∃ wa, wa = wr := ⟨_, rfl⟩
   go_loopw [28] (fun i wy => ∃ k : Nat, k ≤ n2 ∧ i = .int .i64 k ∧ SpoilR base w o1 o2 o3 n1 n2 n3 c1 c2 c3 g 0 wy) (fun i _ => n2 - (intOf i).toNat)
   case atStart => exact ⟨0, Nat.zero_le _, rfl, HR1.out⟩
   case round =>
    obtain ⟨k, hk, rfl, hr⟩ := hrel;clear x0 x1 x2;obtain ⟨x0, x1, x2⟩ := cel3 hr.bx
    by_cases hlt : k < n2
    ·obtain ⟨b, q, rfl, hbb, e0, f0⟩ := hr.d2 k hlt
     have a0 : (0 : Int) ≤ k := by omega
     have a1 : (k : Int) < n2 := by omega
     have hkw : IntKind.i64.wrap ((k : Int) + 1) = (k : Int) + 1 := by rw [IntKind.wrap_i64]; omega
     have HST := Hd (hr.int hbb (HG2.out.imp id (fun h => h _ rfl)) e0)
     clear hr
     go_wp2_with fail
     go_roundw
     case rel => exact ⟨k + 1, by omega, by go_num, HST.out _⟩
     case measure => simp [intOf]; omega
    ·have HR2 := Hd hr
     clear hr;have a1 : ¬ (k : Int) < n2 := by omega
     go_wp2_with fail
     obtain ⟨wb, hwb⟩ : ∃ wb, wb = wr := ⟨_, rfl⟩
     go_loopw [45] (fun i wr => ∃ k : Nat, k ≤ n3 ∧ i = .int .i64 k ∧ SpoilR base w o1 o2 o3 n1 n2 n3 c1 c2 c3 g k wr) (fun i _ => n3 - (intOf i).toNat)
     case atStart => exact ⟨0, Nat.zero_le _, rfl, HR2.out⟩
     case round =>
      obtain ⟨k, hk, rfl, hr⟩ := hrel;clear x0 x1 x2;obtain ⟨x0, x1, x2⟩ := cel3 hr.bx
      by_cases hlt : k < n3
      ·obtain rfl : o3 = some ⟨g, 0, none⟩ := by
        rcases HO.out with h | h
        ·omega
        ·exact h
       obtain ⟨nm, mo, ml, mc, e0, hnl, f0, e1, hml, -⟩ := hr.it k hlt;have hnl2 := hnl (Nat.le_refl _);have a0 : (0 : Int) ≤ k := by omega
       have a1 : (k : Int) < n3 := by omega
       have hkw : IntKind.i64.wrap ((k : Int) + 1) = (k : Int) + 1 := by rw [IntKind.wrap_i64]; omega
       have HR3 : Hid (SpoilR base w o1 o2 (some ⟨g, 0, none⟩) n1 n2 n3 c1 c2 c3 g (k + 1) (wr.setCell ⟨g, k * 2, none⟩ (.string (nm ++ ⟨#[120]⟩)))) := Hd (hr.name HBG.out hlt (Nat.le_refl _) e0 _);have HC1 : Hid ((wr.setCell ⟨g, k * 2, none⟩ (.string (nm ++ ⟨#[120]⟩))).cell? ⟨g, k * 2 + 1, none⟩ = some (.slice mo ml mc)) := Hd (by rw [World.cell?_setCell_other wr _ _ _ (fun e => by have := congrArg Addr.off e; simp at this)]; exact e1)
       have hml' : ml ≤ 9223372036854775807 := by unfold maxLen at hml; omega
       have HX := Hd (cel3 HR3.out.bx);clear hr hnl;obtain ⟨y0, y1, y2⟩ := HX.out;have hc1 := HC1.out
       go_wp2_with fail
       obtain ⟨w4, hw4⟩ : ∃ w4, w4 = wr.setCell ⟨g, k * 2, none⟩ (.string (nm ++ ⟨#[120]⟩)) := ⟨_, rfl⟩;rw [← hw4] at HR3 HC1 ⊢;clear e0 e1 f0 hnl2 hw4 hml HX y0 y1 y2 hc1 x0 x1 x2
       go_loopw [64] (fun t wx => ∃ m : Nat, m ≤ ml ∧ t = .int .i64 m ∧ SpoilR base w o1 o2 (some ⟨g, 0, none⟩) n1 n2 n3 c1 c2 c3 g (k + 1) wx ∧ wx.cell? ⟨g, k * 2 + 1, none⟩ = some (.slice mo ml mc)) (fun t _ => ml - (intOf t).toNat)
       case atStart => exact ⟨0, Nat.zero_le _, rfl, HR3.out, HC1.out⟩
       case round =>
        obtain ⟨m, hm, rfl, hr, cx⟩ := hrel;obtain ⟨x0, x1, x2⟩ := cel3 hr.bx
        by_cases hmt : m < ml
        ·obtain ⟨_, mo2, ml2, mc2, -, -, -, d1, -, d2⟩ := hr.it k hlt
         obtain ⟨rfl, rfl, rfl⟩ : mo2 = mo ∧ ml2 = ml ∧ mc2 = mc := by
          rw [cx] at d1
          cases d1
          exact ⟨rfl, rfl, rfl⟩
         obtain ⟨b, q, rfl, hbb, hbg, e0, fe⟩ := d2 m hmt;have b0 : (0 : Int) ≤ m := by omega
         have b1 : (m : Int) < ml2 := by omega
         have hmw : IntKind.i64.wrap ((m : Int) + 1) = (m : Int) + 1 := by rw [IntKind.wrap_i64]; omega
         have HST := Hd (fun q' : Int => And.intro (hr.int hbb (Or.inr hbg) e0 q') (show (wr.setCell ⟨b, m * 4 + 2, none⟩ (.int .i64 q')).cell? ⟨g, k * 2 + 1, none⟩ = some (.slice (some ⟨b, 0, none⟩) ml2 mc2) from by rw [World.cell?_setCell_other wr _ _ _ (fun e => by first | exact hbg (congrArg Addr.block e) | exact hbg (congrArg Addr.block e).symm)]; exact cx))
         clear hr d1 d2
         go_wp2_with fail
         go_roundw
         case rel => exact ⟨m + 1, by omega, by go_num, (HST.out _).1, (HST.out _).2⟩
         case measure => simp [intOf]; omega
        ·have HRX := Hd hr
         have b1 : ¬ (m : Int) < ml := by omega
         clear hr
         go_wp2_with fail
         go_roundw
         case rel => exact ⟨k + 1, by omega, by go_num, HRX.out⟩
         case measure => simp [intOf]; omega
      ·have a1 : ¬ (k : Int) < n3 := by omega
       have HBE := Hd hr.be;clear hr
       go_wp2_with fail
       refine bodyPost_end (results_none rfl _ _ _) rfl ?_;exact ⟨rfl, HBE.out⟩
theorem OwnC.cartD {base : Nat} {w w0 : World} {x1 x2 x3 v1 v2 v3 : Value} {c : CartD} (h : OwnC base w x1 x2 x3 c) (g : CartA w0 v1 v2 v3 c) : CartA w x1 x2 x3 c := by
 obtain ⟨h1, h2, ps, h3, h4⟩ := h;exact ⟨h1.dots g.1.dotsI, h2.dots g.2.1.dotsI, by rw [← h3]; exact h4.arr⟩
theorem spoil_own10 {base : Nat} {w : World} {x1 x2 x3 : Value} {c : CartD} (h : OwnC base w x1 x2 x3 c) (hn : ∀ x ∈ c.items, x.name.size ≤ 100) (hb : base ≤ w.heap.size) : Calls Tryz.prog 15 #[.agg #[x1, x2, x3]] w fun e w' => e = .returned (.tuple #[]) ∧ Below base w w' := by
 obtain ⟨h1, h2, ps, h3, h4⟩ := h;have hap1 : ∀ b n c1, x1 = .slice (some ⟨b, 0, none⟩) n c1 → ∀ g n3 c3, x3 = .slice (some ⟨g, 0, none⟩) n3 c3 → b ≠ g := fun b n c1 e1 g n3 c3 e3 e => by
  have := rows_apart h1 h4.1 (by decide) b (by rw [e1]; rfl)
  rw [e3, e] at this;exact this rfl
 have hap2 : ∀ b n c1, x2 = .slice (some ⟨b, 0, none⟩) n c1 → ∀ g n3 c3, x3 = .slice (some ⟨g, 0, none⟩) n3 c3 → b ≠ g := fun b n c1 e1 g n3 c3 e3 e => by
  have := rows_apart h2 h4.1 (by decide) b (by rw [e1]; rfl)
  rw [e3, e] at this;exact this rfl
 have l1 := h1.le;have l2 := h2.le;obtain ⟨o1, c1, rfl, s1⟩ := h1.shpD;obtain ⟨o2, c2, rfl, s2⟩ := h2.shpD;obtain ⟨o3, c3, g, rfl, ho, hg, hle, hsh⟩ := h4.shp (fun p hp => Nat.le_trans (hn _ (by rw [← h3]; exact List.mem_map_of_mem hp)) (by decide))
 refine l10spoil_any base o1 o2 o3 _ _ _ c1 c2 c3 g 0 w s1 s2 hsh ho ?_ ?_ hb hg rfl l1 l2 hle
 ·rcases ho with e | e
  ·exact Or.inl e
  ·exact Or.inr (fun b e1 => hap1 b _ _ (by rw [e1]) g _ _ (by rw [e]))
 ·rcases ho with e | e
  ·exact Or.inl e
  ·exact Or.inr (fun b e1 => hap2 b _ _ (by rw [e1]) g _ _ (by rw [e]))
end Go.Proofs.YtadbmineobldbaaGreatDoor
