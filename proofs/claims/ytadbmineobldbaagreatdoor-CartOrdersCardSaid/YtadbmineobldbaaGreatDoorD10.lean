/- The reference's answers about a cart: Qty, Units, Dots, Marks, Time; Next; Same of names. -/
import Derived.Test.YtadbmineobldbaaGreatDoorC5
import Derived.Test.YtadbmineobldbaaGreatDoorD4
import Derived.Test.YtadbmineobldbaaGreatDoorDot2
import Derived.Test.YtadbmineobldbaaGreatDoorR9
import Derived.Test.YtadbmineobldbaaGreatDoorIt10
import Derived.Test.YtadbmineobldbaaGreatDoorReg
import Derived.Test.YtadbmineobldbaaGreatDoorR9u
import Derived.Test.YtadbmineobldbaaGreatDoorR11k
set_option linter.unusedSimpArgs false
set_option linter.unusedVariables false
namespace Go.Proofs.YtadbmineobldbaaGreatDoor
open Go.RowKit
def StrS (w : World) (v : Value) (l : List ByteArray) : Prop := ∃ o c, v = .slice o l.length c ∧ l.length ≤ maxLen ∧ ∀ k (h : k < l.length), ∃ b off, o = some ⟨b, off, none⟩ ∧ b < w.heap.size ∧ w.cell? ⟨b, off + k, none⟩ = some (.string l[k])
theorem StrS.below {w w' : World} {v : Value} {l : List ByteArray} (h : StrS w v l) (hb : Below w.heap.size w w') : StrS w' v l := by
 obtain ⟨o, c, e, hn, h⟩ := h;refine ⟨o, c, e, hn, fun k hk => ?_⟩
 obtain ⟨b, off, e1, e2, e3⟩ := h k hk;exact ⟨b, off, e1, Nat.lt_of_lt_of_le e2 hb.size, by rw [hb.cell (p := ⟨_, _, _⟩) e2]; exact e3⟩
theorem StrS.of_row {base : Nat} {w : World} {v : Value} {l : List ByteArray} (h : EStr.Row base w v l) : StrS w v l := by
 have hle := h.le;obtain ⟨a, c, rfl⟩ := h.slice;refine ⟨a, c, rfl, hle, fun k hk => ?_⟩
 obtain ⟨_, ⟨h1, h2⟩ | ⟨g, cap, cur, h1, -⟩⟩ := id h
 ·omega
 ·injection h1 with e1 e2 e3
  subst e1;obtain ⟨hi, -, -⟩ := h.at;refine ⟨g, 0, rfl, hi.gl, ?_⟩;have := hi.cell k hk 0 (by decide)
  rw [show 0 + k = k * EStr.k + 0 by show 0 + k = k * 1 + 0; omega, this]
  rfl
end Go.Proofs.YtadbmineobldbaaGreatDoor
set_option linter.unusedSimpArgs false
set_option linter.unusedVariables false
set_option maxRecDepth 100000
set_option maxHeartbeats 8000000
namespace Go.Proofs.YtadbmineobldbaaGreatDoor
open Go.RowKit Go.Maps

end Go.Proofs.YtadbmineobldbaaGreatDoor
set_option linter.unusedSimpArgs false
set_option linter.unusedVariables false
set_option maxRecDepth 100000
set_option maxHeartbeats 8000000
namespace Go.Proofs.YtadbmineobldbaaGreatDoor
open Go.RowKit Go.Maps Go.Sort Go.Shelf

theorem cartAt {w : World} {c : CartD} {v1 v2 v3 : Value} (h : CartA w v1 v2 v3 c) : ∃ o1 n1 k1 o2 n2 k2 o3 n3 k3, v1 = .slice o1 n1 k1 ∧ v2 = .slice o2 n2 k2 ∧ v3 = .slice o3 n3 k3 ∧ n3 = c.items.length ∧ n3 ≤ 9223372036854775807 ∧ CartA w (.slice o1 n1 k1) (.slice o2 n2 k2) (.slice o3 n3 k3) c ∧ ∀ i (hi : i < c.items.length), ∃ b off mo mc, o3 = some ⟨b, off, none⟩ ∧ b < w.heap.size ∧ w.cell? ⟨b, off + i * 2, none⟩ = some (.string c.items[i].name) ∧ w.cell? ⟨b, off + i * 2 + 1, none⟩ = some (.slice mo c.items[i].marks.length mc) ∧ c.items[i].name.size ≤ maxLen ∧ Arr MarkR 4 w (.slice mo c.items[i].marks.length mc) c.items[i].marks := by
 have hl := h.2.2.len;obtain ⟨o3', k3', e3', hel⟩ := h.2.2.itemAt;obtain ⟨o1, n1, k1, o2, n2, k2, o3, n3, k3, rfl, rfl, rfl, hn1, hn2, hn3⟩ := opn4 h;refine ⟨_, _, _, _, _, _, _, _, _, rfl, rfl, rfl, hn3, by omega, h, fun i hi => ?_⟩
 obtain ⟨b, off, mv, e, hb, e0, e1, hs, hm⟩ := hel i hi;obtain ⟨mo, mc, rfl⟩ := hm.slice;exact ⟨b, off, mo, mc, by injection e3' with e3; rw [e3, e], hb, e0, e1, hs, hm⟩
theorem r7Same_any (l m : List ByteArray) (v u : Value) (w : World) (h : StrS w v l) (h2 : StrS w u m) : Calls Tryz.prog 24 #[v, u] w fun e w' => e = .returned (.bool (decide (l = m))) ∧ Below w.heap.size w w' := by
 obtain ⟨o, c, rfl, hn, hel⟩ := h;obtain ⟨o2, c2, rfl, hn2, hel2⟩ := h2;have HEL := Hd hel;have HEL2 := Hd hel2;clear hel hel2
 by_cases hll : l.length = m.length
 ·have tl : ((l.length : Int) != m.length) = false := by simp [hll]
  have tl2 : ((l.length : Int) == m.length) = true := by simp [hll]
  go_enter Tryz.func24, Tryz.ntmps24
  go_wp2_with fail
  go_loopw [5] (fun i wr => ∃ k : Nat, k ≤ l.length ∧ i = .int .i64 k ∧ l.take k = m.take k ∧ Below w.heap.size w wr) (fun i _ => l.length - (intOf i).toNat)
  case atStart => exact ⟨0, Nat.zero_le _, rfl, by simp, Below.refl _ _⟩
  case round =>
   obtain ⟨k, hk, rfl, htk, hB⟩ := hrel;have HTK := Hd htk;have HB := Hd hB;clear htk hB
   by_cases hlt : k < l.length
   ·have hlt2 : k < m.length := by omega
    obtain ⟨b, off, rfl, hbl, e0⟩ := HEL.out k hlt;obtain ⟨b2, off2, rfl, hbl2, f0⟩ := HEL2.out k hlt2;have c0 : wr.cell? ⟨b, off + k, none⟩ = some (.string l[k]) := by rw [HB.out.cell (p := ⟨_, _, _⟩) hbl]; exact e0
    have d0 : wr.cell? ⟨b2, off2 + k, none⟩ = some (.string m[k]) := by rw [HB.out.cell (p := ⟨_, _, _⟩) hbl2]; exact f0
    have HSN : Hid (l[k] = m[k] → l.take (k + 1) = m.take (k + 1)) := Hd (fun he => take_snoc_eq hlt hlt2 HTK.out he)
    have HNE : Hid (l = m → l[k] = m[k]) := Hd (fun e => by subst e; rfl)
    have hse := strDec l[k] m[k];generalize l[k] = x at *
    generalize m[k] = y at *
    have a0 : (0 : Int) ≤ k := by omega
    have a1 : (k : Int) < l.length := by omega
    have hkw := wr1 k (by unfold maxLen at hn; omega)
    have a2 : (k : Int) < m.length := by omega
    clear e0 f0 HTK
    by_cases hxy : x = y
    ·rw [decide_eq_true hxy] at hse
     have HF := Hd (HSN.out hxy);clear HSN HNE hxy
     go_upto_region 6 with fail
     go_quiet (fail)
     go_wp2_with fail
     go_roundw
     case rel => exact ⟨k + 1, by omega, by go_num, HF.out, below_drewN _ HB.out⟩
     case measure => simp [intOf]; omega
    ·rw [decide_eq_false hxy] at hse
     have HF : Hid (decide (l = m) = false) := Hd (decide_eq_false (fun e => hxy (HNE.out e)))
     clear HSN HNE hxy
     go_upto_region 6 with fail
     go_quiet (fail)
     go_wp2_with fail
     go_ret
     exact ⟨by rw [HF.out]; rfl, below_drewN _ HB.out⟩
   ·have hke : k = l.length := by omega
    have HF : Hid (decide (l = m) = true) := Hd (decide_eq_true (take_eq_of hll hke HTK.out));clear HTK
    go_wp2_with fail
    go_ret
    exact ⟨by rw [HF.out]; rfl, HB.out⟩
 ·have tl : ((l.length : Int) != m.length) = true := by simp; omega
  have tl2 : ((l.length : Int) == m.length) = false := by simp; omega
  have HF : Hid (decide (l = m) = false) := Hd (decide_eq_false (fun e => hll (by rw [e])))
  go_enter Tryz.func24, Tryz.ntmps24
  go_wp2_with fail
  go_ret
  exact ⟨by rw [HF.out]; rfl, Below.refl _ _⟩
end Go.Proofs.YtadbmineobldbaaGreatDoor
