/- ShareHolds walked: true for all calls, wherever the table of rows lies. -/
import Derived.Test.YtdeljhehcjknbaaDoorS16
import Derived.Test.YtdeljhehcjknbaaDoorS20
import Derived.Test.YtdeljhehcjknbaaDoorS21
import Derived.Test.YtdeljhehcjknbaaDoorS23
import Derived.Deep.CutRange
import Derived.Deep.RegionHeld3
namespace Go.Proofs.YtdeljhehcjknbaaDoor
open Go.RowKit Go.Maps Go.Sort

set_option maxRecDepth 100000 in
set_option maxHeartbeats 4000000 in
theorem holds_in (l : List ActR) (v : Value) (cart : ByteArray) (w : World) (hR : RowsLie w) (hv : ActsIs w v l) (hf : ∀ a ∈ l, a.fits) (h60 : l.length ≤ 60) (h100 : cart.size ≤ 100) :
    Calls Tryd.prog 5 #[v, .string cart] w fun e w' => e = .returned (.bool true) ∧ Below w.heap.size w w' := by
  obtain ⟨o, cap, rfl, _, hacts⟩ := hv
  have HR := Lib.hid hR
  have HA := Lib.hid hacts
  have HF := Lib.hid hf
  have h0 : 0 < w.heap.size := by obtain ⟨C, tt, fz, h1, _⟩ := hR; exact lt_of_heap h1
  clear hR hacts hf
  go_enter Tryd.func5, Tryd.ntmps5
  go_wp2_with fail
  go_loopw [6] (fun i wr => ∃ k : Nat, k ≤ l.length ∧ i = .int .i64 k ∧ (∃ A, Own (fun k => w.heap.size ≤ k) wr w.heap.size A) ∧ Below w.heap.size w wr) (fun i _ => l.length - (intOf i).toNat)
  case atStart => exact ⟨0, Nat.zero_le _, rfl, ⟨[], Own.new w _ (fun k h => h)⟩, (Below.refl _ _).alloc (Nat.le_refl _) _⟩
  case round =>
    obtain ⟨k, hk, rfl, ⟨A, hO⟩, hB⟩ := hrel
    have hsz := hB.size
    have HO := Lib.hid hO
    have HB := Lib.hid hB
    clear hO hB
    by_cases hlt : k < l.length
    · obtain ⟨b, off, rfl, hb, hcells⟩ := HA.out k hlt
      have hk0 : (0 : Int) ≤ k := by omega
      have hk1 : (k : Int) < l.length := by omega
      have hcw : ∀ j, j < 11 → wr.cell? ⟨b, off + k * 11 + j, none⟩ = l[k].cells[j]? := fun j hj => by
        rw [← hcells j hj]; unfold World.cell?; rw [HB.out.block b hb]
      have hfit := HF.out l[k] (List.getElem_mem hlt)
      clear hcells
      generalize l[k] = a at *
      obtain ⟨what, by_, crt, who, right, op, key, other, item, qty, da, dl, dc⟩ := a
      have c0 := hcw 0 (by omega)
      have c1 := hcw 1 (by omega)
      have c2 := hcw 2 (by omega)
      have c3 := hcw 3 (by omega)
      have c4 := hcw 4 (by omega)
      have c5 := hcw 5 (by omega)
      have c6 := hcw 6 (by omega)
      have c7 := hcw 7 (by omega)
      have c8 := hcw 8 (by omega)
      have c9 := hcw 9 (by omega)
      have c10 := hcw 10 (by omega)
      simp only [ActR.cells, CallR.cells, List.cons_append, List.nil_append, List.getElem?_cons_zero, List.getElem?_cons_succ, Nat.add_zero] at c0 c1 c2 c3 c4 c5 c6 c7 c8 c9 c10
      clear hcw
      have HS := Lib.hid (fun w0 => short_any ⟨what, by_, crt, who, right, op, key, other, item, qty, da, dl, dc⟩ w0 hfit)
      unfold ActR.val at HS
      simp only at HS
      go_wp2_with fail
      refine (HS.out _).mono ?_
      rintro e w1 ⟨rfl, hb1⟩
      obtain ⟨hcl, hfr⟩ := bcell hb1
      have hz1 : wr.heap.size < w1.heap.size := by have := hb1.size; simp at this; omega
      have d0 : w1.cell? ⟨wr.heap.size, 0, none⟩ = some (.int .i64 what) := by rw [hb1.cell (p := ⟨_, _, _⟩) (by simp)]; go_simp
      have d1 : w1.cell? ⟨wr.heap.size, 1, none⟩ = some (.string by_) := by rw [hb1.cell (p := ⟨_, _, _⟩) (by simp)]; go_simp
      have d2 : w1.cell? ⟨wr.heap.size, 2, none⟩ = some (.string crt) := by rw [hb1.cell (p := ⟨_, _, _⟩) (by simp)]; go_simp
      have d3 : w1.cell? ⟨wr.heap.size, 3, none⟩ = some (.string who) := by rw [hb1.cell (p := ⟨_, _, _⟩) (by simp)]; go_simp
      have d4 : w1.cell? ⟨wr.heap.size, 4, none⟩ = some (.int .i64 right) := by rw [hb1.cell (p := ⟨_, _, _⟩) (by simp)]; go_simp
      have d5 : w1.cell? ⟨wr.heap.size, 5, none⟩ = some (.int .i64 op) := by rw [hb1.cell (p := ⟨_, _, _⟩) (by simp)]; go_simp
      have d6 : w1.cell? ⟨wr.heap.size, 6, none⟩ = some (.string key) := by rw [hb1.cell (p := ⟨_, _, _⟩) (by simp)]; go_simp
      have d7 : w1.cell? ⟨wr.heap.size, 7, none⟩ = some (.string other) := by rw [hb1.cell (p := ⟨_, _, _⟩) (by simp)]; go_simp
      have d8 : w1.cell? ⟨wr.heap.size, 8, none⟩ = some (.string item) := by rw [hb1.cell (p := ⟨_, _, _⟩) (by simp)]; go_simp
      have d9 : w1.cell? ⟨wr.heap.size, 9, none⟩ = some (.int .i64 qty) := by rw [hb1.cell (p := ⟨_, _, _⟩) (by simp)]; go_simp
      have d10 : w1.cell? ⟨wr.heap.size, 10, none⟩ = some (.slice da dl dc) := by rw [hb1.cell (p := ⟨_, _, _⟩) (by simp)]; go_simp
      have HBW := Lib.hid (((Below.refl wr.heap.size wr).alloc (Nat.le_refl _) (.cells #[.int .i64 what, .string by_, .string crt, .string who, .int .i64 right, .int .i64 op, .string key, .string other, .string item, .int .i64 qty, .slice da dl dc] 29)).trans (hb1.mono (by simp)))
      have HB1 := Lib.hid (HB.out.trans (((Below.refl wr.heap.size wr).alloc (Nat.le_refl _) (.cells #[.int .i64 what, .string by_, .string crt, .string who, .int .i64 right, .int .i64 op, .string key, .string other, .string item, .int .i64 qty, .slice da dl dc] 29)).trans (hb1.mono (by simp)) |>.mono hsz))
      have HO1 := Lib.hid ((HO.out.below ((Below.refl wr.heap.size wr).alloc (Nat.le_refl _) (.cells #[.int .i64 what, .string by_, .string crt, .string who, .int .i64 right, .int .i64 op, .string key, .string other, .string item, .int .i64 qty, .slice da dl dc] 29))).below hb1)
      clear hcl hfr hb1 c0 c1 c2 c3 c4 c5 c6 c7 c8 c9 c10 HS
      generalize decide (ActR.short _) = sh
      cases sh
      · have HKN := Lib.hid (known_any w1 (rowsLie_base HR.out HB1.out h0))
        go_wp2_with (go_at_call 9; refine HKN.out.mono ?_; rintro e w6 ⟨rfl, hb6⟩)
        go_ret
        exact ⟨rfl, HB1.out.trans (hb6.mono HB1.out.size)⟩
      · by_cases h0w : what < 0
        · have h0b : decide (what < 0) = true := decide_eq_true h0w
          go_wp2_with fail
          go_roundw
          case rel => exact ⟨k + 1, by omega, by go_num, ⟨A, HO1.out⟩, HB1.out⟩
          case measure => simp [intOf]; omega
        · have h0b : decide (what < 0) = false := decide_eq_false h0w
          by_cases h4w : 4 < what
          · have h4b : decide (4 < what) = true := decide_eq_true h4w
            go_wp2_with fail
            go_roundw
            case rel => exact ⟨k + 1, by omega, by go_num, ⟨A, HO1.out⟩, HB1.out⟩
            case measure => simp [intOf]; omega
          · have h4b : decide (4 < what) = false := decide_eq_false h4w
            have KEEP := Lib.hid (show ∀ wx, Below w1.heap.size w1 wx → (wx.cell? ⟨wr.heap.size, 1, none⟩ = some (.string by_) ∧ wx.cell? ⟨wr.heap.size, 2, none⟩ = some (.string crt) ∧ wx.cell? ⟨wr.heap.size, 3, none⟩ = some (.string who) ∧ Below w1.heap.size w1 wx) from fun wx h => ⟨by rw [h.cell (p := ⟨wr.heap.size, 1, none⟩) hz1]; exact d1, by rw [h.cell (p := ⟨wr.heap.size, 2, none⟩) hz1]; exact d2, by rw [h.cell (p := ⟨wr.heap.size, 3, none⟩) hz1]; exact d3, h⟩)
            have HOW := Lib.hid (fun wx (h : Below w1.heap.size w1 wx) => owner_o (HO1.out.below h) cart)
            have HME := Lib.hid (fun wx (h : Below w1.heap.size w1 wx) => members_o (HO1.out.below h) cart)
            have HRI := Lib.hid (fun wx (h : Below w1.heap.size w1 wx) u v => rights_o (HO1.out.below h) u v)
            have HML := Lib.hid (membersA_len HO1.out cart)
            go_upto_region 11 with fail
            go_cut [8, 9, 10, 11] from 26 to 188 (fun o bf b1 ol wx => o = .string (ownA A cart) ∧ RdL w1.heap.size wx bf 2 (membersA A cart).length (flatM (membersA A cart)) ∧ b1 = .int .i64 (rightsA A by_ crt) ∧ ol = .int .i64 (rightsA A who crt) ∧ Below w1.heap.size w1 wx)
            case first =>
              go_region_held3 (fun wx => wx.cell? ⟨wr.heap.size, 1, none⟩ = some (.string by_) ∧ wx.cell? ⟨wr.heap.size, 2, none⟩ = some (.string crt) ∧ wx.cell? ⟨wr.heap.size, 3, none⟩ = some (.string who) ∧ Below w1.heap.size w1 wx)
                (first | exact KEEP.out _ ((Below.refl _ _).drew) | assumption | exact KEEP.out _ hbk)
                (first | ((go_at_call 19; refine (HOW.out _ (by simp only [*])).mono ?_; rintro e w' ⟨rfl, rfl⟩)) | ((go_at_call 20; refine (HRI.out _ (by simp only [*]) _ _).mono ?_; rintro e w' ⟨rfl, rfl⟩)) | ((go_at_call 18; refine (HME.out _ (by simp only [*])).mono ?_; rintro e w2 ⟨vv, rfl, hrow, hbb⟩; have hbk : Below w1.heap.size w1 w2 := ((Below.refl _ _).drew).trans (hbb.mono (by simp)))))
              go_wp2
              go_meet
              case rel => exact ⟨rfl, (RdL.of_own hrow (by have := HML.out; unfold maxLen; omega)), rfl, rfl, hbk⟩
            case rest =>
              obtain ⟨rfl, hrd, rfl, rfl, hbx⟩ := hcut
              have HCE := Lib.hid (fun j v (h : w1.cell? ⟨wr.heap.size, j, none⟩ = some v) => show wc.cell? ⟨wr.heap.size, j, none⟩ = some v by rw [hbx.cell (p := ⟨wr.heap.size, j, none⟩) hz1]; exact h)
              have e0 := HCE.out _ _ d0
              have e1 := HCE.out _ _ d1
              have e2 := HCE.out _ _ d2
              have e3 := HCE.out _ _ d3
              have e4 := HCE.out _ _ d4
              have e5 := HCE.out _ _ d5
              have e6 := HCE.out _ _ d6
              have e7 := HCE.out _ _ d7
              have e8 := HCE.out _ _ d8
              have e9 := HCE.out _ _ d9
              have e10 := HCE.out _ _ d10
              have hzx : wr.heap.size < wc.heap.size := Nat.lt_of_lt_of_le hz1 hbx.size
              have HBC := Lib.hid (HBW.out.trans (hbx.mono (Nat.le_of_lt hz1)))
              have HOG := Lib.hid (HO.out.gap rfl HBC.out)
              have HRD := Lib.hid hrd
              have HBX := Lib.hid hbx
              clear hrd hbx d0 d1 d2 d3 d4 d5 d6 d7 d8 d9 d10
              have HCA := Lib.hid (calls_o HOG.out (fun k h => Or.inr h) hfit (rowsLie_base HR.out (HB1.out.trans (HBX.out.mono HB1.out.size)) h0))
              unfold ActR.val at HCA
              simp only at HCA
              go_wp2_with fail
              refine HCA.out.mono ?_
              rintro e w3 ⟨rfl, hO3, hK3⟩
              have hz3 : wr.heap.size < w3.heap.size := Nat.lt_of_lt_of_le hzx hK3.size
              have HK0 := Lib.hid (keep_gap hK3)
              have HB3 := Lib.hid (show Below w.heap.size w w3 from (HB1.out.trans (HBX.out.mono HB1.out.size)).trans (hK3.below w.heap.size (Nat.le_trans HB1.out.size HBX.out.size) (fun k hk h => by rcases h with h | h <;> omega)))
              have HO3 := Lib.hid (hO3.mono (G' := fun k => w.heap.size ≤ k) (fun k h => by rcases h with h | h; exact h.1; exact Nat.le_trans (Nat.le_trans HB1.out.size HBX.out.size) h))
              have HRD3 := Lib.hid (HRD.out.across (w' := w3) (fun k h1 h2 => HK0.out k (Nat.le_of_lt (Nat.lt_of_lt_of_le hz1 h1)) h2) hK3.size)
              have HCE3 := Lib.hid (fun (wx : World) (hx : Below w3.heap.size w3 wx) j v (h : wc.cell? ⟨wr.heap.size, j, none⟩ = some v) => show wx.cell? ⟨wr.heap.size, j, none⟩ = some v by
                rw [hx.cell (p := ⟨wr.heap.size, j, none⟩) hz3, World.cell?_of_block (w := wc) (HK0.out wr.heap.size (Nat.le_refl _) hzx)]; exact h)
              have HOW3 := Lib.hid (fun wx (h : Below w3.heap.size w3 wx) c => show Calls Tryd.prog 19 #[.pointer (some ⟨w.heap.size, 0, none⟩), .string c] wx fun e w' => e = .returned (.string (ownA _ c)) ∧ wx = w' from owner_o (HO3.out.below h) c)
              have HME3 := Lib.hid (fun wx (h : Below w3.heap.size w3 wx) => members_o (HO3.out.below h) cart)
              have HRI3 := Lib.hid (fun wx (h : Below w3.heap.size w3 wx) u v => rights_o (HO3.out.below h) u v)
              have HML3 := Lib.hid (membersA_len HO3.out cart)
              have HI := Lib.hid (HO.out.inv)
              have HI3 := Lib.hid (HO3.out.inv)
              have HSAME := Lib.hid (holds_same A ⟨what, by_, crt, who, right, op, key, other, item, qty, da, dl, dc⟩ cart)
              have HNONE := Lib.hid (holds_none (cart := cart) HI3.out)
              have HGONE := Lib.hid (holds_gone (A := A) ⟨what, by_, crt, who, right, op, key, other, item, qty, da, dl, dc⟩ (cart := cart) HI3.out)
              have HGRANT := Lib.hid (holds_grant HI.out ⟨what, by_, crt, who, right, op, key, other, item, qty, da, dl, dc⟩)
              have HPASS := Lib.hid (holds_pass (A := A) ⟨what, by_, crt, who, right, op, key, other, item, qty, da, dl, dc⟩)
              clear hK3 hO3 HCA HRD HK0
              have HF0 := Lib.hid (fun wx h => HCE3.out wx h _ _ e0)
              have HF1 := Lib.hid (fun wx h => HCE3.out wx h _ _ e1)
              have HF2 := Lib.hid (fun wx h => HCE3.out wx h _ _ e2)
              have HF3 := Lib.hid (fun wx h => HCE3.out wx h _ _ e3)
              have HF4 := Lib.hid (fun wx h => HCE3.out wx h _ _ e4)
              clear e0 e1 e2 e3 e4 e5 e6 e7 e8 e9 e10 HCE HCE3
              generalize callA A ⟨what, by_, crt, who, right, op, key, other, item, qty, da, dl, dc⟩ = A' at *
              generalize callE A ⟨what, by_, crt, who, right, op, key, other, item, qty, da, dl, dc⟩ = E at *
              simp only at HSAME HGONE HGRANT HPASS
              iterate 8 (first | go_values | go_skip | go_guarded | go_step | go_upon | go_back | go_simp)
              refine tests13 _ A A' what right E by_ crt who cart w.heap.size wr.heap.size w3 HF0 HF1 HF2 HF3 HF4 HOW3 HME3 HRI3 HML3 HSAME HNONE HGONE HGRANT HPASS HRD3 _ _ _ _ _ _ _ _ _ _ _ _ _ _ _ _ _ _ _ _ _ _ _ _ _ _ _ _ _ _ _ _ _ _ _ _ _ _ _ _ _ _ _ _ _ _ _ _ _ _ _ _ _ _ _ _ _ _ _ _ _ _ _ _ _ _ _ _ _ _ _ _ _ _ _ _ _ _ _ _ _ _ _ _ _ _ _ _ _ _ _ _ _ _ _ _ _ _ _ _ _ _ _ _ _ _ _ _ _ _ _ _ _ _ _ _ _ _ _ _ _ _ _ _ _ _ _ _ _ _ _ _ _ _ _ _ _ _ _ _ _ _ _ _ _ _ _ _ _ _ _ _ _ _ _ _ _ _ _ _ _ _ _ _ _ _ _ _ _ _ _ _ _ _ _ _ _ _ _ _ _ _ _ ?_
              intros
              rename_i wx hbx
              go_wp2_with fail
              go_roundw
              case rel => exact ⟨k + 1, by omega, by go_num, ⟨A', HO3.out.below hbx⟩, HB3.out.trans (hbx.mono HB3.out.size)⟩
              case measure => simp [intOf]; omega
    · have hke : k = l.length := by omega
      subst hke
      have HKN := Lib.hid (known_any wr (rowsLie_base HR.out HB.out h0))
      go_wp2_with (go_at_call 9; refine HKN.out.mono ?_; rintro e w6 ⟨rfl, hb6⟩)
      go_ret
      exact ⟨rfl, HB.out.trans (hb6.mono HB.out.size)⟩
end Go.Proofs.YtdeljhehcjknbaaDoor
