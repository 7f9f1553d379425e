/- Model.do walked for Pass: for every model of the shape of S27. -/
import Derived.Test.YtdeljhehcjknbaaDoorS37
namespace Go.Proofs.YtdeljhehcjknbaaDoor
open Go.RowKit Go.Maps Go.Sort Go.Lib

set_option maxRecDepth 100000 in
set_option maxHeartbeats 8000000 in
theorem do_pass {G : Nat → Prop} {w : World} {b : Nat} {A : List APg} (by_ crt who : ByteArray) (right op : Int) (key other item : ByteArray) (qty : Int) (da : Option Addr) (dl dc : Nat) (hM : ModelIs G w b A) (hO : Okay (passA A by_ crt who)) (h1 : by_.size ≤ maxLen) (h2 : crt.size ≤ maxLen) (h3 : who.size ≤ maxLen) :
    Calls Tryd.prog 11 #[.pointer (some ⟨b, 0, none⟩), (ActR.val ⟨3, by_, crt, who, right, ⟨op, key, other, item, qty, da, dl, dc⟩⟩)] w (DoPost G w b (passA A by_ crt who) (passE A by_ crt who)) := by
  have HO := Lib.hid hO
  have HE : Hid (passE A by_ crt who = if keyB crt && (keyB by_ && keyB who) then match aFind A crt with
    | none => 9
    | some x => if x.owner = by_ then (if by_ = who then 0 else if (lkA x.mem who).getD 0 = 0 ∧ 50 ≤ x.mem.length then 7 else 0) else 18
  else 2) := Lib.hid rfl
  have HA : Hid (passE A by_ crt who ≠ 0 → passA A by_ crt who = A) := Lib.hid (fun h => by unfold passA; rw [if_neg (fun h2 => h h2.1)])
  have HAS : Hid (by_ = who → passA A by_ crt who = A) := Lib.hid (fun h => by unfold passA; rw [if_neg (fun h2 => h2.2 h)])
  have HA0 : Hid (passE A by_ crt who = 0 → by_ ≠ who → passA A by_ crt who = match aFind A crt with
    | none => A
    | some x => aSet A crt ⟨x.cart, who, putA (delA x.mem who) by_ 15⟩) := Lib.hid (fun h h2 => by unfold passA; rw [if_pos ⟨h, h2⟩]; cases aFind A crt <;> rfl)
  have H2 : Hid ((keyB crt && (keyB by_ && keyB who)) = false → passE A by_ crt who = 2) := Lib.hid (fun h => by
    unfold passE
    rw [h]
    rfl)
  clear hO
  have HKEY := Lib.hid (fun s w0 (hs : s.size ≤ maxLen) => key_any s w0 hs)
  have HMX := Lib.hid (fun wx (h : Below w.heap.size w wx) => hM.below h)
  have HM := Lib.hid hM
  obtain ⟨W1, hW1⟩ : ∃ W1, W1 = w.alloc (.cells #[.int .i64 3, .string by_, .string crt, .string who, .int .i64 right, .int .i64 op, .string key, .string other, .string item, .int .i64 qty, .slice da dl dc] 29) := ⟨_, rfl⟩
  have HCELL : Hid (∀ wx, Below W1.heap.size W1 wx → (wx.cell? ⟨w.heap.size, 0, none⟩ = some (.int .i64 3) ∧ wx.cell? ⟨w.heap.size, 1, none⟩ = some (.string by_) ∧ wx.cell? ⟨w.heap.size, 2, none⟩ = some (.string crt) ∧ wx.cell? ⟨w.heap.size, 3, none⟩ = some (.string who) ∧ wx.cell? ⟨w.heap.size, 4, none⟩ = some (.int .i64 right))) := Lib.hid (by
    intro wx h
    rw [hW1] at h
    exact ⟨by rw [h.cell (p := ⟨w.heap.size, 0, none⟩) (by simp)]; go_simp, by rw [h.cell (p := ⟨w.heap.size, 1, none⟩) (by simp)]; go_simp, by rw [h.cell (p := ⟨w.heap.size, 2, none⟩) (by simp)]; go_simp, by rw [h.cell (p := ⟨w.heap.size, 3, none⟩) (by simp)]; go_simp, by rw [h.cell (p := ⟨w.heap.size, 4, none⟩) (by simp)]; go_simp⟩)
  have HB0 : Hid (∀ wx, Below W1.heap.size W1 wx → Below w.heap.size w wx) := Lib.hid (by
    intro wx h
    rw [hW1] at h
    exact ((Below.refl _ _).alloc (Nat.le_refl _) _).trans (h.mono (by simp)))
  have HT := Lib.hid (fun (w1 w2 : World) (h : Below W1.heap.size W1 w1) (h2 : Below w1.heap.size w1 w2) => h.trans (h2.mono h.size))
  have hz1 : w.heap.size < W1.heap.size := by rw [hW1]; simp
  obtain ⟨f0, f1, f2, f3, f4⟩ := HCELL.out _ (Below.refl _ _)
  have hb := Below.refl W1.heap.size W1
  clear hM
  unfold ActR.val
  simp only
  go_enter Tryd.func11, Tryd.ntmps11
  go_upto_region 1 with fail
  rw [← hW1]
  clear hW1
  cases hk : keyB by_
  · have he : passE A by_ crt who = 2 := H2.out (by rw [hk]; simp)
    go_wp2_with (go_at_call 26; refine (HKEY.out _ _ (by assumption)).mono ?_; rintro e w1 ⟨rfl, hb1⟩; replace hb := HT.out _ _ hb hb1; obtain ⟨f0, f1, f2, f3, f4⟩ := HCELL.out _ hb)
    go_ret
    rw [HA.out (by rw [he]; decide), he]
    exact DoPost.same HM.out (HB0.out _ hb)
  cases hk2 : keyB crt
  · have he : passE A by_ crt who = 2 := H2.out (by rw [hk2]; simp)
    go_wp2_with (go_at_call 26; refine (HKEY.out _ _ (by assumption)).mono ?_; rintro e w1 ⟨rfl, hb1⟩; replace hb := HT.out _ _ hb hb1; obtain ⟨f0, f1, f2, f3, f4⟩ := HCELL.out _ hb)
    go_ret
    rw [HA.out (by rw [he]; decide), he]
    exact DoPost.same HM.out (HB0.out _ hb)
  cases hk3 : keyB who
  · have he : passE A by_ crt who = 2 := H2.out (by rw [hk3]; simp)
    go_wp2_with (go_at_call 26; refine (HKEY.out _ _ (by assumption)).mono ?_; rintro e w1 ⟨rfl, hb1⟩; replace hb := HT.out _ _ hb hb1; obtain ⟨f0, f1, f2, f3, f4⟩ := HCELL.out _ hb)
    go_ret
    rw [HA.out (by rw [he]; decide), he]
    exact DoPost.same HM.out (HB0.out _ hb)
  have HE := Lib.hid (HE.out.trans (by rw [hk, hk2, hk3]))
  go_upto_region 5 with (go_at_call 26; refine (HKEY.out _ _ (by assumption)).mono ?_; rintro e w1 ⟨rfl, hb1⟩; replace hb := HT.out _ _ hb hb1; obtain ⟨f0, f1, f2, f3, f4⟩ := HCELL.out _ hb)
  clear hk hk2 hk3 H2 HKEY
  have hM5 := HMX.out _ (HB0.out _ hb)
  have hfi := find_m crt hM5
  have hb5 := HB0.out _ hb
  cases hx : idxA A crt with
  | none =>
    have hfv : findI A crt = -1 := by unfold findI; rw [hx]
    have hf : aFind A crt = none := by rw [aFind_idx, hx]; rfl
    rw [hfv] at hfi
    rw [hf] at HE
    have he : passE A by_ crt who = 9 := HE.out
    have HFI := Lib.hid hfi
    clear hfi hx hf hM5
    go_wp2_with (go_at_call 27; refine HFI.out.mono ?_; rintro e w6 ⟨rfl, rfl⟩)
    go_ret
    rw [HA.out (by rw [he]; decide), he]
    exact DoPost.same HM.out hb5
  | some i =>
    obtain ⟨hi, hf, -⟩ := idxA_get hx
    have hfv : findI A crt = i := by unfold findI; rw [hx]
    rw [hfv] at hfi
    rw [hf] at HE HA0
    simp only at HE HA0
    have HFI := Lib.hid hfi
    have hi0 : (0 : Int) ≤ i := by omega
    have hi1 : (i : Int) < A.length := by omega
    have HINV := Lib.hid hM5.2.2.1
    have HASET := Lib.hid (fun y => aSet_idx y hx)
    have HRA : Hid (∀ u, rightsA A u crt = A[i].rights u) := Lib.hid (fun u => by unfold rightsA; rw [hf])
    have hmr := rights_rng hM5.2.2.1 (List.getElem_mem hi) by_
    have hor := rights_rng hM5.2.2.1 (List.getElem_mem hi) who
    have HI := Lib.hid hi
    obtain ⟨hGb, ⟨v, hbv, hp⟩, -, -, h50⟩ := id hM5
    obtain ⟨a0, cap0, rfl, -, hpg⟩ := hp
    obtain ⟨g, rfl, -, hgl, hpgs⟩ := hpg (by intro e; rw [e] at hi; simp at hi)
    obtain ⟨p0, p1, mv, p2, am, cm, rfl, -, -⟩ := hpgs i hi
    have c0 := cell0 hbv 0
    simp only [List.getElem?_toArray, List.getElem?_cons_zero] at c0
    have hm50 := h50 _ (List.getElem_mem hi)
    have HM5 := Lib.hid hM5
    clear hpg hpgs h50 hx hf hfi hM5
    generalize hxx : A[i] = x at *
    have HXX := Lib.hid hxx
    clear hxx
    go_upto_region 16 with (go_at_call 27; refine HFI.out.mono ?_; rintro e w6 ⟨rfl, rfl⟩)
    obtain ⟨W6, hW6⟩ : ∃ W6, W6 = w1.alloc (.cells #[.string x.cart, .string x.owner, .slice am x.mem.length cm] 66) := ⟨_, rfl⟩
    have hb6 : Below w1.heap.size w1 W6 := by rw [hW6]; exact (Below.refl _ _).alloc (Nat.le_refl _) _
    have hz6 : w1.heap.size < W6.heap.size := by rw [hW6]; simp
    have q1 : W6.cell? ⟨w1.heap.size, 1, none⟩ = some (.string x.owner) := by rw [hW6]; go_simp
    have q2 : W6.cell? ⟨w1.heap.size, 2, none⟩ = some (.slice am x.mem.length cm) := by rw [hW6]; go_simp
    rw [← hW6]
    clear hW6
    have hwz : w.heap.size < w1.heap.size := Nat.lt_of_lt_of_le hz1 hb.size
    have HC6 : Hid (∀ wx, Below W6.heap.size W6 wx → (wx.cell? ⟨w1.heap.size, 1, none⟩ = some (.string x.owner) ∧ wx.cell? ⟨w1.heap.size, 2, none⟩ = some (.slice am x.mem.length cm) ∧ wx.cell? ⟨w.heap.size, 0, none⟩ = some (.int .i64 3) ∧ wx.cell? ⟨w.heap.size, 1, none⟩ = some (.string by_) ∧ wx.cell? ⟨w.heap.size, 2, none⟩ = some (.string crt) ∧ wx.cell? ⟨w.heap.size, 3, none⟩ = some (.string who) ∧ wx.cell? ⟨w.heap.size, 4, none⟩ = some (.int .i64 right) ∧ Below W6.heap.size W6 wx)) := Lib.hid (fun wx h => by
      have hh := hb6.trans (h.mono (Nat.le_of_lt hz6))
      refine ⟨by rw [h.cell (p := ⟨w1.heap.size, 1, none⟩) hz6]; exact q1, by rw [h.cell (p := ⟨w1.heap.size, 2, none⟩) hz6]; exact q2, ?_, ?_, ?_, ?_, ?_, h⟩
      · rw [hh.cell (p := ⟨w.heap.size, 0, none⟩) hwz]; exact f0
      · rw [hh.cell (p := ⟨w.heap.size, 1, none⟩) hwz]; exact f1
      · rw [hh.cell (p := ⟨w.heap.size, 2, none⟩) hwz]; exact f2
      · rw [hh.cell (p := ⟨w.heap.size, 3, none⟩) hwz]; exact f3
      · rw [hh.cell (p := ⟨w.heap.size, 4, none⟩) hwz]; exact f4)
    have HM6 := Lib.hid (fun wx (h : Below W6.heap.size W6 wx) => HM5.out.below (hb6.trans (h.mono (Nat.le_of_lt hz6))))
    have HRI := Lib.hid (fun wx (h : Below W6.heap.size W6 wx) u => rights_m u crt (HM6.out wx h))
    have HB6 := Lib.hid (fun wx (h : Below W6.heap.size W6 wx) => hb5.trans ((hb6.trans (h.mono (Nat.le_of_lt hz6))).mono (Nat.le_of_lt hwz)))
    have HT6 := Lib.hid (fun (wa wb : World) (h : Below W6.heap.size W6 wa) (h2 : Below wa.heap.size wa wb) => h.trans (h2.mono h.size))
    clear f0 f1 f2 f3 f4 q1 q2 hb6 hb p0 p1 p2 c0
    obtain ⟨q1, q2, f0, f1, f2, f3, f4, hbr⟩ := HC6.out _ (Below.refl _ _)
    go_cut [7, 8] from 99 to 222 (fun m o wx => m = .int .i64 (x.rights by_) ∧ o = .int .i64 (x.rights who) ∧ Below W6.heap.size W6 wx)
    case first =>
      go_region_held3 (fun wx => wx.cell? ⟨w1.heap.size, 1, none⟩ = some (.string x.owner) ∧ wx.cell? ⟨w1.heap.size, 2, none⟩ = some (.slice am x.mem.length cm) ∧ wx.cell? ⟨w.heap.size, 0, none⟩ = some (.int .i64 3) ∧ wx.cell? ⟨w.heap.size, 1, none⟩ = some (.string by_) ∧ wx.cell? ⟨w.heap.size, 2, none⟩ = some (.string crt) ∧ wx.cell? ⟨w.heap.size, 3, none⟩ = some (.string who) ∧ wx.cell? ⟨w.heap.size, 4, none⟩ = some (.int .i64 right) ∧ Below W6.heap.size W6 wx)
        (first | exact HC6.out _ ((Below.refl _ _).drew) | assumption | exact HC6.out _ hbk)
        (first | ((go_at_call 28; refine (HRI.out _ hbk _).mono ?_; rintro e w8 ⟨rfl, hbb⟩; have hbq := hbk; have hbk := HT6.out _ _ hbq hbb)) | ((go_at_call 28; refine (HRI.out _ ((Below.refl _ _).drew) _).mono ?_; rintro e w7 ⟨rfl, hbb⟩; have hbk := HT6.out _ _ ((Below.refl _ _).drew) hbb)))
      go_wp2
      go_meet
      case rel => exact ⟨by rw [HRA.out], by rw [HRA.out], hbk⟩
    case rest =>
      obtain ⟨rfl, rfl, hbc⟩ := hcut
      clear q1 q2 f0 f1 f2 f3 f4 hbr HFI HMX HRI
      obtain ⟨q1, q2, f0, f1, f2, f3, f4, hbr⟩ := HC6.out _ hbc
      have HBC := Lib.hid hbc
      have HOLD : Hid (¬ who = x.owner → (lkA x.mem who).getD 0 = x.rights who) := Lib.hid (fun h => by unfold APg.rights; rw [if_neg h])
      have SAME := Lib.hid (fun n => DoPost.same (n := n) HM.out (HB6.out _ hbc))
      clear hbc hbr HRA
      generalize x.rights by_ = mine at *
      generalize x.rights who = old at *
      by_cases hwo : ¬ x.owner = by_
      · have he : passE A by_ crt who = 18 := by rw [HE.out, if_neg hwo]; rfl
        have hss := str_ne hwo
        have HEE := Lib.hid he
        clear he hwo
        go_wp2_with fail
        go_ret
        rw [HA.out (by rw [HEE.out]; decide), HEE.out]
        exact SAME.out _
      have hwo := Classical.not_not.1 hwo
      have hss := str_eq hwo
      by_cases hwb : who = by_
      · have he : passE A by_ crt who = 0 := by rw [HE.out, if_pos hwo, if_pos hwb.symm]; rfl
        have HEE := Lib.hid he
        have HAA := Lib.hid (HAS.out hwb.symm)
        have hsb := str_eq hwb
        clear he hwo hwb
        go_wp2_with fail
        go_ret
        rw [HAA.out, HEE.out]
        exact SAME.out _
      have hsb := str_ne hwb
      have hwx : ¬ who = x.owner := fun h => hwb (h.trans hwo)
      have HO2 := Lib.hid (HOLD.out hwx)
      by_cases hfull : old = 0 ∧ 50 ≤ x.mem.length
      · have he : passE A by_ crt who = 7 := by rw [HE.out, HO2.out]; simp only [Bool.and_self, if_true]; rw [if_pos hwo, if_neg (fun h => hwb h.symm), if_pos hfull]
        have ho9 : (old == 0) = true := by simp [hfull.1]
        have hl9 : (50 : Int) ≤ x.mem.length := by omega
        have HEE := Lib.hid he
        clear hfull he hwo hwx hwb
        go_wp2_with fail
        go_ret
        rw [HA.out (by rw [HEE.out]; decide), HEE.out]
        exact SAME.out _
      have he : passE A by_ crt who = 0 := by rw [HE.out, HO2.out]; simp only [Bool.and_self, if_true]; rw [if_pos hwo, if_neg (fun h => hwb h.symm), if_neg hfull]
      have HA1 := Lib.hid (HA0.out he (fun h => hwb h.symm))
      have HEE := Lib.hid he
      clear he hwo hwx hwb
      go_upto_region 33 with fail
      go_cut [206] from 99 to 222 (fun sv wx => sv = .bool false ∧ wx = wc)
      case first =>
        by_cases ho : old = 0
        · have ho9 : (old == 0) = true := by simp [ho]
          have hl9 : ¬ ((50 : Int) ≤ x.mem.length) := fun h => hfull ⟨ho, by omega⟩
          clear ho
          go_wp2_with fail
          go_meet
          case rel => exact ⟨rfl, rfl⟩
        · have ho9 : (old == 0) = false := by simp [ho]
          clear ho
          go_wp2_with fail
          go_meet
          case rel => exact ⟨rfl, rfl⟩
      case rest =>
        obtain ⟨rfl, rfl⟩ := hcut
        have HOW := Lib.hid (own_m i HI.out (HM6.out _ HBC.out))
        have hbz : b < wc.heap.size := (HM6.out _ HBC.out).lt
        have hwb : w.heap.size ≠ b := by have := HM.out.lt; omega
        have hwc : w.heap.size < wc.heap.size := Nat.lt_of_lt_of_le (Nat.lt_trans hwz hz6) HBC.out.size
        have hx10 : A[i]'HI.out = x := HXX.out
        have HOO := Lib.hid (show Okay (A.set i ⟨x.cart, who, putA (delA x.mem who) by_ 15⟩) by rw [← HASET.out, ← HA1.out]; exact HO.out)
        have HAF : Hid (passA A by_ crt who = A.set i ⟨x.cart, who, putA (delA x.mem who) by_ 15⟩) := Lib.hid (by rw [HA1.out, HASET.out])
        have hnd1 : (x.mem.map (·.1)).Nodup := by
          have h9 := (HINV.out _ (List.getElem_mem HI.out)).2.2
          rw [hx10] at h9; exact h9
        have hnd2 : ((delA x.mem who).map (·.1)).Nodup := hnd1.sublist ((delA_sub x.mem who).map _)
        have hnd3 : ((putA (delA x.mem who) by_ 15).map (·.1)).Nodup := (HOO.out.1 ⟨x.cart, who, putA (delA x.mem who) by_ 15⟩ (List.mem_set HI.out _)).2.2
        have HS1 : Hid (setL who 0 ((0 : Int) == 0) (memS x.mem) = memS (delA x.mem who)) := Lib.hid (setL_del hnd1 hnd2)
        have HS2 : Hid (setL by_ 15 ((15 : Int) == 0) (memS (delA x.mem who)) = memS (putA (delA x.mem who) by_ 15)) := Lib.hid (setL_put hnd2 hnd3)
        have hl2 : (delA x.mem who).length ≤ 50 := Nat.le_trans (delA_sub x.mem who).length_le hm50
        have FIN : Hid (∀ (w7 w8 w10 : World) (g' cap' : Nat) (cur' : Array Value) (v' v2 : Value), w7.heap[b]? = some (.cells #[.slice (some ⟨g', 0, none⟩) A.length cap'] 38) → A.length ≤ cap' → wc.heap.size ≤ g' → w7.heap[g']? = some (.cells cur' 66) →
            RowP (fun k => (G k ∧ k ≠ b ∧ k < wc.heap.size) ∨ (wc.heap.size ≤ k ∧ k ≠ g')) w7 (cur'.toList.take (A.length * 3)) A → Keep (fun k => k = b ∨ wc.heap.size ≤ k) wc w7 → Below w7.heap.size w7 w8 → Below (w8.setCell ⟨g', i * 3 + 2, none⟩ v').heap.size (w8.setCell ⟨g', i * 3 + 2, none⟩ v') w10 → MemAt (fun k => (w8.setCell ⟨g', i * 3 + 2, none⟩ v').heap.size ≤ k) w10 v2 (putA (delA x.mem who) by_ 15) →
            DoPost G w b (passA A by_ crt who) 0 (.returned (.int .i64 0)) ((w10.setCell ⟨g', i * 3 + 2, none⟩ v2).setCell ⟨g', i * 3 + 1, none⟩ (.string who))) := Lib.hid (by
          intro w7 w8 w10 g' cap' cur' v' v2 k1 kc k2 k3 k4 k5 k6 k7 k8
          have hgl' := lt_of_heap k3
          have hgb' : g' ≠ b := by omega
          have s8 := k6.size
          have s10 := k7.size
          rw [setCell_size] at s10 k8
          have e8 : w8.heap[g']? = some (.cells cur' 66) := by rw [k6.block g' hgl']; exact k3
          have e9 := setCell_same e8 (i * 3 + 2) v'
          have e10 : w10.heap[g']? = some (.cells (cur'.setIfInBounds (i * 3 + 2) v') 66) := by rw [k7.block g' (by rw [setCell_size]; omega)]; exact e9
          have e11 := setCell_same e10 (i * 3 + 2) v2
          have e12 := setCell_same e11 (i * 3 + 1) (.string who)
          have hold : ∀ k, k ≠ g' → k < w7.heap.size → ((w10.setCell ⟨g', i * 3 + 2, none⟩ v2).setCell ⟨g', i * 3 + 1, none⟩ (.string who)).heap[k]? = w7.heap[k]? := fun k h1 h2 => by
            rw [Below.heap_setCell _ _ _ _ h1, Below.heap_setCell _ _ _ _ h1, k7.block k (by rw [setCell_size]; omega), Below.heap_setCell _ _ _ _ h1, k6.block k h2]
          have hsz : w7.heap.size ≤ ((w10.setCell ⟨g', i * 3 + 2, none⟩ v2).setCell ⟨g', i * 3 + 1, none⟩ (.string who)).heap.size := by rw [setCell_size, setCell_size]; omega
          have hrow : RowP (fun k => (G k ∧ k ≠ b ∧ k < wc.heap.size) ∨ (wc.heap.size ≤ k ∧ k ≠ g')) ((w10.setCell ⟨g', i * 3 + 2, none⟩ v2).setCell ⟨g', i * 3 + 1, none⟩ (.string who)) (cur'.toList.take (A.length * 3)) A :=
            RowP.of (fun _ h => h) (fun k h1 h2 => hold k (by omega) h2) hsz k4
          have hmem : MemAt (fun k => (G k ∧ k ≠ b ∧ k < wc.heap.size) ∨ (wc.heap.size ≤ k ∧ k ≠ g')) ((w10.setCell ⟨g', i * 3 + 2, none⟩ v2).setCell ⟨g', i * 3 + 1, none⟩ (.string who)) v2 (putA (delA x.mem who) by_ 15) :=
            k8.of (fun k h => Or.inr ⟨by have := k5.size; omega, by omega⟩) (fun k h _ => by rw [Below.heap_setCell _ _ _ _ (show k ≠ g' by omega), Below.heap_setCell _ _ _ _ (show k ≠ g' by omega)]) (by rw [setCell_size, setCell_size]; exact Nat.le_refl _)
          have hnew := RowP.set_owner (s := who) (RowP.set_mem hmem hrow i HI.out) i (by rw [List.length_set]; exact HI.out)
          simp only [List.getElem_set_self, List.set_set] at hnew
          rw [hx10] at hnew
          rw [HAF.out]
          refine DoPost.turned hGb (v := .slice (some ⟨g', 0, none⟩) A.length cap') (by rw [hold b (fun e => hgb' e.symm) (lt_of_heap k1)]; exact k1) ?_ HOO.out ?_
          · have hszs := (HB6.out _ HBC.out).size
            have hp := block_pages (cap := cap') (A := A.set i ⟨x.cart, who, putA (delA x.mem who) by_ 15⟩) (G := fun k => (G k ∨ w.heap.size ≤ k) ∧ k ≠ b) e12 (by
              rw [List.length_set, Array.toList_setIfInBounds, Array.toList_setIfInBounds, Array.toList_setIfInBounds, List.set_set, List.take_set, List.take_set]
              exact RowP.of (fun k h => by
                rcases h with h | h
                · exact ⟨Or.inl h.1, h.2.1⟩
                · exact ⟨Or.inr (by omega), by omega⟩) (fun _ _ _ => rfl) (Nat.le_refl _) hnew) ⟨Or.inr (by omega), hgb'⟩ (by rw [List.length_set]; exact kc)
            rw [List.length_set] at hp
            exact hp
          · have hszs := (HB6.out _ HBC.out).size
            refine ((((((Keep.of_below (HB6.out _ HBC.out)).trans (k5.mono (fun k _ h => by rcases h with h | h; exact Or.inl h; exact Or.inr (by omega)))).trans (Keep.of_below k6)).trans (Keep.setCell _ _ _ (Or.inr (by show w.heap.size ≤ g'; omega)))).trans (Keep.of_below k7)).trans (Keep.setCell _ _ _ (Or.inr (by show w.heap.size ≤ g'; omega)))).trans (Keep.setCell _ _ _ (Or.inr (by show w.heap.size ≤ g'; omega))))
        have HC7 : Hid (∀ w7, Keep (fun k => k = b ∨ wc.heap.size ≤ k) wc w7 → ∀ j, w7.cell? ⟨w.heap.size, j, none⟩ = wc.cell? ⟨w.heap.size, j, none⟩) := Lib.hid (fun w7 h j => World.cell?_of_block (h.block w.heap.size hwc (by omega)))
        go_wp2_with fail
        refine HOW.out.mono ?_
        rintro e w7 ⟨g', cap', cur', rfl, k1, kc, k2, k3, k4, k5, k6⟩
        obtain ⟨-, -, mv', k7, k8⟩ := k5.get i HI.out
        rw [hx10] at k8
        have hw7 : wc.heap.size ≤ w7.heap.size := k6.size
        have m1 : w7.cell? ⟨w.heap.size, 1, none⟩ = some (.string by_) := by rw [HC7.out _ k6]; exact f1
        have m3 : w7.cell? ⟨w.heap.size, 3, none⟩ = some (.string who) := by rw [HC7.out _ k6]; exact f3
        have hgl' := lt_of_heap k3
        have hgw : g' ≠ w.heap.size := by omega
        have hcur : i * 3 + 2 < cur'.size := by have := HI.out; omega
        have k7' : cur'[i * 3 + 2]? = some mv' := by
          rw [List.getElem?_take] at k7
          split at k7
          · simpa using k7
          · cases k7
        have HSET1 := Lib.hid (set_m who 0 k3 k7' k8 hm50 HS1.out)
        go_wp2_with fail
        refine HSET1.out.mono ?_
        rintro e w9 ⟨rfl, w8, v', k9, rfl, k10⟩
        obtain ⟨W9, hW9⟩ : ∃ W9, W9 = w8.setCell ⟨g', i * 3 + 2, none⟩ v' := ⟨_, rfl⟩
        have s8 := k9.size
        have z9 : W9.heap.size = w8.heap.size := by rw [hW9, setCell_size]
        have e8 : w8.heap[g']? = some (.cells cur' 66) := by rw [k9.block g' hgl']; exact k3
        have e9 : W9.heap[g']? = some (.cells (cur'.setIfInBounds (i * 3 + 2) v') 66) := by rw [hW9]; exact setCell_same e8 (i * 3 + 2) v'
        have hact : ∀ j, W9.cell? ⟨w.heap.size, j, none⟩ = w7.cell? ⟨w.heap.size, j, none⟩ := fun j => by
          rw [hW9, World.cell?_of_block (w := w8) (Below.heap_setCell _ _ _ _ (fun e => hgw e.symm))]
          exact k9.cell (p := ⟨w.heap.size, j, none⟩) (by show w.heap.size < w7.heap.size; omega)
        have n1 : W9.cell? ⟨w.heap.size, 1, none⟩ = some (.string by_) := by rw [hact]; exact m1
        have n3 : W9.cell? ⟨w.heap.size, 3, none⟩ = some (.string who) := by rw [hact]; exact m3
        have k11 : MemAt (fun k => w7.heap.size ≤ k) W9 v' (delA x.mem who) := k10.of (fun _ h => h) (fun k h _ => by rw [hW9]; exact Below.heap_setCell _ _ _ _ (show k ≠ g' by omega)) (by rw [z9]; exact Nat.le_refl _)
        have HSET2 := Lib.hid (set_m by_ 15 e9 (by rw [Array.getElem?_setIfInBounds_self_of_lt hcur]) k11 hl2 HS2.out)
        have HW9 := Lib.hid hW9
        rw [← hW9]
        clear hW9 m1 m3 HSET1 hact
        go_wp2_with fail
        refine HSET2.out.mono ?_
        rintro e w11 ⟨rfl, w10, v2, j1, rfl, j2⟩
        have z10 := j1.size
        have e10 : w10.heap[g']? = some (.cells (cur'.setIfInBounds (i * 3 + 2) v') 66) := by rw [j1.block g' (by omega)]; exact e9
        obtain ⟨W11, hW11⟩ : ∃ W11, W11 = w10.setCell ⟨g', i * 3 + 2, none⟩ v2 := ⟨_, rfl⟩
        have e11 : W11.heap[g']? = some (.cells ((cur'.setIfInBounds (i * 3 + 2) v').setIfInBounds (i * 3 + 2) v2) 66) := by rw [hW11]; exact setCell_same e10 (i * 3 + 2) v2
        have n4 : W11.cell? ⟨w.heap.size, 3, none⟩ = some (.string who) := by
          rw [hW11, World.cell?_of_block (w := w10) (Below.heap_setCell _ _ _ _ (fun e => hgw e.symm)), j1.cell (p := ⟨w.heap.size, 3, none⟩) (by show w.heap.size < W9.heap.size; omega)]
          exact n3
        have n5 : W11.frozen? ⟨g', i * 3 + 1, none⟩ = false := by unfold World.frozen?; rw [e11]; simp
        obtain ⟨ow, n6⟩ : ∃ ow, W11.cell? ⟨g', i * 3 + 1, none⟩ = some ow := by
          rw [cell0 e11]
          exact ⟨_, Array.getElem?_eq_getElem (by simp; omega)⟩
        have HW11 := Lib.hid hW11
        rw [← hW11]
        clear hW11 n1 n3
        go_wp2
        go_ret
        rw [HEE.out, HW11.out]
        have hj1 := j1
        have hj2 := j2
        rw [HW9.out] at hj1 hj2
        exact FIN.out _ _ _ _ _ _ _ _ k1 kc k2 k3 k5 k6 k9 hj1 hj2
end Go.Proofs.YtdeljhehcjknbaaDoor
