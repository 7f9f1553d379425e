/- Model.do walked for Grant: for every model of the shape of S27. -/
import Derived.Test.YtdeljhehcjknbaaDoorS35
import Derived.Deep.CutRange
import Derived.Deep.Cut
import Derived.Deep.RegionHeld3
namespace Go.Proofs.YtdeljhehcjknbaaDoor
open Go.RowKit Go.Maps Go.Sort Go.Lib

theorem aSet_idx : ∀ {A : List APg} {c : ByteArray} {i : Nat} (y : APg), idxA A c = some i → aSet A c y = A.set i y
  | [], _, _, _, h => by cases h
  | x :: A, c, i, y, h => by
    simp only [idxA] at h
    simp only [aSet]
    by_cases e : c = x.cart
    · rw [if_pos e] at h ⊢; cases h; rfl
    · rw [if_neg e] at h ⊢
      cases hh : idxA A c with
      | none => rw [hh] at h; cases h
      | some k => rw [hh] at h; cases h; rw [aSet_idx y hh]; rfl
theorem block_pages {G : Nat → Prop} {w : World} {g cap : Nat} {cur : Array Value} {A : List APg} (hg : w.heap[g]? = some (.cells cur 66)) (hr : RowP G w (cur.toList.take (A.length * 3)) A) (hG : G g) (hcap : A.length ≤ cap) : PagesAt G w (.slice (some ⟨g, 0, none⟩) A.length cap) A := by
  refine ⟨_, cap, rfl, ⟨(fun h => by cases h), hcap⟩, fun _ => ⟨g, rfl, hG, lt_of_heap hg, fun i hi => ?_⟩⟩
  have hc : ∀ j u, (cur.toList.take (A.length * 3))[j]? = some u → w.cell? ⟨g, j, none⟩ = some u := fun j u hj => by
    rw [cell0 hg]
    rw [List.getElem?_take] at hj
    split at hj
    · simpa using hj
    · cases hj
  obtain ⟨e1, e2, mv, e3, e4⟩ := hr.get i hi
  exact ⟨hc _ _ e1, hc _ _ e2, mv, hc _ _ e3, e4⟩
theorem OwnPost.drew {G : Nat → Prop} {w w' : World} {b i : Nat} {A : List APg} {e : Ending} (h : OwnPost G w.drew b A i e w') : OwnPost G w b A i e w' := by
  obtain ⟨g, cap, cur, h1, h2, hc, h3, h4, h5, h6, h7⟩ := h
  exact ⟨g, cap, cur, h1, h2, hc, h3, h4, h5, h6, (Keep.of_below ((Below.refl _ _).drew)).trans h7⟩
theorem bitsL : ∀ r o b : Fin 16, (bits .andNot .i64 (bits .xor .i64 r o) b != 0) = (bits .and .i64 (bits .xor .i64 r o) (15 - b) != 0) := by decide +kernel
theorem bits8 : ∀ b : Fin 16, (bits .and .i64 b 8 == 0) = decide ((b : Int) < 8) := by decide +kernel
theorem bitsL' {r o b : Int} (hr : 0 ≤ r ∧ r ≤ 15) (ho : 0 ≤ o ∧ o ≤ 15) (hb : 0 ≤ b ∧ b ≤ 15) : (bits .andNot .i64 (bits .xor .i64 r o) b != 0) = (bits .and .i64 (bits .xor .i64 r o) (15 - b) != 0) := by
  obtain ⟨r, rfl⟩ := Int.eq_ofNat_of_zero_le hr.1
  obtain ⟨o, rfl⟩ := Int.eq_ofNat_of_zero_le ho.1
  obtain ⟨b, rfl⟩ := Int.eq_ofNat_of_zero_le hb.1
  exact bitsL ⟨r, by omega⟩ ⟨o, by omega⟩ ⟨b, by omega⟩
theorem bits8' {b : Int} (hb : 0 ≤ b ∧ b ≤ 15) : (bits .and .i64 b 8 == 0) = decide (b < 8) := by
  obtain ⟨b, rfl⟩ := Int.eq_ofNat_of_zero_le hb.1
  exact bits8 ⟨b, by omega⟩
theorem denied_eq {A : List APg} (hI : Inv A) {x : APg} (hx : x ∈ A) (who who2 : ByteArray) (r : Int) (hr : 0 ≤ r ∧ r ≤ 15) :
    denied x who who2 r = (decide (x.rights who < 8) || decide (who2 = x.owner) || decide (who2 = who) || (bits .and .i64 (bits .xor .i64 r (x.rights who2)) (15 - x.rights who) != 0)) := by
  unfold denied
  rw [bits8' (rights_rng hI hx who), bitsL' hr (lk_rng (hI x hx).2.1 who2) (rights_rng hI hx who)]
  by_cases h : who2 = x.owner
  · simp [h]
  · have : x.rights who2 = (lkA x.mem who2).getD 0 := by unfold APg.rights; rw [if_neg h]
    rw [this]

set_option maxRecDepth 100000 in
set_option maxHeartbeats 8000000 in
theorem do_grant {G : Nat → Prop} {w : World} {b : Nat} {A : List APg} (by_ crt who : ByteArray) (right op : Int) (key other item : ByteArray) (qty : Int) (da : Option Addr) (dl dc : Nat) (hM : ModelIs G w b A) (hO : Okay (grantA A by_ crt who right)) (h1 : by_.size ≤ maxLen) (h2 : crt.size ≤ maxLen) (h3 : who.size ≤ maxLen) :
    Calls Tryd.prog 11 #[.pointer (some ⟨b, 0, none⟩), (ActR.val ⟨2, by_, crt, who, right, ⟨op, key, other, item, qty, da, dl, dc⟩⟩)] w (DoPost G w b (grantA A by_ crt who right) (grantE A by_ crt who right)) := by
  have HO := Lib.hid hO
  have HE : Hid (grantE A by_ crt who right = if right < 0 ∨ 15 < right then 2 else if keyB crt && (keyB by_ && keyB who) then match aFind A crt with
    | none => 9
    | some x => if denied x by_ who right then 18 else if right = 0 then 0 else if (lkA x.mem who).getD 0 = 0 ∧ 50 ≤ x.mem.length then 7 else 0
  else 2) := Lib.hid rfl
  have HA : Hid (grantE A by_ crt who right ≠ 0 → grantA A by_ crt who right = A) := Lib.hid (fun h => by unfold grantA; rw [if_neg h])
  have HA0 : Hid (grantE A by_ crt who right = 0 → grantA A by_ crt who right = match aFind A crt with
    | none => A
    | some x => aSet A crt ⟨x.cart, x.owner, if right = 0 then delA x.mem who else putA x.mem who right⟩) := Lib.hid (fun h => by unfold grantA; rw [if_pos h]; cases aFind A crt <;> rfl)
  have H2 : Hid ((keyB crt && (keyB by_ && keyB who)) = false → grantE A by_ crt who right = 2) := Lib.hid (fun h => by
    unfold grantE
    rw [h]
    split <;> rfl)
  have H2r : Hid (right < 0 ∨ 15 < right → grantE A by_ crt who right = 2) := Lib.hid (fun h => by
    unfold grantE
    rw [if_pos h])
  clear hO
  have HKEY := Lib.hid (fun s w0 (hs : s.size ≤ maxLen) => key_any s w0 hs)
  have HMX := Lib.hid (fun wx (h : Below w.heap.size w wx) => hM.below h)
  have HM := Lib.hid hM
  obtain ⟨W1, hW1⟩ : ∃ W1, W1 = w.alloc (.cells #[.int .i64 2, .string by_, .string crt, .string who, .int .i64 right, .int .i64 op, .string key, .string other, .string item, .int .i64 qty, .slice da dl dc] 29) := ⟨_, rfl⟩
  have HCELL : Hid (∀ wx, Below W1.heap.size W1 wx → (wx.cell? ⟨w.heap.size, 0, none⟩ = some (.int .i64 2) ∧ wx.cell? ⟨w.heap.size, 1, none⟩ = some (.string by_) ∧ wx.cell? ⟨w.heap.size, 2, none⟩ = some (.string crt) ∧ wx.cell? ⟨w.heap.size, 3, none⟩ = some (.string who) ∧ wx.cell? ⟨w.heap.size, 4, none⟩ = some (.int .i64 right))) := Lib.hid (by
    intro wx h
    rw [hW1] at h
    exact ⟨by rw [h.cell (p := ⟨w.heap.size, 0, none⟩) (by simp)]; go_simp, by rw [h.cell (p := ⟨w.heap.size, 1, none⟩) (by simp)]; go_simp, by rw [h.cell (p := ⟨w.heap.size, 2, none⟩) (by simp)]; go_simp, by rw [h.cell (p := ⟨w.heap.size, 3, none⟩) (by simp)]; go_simp, by rw [h.cell (p := ⟨w.heap.size, 4, none⟩) (by simp)]; go_simp⟩)
  have HB0 : Hid (∀ wx, Below W1.heap.size W1 wx → Below w.heap.size w wx) := Lib.hid (by
    intro wx h
    rw [hW1] at h
    exact ((Below.refl _ _).alloc (Nat.le_refl _) _).trans (h.mono (by simp)))
  have HT := Lib.hid (fun (w1 w2 : World) (h : Below W1.heap.size W1 w1) (h2 : Below w1.heap.size w1 w2) => h.trans (h2.mono h.size))
  have hz1 : w.heap.size < W1.heap.size := by rw [hW1]; simp
  obtain ⟨f0, f1, f2, f3, f4⟩ := HCELL.out _ (Below.refl _ _)
  have hb := Below.refl W1.heap.size W1
  clear hM
  unfold ActR.val
  simp only
  go_enter Tryd.func11, Tryd.ntmps11
  go_upto_region 1 with fail
  rw [← hW1]
  clear hW1
  cases hk : keyB by_
  · have he : grantE A by_ crt who right = 2 := H2.out (by rw [hk]; simp)
    go_wp2_with (go_at_call 26; refine (HKEY.out _ _ (by assumption)).mono ?_; rintro e w1 ⟨rfl, hb1⟩; replace hb := HT.out _ _ hb hb1; obtain ⟨f0, f1, f2, f3, f4⟩ := HCELL.out _ hb)
    go_ret
    rw [HA.out (by rw [he]; decide), he]
    exact DoPost.same HM.out (HB0.out _ hb)
  cases hk2 : keyB crt
  · have he : grantE A by_ crt who right = 2 := H2.out (by rw [hk2]; simp)
    go_wp2_with (go_at_call 26; refine (HKEY.out _ _ (by assumption)).mono ?_; rintro e w1 ⟨rfl, hb1⟩; replace hb := HT.out _ _ hb hb1; obtain ⟨f0, f1, f2, f3, f4⟩ := HCELL.out _ hb)
    go_ret
    rw [HA.out (by rw [he]; decide), he]
    exact DoPost.same HM.out (HB0.out _ hb)
  cases hk3 : keyB who
  · have he : grantE A by_ crt who right = 2 := H2.out (by rw [hk3]; simp)
    go_wp2_with (go_at_call 26; refine (HKEY.out _ _ (by assumption)).mono ?_; rintro e w1 ⟨rfl, hb1⟩; replace hb := HT.out _ _ hb hb1; obtain ⟨f0, f1, f2, f3, f4⟩ := HCELL.out _ hb)
    go_ret
    rw [HA.out (by rw [he]; decide), he]
    exact DoPost.same HM.out (HB0.out _ hb)
  by_cases hr0 : right < 0
  · have he : grantE A by_ crt who right = 2 := H2r.out (Or.inl hr0)
    have hr0b : decide (right < 0) = true := decide_eq_true hr0
    go_wp2_with (go_at_call 26; refine (HKEY.out _ _ (by assumption)).mono ?_; rintro e w1 ⟨rfl, hb1⟩; replace hb := HT.out _ _ hb hb1; obtain ⟨f0, f1, f2, f3, f4⟩ := HCELL.out _ hb)
    go_ret
    rw [HA.out (by rw [he]; decide), he]
    exact DoPost.same HM.out (HB0.out _ hb)
  by_cases hr1 : 15 < right
  · have he : grantE A by_ crt who right = 2 := H2r.out (Or.inr hr1)
    have hr0b : decide (right < 0) = false := decide_eq_false hr0
    have hr1b : decide (15 < right) = true := decide_eq_true hr1
    go_wp2_with (go_at_call 26; refine (HKEY.out _ _ (by assumption)).mono ?_; rintro e w1 ⟨rfl, hb1⟩; replace hb := HT.out _ _ hb hb1; obtain ⟨f0, f1, f2, f3, f4⟩ := HCELL.out _ hb)
    go_ret
    rw [HA.out (by rw [he]; decide), he]
    exact DoPost.same HM.out (HB0.out _ hb)
  have hr0b : decide (right < 0) = false := decide_eq_false hr0
  have hr1b : decide (15 < right) = false := decide_eq_false hr1
  have hrr : 0 ≤ right ∧ right ≤ 15 := by omega
  have HE := Lib.hid (HE.out.trans (by rw [if_neg (by omega), hk, hk2, hk3]))
  go_upto_region 5 with (go_at_call 26; refine (HKEY.out _ _ (by assumption)).mono ?_; rintro e w1 ⟨rfl, hb1⟩; replace hb := HT.out _ _ hb hb1; obtain ⟨f0, f1, f2, f3, f4⟩ := HCELL.out _ hb)
  clear hk hk2 hk3 hr0b hr1b H2 H2r HKEY
  have hM5 := HMX.out _ (HB0.out _ hb)
  have hfi := find_m crt hM5
  have hb5 := HB0.out _ hb
  cases hx : idxA A crt with
  | none =>
    have hfv : findI A crt = -1 := by unfold findI; rw [hx]
    have hf : aFind A crt = none := by rw [aFind_idx, hx]; rfl
    rw [hfv] at hfi
    rw [hf] at HE
    have he : grantE A by_ crt who right = 9 := HE.out
    have HFI := Lib.hid hfi
    clear hfi hx hf hM5
    go_wp2_with (go_at_call 27; refine HFI.out.mono ?_; rintro e w6 ⟨rfl, rfl⟩)
    go_ret
    rw [HA.out (by rw [he]; decide), he]
    exact DoPost.same HM.out hb5
  | some i =>
    obtain ⟨hi, hf, -⟩ := idxA_get hx
    have hfv : findI A crt = i := by unfold findI; rw [hx]
    rw [hfv] at hfi
    rw [hf] at HE HA0
    simp only at HE HA0
    have HFI := Lib.hid hfi
    have hi0 : (0 : Int) ≤ i := by omega
    have hi1 : (i : Int) < A.length := by omega
    have HINV := Lib.hid hM5.2.2.1
    have HASET := Lib.hid (fun y => aSet_idx y hx)
    have HRA : Hid (∀ u, rightsA A u crt = A[i].rights u) := Lib.hid (fun u => by unfold rightsA; rw [hf])
    have HDEN := Lib.hid (denied_eq hM5.2.2.1 (List.getElem_mem hi) by_ who right hrr)
    have hmr := rights_rng hM5.2.2.1 (List.getElem_mem hi) by_
    have hor := rights_rng hM5.2.2.1 (List.getElem_mem hi) who
    have HI := Lib.hid hi
    obtain ⟨hGb, ⟨v, hbv, hp⟩, -, -, h50⟩ := id hM5
    obtain ⟨a0, cap0, rfl, -, hpg⟩ := hp
    obtain ⟨g, rfl, -, hgl, hpgs⟩ := hpg (by intro e; rw [e] at hi; simp at hi)
    obtain ⟨p0, p1, mv, p2, am, cm, rfl, -, -⟩ := hpgs i hi
    have c0 := cell0 hbv 0
    simp only [List.getElem?_toArray, List.getElem?_cons_zero] at c0
    have hm50 := h50 _ (List.getElem_mem hi)
    have HM5 := Lib.hid hM5
    clear hpg hpgs h50 hx hf hfi hM5
    generalize hxx : A[i] = x at *
    have HXX := Lib.hid hxx
    clear hxx
    go_upto_region 16 with (go_at_call 27; refine HFI.out.mono ?_; rintro e w6 ⟨rfl, rfl⟩)
    obtain ⟨W6, hW6⟩ : ∃ W6, W6 = w1.alloc (.cells #[.string x.cart, .string x.owner, .slice am x.mem.length cm] 66) := ⟨_, rfl⟩
    have hb6 : Below w1.heap.size w1 W6 := by rw [hW6]; exact (Below.refl _ _).alloc (Nat.le_refl _) _
    have hz6 : w1.heap.size < W6.heap.size := by rw [hW6]; simp
    have q1 : W6.cell? ⟨w1.heap.size, 1, none⟩ = some (.string x.owner) := by rw [hW6]; go_simp
    have q2 : W6.cell? ⟨w1.heap.size, 2, none⟩ = some (.slice am x.mem.length cm) := by rw [hW6]; go_simp
    rw [← hW6]
    clear hW6
    have hwz : w.heap.size < w1.heap.size := Nat.lt_of_lt_of_le hz1 hb.size
    have HC6 : Hid (∀ wx, Below W6.heap.size W6 wx → (wx.cell? ⟨w1.heap.size, 1, none⟩ = some (.string x.owner) ∧ wx.cell? ⟨w1.heap.size, 2, none⟩ = some (.slice am x.mem.length cm) ∧ wx.cell? ⟨w.heap.size, 0, none⟩ = some (.int .i64 2) ∧ wx.cell? ⟨w.heap.size, 1, none⟩ = some (.string by_) ∧ wx.cell? ⟨w.heap.size, 2, none⟩ = some (.string crt) ∧ wx.cell? ⟨w.heap.size, 3, none⟩ = some (.string who) ∧ wx.cell? ⟨w.heap.size, 4, none⟩ = some (.int .i64 right) ∧ Below W6.heap.size W6 wx)) := Lib.hid (fun wx h => by
      have hh := hb6.trans (h.mono (Nat.le_of_lt hz6))
      refine ⟨by rw [h.cell (p := ⟨w1.heap.size, 1, none⟩) hz6]; exact q1, by rw [h.cell (p := ⟨w1.heap.size, 2, none⟩) hz6]; exact q2, ?_, ?_, ?_, ?_, ?_, h⟩
      · rw [hh.cell (p := ⟨w.heap.size, 0, none⟩) hwz]; exact f0
      · rw [hh.cell (p := ⟨w.heap.size, 1, none⟩) hwz]; exact f1
      · rw [hh.cell (p := ⟨w.heap.size, 2, none⟩) hwz]; exact f2
      · rw [hh.cell (p := ⟨w.heap.size, 3, none⟩) hwz]; exact f3
      · rw [hh.cell (p := ⟨w.heap.size, 4, none⟩) hwz]; exact f4)
    have HM6 := Lib.hid (fun wx (h : Below W6.heap.size W6 wx) => HM5.out.below (hb6.trans (h.mono (Nat.le_of_lt hz6))))
    have HRI := Lib.hid (fun wx (h : Below W6.heap.size W6 wx) u => rights_m u crt (HM6.out wx h))
    have HB6 := Lib.hid (fun wx (h : Below W6.heap.size W6 wx) => hb5.trans ((hb6.trans (h.mono (Nat.le_of_lt hz6))).mono (Nat.le_of_lt hwz)))
    have HT6 := Lib.hid (fun (wa wb : World) (h : Below W6.heap.size W6 wa) (h2 : Below wa.heap.size wa wb) => h.trans (h2.mono h.size))
    clear f0 f1 f2 f3 f4 q1 q2 hb6 hb p0 p1 p2 c0
    obtain ⟨q1, q2, f0, f1, f2, f3, f4, hbr⟩ := HC6.out _ (Below.refl _ _)
    go_cut [7, 8] from 99 to 222 (fun m o wx => m = .int .i64 (x.rights by_) ∧ o = .int .i64 (x.rights who) ∧ Below W6.heap.size W6 wx)
    case first =>
      go_region_held3 (fun wx => wx.cell? ⟨w1.heap.size, 1, none⟩ = some (.string x.owner) ∧ wx.cell? ⟨w1.heap.size, 2, none⟩ = some (.slice am x.mem.length cm) ∧ wx.cell? ⟨w.heap.size, 0, none⟩ = some (.int .i64 2) ∧ wx.cell? ⟨w.heap.size, 1, none⟩ = some (.string by_) ∧ wx.cell? ⟨w.heap.size, 2, none⟩ = some (.string crt) ∧ wx.cell? ⟨w.heap.size, 3, none⟩ = some (.string who) ∧ wx.cell? ⟨w.heap.size, 4, none⟩ = some (.int .i64 right) ∧ Below W6.heap.size W6 wx)
        (first | exact HC6.out _ ((Below.refl _ _).drew) | assumption | exact HC6.out _ hbk)
        (first | ((go_at_call 28; refine (HRI.out _ hbk _).mono ?_; rintro e w8 ⟨rfl, hbb⟩; have hbq := hbk; have hbk := HT6.out _ _ hbq hbb)) | ((go_at_call 28; refine (HRI.out _ ((Below.refl _ _).drew) _).mono ?_; rintro e w7 ⟨rfl, hbb⟩; have hbk := HT6.out _ _ ((Below.refl _ _).drew) hbb)))
      go_wp2
      go_meet
      case rel => exact ⟨by rw [HRA.out], by rw [HRA.out], hbk⟩
    case rest =>
      obtain ⟨rfl, rfl, hbc⟩ := hcut
      clear q1 q2 f0 f1 f2 f3 f4 hbr HFI HMX HRI
      obtain ⟨q1, q2, f0, f1, f2, f3, f4, hbr⟩ := HC6.out _ hbc
      have HBC := Lib.hid hbc
      have HE := Lib.hid (HE.out.trans (by rw [HDEN.out]))
      have HOLD : Hid (¬ who = x.owner → (lkA x.mem who).getD 0 = x.rights who) := Lib.hid (fun h => by unfold APg.rights; rw [if_neg h])
      have SAME := Lib.hid (fun n => DoPost.same (n := n) HM.out (HB6.out _ hbc))
      clear hbc hbr HDEN HRA
      generalize x.rights by_ = mine at *
      generalize x.rights who = old at *
      by_cases hm8 : mine < 8
      · have he : grantE A by_ crt who right = 18 := by rw [HE.out, decide_eq_true hm8]; rfl
        have hmb : decide (mine < 8) = true := decide_eq_true hm8
        have HEE := Lib.hid he
        clear he
        go_wp2_with fail
        go_ret
        rw [HA.out (by rw [HEE.out]; decide), HEE.out]
        exact SAME.out _
      have hmb : decide (mine < 8) = false := decide_eq_false hm8
      by_cases hwo : who = x.owner
      · have he : grantE A by_ crt who right = 18 := by rw [HE.out, decide_eq_true hwo]; simp
        have hss := str_eq hwo
        clear hwo
        have HEE := Lib.hid he
        clear he
        go_wp2_with fail
        go_ret
        rw [HA.out (by rw [HEE.out]; decide), HEE.out]
        exact SAME.out _
      have hss := str_ne hwo
      have HO2 := Lib.hid (HOLD.out hwo)
      by_cases hwb : who = by_
      · have he : grantE A by_ crt who right = 18 := by rw [HE.out, decide_eq_true hwb]; simp
        have hsb := str_eq hwb
        clear hwb hwo
        have HEE := Lib.hid he
        clear he
        go_wp2_with fail
        go_ret
        rw [HA.out (by rw [HEE.out]; decide), HEE.out]
        exact SAME.out _
      have hsb := str_ne hwb
      have HE := Lib.hid (HE.out.trans (by rw [hmb, decide_eq_false hwo, decide_eq_false hwb, Bool.false_or, Bool.false_or, Bool.false_or]))
      clear hwo hwb
      by_cases hbt : (bits .and .i64 (bits .xor .i64 right old) (15 - mine) != 0) = true
      · have he : grantE A by_ crt who right = 18 := by rw [HE.out, hbt]; rfl
        have HEE := Lib.hid he
        clear he
        go_wp2_with fail
        go_ret
        rw [HA.out (by rw [HEE.out]; decide), HEE.out]
        exact SAME.out _
      have hbf : (bits .and .i64 (bits .xor .i64 right old) (15 - mine) != 0) = false := by simpa using hbt
      rw [hbf] at HE
      clear hbt
      by_cases hfull : right ≠ 0 ∧ old = 0 ∧ 50 ≤ x.mem.length
      · have he : grantE A by_ crt who right = 7 := by rw [HE.out, HO2.out]; simp [hfull]
        have hr9 : (right != 0) = true := by simp [hfull.1]
        have ho9 : (old == 0) = true := by simp [hfull.2.1]
        have hl9 : (50 : Int) ≤ x.mem.length := by omega
        clear hfull
        have HEE := Lib.hid he
        clear he
        go_wp2_with fail
        go_ret
        rw [HA.out (by rw [HEE.out]; decide), HEE.out]
        exact SAME.out _
      have he : grantE A by_ crt who right = 0 := by
        rw [HE.out, HO2.out]
        simp only [Bool.and_self, if_true, Bool.false_eq_true, if_false]
        by_cases h : right = 0
        · rw [if_pos h]
        · rw [if_neg h, if_neg (fun h2 => hfull ⟨h, h2.1, h2.2⟩)]
      have HA1 := Lib.hid (HA0.out he)
      go_upto_region 25 with fail
      go_cut [178] from 99 to 222 (fun sv wx => sv = .bool false ∧ wx = wc)
      case first =>
        by_cases hr : right = 0
        · have hr9 : (right != 0) = false := by simp [hr]
          clear hr
          go_wp2_with fail
          go_meet
          case rel => exact ⟨rfl, rfl⟩
        · have hr9 : (right != 0) = true := by simp [hr]
          by_cases ho : old = 0
          · have ho9 : (old == 0) = true := by simp [ho]
            have hl9 : ¬ ((50 : Int) ≤ x.mem.length) := fun h => hfull ⟨hr, ho, by omega⟩
            clear hr ho
            go_wp2_with fail
            go_meet
            case rel => exact ⟨rfl, rfl⟩
          · have ho9 : (old == 0) = false := by simp [ho]
            clear hr ho
            go_wp2_with fail
            go_meet
            case rel => exact ⟨rfl, rfl⟩
      case rest =>
        obtain ⟨rfl, rfl⟩ := hcut
        have HOW := Lib.hid ((own_m i HI.out (HM6.out _ HBC.out.drew)).mono (fun _ _ h => OwnPost.drew h))
        have hbz : b < wc.heap.size := (HM6.out _ HBC.out).lt
        have hwb : w.heap.size ≠ b := by have := HM.out.lt; omega
        have hwc : w.heap.size < wc.heap.size := Nat.lt_of_lt_of_le (Nat.lt_trans hwz hz6) HBC.out.size
        have HOO := Lib.hid (show Okay (A.set i ⟨x.cart, x.owner, if right = 0 then delA x.mem who else putA x.mem who right⟩) by rw [← HASET.out, ← HA1.out]; exact HO.out)
        have HAS : Hid (grantA A by_ crt who right = A.set i ⟨x.cart, x.owner, if right = 0 then delA x.mem who else putA x.mem who right⟩) := Lib.hid (by rw [HA1.out, HASET.out])
        have HND : Hid ((x.mem.map (·.1)).Nodup ∧ ((if right = 0 then delA x.mem who else putA x.mem who right).map (·.1)).Nodup) := Lib.hid (by
          constructor
          · have h9 := (HINV.out _ (List.getElem_mem HI.out)).2.2
            have h10 : A[i]'HI.out = x := HXX.out
            rw [h10] at h9; exact h9
          · have h9 := HOO.out.1 ⟨x.cart, x.owner, if right = 0 then delA x.mem who else putA x.mem who right⟩ (List.mem_set HI.out _)
            exact h9.2.2)
        have HSET : Hid (setL who right (right == 0) (memS x.mem) = memS (if right = 0 then delA x.mem who else putA x.mem who right)) := Lib.hid (by
          obtain ⟨h8, h9⟩ := HND.out
          by_cases h : right = 0
          · rw [if_pos h] at h9 ⊢
            rw [show (right == 0) = true by simp [h]]
            exact setL_del h8 h9
          · rw [if_neg h] at h9 ⊢
            rw [show (right == 0) = false by simp [h]]
            exact setL_put h8 h9)
        have FIN : Hid (∀ (w7 w8 : World) (g' cap' : Nat) (cur' : Array Value) (v' : Value), w7.heap[b]? = some (.cells #[.slice (some ⟨g', 0, none⟩) A.length cap'] 38) → A.length ≤ cap' → wc.heap.size ≤ g' → w7.heap[g']? = some (.cells cur' 66) →
            RowP (fun k => (G k ∧ k ≠ b ∧ k < wc.heap.size) ∨ (wc.heap.size ≤ k ∧ k ≠ g')) w7 (cur'.toList.take (A.length * 3)) A → Keep (fun k => k = b ∨ wc.heap.size ≤ k) wc w7 → Below w7.heap.size w7 w8 → MemAt (fun k => w7.heap.size ≤ k) w8 v' (if right = 0 then delA x.mem who else putA x.mem who right) →
            DoPost G w b (grantA A by_ crt who right) 0 (.returned (.int .i64 0)) (w8.setCell ⟨g', i * 3 + 2, none⟩ v')) := Lib.hid (by
          intro w7 w8 g' cap' cur' v' k1 kc k2 k3 k4 k5 k6 k7
          have hgl' := lt_of_heap k3
          have hgb' : g' ≠ b := by omega
          have k8 : w8.heap[g']? = some (.cells cur' 66) := by rw [k6.block g' hgl']; exact k3
          have hrow : RowP (fun k => (G k ∧ k ≠ b ∧ k < wc.heap.size) ∨ (wc.heap.size ≤ k ∧ k ≠ g')) (w8.setCell ⟨g', i * 3 + 2, none⟩ v') (cur'.toList.take (A.length * 3)) A :=
            RowP.of (fun _ h => h) (fun k h1 h2 => by rw [Below.heap_setCell _ _ _ _ (show k ≠ g' by omega), k6.block k h2]) (by rw [setCell_size]; exact k6.size) k4
          have hmem : MemAt (fun k => (G k ∧ k ≠ b ∧ k < wc.heap.size) ∨ (wc.heap.size ≤ k ∧ k ≠ g')) (w8.setCell ⟨g', i * 3 + 2, none⟩ v') v' (if right = 0 then delA x.mem who else putA x.mem who right) :=
            k7.of (fun k h => Or.inr ⟨by have := k5.size; omega, by omega⟩) (fun k h _ => Below.heap_setCell _ _ _ _ (show k ≠ g' by omega)) (by rw [setCell_size]; exact Nat.le_refl _)
          have hnew := RowP.set_mem hmem hrow i HI.out
          have h10 : A[i]'HI.out = x := HXX.out
          rw [h10] at hnew
          have hszs := (HB6.out _ HBC.out).size
          rw [HAS.out]
          refine DoPost.turned hGb (v := .slice (some ⟨g', 0, none⟩) A.length cap') (by rw [Below.heap_setCell _ _ _ _ (show b ≠ g' from fun e => hgb' e.symm), k6.block b (lt_of_heap k1)]; exact k1) ?_ HOO.out ?_
          · have hp := block_pages (cap := cap') (A := A.set i ⟨x.cart, x.owner, if right = 0 then delA x.mem who else putA x.mem who right⟩) (G := fun k => (G k ∨ w.heap.size ≤ k) ∧ k ≠ b) (setCell_same k8 (i * 3 + 2) v') (by
              rw [List.length_set, Array.toList_setIfInBounds, List.take_set]
              exact RowP.of (fun k h => by
                rcases h with h | h
                · exact ⟨Or.inl h.1, h.2.1⟩
                · exact ⟨Or.inr (by omega), by omega⟩) (fun _ _ _ => rfl) (Nat.le_refl _) hnew) ⟨Or.inr (by omega), hgb'⟩ (by rw [List.length_set]; exact kc)
            rw [List.length_set] at hp
            exact hp
          · refine ((Keep.of_below (HB6.out _ HBC.out)).trans (k5.mono (fun k _ h => by rcases h with h | h; exact Or.inl h; exact Or.inr (by omega)))).trans ((Keep.of_below k6).trans (Keep.setCell _ _ _ (Or.inr (by show w.heap.size ≤ g'; omega)))))
        have hc7 : ∀ w7, Keep (fun k => k = b ∨ wc.heap.size ≤ k) wc w7 → ∀ j, w7.cell? ⟨w.heap.size, j, none⟩ = wc.cell? ⟨w.heap.size, j, none⟩ := fun w7 h j => World.cell?_of_block (h.block w.heap.size hwc (by omega))
        have HC7 := Lib.hid hc7
        clear hc7
        have HEE := Lib.hid he
        clear he
        go_upto_region 27 with fail
        go_region_law (first | (go_simp; go_at_call 30; refine HOW.out.mono ?_; rintro e w7 ⟨g', cap', cur', rfl, k1, kc, k2, k3, k4, k5, k6⟩; obtain ⟨-, -, mv', k7, k8⟩ := k5.get i HI.out; rw [(show A[i]'HI.out = x from HXX.out)] at k8; have m3 : w7.cell? ⟨w.heap.size, 3, none⟩ = some (.string who) := (by rw [HC7.out _ k6]; exact f3); have m4 : w7.cell? ⟨w.heap.size, 4, none⟩ = some (.int .i64 right) := (by rw [HC7.out _ k6]; exact f4)) | (go_simp; go_at_call 29; refine (set_m who right k3 (by rw [List.getElem?_take] at k7; split at k7; simpa using k7; cases k7) k8 hm50 HSET.out).mono ?_; rintro e w9 ⟨rfl, w8, v', k9, rfl, k10⟩))
        all_goals
          go_wp2
          go_ret
          rw [HEE.out]
          exact FIN.out _ _ _ _ _ _ k1 kc k2 k3 k5 k6 k9 k10
end Go.Proofs.YtdeljhehcjknbaaDoor
