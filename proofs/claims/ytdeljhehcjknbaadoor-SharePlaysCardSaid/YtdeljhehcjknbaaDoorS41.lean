/- Model.do walked for Close: for every model of the shape of S27. -/
import Derived.Test.YtdeljhehcjknbaaDoorS35
import Derived.Deep.CutRange
import Derived.Deep.Cut
import Derived.Deep.RegionHeld3
namespace Go.Proofs.YtdeljhehcjknbaaDoor
open Go.RowKit Go.Maps Go.Sort Go.Lib

theorem wrap_nat {n : Nat} (h : n ≤ 1000) : IntKind.i64.wrap (n : Int) = (n : Int) := by rw [IntKind.wrap_i64]; omega
theorem aDel_idx : ∀ {A : List APg} {c : ByteArray} {i : Nat}, idxA A c = some i → aDel A c = A.take i ++ A.drop (i + 1)
  | [], _, _, h => by cases h
  | x :: A, c, i, h => by
    simp only [idxA] at h
    simp only [aDel]
    by_cases e : c = x.cart
    · rw [if_pos e] at h ⊢; cases h; rfl
    · rw [if_neg e] at h ⊢
      cases hh : idxA A c with
      | none => rw [hh] at h; cases h
      | some k => rw [hh] at h; cases h; rw [aDel_idx hh]; rfl

set_option maxRecDepth 100000 in
set_option maxHeartbeats 8000000 in
theorem do_close {G : Nat → Prop} {w : World} {b : Nat} {A : List APg} (by_ crt who : ByteArray) (right op : Int) (key other item : ByteArray) (qty : Int) (da : Option Addr) (dl dc : Nat) (hM : ModelIs G w b A) (hO : Okay (closeA A by_ crt)) (h1 : by_.size ≤ maxLen) (h2 : crt.size ≤ maxLen) :
    Calls Tryd.prog 11 #[.pointer (some ⟨b, 0, none⟩), (ActR.val ⟨1, by_, crt, who, right, ⟨op, key, other, item, qty, da, dl, dc⟩⟩)] w (DoPost G w b (closeA A by_ crt) (closeE A by_ crt)) := by
  have HO := Lib.hid hO
  have HE : Hid (closeE A by_ crt = if keyB crt && keyB by_ then match aFind A crt with
    | none => 9
    | some x => if x.owner = by_ then 0 else 18
  else 2) := Lib.hid rfl
  have HA : Hid (closeE A by_ crt ≠ 0 → closeA A by_ crt = A) := Lib.hid (fun h => by unfold closeA; rw [if_neg h])
  have HA0 : Hid (closeE A by_ crt = 0 → closeA A by_ crt = aDel A crt) := Lib.hid (fun h => by unfold closeA; rw [if_pos h])
  have H2 : Hid ((keyB crt && keyB by_) = false → closeE A by_ crt = 2) := Lib.hid (fun h => by
    unfold closeE
    rw [h]
    rfl)
  clear hO
  have HKEY := Lib.hid (fun s w0 (hs : s.size ≤ maxLen) => key_any s w0 hs)
  have HMX := Lib.hid (fun wx (h : Below w.heap.size w wx) => hM.below h)
  have HM := Lib.hid hM
  obtain ⟨W1, hW1⟩ : ∃ W1, W1 = w.alloc (.cells #[.int .i64 1, .string by_, .string crt, .string who, .int .i64 right, .int .i64 op, .string key, .string other, .string item, .int .i64 qty, .slice da dl dc] 29) := ⟨_, rfl⟩
  have HCELL : Hid (∀ wx, Below W1.heap.size W1 wx → (wx.cell? ⟨w.heap.size, 0, none⟩ = some (.int .i64 1) ∧ wx.cell? ⟨w.heap.size, 1, none⟩ = some (.string by_) ∧ wx.cell? ⟨w.heap.size, 2, none⟩ = some (.string crt) ∧ wx.cell? ⟨w.heap.size, 3, none⟩ = some (.string who) ∧ wx.cell? ⟨w.heap.size, 4, none⟩ = some (.int .i64 right))) := Lib.hid (by
    intro wx h
    rw [hW1] at h
    exact ⟨by rw [h.cell (p := ⟨w.heap.size, 0, none⟩) (by simp)]; go_simp, by rw [h.cell (p := ⟨w.heap.size, 1, none⟩) (by simp)]; go_simp, by rw [h.cell (p := ⟨w.heap.size, 2, none⟩) (by simp)]; go_simp, by rw [h.cell (p := ⟨w.heap.size, 3, none⟩) (by simp)]; go_simp, by rw [h.cell (p := ⟨w.heap.size, 4, none⟩) (by simp)]; go_simp⟩)
  have HB0 : Hid (∀ wx, Below W1.heap.size W1 wx → Below w.heap.size w wx) := Lib.hid (by
    intro wx h
    rw [hW1] at h
    exact ((Below.refl _ _).alloc (Nat.le_refl _) _).trans (h.mono (by simp)))
  have HT := Lib.hid (fun (w1 w2 : World) (h : Below W1.heap.size W1 w1) (h2 : Below w1.heap.size w1 w2) => h.trans (h2.mono h.size))
  have hz1 : w.heap.size < W1.heap.size := by rw [hW1]; simp
  obtain ⟨f0, f1, f2, f3, f4⟩ := HCELL.out _ (Below.refl _ _)
  have hb := Below.refl W1.heap.size W1
  clear hM
  unfold ActR.val
  simp only
  go_enter Tryd.func11, Tryd.ntmps11
  go_upto_region 1 with fail
  rw [← hW1]
  clear hW1
  cases hk : keyB by_
  · have he : closeE A by_ crt = 2 := H2.out (by rw [hk]; simp)
    go_wp2_with (go_at_call 26; refine (HKEY.out _ _ (by assumption)).mono ?_; rintro e w1 ⟨rfl, hb1⟩; replace hb := HT.out _ _ hb hb1; obtain ⟨f0, f1, f2, f3, f4⟩ := HCELL.out _ hb)
    go_ret
    rw [HA.out (by rw [he]; decide), he]
    exact DoPost.same HM.out (HB0.out _ hb)
  cases hk2 : keyB crt
  · have he : closeE A by_ crt = 2 := H2.out (by rw [hk2]; simp)
    go_wp2_with (go_at_call 26; refine (HKEY.out _ _ (by assumption)).mono ?_; rintro e w1 ⟨rfl, hb1⟩; replace hb := HT.out _ _ hb hb1; obtain ⟨f0, f1, f2, f3, f4⟩ := HCELL.out _ hb)
    go_ret
    rw [HA.out (by rw [he]; decide), he]
    exact DoPost.same HM.out (HB0.out _ hb)
  have HE := Lib.hid (HE.out.trans (by rw [hk, hk2]))
  go_upto_region 5 with (go_at_call 26; refine (HKEY.out _ _ (by assumption)).mono ?_; rintro e w1 ⟨rfl, hb1⟩; replace hb := HT.out _ _ hb hb1; obtain ⟨f0, f1, f2, f3, f4⟩ := HCELL.out _ hb)
  clear hk hk2 H2 HKEY
  have hM5 := HMX.out _ (HB0.out _ hb)
  have hfi := find_m crt hM5
  have hb5 := HB0.out _ hb
  cases hx : idxA A crt with
  | none =>
    have hfv : findI A crt = -1 := by unfold findI; rw [hx]
    have hf : aFind A crt = none := by rw [aFind_idx, hx]; rfl
    rw [hfv] at hfi
    rw [hf] at HE
    have he : closeE A by_ crt = 9 := HE.out
    have HFI := Lib.hid hfi
    clear hfi hx hf hM5
    go_wp2_with (go_at_call 27; refine HFI.out.mono ?_; rintro e w6 ⟨rfl, rfl⟩)
    go_ret
    rw [HA.out (by rw [he]; decide), he]
    exact DoPost.same HM.out hb5
  | some i =>
    obtain ⟨hi, hf, -⟩ := idxA_get hx
    have hfv : findI A crt = i := by unfold findI; rw [hx]
    rw [hfv] at hfi
    rw [hf] at HE
    simp only at HE
    have HFI := Lib.hid hfi
    have hi0 : (0 : Int) ≤ i := by omega
    have hi1 : (i : Int) < A.length := by omega
    have HINV := Lib.hid hM5.2.2.1
    have HADEL := Lib.hid (aDel_idx hx)
    have HRA : Hid (∀ u, rightsA A u crt = A[i].rights u) := Lib.hid (fun u => by unfold rightsA; rw [hf])
    have hmr := rights_rng hM5.2.2.1 (List.getElem_mem hi) by_
    have hor := rights_rng hM5.2.2.1 (List.getElem_mem hi) who
    have HI := Lib.hid hi
    obtain ⟨hGb, ⟨v, hbv, hp⟩, -, -, h50⟩ := id hM5
    obtain ⟨a0, cap0, rfl, -, hpg⟩ := hp
    obtain ⟨g, rfl, -, hgl, hpgs⟩ := hpg (by intro e; rw [e] at hi; simp at hi)
    obtain ⟨p0, p1, mv, p2, am, cm, rfl, -, -⟩ := hpgs i hi
    have c0 := cell0 hbv 0
    simp only [List.getElem?_toArray, List.getElem?_cons_zero] at c0
    have hm50 := h50 _ (List.getElem_mem hi)
    have HM5 := Lib.hid hM5
    clear hpg hpgs h50 hx hf hfi hM5
    generalize hxx : A[i] = x at *
    have HXX := Lib.hid hxx
    clear hxx
    go_upto_region 16 with (go_at_call 27; refine HFI.out.mono ?_; rintro e w6 ⟨rfl, rfl⟩)
    obtain ⟨W6, hW6⟩ : ∃ W6, W6 = w1.alloc (.cells #[.string x.cart, .string x.owner, .slice am x.mem.length cm] 66) := ⟨_, rfl⟩
    have hb6 : Below w1.heap.size w1 W6 := by rw [hW6]; exact (Below.refl _ _).alloc (Nat.le_refl _) _
    have hz6 : w1.heap.size < W6.heap.size := by rw [hW6]; simp
    have q1 : W6.cell? ⟨w1.heap.size, 1, none⟩ = some (.string x.owner) := by rw [hW6]; go_simp
    have q2 : W6.cell? ⟨w1.heap.size, 2, none⟩ = some (.slice am x.mem.length cm) := by rw [hW6]; go_simp
    rw [← hW6]
    clear hW6
    have hwz : w.heap.size < w1.heap.size := Nat.lt_of_lt_of_le hz1 hb.size
    have HC6 : Hid (∀ wx, Below W6.heap.size W6 wx → (wx.cell? ⟨w1.heap.size, 1, none⟩ = some (.string x.owner) ∧ wx.cell? ⟨w1.heap.size, 2, none⟩ = some (.slice am x.mem.length cm) ∧ wx.cell? ⟨w.heap.size, 0, none⟩ = some (.int .i64 1) ∧ wx.cell? ⟨w.heap.size, 1, none⟩ = some (.string by_) ∧ wx.cell? ⟨w.heap.size, 2, none⟩ = some (.string crt) ∧ wx.cell? ⟨w.heap.size, 3, none⟩ = some (.string who) ∧ wx.cell? ⟨w.heap.size, 4, none⟩ = some (.int .i64 right) ∧ Below W6.heap.size W6 wx)) := Lib.hid (fun wx h => by
      have hh := hb6.trans (h.mono (Nat.le_of_lt hz6))
      refine ⟨by rw [h.cell (p := ⟨w1.heap.size, 1, none⟩) hz6]; exact q1, by rw [h.cell (p := ⟨w1.heap.size, 2, none⟩) hz6]; exact q2, ?_, ?_, ?_, ?_, ?_, h⟩
      · rw [hh.cell (p := ⟨w.heap.size, 0, none⟩) hwz]; exact f0
      · rw [hh.cell (p := ⟨w.heap.size, 1, none⟩) hwz]; exact f1
      · rw [hh.cell (p := ⟨w.heap.size, 2, none⟩) hwz]; exact f2
      · rw [hh.cell (p := ⟨w.heap.size, 3, none⟩) hwz]; exact f3
      · rw [hh.cell (p := ⟨w.heap.size, 4, none⟩) hwz]; exact f4)
    have HM6 := Lib.hid (fun wx (h : Below W6.heap.size W6 wx) => HM5.out.below (hb6.trans (h.mono (Nat.le_of_lt hz6))))
    have HRI := Lib.hid (fun wx (h : Below W6.heap.size W6 wx) u => rights_m u crt (HM6.out wx h))
    have HB6 := Lib.hid (fun wx (h : Below W6.heap.size W6 wx) => hb5.trans ((hb6.trans (h.mono (Nat.le_of_lt hz6))).mono (Nat.le_of_lt hwz)))
    have HT6 := Lib.hid (fun (wa wb : World) (h : Below W6.heap.size W6 wa) (h2 : Below wa.heap.size wa wb) => h.trans (h2.mono h.size))
    clear f0 f1 f2 f3 f4 q1 q2 hb6 hb p0 p1 p2 c0
    obtain ⟨q1, q2, f0, f1, f2, f3, f4, hbr⟩ := HC6.out _ (Below.refl _ _)
    go_cut [7, 8] from 99 to 222 (fun m o wx => m = .int .i64 (x.rights by_) ∧ o = .int .i64 (x.rights who) ∧ Below W6.heap.size W6 wx)
    case first =>
      go_region_held3 (fun wx => wx.cell? ⟨w1.heap.size, 1, none⟩ = some (.string x.owner) ∧ wx.cell? ⟨w1.heap.size, 2, none⟩ = some (.slice am x.mem.length cm) ∧ wx.cell? ⟨w.heap.size, 0, none⟩ = some (.int .i64 1) ∧ wx.cell? ⟨w.heap.size, 1, none⟩ = some (.string by_) ∧ wx.cell? ⟨w.heap.size, 2, none⟩ = some (.string crt) ∧ wx.cell? ⟨w.heap.size, 3, none⟩ = some (.string who) ∧ wx.cell? ⟨w.heap.size, 4, none⟩ = some (.int .i64 right) ∧ Below W6.heap.size W6 wx)
        (first | exact HC6.out _ ((Below.refl _ _).drew) | assumption | exact HC6.out _ hbk)
        (first | ((go_at_call 28; refine (HRI.out _ hbk _).mono ?_; rintro e w8 ⟨rfl, hbb⟩; have hbq := hbk; have hbk := HT6.out _ _ hbq hbb)) | ((go_at_call 28; refine (HRI.out _ ((Below.refl _ _).drew) _).mono ?_; rintro e w7 ⟨rfl, hbb⟩; have hbk := HT6.out _ _ ((Below.refl _ _).drew) hbb)))
      go_wp2
      go_meet
      case rel => exact ⟨by rw [HRA.out], by rw [HRA.out], hbk⟩
    case rest =>
      obtain ⟨rfl, rfl, hbc⟩ := hcut
      clear q1 q2 f0 f1 f2 f3 f4 hbr HFI HMX HRI
      obtain ⟨q1, q2, f0, f1, f2, f3, f4, hbr⟩ := HC6.out _ hbc
      have HBC := Lib.hid hbc
      have SAME := Lib.hid (fun n => DoPost.same (n := n) HM.out (HB6.out _ hbc))
      clear hbc hbr HRA
      by_cases hwo : ¬ x.owner = by_
      · have he : closeE A by_ crt = 18 := by rw [HE.out, if_neg hwo]; rfl
        have hss := str_ne hwo
        have HEE := Lib.hid he
        clear he hwo
        go_wp2_with fail
        go_ret
        rw [HA.out (by rw [HEE.out]; decide), HEE.out]
        exact SAME.out _
      have hwo := Classical.not_not.1 hwo
      have he : closeE A by_ crt = 0 := by rw [HE.out, if_pos hwo]; rfl
      have hss := str_eq hwo
      have HAH := Lib.hid ((HA0.out he).trans HADEL.out)
      have HEE := Lib.hid he
      clear he hwo
      obtain ⟨hGb', ⟨v', hbv', hp'⟩, -, h500, -⟩ := HM6.out _ HBC.out
      obtain ⟨xs, hrow, hsrc⟩ := pages_row hp'
      obtain ⟨a1, cap1, rfl, hcap1, hpg1⟩ := hp'
      have hIl : i < A.length := HI.out
      obtain ⟨g1, rfl, -, hgl1, -⟩ := hpg1 (by intro e; rw [e] at hIl; simp at hIl)
      have hcc1 : A.length ≤ cap1 := hcap1.2
      have c0 := cell0 hbv' 0
      simp only [List.getElem?_toArray, List.getElem?_cons_zero] at c0
      have hbl1 := lt_of_heap hbv'
      have hfz1 : wc.frozen? ⟨b, 0, none⟩ = false := by unfold World.frozen?; rw [hbv']; simp
      have hxl := hrow.len
      have hxc : ∀ j u, xs[j]? = some u → wc.cell? ⟨g1, j, none⟩ = some u := by
        intro j u hj
        rcases hsrc with ⟨h, _⟩ | ⟨ad, c, h, hh⟩
        · cases h
        · cases h
          have h3 := hh j u hj
          rw [show (⟨g1, 0, none⟩ : Addr).add j = ⟨g1, j, none⟩ by unfold Addr.add; split <;> simp_all] at h3
          exact h3
      have HS1 : Hid (∀ cx, SrcIs wc (.slice (some ⟨g1, 0, none⟩) i cx) i (xs.take (i * 3))) := Lib.hid (fun cx => Or.inr ⟨_, _, rfl, fun j u h => by
        rw [show (⟨g1, 0, none⟩ : Addr).add j = ⟨g1, j, none⟩ by unfold Addr.add; split <;> simp_all]
        rw [List.getElem?_take] at h
        split at h
        · exact hxc j u h
        · cases h⟩)
      have HS2 : Hid (∀ ad cx, (ad = (⟨g1, (i + 1) * 3, none⟩ : Addr) ∨ A.length - (i + 1) = 0) → SrcIs wc (.slice (some ad) (A.length - (i + 1)) cx) (A.length - (i + 1)) (xs.drop ((i + 1) * 3))) := Lib.hid (fun ad cx hor => Or.inr ⟨_, _, rfl, fun j u h => by
        rw [List.getElem?_drop] at h
        rcases hor with rfl | h0
        · rw [show (⟨g1, (i + 1) * 3, none⟩ : Addr).add j = ⟨g1, (i + 1) * 3 + j, none⟩ by unfold Addr.add; split <;> simp_all]
          exact hxc _ u h
        · rw [List.getElem?_eq_none (by rw [hxl]; omega)] at h
          cases h⟩)
      have HL1 : Hid ((xs.take (i * 3)).length = i * 3) := Lib.hid (by rw [List.length_take, hxl]; omega)
      have HL2 : Hid ((xs.drop ((i + 1) * 3)).length = (A.length - (i + 1)) * 3) := Lib.hid (by rw [List.length_drop, hxl]; omega)
      have HONE := Lib.hid hrow.one
      have FIN : Hid (∀ w5 v5, w5.ownsRow wc.heap.size 66 3 v5 (i + (A.length - (i + 1))) (xs.take (i * 3) ++ xs.drop ((i + 1) * 3)) → Below wc.heap.size wc w5 → DoPost G w b (closeA A by_ crt) 0 (.returned (.int .i64 0)) (w5.setCell ⟨b, 0, none⟩ v5)) := Lib.hid (by
        intro w5 v5 ho h5
        have hO9 := HO.out
        rw [HAH.out] at hO9 ⊢
        exact DoPost.pages hGb' hbv' (HB6.out _ HBC.out) h5 (by rw [List.length_append, List.length_take, List.length_drop, Nat.min_eq_left (Nat.le_of_lt hIl)]; exact ho) ((hrow.take i).append (hrow.drop (i + 1))) hO9)
      obtain ⟨i0, hi9, hz0, hz1', hz2⟩ := info_parts Tryd_info66
      have HI6 := Lib.hid (And.intro hi9 (And.intro hz0 (And.intro hz1' hz2)))
      have hcz : (i : Int) ≤ cap1 := by omega
      have hi2 : (i : Int) + 1 ≤ A.length := by omega
      have hi3 : i + 1 ≤ A.length := by omega
      clear hrow hsrc hbv' hpg1 hxc hi9 hz0 hz1' hz2 hxl
      have hx1 : (i : Int) ≤ (i : Int) + 1 := by omega
      have hx2 : (0 : Int) ≤ (i : Int) + 1 := by omega
      have hwr : IntKind.i64.wrap ((i : Int) + 1) = ((i + 1 : Nat) : Int) := by rw [show (i : Int) + 1 = ((i + 1 : Nat) : Int) by omega]; exact wrap_nat (by omega)
      go_upto_region 21 with fail
      by_cases hce : cap1 = i + 1
      all_goals go_region_law (first | (refine step_append_src rfl _ _ 36 rfl wc.heap.size 66 i0 (.agg #[.string ⟨#[]⟩, .string ⟨#[]⟩, .slice none 0 0]) 3 56 Tryd.underlying36 HI6.out.1 HI6.out.2.1 HI6.out.2.2.1 HI6.out.2.2.2 rfl (by decide) v4 (0 + i) ([] ++ xs.take (i * 3)) rfl hown4 _ _ _ rfl ((HS2.out _ _ (by first | exact Or.inl rfl | exact Or.inr (by omega))).below hb4) HL2.out (fun u hu => HONE.out u (List.mem_of_mem_drop hu)) (by unfold maxLen; omega) (by omega) hb4.size ?_; intro v5 w5 hown5 hgr5 _; have hb5' : Below wc.heap.size wc w5 := hb4.grown hgr5 hb4.size (own_blk hown4); obtain ⟨a5, c5, rfl⟩ := owns_slice hown5; have k0 : w5.cell? ⟨b, 0, none⟩ = some (.slice (some ⟨g1, 0, none⟩) A.length cap1) := (by rw [hb5'.cell (p := ⟨b, 0, none⟩) hbl1]; exact c0); have k1 : w5.frozen? ⟨b, 0, none⟩ = false := (by rw [hb5'.frozen (p := ⟨b, 0, none⟩) hbl1]; exact hfz1)) | (refine step_append_src rfl _ _ 36 rfl wc.heap.size 66 i0 (.agg #[.string ⟨#[]⟩, .string ⟨#[]⟩, .slice none 0 0]) 3 56 Tryd.underlying36 HI6.out.1 HI6.out.2.1 HI6.out.2.2.1 HI6.out.2.2.2 rfl (by decide) (.slice none 0 0) 0 [] rfl (World.ownsRow_nil _ _ _ _) _ _ _ rfl ((HS1.out _).below ((Below.refl _ _).drew)) HL1.out (fun u hu => HONE.out u (List.mem_of_mem_take hu)) (by unfold maxLen; omega) (by omega) (Nat.le_refl _) ?_; intro v4 w4 hown4 hgr4 _; have hb4 : Below wc.heap.size wc w4 := (((Below.refl _ _).drew).grown hgr4 (Nat.le_refl _) (by simp [Value.ownBlock])); have g0 : w4.cell? ⟨b, 0, none⟩ = some (.slice (some ⟨g1, 0, none⟩) A.length cap1) := (by rw [hb4.cell (p := ⟨b, 0, none⟩) hbl1]; exact c0)))
      all_goals
        go_wp2
        go_ret
        rw [HEE.out]
        simp only [Nat.zero_add, List.nil_append] at hown5 ⊢
        exact FIN.out _ _ hown5 hb5'
end Go.Proofs.YtdeljhehcjknbaaDoor
