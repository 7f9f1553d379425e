/- Model.do walked for Open: for every model of the shape of S27. -/
import Derived.Test.YtdeljhehcjknbaaDoorS35
namespace Go.Proofs.YtdeljhehcjknbaaDoor
open Go.RowKit Go.Maps Go.Sort Go.Lib

set_option maxRecDepth 100000 in
set_option maxHeartbeats 4000000 in
theorem do_open {G : Nat → Prop} {w : World} {b : Nat} {A : List APg} (by_ crt who : ByteArray) (right op : Int) (key other item : ByteArray) (qty : Int) (da : Option Addr) (dl dc : Nat) (hM : ModelIs G w b A) (hO : Okay (openA A by_ crt)) (h1 : by_.size ≤ maxLen) (h2 : crt.size ≤ maxLen) :
    Calls Tryd.prog 11 #[.pointer (some ⟨b, 0, none⟩), (ActR.val ⟨0, by_, crt, who, right, ⟨op, key, other, item, qty, da, dl, dc⟩⟩)] w (DoPost G w b (openA A by_ crt) (openE A by_ crt)) := by
  have HO := Lib.hid hO
  have HE : Hid (openE A by_ crt = if keyB by_ && keyB crt then match aFind A crt with | some _ => 11 | none => if 500 ≤ A.length then 7 else 0 else 2) := Lib.hid rfl
  have HA : Hid (openE A by_ crt ≠ 0 → openA A by_ crt = A) := Lib.hid (fun h => by unfold openA; rw [if_neg h])
  have HA0 : Hid (openE A by_ crt = 0 → openA A by_ crt = A ++ [⟨crt, by_, []⟩]) := Lib.hid (fun h => by unfold openA; rw [if_pos h])
  clear hO
  have HKEY := Lib.hid (fun s w0 (hs : s.size ≤ maxLen) => key_any s w0 hs)
  have HMX := Lib.hid (fun wx (h : Below w.heap.size w wx) => hM.below h)
  have HM := Lib.hid hM
  obtain ⟨W1, hW1⟩ : ∃ W1, W1 = w.alloc (.cells #[.int .i64 0, .string by_, .string crt, .string who, .int .i64 right, .int .i64 op, .string key, .string other, .string item, .int .i64 qty, .slice da dl dc] 29) := ⟨_, rfl⟩
  have HCELL : Hid (∀ wx, Below W1.heap.size W1 wx → (wx.cell? ⟨w.heap.size, 0, none⟩ = some (.int .i64 0) ∧ wx.cell? ⟨w.heap.size, 1, none⟩ = some (.string by_) ∧ wx.cell? ⟨w.heap.size, 2, none⟩ = some (.string crt) ∧ wx.cell? ⟨w.heap.size, 3, none⟩ = some (.string who) ∧ wx.cell? ⟨w.heap.size, 4, none⟩ = some (.int .i64 right))) := Lib.hid (by
    intro wx h
    rw [hW1] at h
    exact ⟨by rw [h.cell (p := ⟨w.heap.size, 0, none⟩) (by simp)]; go_simp, by rw [h.cell (p := ⟨w.heap.size, 1, none⟩) (by simp)]; go_simp, by rw [h.cell (p := ⟨w.heap.size, 2, none⟩) (by simp)]; go_simp, by rw [h.cell (p := ⟨w.heap.size, 3, none⟩) (by simp)]; go_simp, by rw [h.cell (p := ⟨w.heap.size, 4, none⟩) (by simp)]; go_simp⟩)
  have HB0 : Hid (∀ wx, Below W1.heap.size W1 wx → Below w.heap.size w wx) := Lib.hid (by
    intro wx h
    rw [hW1] at h
    exact ((Below.refl _ _).alloc (Nat.le_refl _) _).trans (h.mono (by simp)))
  have HT := Lib.hid (fun (w1 w2 : World) (h : Below W1.heap.size W1 w1) (h2 : Below w1.heap.size w1 w2) => h.trans (h2.mono h.size))
  have hz1 : w.heap.size < W1.heap.size := by rw [hW1]; simp
  obtain ⟨f0, f1, f2, f3, f4⟩ := HCELL.out _ (Below.refl _ _)
  have hb := Below.refl W1.heap.size W1
  clear hM
  unfold ActR.val
  simp only
  go_enter Tryd.func11, Tryd.ntmps11
  go_upto_region 1 with fail
  rw [← hW1]
  clear hW1
  cases hk : keyB by_
  · rw [hk] at HE
    have he : openE A by_ crt = 2 := HE.out
    go_wp2_with (go_at_call 26; refine (HKEY.out _ _ (by assumption)).mono ?_; rintro e w1 ⟨rfl, hb1⟩; replace hb := HT.out _ _ hb hb1; obtain ⟨f0, f1, f2, f3, f4⟩ := HCELL.out _ hb)
    go_ret
    rw [HA.out (by rw [he]; decide), he]
    exact DoPost.same HM.out (HB0.out _ hb)
  cases hk2 : keyB crt
  · rw [hk, hk2] at HE
    have he : openE A by_ crt = 2 := HE.out
    go_wp2_with (go_at_call 26; refine (HKEY.out _ _ (by assumption)).mono ?_; rintro e w1 ⟨rfl, hb1⟩; replace hb := HT.out _ _ hb hb1; obtain ⟨f0, f1, f2, f3, f4⟩ := HCELL.out _ hb)
    go_ret
    rw [HA.out (by rw [he]; decide), he]
    exact DoPost.same HM.out (HB0.out _ hb)
  rw [hk, hk2] at HE
  go_upto_region 5 with (go_at_call 26; refine (HKEY.out _ _ (by assumption)).mono ?_; rintro e w1 ⟨rfl, hb1⟩; replace hb := HT.out _ _ hb hb1; obtain ⟨f0, f1, f2, f3, f4⟩ := HCELL.out _ hb)
  have hM5 := HMX.out _ (HB0.out _ hb)
  have hfi := find_m crt hM5
  have hb5 := HB0.out _ hb
  cases hx : idxA A crt with
  | some i =>
    obtain ⟨hi, hf, -⟩ := idxA_get hx
    have he : openE A by_ crt = 11 := by rw [HE.out, hf]; rfl
    have hfv : findI A crt = i := by unfold findI; rw [hx]
    rw [hfv] at hfi
    have HFI := Lib.hid hfi
    have hi0 : (0 : Int) ≤ i := by omega
    clear hM5 hfi hx hf hi
    go_wp2_with (go_at_call 27; refine HFI.out.mono ?_; rintro e w6 ⟨rfl, rfl⟩)
    go_ret
    rw [HA.out (by rw [he]; decide), he]
    exact DoPost.same HM.out hb5
  | none =>
    have hfv : findI A crt = -1 := by unfold findI; rw [hx]
    have hf : aFind A crt = none := by rw [aFind_idx, hx]; rfl
    rw [hfv] at hfi
    rw [hf] at HE
    have HFI := Lib.hid hfi
    obtain ⟨hGb, ⟨v, hbv, hp⟩, -, h500, -⟩ := hM5
    obtain ⟨xs, hrow, hsrc⟩ := pages_row hp
    obtain ⟨a0, cap0, hv, -, -⟩ := hp
    subst hv
    have c0 := cell0 hbv 0
    simp only [List.getElem?_toArray, List.getElem?_cons_zero] at c0
    have hbl := lt_of_heap hbv
    have hfz : w1.frozen? ⟨b, 0, none⟩ = false := by unfold World.frozen?; rw [hbv]; simp
    clear hfi hx hf
    by_cases hlen : 500 ≤ A.length
    · have he : openE A by_ crt = 7 := by rw [HE.out]; simp [hlen]
      have hl0 : (500 : Int) ≤ A.length := by omega
      clear hrow hsrc hbv
      go_wp2_with (go_at_call 27; refine HFI.out.mono ?_; rintro e w6 ⟨rfl, rfl⟩)
      go_ret
      rw [HA.out (by rw [he]; decide), he]
      exact DoPost.same HM.out hb5
    · have he : openE A by_ crt = 0 := by rw [HE.out]; simp [hlen]
      have hA := HA0.out he
      rw [hA] at HO
      have HAH := Lib.hid hA
      have hl0 : (A.length : Int) < 500 := by omega
      have hxl := hrow.len
      have HSRC := Lib.hid hsrc
      have HONE := Lib.hid hrow.one
      have FIN : Hid (∀ w5 v5, w5.ownsRow w1.heap.size 66 3 v5 (A.length + 1) (xs ++ [.string crt, .string by_, .slice none 0 0]) → Below w1.heap.size w1 w5 → DoPost G w b (A ++ [⟨crt, by_, []⟩]) 0 (.returned (.int .i64 0)) (w5.setCell ⟨b, 0, none⟩ v5)) := Lib.hid (by
        intro w5 v5 ho h5
        exact DoPost.pages hGb hbv hb5 h5 (by rw [List.length_append]; exact ho) (hrow.append (show RowP _ _ [.string crt, .string by_, .slice none 0 0] [⟨crt, by_, []⟩] from ⟨rfl, rfl, MemAt.nil _ _, trivial⟩)) HO.out)
      have hwz : w.heap.size < w1.heap.size := Nat.lt_of_lt_of_le hz1 hb.size
      obtain ⟨i0, hi0, hz0, hz1', hz2⟩ := info_parts Tryd_info66
      have HI := Lib.hid (And.intro hi0 (And.intro hz0 (And.intro hz1' hz2)))
      clear hrow hsrc hbv hi0 hz0 hz1' hz2 hA
      go_upto_region 11 with (go_at_call 27; refine HFI.out.mono ?_; rintro e w6 ⟨rfl, rfl⟩)
      go_region_law (first | (refine step_append_src rfl _ _ 36 rfl w1.heap.size 66 i0 (.agg #[.string ⟨#[]⟩, .string ⟨#[]⟩, .slice none 0 0]) 3 56 Tryd.underlying36 HI.out.1 HI.out.2.1 HI.out.2.2.1 HI.out.2.2.2 rfl (by decide) v4 (0 + A.length) ([] ++ xs) rfl (by first | exact hown4 | exact hown4.alloc _) _ 1 [.string crt, .string by_, .slice none 0 0] rfl (Or.inr ⟨_, 1, rfl, fun j u h => by first | exact alloc_cells2 w4 #[.string crt, .string by_, .slice none 0 0] 66 j u (by simpa using h) | (rw [World.cell?_of_block (hgr4.block _ (by rw [add_block]; simp) (by simp [Value.ownBlock]))]; exact alloc_cells2 w1.drew #[.string crt, .string by_, .slice none 0 0] 66 j u (by simpa using h))⟩) rfl (by simp [Value.oneCell']) (by unfold maxLen; omega) (by omega) (by first | exact hb4.size | (simp; have := hb4.size; omega)) ?_; intro v5 w5 hown5 hgr5 _; have hb5' : Below w1.heap.size w1 w5 := (by first | exact hb4.grown hgr5 hb4.size (own_blk hown4) | exact (hb4.alloc hb4.size _).grown hgr5 (by simp; have := hb4.size; omega) (own_blk hown4)); obtain ⟨a5, c5, rfl⟩ := owns_slice hown5; have k0 : w5.cell? ⟨b, 0, none⟩ = some (.slice a0 A.length cap0) := (by rw [hb5'.cell (p := ⟨b, 0, none⟩) hbl]; exact c0); have k1 : w5.frozen? ⟨b, 0, none⟩ = false := (by rw [hb5'.frozen (p := ⟨b, 0, none⟩) hbl]; exact hfz)) | (refine step_append_src rfl _ _ 36 rfl w1.heap.size 66 i0 (.agg #[.string ⟨#[]⟩, .string ⟨#[]⟩, .slice none 0 0]) 3 56 Tryd.underlying36 HI.out.1 HI.out.2.1 HI.out.2.2.1 HI.out.2.2.2 rfl (by decide) (.slice none 0 0) 0 [] rfl (World.ownsRow_nil _ _ _ _) _ _ _ rfl (HSRC.out.below (by first | exact (Below.refl _ _).drew | exact ((Below.refl _ _).drew).alloc (Nat.le_refl _) _)) hxl HONE.out (by unfold maxLen; omega) (by omega) (by first | exact Nat.le_refl _ | (simp)) ?_; intro v4 w4 hown4 hgr4 _; have hb4 : Below w1.heap.size w1 w4 := (by first | exact ((Below.refl _ _).drew).grown hgr4 (Nat.le_refl _) (by simp [Value.ownBlock]) | exact (((Below.refl _ _).drew).alloc (Nat.le_refl _) _).grown hgr4 (by simp) (by simp [Value.ownBlock])); have g0 : w4.cell? ⟨b, 0, none⟩ = some (.slice a0 A.length cap0) := (by rw [hb4.cell (p := ⟨b, 0, none⟩) hbl]; exact c0); have g1 : w4.cell? ⟨w.heap.size, 1, none⟩ = some (.string by_) := (by rw [hb4.cell (p := ⟨w.heap.size, 1, none⟩) hwz]; exact f1); have g2 : w4.cell? ⟨w.heap.size, 2, none⟩ = some (.string crt) := (by rw [hb4.cell (p := ⟨w.heap.size, 2, none⟩) hwz]; exact f2)))
      all_goals
        go_wp2
        go_ret
        rw [HAH.out]
        simp only [Nat.zero_add, List.nil_append] at hown5 ⊢
        exact FIN.out _ _ hown5 hb5'
end Go.Proofs.YtdeljhehcjknbaaDoor
