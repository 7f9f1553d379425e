/- All of an inbox. -/
import Derived.Test.YtkedgiklcmkmmaaGreatDoorI12
namespace Go.Proofs.YtkedgiklcmkmmaaGreatDoor
open Go.RowKit Go.Maps

theorem flatE_snoc (l : List ByteArray) (x : ByteArray) : flatE (l ++ [x]) = flatE l ++ zE x := by simp [flatE]
theorem zE_one (x : ByteArray) : ∀ u ∈ zE x, u.oneCell' = true := by
  intro u hu
  simp [zE] at hu
  rcases hu with rfl | rfl <;> rfl

set_option maxRecDepth 100000 in
set_option maxHeartbeats 4000000 in
theorem all_any {G : Nat → Prop} {w : World} {b size : Nat} {q : List ByteArray} (h : Box G w b size q) : Calls Tryz.prog 20 #[.pointer (some ⟨b, 0, none⟩)] w fun e w' => ∃ v, e = .returned v ∧ w'.ownsRow w.heap.size 41 4 v q.length (flatE q) ∧ Below w.heap.size w w' := by
  obtain ⟨i0, hi0, hz0, hz1, hz2⟩ := info_parts Tryz_info41
  have HI := Lib.hid (And.intro hi0 (And.intro hz0 (And.intro hz1 hz2)))
  clear hi0 hz0 hz1 hz2
  have HL := Lib.hid (len_any h)
  obtain ⟨hGb, hs0, hs4, hkeys, rv, n, first, hbb, hqn, hns, hring⟩ := h
  obtain ⟨ra, rfl⟩ := hring.slice
  have hbl := lt_of_heap hbb
  have HR := Lib.hid hring
  have HK := Lib.hid hkeys
  have HBB := Lib.hid hbb
  clear hring hkeys hbb
  go_enter Tryz.func20, Tryz.ntmps20
  go_wp2_with (go_at_call 16; refine HL.out.mono ?_; rintro e w1 ⟨rfl, rfl⟩)
  go_loopw [9, 3] (fun i v wr => ∃ k : Nat, k ≤ q.length ∧ i = .int .i64 k ∧ wr.ownsRow w1.heap.size 41 4 v k (flatE (q.take k)) ∧ Below w1.heap.size w1 wr) (fun i _ _ => q.length - (intOf i).toNat)
  case atStart => exact ⟨0, Nat.zero_le _, rfl, by rw [List.take_zero]; exact World.ownsRow_nil _ _ _ _, Below.refl _ _⟩
  case round =>
    obtain ⟨k, hk, rfl, hrow, hB⟩ := hrel
    obtain ⟨av, cv, rfl⟩ := owns_slice hrow
    by_cases hlt : k < q.length
    · obtain ⟨hfn, g, C, hv, hGg, hgb, hgC, hsC, hCq⟩ := HR.out.2 (by omega)
      cases hv
      have hgl := lt_of_heap hgC
      have hgr : wr.heap[g]? = some (.cells C 41) := by rw [hB.block _ hgl]; exact hgC
      have hbr : wr.heap[b]? = some (.cells #[.int .i64 size, .slice (some ⟨g, 0, none⟩) n n, .int .i64 first, .int .i64 q.length] 65) := by rw [hB.block _ hbl]; exact HBB.out
      have hcl : ∀ j, j < 4 → wr.cell? ⟨g, (first + k) % n * 4 + j, none⟩ = (zE q[k])[j]? := fun j hj => by rw [cell0 hgr]; exact hCq k hlt j hj
      have hkb : keyB q[k] = true := HK.out _ (List.getElem_mem hlt)
      have HTK := Lib.hid (List.take_succ_eq_append_getElem hlt)
      obtain ⟨m, hm⟩ : ∃ m, m = (first + k) % n := ⟨_, rfl⟩
      have hmlt : m < n := by rw [hm]; exact Nat.mod_lt _ (by omega)
      have hwr : IntKind.i64.wrap ((first : Int) + k) = (first : Int) + k := by rw [IntKind.wrap_i64]; omega
      have hn00 : ¬ n = 0 := by omega
      have htm : ((first : Int) + k).tmod (n : Int) = (m : Int) := by
        rw [hm, show (first : Int) + k = ((first + k : Nat) : Int) by omega]
        exact (Int.ofNat_tmod _ _).symm
      rw [← hm] at hcl
      generalize q[k] = x at *
      have hks : x.size ≤ maxLen := by unfold keyB at hkb; simp at hkb; unfold maxLen; omega
      have HOWN := Lib.hid (fun w0 => own_any x w0 hkb hks)
      have e0 : wr.cell? ⟨g, m * 4, none⟩ = some (.string x) := hcl 0 (by omega)
      have e1 : wr.cell? ⟨g, m * 4 + 1, none⟩ = some (.slice none 0 0) := hcl 1 (by omega)
      have e2 : wr.cell? ⟨g, m * 4 + 2, none⟩ = some (.slice none 0 0) := hcl 2 (by omega)
      have e3 : wr.cell? ⟨g, m * 4 + 3, none⟩ = some (.slice none 0 0) := hcl 3 (by omega)
      have s1 : wr.cell? ⟨b, 1, none⟩ = some (.slice (some ⟨g, 0, none⟩) n n) := by rw [cell0 hbr 1]; rfl
      have s2 : wr.cell? ⟨b, 2, none⟩ = some (.int .i64 first) := by rw [cell0 hbr 2]; rfl
      have a2 : (0 : Int) ≤ m := by omega
      have a3 : (m : Int) < n := by omega
      have hgl2 := lt_of_heap hgr
      have hbl2 := lt_of_heap hbr
      have HB := Lib.hid hB
      have HROW := Lib.hid hrow
      clear hm hcl hgr hbr hgC hCq hB hrow
      go_upto_region 5 with fail
      have FINA : Hid (∀ w5, Below wr.drew.heap.size wr.drew w5 → ∃ z, Value.pointer (some ⟨w5.heap.size, 0, none⟩) = .pointer (some ⟨z, 0, none⟩) ∧ wr.heap.size ≤ z ∧ (w5.alloc (.cells #[.string x, .slice none 0 0, .slice none 0 0, .slice none 0 0] 41)).heap[z]? = some (.cells #[.string x, .slice none 0 0, .slice none 0 0, .slice none 0 0] 41) ∧ Below wr.heap.size wr (w5.alloc (.cells #[.string x, .slice none 0 0, .slice none 0 0, .slice none 0 0] 41))) := Lib.hid (fun w5 h5 =>
        ⟨w5.heap.size, rfl, h5.size, alloc_new _ _, (((Below.refl _ _).drew).trans h5).alloc h5.size _⟩)
      have FINB : Hid (∀ w5, w5.heap[wr.heap.size]? = some (.cells #[.string ⟨#[]⟩, .slice none 0 0, .slice none 0 0, .slice none 0 0] 41) → Below (wr.alloc (.cells #[.string ⟨#[]⟩, .slice none 0 0, .slice none 0 0, .slice none 0 0] 41)).drew.heap.size (wr.alloc (.cells #[.string ⟨#[]⟩, .slice none 0 0, .slice none 0 0, .slice none 0 0] 41)).drew w5 → ∃ z, Value.pointer (some ⟨wr.heap.size, 0, none⟩) = .pointer (some ⟨z, 0, none⟩) ∧ wr.heap.size ≤ z ∧ ((((w5.setCell ⟨wr.heap.size, 0, none⟩ (.string x)).setCell ⟨wr.heap.size, 1, none⟩ (.slice none 0 0)).setCell ⟨wr.heap.size, 2, none⟩ (.slice none 0 0)).setCell ⟨wr.heap.size, 3, none⟩ (.slice none 0 0)).heap[z]? = some (.cells #[.string x, .slice none 0 0, .slice none 0 0, .slice none 0 0] 41) ∧ Below wr.heap.size wr ((((w5.setCell ⟨wr.heap.size, 0, none⟩ (.string x)).setCell ⟨wr.heap.size, 1, none⟩ (.slice none 0 0)).setCell ⟨wr.heap.size, 2, none⟩ (.slice none 0 0)).setCell ⟨wr.heap.size, 3, none⟩ (.slice none 0 0))) := Lib.hid (fun w5 hal h5 => by
        refine ⟨wr.heap.size, rfl, Nat.le_refl _, ?_, ?_⟩
        · have h1 := setCell_same hal 0 (.string x)
          have h2 := setCell_same h1 1 (.slice none 0 0)
          have h3 := setCell_same h2 2 (.slice none 0 0)
          have h4 := setCell_same h3 3 (.slice none 0 0)
          exact h4
        · have hs : wr.heap.size ≤ (wr.alloc (.cells #[.string ⟨#[]⟩, .slice none 0 0, .slice none 0 0, .slice none 0 0] 41)).drew.heap.size := by show _ ≤ (wr.alloc _).heap.size; simp
          exact ((((((Below.refl _ _).alloc (Nat.le_refl _) _).drew.trans (h5.mono hs)).setCell (Nat.le_refl _) _).setCell (Nat.le_refl _) _).setCell (Nat.le_refl _) _).setCell (Nat.le_refl _) _)
      go_cut [5, 6] from 12 to 33 (fun p bb wx => ∃ z, p = .pointer (some ⟨z, 0, none⟩) ∧ bb = .bool true ∧ wr.heap.size ≤ z ∧ wx.heap[z]? = some (.cells #[.string x, .slice none 0 0, .slice none 0 0, .slice none 0 0] 41) ∧ Below wr.heap.size wr wx)
      case first =>
        refine NQ.to ?_
        go_region_law (go_simp; go_at_call 33; refine (HOWN.out _).mono ?_; rintro e w5 ⟨rfl, hb5⟩; (first | (have hal : w5.heap[wr.heap.size]? = some (.cells #[.string ⟨#[]⟩, .slice none 0 0, .slice none 0 0, .slice none 0 0] 41) := (by rw [hb5.block _ (by simp)]; exact alloc_new _ _); have k0 : w5.cell? ⟨wr.heap.size, 0, none⟩ = some (.string ⟨#[]⟩) := (by rw [cell0 hal 0]; rfl); have k1 : w5.cell? ⟨wr.heap.size, 1, none⟩ = some (.slice none 0 0) := (by rw [cell0 hal 1]; rfl); have k2 : w5.cell? ⟨wr.heap.size, 2, none⟩ = some (.slice none 0 0) := (by rw [cell0 hal 2]; rfl); have k3 : w5.cell? ⟨wr.heap.size, 3, none⟩ = some (.slice none 0 0) := (by rw [cell0 hal 3]; rfl); have l0 : w5.frozen? ⟨wr.heap.size, 0, none⟩ = false := froz0 hal 0; have l1 : w5.frozen? ⟨wr.heap.size, 1, none⟩ = false := froz0 hal 1; have l2 : w5.frozen? ⟨wr.heap.size, 2, none⟩ = false := froz0 hal 2; have l3 : w5.frozen? ⟨wr.heap.size, 3, none⟩ = false := froz0 hal 3) | skip))
        all_goals
          simp only [NQ]
          go_wp2
          go_meet
          case rel => first | (have hal2 := hal; obtain ⟨z, a1, a2, a3, a4⟩ := FINB.out _ hal2 hb5; exact ⟨z, a1, rfl, a2, a3, a4⟩) | (obtain ⟨z, a1, a2, a3, a4⟩ := FINA.out _ hb5; exact ⟨z, a1, rfl, a2, a3, a4⟩)
      case rest =>
        obtain ⟨z, rfl, rfl, hz, hcz, hbx⟩ := hcut
        have hzl := lt_of_heap hcz
        have g0 : wc.cell? ⟨z, 0, none⟩ = some (.string x) := by rw [cell0 hcz 0]; rfl
        have g1 : wc.cell? ⟨z, 1, none⟩ = some (.slice none 0 0) := by rw [cell0 hcz 1]; rfl
        have g2 : wc.cell? ⟨z, 2, none⟩ = some (.slice none 0 0) := by rw [cell0 hcz 2]; rfl
        have g3 : wc.cell? ⟨z, 3, none⟩ = some (.slice none 0 0) := by rw [cell0 hcz 3]; rfl
        have hbw : w1.heap.size ≤ wr.heap.size := HB.out.size
        have hal : Below wr.heap.size wr (wc.alloc (.cells #[.string x, .slice none 0 0, .slice none 0 0, .slice none 0 0] 41)) := hbx.alloc hbx.size _
        have HROW2 := Lib.hid (row_below HROW.out hal)
        have HB2 := Lib.hid (HB.out.trans (hal.mono hbw))
        have HSRC : Hid (SrcIs (wc.alloc (.cells #[.string x, .slice none 0 0, .slice none 0 0, .slice none 0 0] 41)) (.slice (some ⟨wc.heap.size, 0, none⟩) 1 1) 1 (zE x)) := Lib.hid (Or.inr ⟨_, _, rfl, fun j u hj => by
          rw [show (⟨wc.heap.size, 0, none⟩ : Addr).add j = ⟨wc.heap.size, j, none⟩ by unfold Addr.add; split <;> simp_all]
          rw [cell0 (alloc_new _ _)]
          simpa [zE] using hj⟩)
        have hbw2 : w1.heap.size ≤ (wc.alloc (.cells #[.string x, .slice none 0 0, .slice none 0 0, .slice none 0 0] 41)).heap.size := HB2.out.size
        clear hal hcz FINA FINB
        go_wp2_with (at_builtin; refine wpList_append_src rfl _ _ 29 rfl w1.heap.size 41 i0 (.agg #[.string ⟨#[]⟩, .slice none 0 0, .slice none 0 0, .slice none 0 0]) 4 88 Tryz.underlying29 HI.out.1 HI.out.2.1 HI.out.2.2.1 HI.out.2.2.2 rfl (by decide) (.slice av k cv) k _ rfl HROW2.out _ _ _ rfl HSRC.out rfl (zE_one x) (by unfold maxLen; omega) (by omega) hbw2 ?_; intro v8 w8 hown8 hgr8 _)
        have hbf := HB2.out.grown hgr8 hbw2 (fun j hj => (HROW2.out.lt _ hj).1)
        go_roundw
        case rel => exact ⟨k + 1, by omega, by go_num, by rw [HTK.out, flatE_snoc]; exact hown8, hbf⟩
        case measure => simp [intOf]; omega
    · have hke : k = q.length := by omega
      subst hke
      rw [List.take_length] at hrow
      go_wp2_with fail
      go_ret
      exact ⟨_, rfl, hrow, hB⟩
end Go.Proofs.YtkedgiklcmkmmaaGreatDoor
