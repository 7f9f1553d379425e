/- Clone of entries; the first loop of Put: each entry is its own copy again. -/
import Derived.Test.YtkedgiklcmkmmaaGreatDoorI10
import Derived.Lib.BufferMore
namespace Go.Proofs.YtkedgiklcmkmmaaGreatDoor
open Go.RowKit Go.Maps

theorem flatE_one (l : List ByteArray) : ∀ u ∈ flatE l, u.oneCell' = true := by
  intro u hu
  unfold flatE at hu
  obtain ⟨k, _, hk⟩ := List.mem_flatMap.1 hu
  simp [zE] at hk
  rcases hk with rfl | rfl <;> rfl
theorem Rd.src {w : World} {v : Value} {sz n : Nat} {xs : List Value} (h : Rd w v sz n xs) (hn : n ≠ 0) : SrcIs w v n xs := by
  obtain ⟨a, cap, rfl, _, _, h4⟩ := h
  obtain ⟨g, rfl, _, hc⟩ := h4 hn
  refine Or.inr ⟨_, _, rfl, fun j u hj => ?_⟩
  rw [show (⟨g, 0, none⟩ : Addr).add j = ⟨g, j, none⟩ by unfold Addr.add; split <;> simp_all]
  exact hc j u hj
theorem setIf_self (C : Array Value) (i : Nat) (v : Value) (h : C[i]? = some v) : C.setIfInBounds i v = C := by
  apply Array.ext_getElem?
  intro j
  rw [Array.getElem?_setIfInBounds]
  split
  · rename_i hij; subst hij
    have hi : i < C.size := by
      rcases Nat.lt_or_ge i C.size with h' | h'
      · exact h'
      · rw [Array.getElem?_eq_none h'] at h; cases h
    rw [if_pos hi, h]
  · rfl
theorem setCell_self {w : World} {g : Nat} {C : Array Value} {T : TypeId} (h : w.heap[g]? = some (.cells C T)) (i : Nat) (v : Value) (hc : C[i]? = some v) : (w.setCell ⟨g, i, none⟩ v).heap[g]? = some (.cells C T) := by
  have := setCell_same h i v
  rw [setIf_self C i v hc] at this
  exact this
theorem row_self4 {w : World} {base g cap k : Nat} {l : List ByteArray} (h : w.ownsRow base 41 4 (.slice (some ⟨g, 0, none⟩) l.length cap) l.length (flatE l)) (hk : k < l.length) (x : ByteArray) (hx : l[k] = x) :
    ((((w.setCell ⟨g, k * 4, none⟩ (.string x)).setCell ⟨g, k * 4 + 1, none⟩ (.slice none 0 0)).setCell ⟨g, k * 4 + 2, none⟩ (.slice none 0 0)).setCell ⟨g, k * 4 + 3, none⟩ (.slice none 0 0)).ownsRow base 41 4 (.slice (some ⟨g, 0, none⟩) l.length cap) l.length (flatE l) := by
  subst hx
  have h0 := h
  obtain ⟨h1, ⟨hv, _⟩ | ⟨g', cap', cur, hv, a2, a3, a4⟩⟩ := h
  · cases hv
  · cases hv
    have hc : ∀ j, j < 4 → cur[k * 4 + j]? = (zE l[k])[j]? := fun j hj => by
      rw [← flatE_get l k hk j hj, ← h0.cellAt (k * 4 + j) (by omega), cell0 a3]
    have e1 := setCell_self a3 (k * 4) (.string l[k]) (hc 0 (by omega))
    have e2 := setCell_self e1 (k * 4 + 1) (.slice none 0 0) (hc 1 (by omega))
    have e3 := setCell_self e2 (k * 4 + 2) (.slice none 0 0) (hc 2 (by omega))
    have e4 := setCell_self e3 (k * 4 + 3) (.slice none 0 0) (hc 3 (by omega))
    exact ⟨h1, Or.inr ⟨g, cap, cur, rfl, a2, e4, a4⟩⟩

set_option maxRecDepth 100000 in
set_option maxHeartbeats 4000000 in
theorem clone_ents (l : List ByteArray) (v : Value) (w : World) (h : Rd w v 4 l.length (flatE l)) (hl : l.length ≤ 10000) : Calls Tryz.prog 32 #[v] w fun e w' => ∃ v', e = .returned v' ∧ w'.ownsRow w.heap.size 41 4 v' l.length (flatE l) ∧ Below w.heap.size w w' := by
  obtain ⟨i0, hi0, hz0, hz1, hz2⟩ := info_parts Tryz_info41
  have HI := Lib.hid (And.intro hi0 (And.intro hz0 (And.intro hz1 hz2)))
  clear hi0 hz0 hz1 hz2
  have h0 := h
  obtain ⟨a, cap, rfl, hfl, hm, hc⟩ := h
  cases a with
  | none =>
    have hl0 : l.length = 0 := by
      rcases Nat.eq_zero_or_pos l.length with h | h
      · exact h
      · obtain ⟨g, hg, _⟩ := hc (by omega); cases hg
    have hle : l = [] := List.eq_nil_of_length_eq_zero hl0
    subst hle
    clear hc hfl hm h0
    have hnil : ∀ W, (binOp .eql 29 (.slice none 0 cap) (.slice none 0 0)).run Tryz.prog W = .ok (.bool true) W := fun W => Lib.run_eql_slice_nil_nil W _ _ Tryz.underlying29
    go_enter Tryz.func32, Tryz.ntmps32
    go_wp2_with fail
    go_ret
    exact ⟨_, rfl, World.ownsRow_nil _ _ _ _, Below.refl _ _⟩
  | some a =>
    have HS := Lib.hid (show SrcIs (w.alloc (.cells #[] 41)) (.slice (some a) l.length cap) l.length (flatE l) from by
      rcases Nat.eq_zero_or_pos l.length with h | h
      · have hle : l = [] := List.eq_nil_of_length_eq_zero h
        subst hle
        exact Or.inr ⟨a, cap, rfl, fun j u hj => by simp [flatE] at hj⟩
      · exact (h0.below ((Below.refl _ _).alloc (Nat.le_refl _) _)).src (by omega))
    have HE0 : Hid ((w.alloc (.cells #[] 41)).ownsRow w.heap.size 41 4 (.slice (some ⟨w.heap.size, 0, none⟩) 0 0) 0 []) := Lib.hid ⟨rfl, Or.inr ⟨w.heap.size, 0, #[], rfl, Nat.le_refl _, alloc_new _ _, Nat.le_refl _, by unfold maxLen; omega, rfl, rfl⟩⟩
    clear hc h0
    have hnil : ∀ W, (binOp .eql 29 (.slice (some a) l.length cap) (.slice none 0 0)).run Tryz.prog W = .ok (.bool false) W := fun W => Lib.run_eql_slice_some_nil W _ _ _ Tryz.underlying29
    go_enter Tryz.func32, Tryz.ntmps32
    go_wp2_with (at_builtin; refine wpList_append_src rfl _ _ 29 rfl w.heap.size 41 i0 (.agg #[.string ⟨#[]⟩, .slice none 0 0, .slice none 0 0, .slice none 0 0]) 4 88 Tryz.underlying29 HI.out.1 HI.out.2.1 HI.out.2.2.1 HI.out.2.2.2 rfl (by decide) (.slice (some ⟨w.heap.size, 0, none⟩) 0 0) 0 [] rfl HE0.out _ _ _ rfl HS.out (flatE_len l) (flatE_one l) (by unfold maxLen; omega) (by omega) (by simp) ?_; intro v8 w8 hown8 hgr8 _)
    rw [Nat.zero_add, List.nil_append] at hown8
    go_ret
    exact ⟨_, rfl, hown8, ((Below.refl _ _).alloc (Nat.le_refl _) _).grown hgr8 (by simp) (by intro k hk; simp [Value.ownBlock] at hk; omega)⟩

set_option maxRecDepth 100000 in
set_option maxHeartbeats 8000000 in
theorem put1 (l : List ByteArray) (v lv : Value) (w : World) (b base : Nat) (hown : w.ownsRow base 41 4 v l.length (flatE l)) (hbase : base ≤ w.heap.size) (hkeys : ∀ k ∈ l, keyB k = true) (hl : l.length ≤ 10000) (u2 u3 u4 u6 u7 u8 u9 u10 u11 u12 u13 u14 u15 u16 u17 u18 u19 u20 u21 u22 u23 u24 u25 u26 u27 u28 u29 u30 u31 u32 u33 u34 u35 u36 u37 u38 u39 u40 u41 u42 u43 u44 u45 u46 u47 u48 u49 u50 u51 u52 u53 u54 u55 u56 u57 u58 u59 u60 u61 u62 u63 u64 u65 u66 u67 u68 u69 u70 u71 u72 u73 u74 u75 u76 u77 u78 u79 u80 u81 u82 u83 u84 u85 u86 u87 u88 u89 u90 u91 u92 u93 u94 u95 u96 u97 u98 u99 u100 u101 u102 u103 u104 u105 u106 u107 u108 u109 u110 u111 u112 u113 u114 u115 u116 u117 u118 u119 u120 u121 u122 u123 u124 u125 u126 u127 u128 u129 u130 u131 u132 u133 u134 u135 u136 u137 u138 u139 : Value)
    (R : Act → World → Prop) (hQ : ∀ (u4x u6x u7x u8x u9x u18x u19x u20x u21x u22x u23x u24x u25x u26x u27x u28x u29x u30x u31x u32x u33x u34x u35x u36x : Value) (wx : World), wx.ownsRow base 41 4 v l.length (flatE l) → Below base w wx → R { tmps := #[.pointer (some ⟨b, 0, none⟩), lv, u2, u3, u4x, v, u6x, u7x, u8x, u9x, u10, u11, u12, u13, u14, u15, u16, u17, u18x, u19x, u20x, u21x, u22x, u23x, u24x, u25x, u26x, u27x, u28x, u29x, u30x, u31x, u32x, u33x, u34x, u35x, u36x, u37, u38, u39, u40, u41, u42, u43, u44, u45, u46, u47, u48, u49, u50, u51, u52, u53, u54, u55, u56, u57, u58, u59, u60, u61, u62, u63, u64, u65, u66, u67, u68, u69, u70, u71, u72, u73, u74, u75, u76, u77, u78, u79, u80, u81, u82, u83, u84, u85, u86, u87, u88, u89, u90, u91, u92, u93, u94, u95, u96, u97, u98, u99, u100, u101, u102, u103, u104, u105, u106, u107, u108, u109, u110, u111, u112, u113, u114, u115, u116, u117, u118, u119, u120, u121, u122, u123, u124, u125, u126, u127, u128, u129, u130, u131, u132, u133, u134, u135, u136, u137, u138, u139], defers := [] } wx) :
    (codeAt [1,1,1,0] (Tryz.f13.body.getD .skip)).wp Tryz.prog (NQ R) { tmps := #[.pointer (some ⟨b, 0, none⟩), lv, u2, u3, u4, v, u6, u7, u8, u9, u10, u11, u12, u13, u14, u15, u16, u17, u18, u19, u20, u21, u22, u23, u24, u25, u26, u27, u28, u29, u30, u31, u32, u33, u34, u35, u36, u37, u38, u39, u40, u41, u42, u43, u44, u45, u46, u47, u48, u49, u50, u51, u52, u53, u54, u55, u56, u57, u58, u59, u60, u61, u62, u63, u64, u65, u66, u67, u68, u69, u70, u71, u72, u73, u74, u75, u76, u77, u78, u79, u80, u81, u82, u83, u84, u85, u86, u87, u88, u89, u90, u91, u92, u93, u94, u95, u96, u97, u98, u99, u100, u101, u102, u103, u104, u105, u106, u107, u108, u109, u110, u111, u112, u113, u114, u115, u116, u117, u118, u119, u120, u121, u122, u123, u124, u125, u126, u127, u128, u129, u130, u131, u132, u133, u134, u135, u136, u137, u138, u139], defers := [] } w := by
  simp only [codeAt, codeL, codeR, Tryz.f13, Option.getD_some]
  obtain ⟨a5, c5, rfl⟩ := owns_slice hown
  have HQ := Lib.hid hQ
  have HO := Lib.hid hown
  have HK := Lib.hid hkeys
  clear hQ hown hkeys
  go_wp2_with fail
  go_loopw [20] (fun i wr => ∃ k : Nat, k ≤ l.length ∧ i = .int .i64 k ∧ wr.ownsRow base 41 4 (.slice a5 l.length c5) l.length (flatE l) ∧ Below base w wr) (fun i _ => l.length - (intOf i).toNat)
  case atStart => exact ⟨0, Nat.zero_le _, rfl, HO.out, Below.refl _ _⟩
  case round =>
    obtain ⟨k, hk, rfl, hrow, hB⟩ := hrel
    have HROW := Lib.hid hrow
    have HB := Lib.hid hB
    have hbw : base ≤ wr.heap.size := Nat.le_trans hbase hB.size
    by_cases hlt : k < l.length
    · obtain ⟨hfl, ⟨hv, h0⟩ | ⟨g, c, cur, hv, hgb, hgc, -, -, -, -⟩⟩ := id hrow
      · exfalso; omega
      cases hv
      have hgl := lt_of_heap hgc
      have hcl : ∀ j, j < 4 → wr.cell? ⟨g, k * 4 + j, none⟩ = (zE l[k])[j]? := fun j hj => by
        rw [hrow.cellAt (k * 4 + j) (by omega), flatE_get l k hlt j hj]
      have hkb : keyB l[k] = true := HK.out _ (List.getElem_mem hlt)
      have HSET := Lib.hid (fun w0 (h : World.ownsRow w0 base 41 4 (.slice (some ⟨g, 0, none⟩) l.length c5) l.length (flatE l)) => row_self4 h hlt l[k] rfl)
      have hcc : ∀ j, j < 4 → cur[k * 4 + j]? = (zE l[k])[j]? := fun j hj => by rw [← hcl j hj, cell0 hgc]
      generalize l[k] = x at *
      have hks : x.size ≤ maxLen := by unfold keyB at hkb; simp at hkb; unfold maxLen; omega
      have HOWN := Lib.hid (fun w0 => own_any x w0 hkb hks)
      have e0 : wr.cell? ⟨g, k * 4, none⟩ = some (.string x) := hcl 0 (by omega)
      have e1 : wr.cell? ⟨g, k * 4 + 1, none⟩ = some (.slice none 0 0) := hcl 1 (by omega)
      have e2 : wr.cell? ⟨g, k * 4 + 2, none⟩ = some (.slice none 0 0) := hcl 2 (by omega)
      have e3 : wr.cell? ⟨g, k * 4 + 3, none⟩ = some (.slice none 0 0) := hcl 3 (by omega)
      have hk0 : (0 : Int) ≤ k := by omega
      have hk1 : (k : Int) < l.length := by omega
      have HG3 : Hid (∀ w3, Below (wr.alloc (.cells #[.string x, .slice none 0 0, .slice none 0 0, .slice none 0 0] 41)).heap.size (wr.alloc (.cells #[.string x, .slice none 0 0, .slice none 0 0, .slice none 0 0] 41)) w3 → g < w3.heap.size ∧ w3.heap[g]? = some (.cells cur 41)) := Lib.hid (fun w3 h3 => by
        have hg1 : g < (wr.alloc (.cells #[.string x, .slice none 0 0, .slice none 0 0, .slice none 0 0] 41)).heap.size := by simp; omega
        exact ⟨Nat.lt_of_lt_of_le hg1 h3.size, by rw [h3.block _ hg1, alloc_old _ _ hgl]; exact hgc⟩)
      clear hrow hB hcl
      go_upto_region 7 with fail
      go_wp2_with (go_at_call 33; refine (HOWN.out _).mono ?_; rintro e w3 ⟨rfl, hb3⟩; obtain ⟨hg3, hbk3⟩ := HG3.out w3 hb3; have m0 : w3.cell? ⟨g, k * 4, none⟩ = some (.string x) := (by rw [cell0 hbk3]; exact hcc 0 (by omega)); have m1 : w3.cell? ⟨g, k * 4 + 1, none⟩ = some (.slice none 0 0) := (by rw [cell0 hbk3]; exact hcc 1 (by omega)); have m2 : w3.cell? ⟨g, k * 4 + 2, none⟩ = some (.slice none 0 0) := (by rw [cell0 hbk3]; exact hcc 2 (by omega)); have m3 : w3.cell? ⟨g, k * 4 + 3, none⟩ = some (.slice none 0 0) := (by rw [cell0 hbk3]; exact hcc 3 (by omega)); have z0 : w3.frozen? ⟨g, k * 4, none⟩ = false := froz0 hbk3 _; have z1 : w3.frozen? ⟨g, k * 4 + 1, none⟩ = false := froz0 hbk3 _; have z2 : w3.frozen? ⟨g, k * 4 + 2, none⟩ = false := froz0 hbk3 _; have z3 : w3.frozen? ⟨g, k * 4 + 3, none⟩ = false := froz0 hbk3 _)
      have hrow3 : w3.ownsRow base 41 4 (.slice (some ⟨g, 0, none⟩) l.length c5) l.length (flatE l) := row_stay HROW.out (fun k hk => by simp [Value.ownBlock] at hk; subst hk; rw [hbk3]; exact hgc.symm)
      have hset := HSET.out _ hrow3
      have hbf : Below base w w3 := (HB.out.alloc hbw _).trans (hb3.mono (by simp; omega))
      have hbf2 : Below base w ((((w3.setCell ⟨g, k * 4, none⟩ (.string x)).setCell ⟨g, k * 4 + 1, none⟩ (.slice none 0 0)).setCell ⟨g, k * 4 + 2, none⟩ (.slice none 0 0)).setCell ⟨g, k * 4 + 3, none⟩ (.slice none 0 0)) := (((hbf.setCell hgb _).setCell hgb _).setCell hgb _).setCell hgb _
      go_roundw
      case rel => exact ⟨k + 1, by omega, by go_num, row_below hset ((Below.refl _ _).alloc (Nat.le_refl _) _), hbf2.alloc (by simp only [setCell_size]; omega) _⟩
      case measure => simp [intOf]; omega
    · have hke : k = l.length := by omega
      subst hke
      go_wp2_with fail
      show R _ _
      apply HQ.out
      · exact hrow
      · exact hB
end Go.Proofs.YtkedgiklcmkmmaaGreatDoor
