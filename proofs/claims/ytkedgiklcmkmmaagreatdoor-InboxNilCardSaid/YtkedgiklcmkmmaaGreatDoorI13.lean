/- Put: the entries are stored into the ring. -/
import Derived.Test.YtkedgiklcmkmmaaGreatDoorI12
import Derived.StillTailTactics
namespace Go.Proofs.YtkedgiklcmkmmaaGreatDoor
open Go.RowKit Go.Maps

theorem mod_ne {n f i m : Nat} (hi : i < m) (hm : m < n) : (f + i) % n ≠ (f + m) % n := by
  intro h
  have h1 := Nat.div_add_mod (f + i) n
  have h2 := Nat.div_add_mod (f + m) n
  rw [h] at h1
  generalize (f + m) % n = r at *
  generalize (f + i) / n = a at *
  generalize (f + m) / n = c at *
  have h3 : a = c := by
    rcases Nat.lt_trichotomy a c with h4 | h4 | h4
    · have : n * (a + 1) ≤ n * c := Nat.mul_le_mul_left n h4
      rw [Nat.mul_add] at this
      omega
    · exact h4
    · have : n * (c + 1) ≤ n * a := Nat.mul_le_mul_left n h4
      rw [Nat.mul_add] at this
      omega
  subst h3
  omega

theorem BoxN.push {G : Nat → Prop} {w2 : World} {b size n first g : Nat} {C : Array Value} {p : List ByteArray} {x : ByteArray} (hGb : G b) (hs0 : 0 < size) (hs4 : size ≤ 4096) (hkp : ∀ k ∈ p, keyB k = true) (hx : keyB x = true) (hpn : p.length < n) (hns : n ≤ size) (hfn : first < n) (hGg : G g) (hgb : g ≠ b) (hsC : C.size = n * 4)
    (hCq : ∀ i (h : i < p.length) j, j < 4 → C[((first + i) % n) * 4 + j]? = (zE p[i])[j]?) (m : Nat) (hm : m = (first + p.length) % n)
    (hb : w2.heap[b]? = some (.cells #[.int .i64 size, .slice (some ⟨g, 0, none⟩) n n, .int .i64 first, .int .i64 ((p.length : Int) + 1)] 65))
    (hg : w2.heap[g]? = some (.cells ((((C.setIfInBounds (m * 4) (.string x)).setIfInBounds (m * 4 + 1) (.slice none 0 0)).setIfInBounds (m * 4 + 2) (.slice none 0 0)).setIfInBounds (m * 4 + 3) (.slice none 0 0)) 41)) : BoxN G w2 b size n (p ++ [x]) := by
  have hmn : m < n := by rw [hm]; exact Nat.mod_lt _ (by omega)
  refine ⟨hGb, hs0, hs4, ?_, _, first, ?_, by simp; omega, hns, fun hn => by omega, fun _ => ⟨hfn, g, _, rfl, hGg, hgb, hg, by simp [hsC], fun i h j hj => ?_⟩⟩
  · intro k hk
    rcases List.mem_append.1 hk with h | h
    · exact hkp k h
    · rw [List.mem_singleton.1 h]; exact hx
  · rw [hb]
    simp
  · have h' : i < p.length + 1 := by simpa using h
    by_cases hi : i = p.length
    · subst hi
      rw [← hm, put4_get C m x n hsC hmn j hj]
      simp
    · have hip : i < p.length := by omega
      have hne : (first + i) % n ≠ m := by rw [hm]; exact mod_ne hip hpn
      generalize hmi : (first + i) % n = mi at *
      rw [Array.getElem?_setIfInBounds_ne (by omega), Array.getElem?_setIfInBounds_ne (by omega), Array.getElem?_setIfInBounds_ne (by omega), Array.getElem?_setIfInBounds_ne (by omega)]
      have := hCq i hip j hj
      rw [hmi] at this
      rw [this, List.getElem_append_left hip]

set_option maxRecDepth 100000 in
set_option maxHeartbeats 8000000 in
theorem put3 (l : List ByteArray) (a1 : Option Addr) (c1 : Nat) (a5 : Option Addr) (c5 : Nat) (base : Nat) (G : Nat → Prop) (w : World) (b size n : Nat) (q : List ByteArray) (hbox : BoxN G w b size n q) (hfit : q.length + l.length ≤ n) (hkeys : ∀ k ∈ l, keyB k = true) (hown : w.ownsRow base 41 4 (.slice a5 l.length c5) l.length (flatE l)) (hnG : ∀ g, (Value.slice a5 l.length c5).ownBlock = some g → ¬ G g) (u2 u3 u4 u6 u7 u8 u9 u10 u11 u12 u13 u14 u15 u16 u17 u18 u19 u20 u21 u22 u23 u24 u25 u26 u27 u28 u29 u30 u31 u32 u33 u34 u35 u36 u37 u38 u39 u40 u41 u42 u43 u44 u45 u46 u47 u48 u49 u50 u51 u52 u53 u54 u55 u56 u57 u58 u59 u60 u61 u62 u63 u64 u65 u66 u67 u68 u69 u70 u71 u72 u73 u74 u75 u76 u77 u78 u79 u80 u81 u82 u83 u84 u85 u86 u87 u88 u89 u90 u91 u92 u93 u94 u95 u96 u97 u98 u99 u100 u101 u102 u103 u104 u105 u106 u107 u108 u109 u110 u111 u112 u113 u114 u115 u116 u117 u118 u119 u120 u121 u122 u123 u124 u125 u126 u127 u128 u129 u130 u131 u132 u133 u134 u135 u136 u137 u138 u139 : Value)
    (R : Act → World → Prop) (hQ : ∀ (u13x u105x u106x u107x u108x u109x u110x u111x u112x u113x u114x u115x u116x u117x u118x u119x u120x u121x u122x u123x u124x u125x u126x u127x u128x u129x u130x u131x u132x u133x u134x u135x u136x u137x u138x u139x : Value) (wx : World), BoxN G wx b size n (q ++ l) → Touch G w wx → R { tmps := #[.pointer (some ⟨b, 0, none⟩), .slice a1 l.length c1, u2, u3, u4, .slice a5 l.length c5, u6, u7, u8, u9, u10, u11, u12, u13x, u14, u15, u16, u17, u18, u19, u20, u21, u22, u23, u24, u25, u26, u27, u28, u29, u30, u31, u32, u33, u34, u35, u36, u37, u38, u39, u40, u41, u42, u43, u44, u45, u46, u47, u48, u49, u50, u51, u52, u53, u54, u55, u56, u57, u58, u59, u60, u61, u62, u63, u64, u65, u66, u67, u68, u69, u70, u71, u72, u73, u74, u75, u76, u77, u78, u79, u80, u81, u82, u83, u84, u85, u86, u87, u88, u89, u90, u91, u92, u93, u94, u95, u96, u97, u98, u99, u100, u101, u102, u103, u104, u105x, u106x, u107x, u108x, u109x, u110x, u111x, u112x, u113x, u114x, u115x, u116x, u117x, u118x, u119x, u120x, u121x, u122x, u123x, u124x, u125x, u126x, u127x, u128x, u129x, u130x, u131x, u132x, u133x, u134x, u135x, u136x, u137x, u138x, u139x], defers := [] } wx) :
    (codeAt [1,1,1,1,1,1,0] (Tryz.f13.body.getD .skip)).wp Tryz.prog (NQ R) { tmps := #[.pointer (some ⟨b, 0, none⟩), .slice a1 l.length c1, u2, u3, u4, .slice a5 l.length c5, u6, u7, u8, u9, u10, u11, u12, u13, u14, u15, u16, u17, u18, u19, u20, u21, u22, u23, u24, u25, u26, u27, u28, u29, u30, u31, u32, u33, u34, u35, u36, u37, u38, u39, u40, u41, u42, u43, u44, u45, u46, u47, u48, u49, u50, u51, u52, u53, u54, u55, u56, u57, u58, u59, u60, u61, u62, u63, u64, u65, u66, u67, u68, u69, u70, u71, u72, u73, u74, u75, u76, u77, u78, u79, u80, u81, u82, u83, u84, u85, u86, u87, u88, u89, u90, u91, u92, u93, u94, u95, u96, u97, u98, u99, u100, u101, u102, u103, u104, u105, u106, u107, u108, u109, u110, u111, u112, u113, u114, u115, u116, u117, u118, u119, u120, u121, u122, u123, u124, u125, u126, u127, u128, u129, u130, u131, u132, u133, u134, u135, u136, u137, u138, u139], defers := [] } w := by
  simp only [codeAt, codeL, codeR, Tryz.f13, Option.getD_some]
  have HQ := Lib.hid hQ
  have HBX := Lib.hid hbox
  have HO := Lib.hid hown
  have HN := Lib.hid hnG
  have HK := Lib.hid hkeys
  have hns : n ≤ 4096 := by obtain ⟨_, _, h4, _, _, _, _, _, h9, _⟩ := hbox; omega
  have hbl : b < w.heap.size := by obtain ⟨_, _, _, _, _, _, h5, _⟩ := hbox; exact lt_of_heap h5
  clear hQ hbox hown hnG hkeys
  go_wp2_with fail
  go_loopw [107] (fun i wr => ∃ k : Nat, k ≤ l.length ∧ i = .int .i64 k ∧ BoxN G wr b size n (q ++ l.take k) ∧ Touch G w wr) (fun i _ => l.length - (intOf i).toNat)
  case atStart => exact ⟨0, Nat.zero_le _, rfl, by rw [List.take_zero, List.append_nil]; exact HBX.out, .of_below (Below.refl _ _)⟩
  case round =>
    obtain ⟨k, hk, rfl, hbk, hT⟩ := hrel
    by_cases hlt : k < l.length
    · obtain ⟨hGb, hs0, hs4, hkq, rv, first, hbb, hqn, hnz, hring⟩ := hbk
      obtain ⟨p, hp⟩ : ∃ p, p = q ++ l.take k := ⟨_, rfl⟩
      have hpl : p.length = q.length + k := by rw [hp]; simp [List.length_take]; omega
      have HP : Hid (q ++ l.take (k + 1) = p ++ [l[k]]) := Lib.hid (by rw [hp, List.take_succ_eq_append_getElem hlt, List.append_assoc])
      rw [← hp] at hkq hbb hqn hring
      clear hp
      obtain ⟨hfn, g, C, hv, hGg, hgb, hgC, hsC, hCq⟩ := hring.2 (by omega)
      cases hv
      obtain ⟨hfl, ⟨hv, h0⟩ | ⟨g5, c, cur, hv5, hgb5, hgc5, -, -, -, -⟩⟩ := id HO.out
      · exfalso; omega
      cases hv5
      have hn5 : ¬ G g5 := HN.out g5 rfl
      have hg5r : wr.heap[g5]? = some (.cells cur 41) := by rw [hT.1 _ (lt_of_heap hgc5) hn5]; exact hgc5
      have hcl : ∀ j, j < 4 → wr.cell? ⟨g5, k * 4 + j, none⟩ = (zE l[k])[j]? := fun j hj => by
        rw [cell0 hg5r, ← cell0 hgc5, HO.out.cellAt (k * 4 + j) (by omega), flatE_get l k hlt j hj]
      have hkb : keyB l[k] = true := HK.out _ (List.getElem_mem hlt)
      generalize l[k] = x at *
      have e0 : wr.cell? ⟨g5, k * 4, none⟩ = some (.string x) := hcl 0 (by omega)
      have e1 : wr.cell? ⟨g5, k * 4 + 1, none⟩ = some (.slice none 0 0) := hcl 1 (by omega)
      have e2 : wr.cell? ⟨g5, k * 4 + 2, none⟩ = some (.slice none 0 0) := hcl 2 (by omega)
      have e3 : wr.cell? ⟨g5, k * 4 + 3, none⟩ = some (.slice none 0 0) := hcl 3 (by omega)
      have hk0 : (0 : Int) ≤ k := by omega
      have hk1 : (k : Int) < l.length := by omega
      have hbr := lt_of_heap hbb
      have hgr := lt_of_heap hgC
      obtain ⟨mm, hmm⟩ : ∃ mm, mm = p.length := ⟨_, rfl⟩
      have HMM := Lib.hid hmm
      have hmn : mm < n := by omega
      have hbb' := hbb
      rw [← hmm] at hbb'
      have HBB := Lib.hid hbb
      have HGC := Lib.hid hgC
      obtain ⟨m, hm⟩ : ∃ m, m = (first + mm) % n := ⟨_, rfl⟩
      have HM := Lib.hid hm
      have hmlt : m < n := by rw [hm]; exact Nat.mod_lt _ (by omega)
      have hwr : IntKind.i64.wrap ((first : Int) + mm) = (first : Int) + mm := by rw [IntKind.wrap_i64]; omega
      have hn00 : ¬ n = 0 := by omega
      have htm : ((first : Int) + mm).tmod (n : Int) = (m : Int) := by
        rw [hm, show (first : Int) + mm = ((first + mm : Nat) : Int) by omega]
        exact (Int.ofNat_tmod _ _).symm
      have a2 : (0 : Int) ≤ m := by omega
      have a3 : (m : Int) < n := by omega
      have hmw : IntKind.i64.wrap ((mm : Int) + 1) = (mm : Int) + 1 := by rw [IntKind.wrap_i64]; omega
      have HT := Lib.hid hT
      have HCQ := Lib.hid hCq
      have HKQ := Lib.hid hkq
      have HMW := Lib.hid hmw
      have HPL := Lib.hid hpl
      clear hring hmm hm hbb hgC hT hpl hcl hg5r hgc5 hfl hCq hkq hmw
      go_upto_region 25 with fail
      obtain ⟨W1, hW1⟩ : ∃ W1, W1 = wr.alloc (.cells #[.string x, .slice none 0 0, .slice none 0 0, .slice none 0 0] 41) := ⟨_, rfl⟩
      have hb1 : Below wr.heap.size wr W1 := by rw [hW1]; exact (Below.refl _ _).alloc (Nat.le_refl _) _
      have hbx : W1.heap[wr.heap.size]? = some (.cells #[.string x, .slice none 0 0, .slice none 0 0, .slice none 0 0] 41) := by rw [hW1]; exact alloc_new _ _
      have hb2 := hb1.block _ hbr
      have hg2 := hb1.block _ hgr
      rw [hbb'] at hb2
      rw [HGC.out] at hg2
      rw [← hW1]
      clear hW1 hbb' e0 e1 e2 e3
      have s1 : W1.cell? ⟨b, 1, none⟩ = some (.slice (some ⟨g, 0, none⟩) n n) := by rw [cell0 hb2 1]; rfl
      have s2 : W1.cell? ⟨b, 2, none⟩ = some (.int .i64 first) := by rw [cell0 hb2 2]; rfl
      have s3 : W1.cell? ⟨b, 3, none⟩ = some (.int .i64 mm) := by rw [cell0 hb2 3]; rfl
      have x0 : W1.cell? ⟨wr.heap.size, 0, none⟩ = some (.string x) := by rw [cell0 hbx 0]; rfl
      have x1 : W1.cell? ⟨wr.heap.size, 1, none⟩ = some (.slice none 0 0) := by rw [cell0 hbx 1]; rfl
      have x2 : W1.cell? ⟨wr.heap.size, 2, none⟩ = some (.slice none 0 0) := by rw [cell0 hbx 2]; rfl
      have x3 : W1.cell? ⟨wr.heap.size, 3, none⟩ = some (.slice none 0 0) := by rw [cell0 hbx 3]; rfl
      have gz : ∀ j, j < 4 → ∃ u, W1.cell? ⟨g, m * 4 + j, none⟩ = some u := fun j hj => by
        rw [cell0 hg2]
        exact ⟨C[m * 4 + j]'(by omega), by rw [Array.getElem?_eq_getElem]⟩
      obtain ⟨y0, g0⟩ := gz 0 (by omega)
      replace g0 : W1.cell? ⟨g, m * 4, none⟩ = some y0 := g0
      obtain ⟨y1, g1⟩ := gz 1 (by omega)
      obtain ⟨y2, g2⟩ := gz 2 (by omega)
      obtain ⟨y3, g3⟩ := gz 3 (by omega)
      have z0 : W1.frozen? ⟨g, m * 4, none⟩ = false := froz0 hg2 _
      have z1 : W1.frozen? ⟨g, m * 4 + 1, none⟩ = false := froz0 hg2 _
      have z2 : W1.frozen? ⟨g, m * 4 + 2, none⟩ = false := froz0 hg2 _
      have z3 : W1.frozen? ⟨g, m * 4 + 3, none⟩ = false := froz0 hg2 _
      have HB2 := Lib.hid hb2
      have HG2 := Lib.hid hg2
      have HB1 := Lib.hid hb1
      clear gz hbx hb2 hg2 hb1
      go_cut [107] from 111 to 131 (fun e wx => e = .int .i64 k ∧ ∃ d, wx = ((((W1.setCell ⟨g, m * 4, none⟩ (.string x)).setCell ⟨g, m * 4 + 1, none⟩ (.slice none 0 0)).setCell ⟨g, m * 4 + 2, none⟩ (.slice none 0 0)).setCell ⟨g, m * 4 + 3, none⟩ (.slice none 0 0)).drewN d)
      case first =>
        go_still_tail 21, (by kernel_rfl)
        go_wp2
        go_meet
        case rel => exact ⟨rfl, 1, rfl⟩
      case rest =>
        obtain ⟨rfl, d, rfl⟩ := hcut
        obtain ⟨W2, hW2⟩ : ∃ W2, W2 = ((((W1.setCell ⟨g, m * 4, none⟩ (.string x)).setCell ⟨g, m * 4 + 1, none⟩ (.slice none 0 0)).setCell ⟨g, m * 4 + 2, none⟩ (.slice none 0 0)).setCell ⟨g, m * 4 + 3, none⟩ (.slice none 0 0)).drewN d := ⟨_, rfl⟩
        have hof : ∀ j, j ≠ g → W2.heap[j]? = W1.heap[j]? := fun j hj => by
          rw [hW2]
          show ((((W1.setCell _ _).setCell _ _).setCell _ _).setCell _ _).heap[j]? = _
          rw [Below.heap_setCell _ _ _ _ hj, Below.heap_setCell _ _ _ _ hj, Below.heap_setCell _ _ _ _ hj, Below.heap_setCell _ _ _ _ hj]
        have hgw : W2.heap[g]? = some (.cells ((((C.setIfInBounds (m * 4) (.string x)).setIfInBounds (m * 4 + 1) (.slice none 0 0)).setIfInBounds (m * 4 + 2) (.slice none 0 0)).setIfInBounds (m * 4 + 3) (.slice none 0 0)) 41) := by
          rw [hW2]
          exact setCell_same (setCell_same (setCell_same (setCell_same HG2.out _ _) _ _) _ _) _ _
        have hz2 : W2.heap.size = W1.heap.size := by rw [hW2]; show ((((W1.setCell _ _).setCell _ _).setCell _ _).setCell _ _).heap.size = _; simp only [setCell_size]
        have hos2 : W2.os = W1.os ∧ W2.tape = W1.tape ∧ W2.output = W1.output := by rw [hW2]; exact ⟨rfl, rfl, rfl⟩
        rw [← hW2]
        clear hW2 s1 s2 s3 x0 x1 x2 x3 g0 g1 g2 g3 z0 z1 z2 z3
        have hbw : W2.heap[b]? = some (.cells #[.int .i64 size, .slice (some ⟨g, 0, none⟩) n n, .int .i64 first, .int .i64 mm] 65) := by rw [hof b (fun e => hgb e.symm)]; exact HB2.out
        have s3 : W2.cell? ⟨b, 3, none⟩ = some (.int .i64 mm) := by rw [cell0 hbw 3]; rfl
        have z3 : W2.frozen? ⟨b, 3, none⟩ = false := froz0 hbw _
        have FB : Hid (BoxN G (W2.setCell ⟨b, 3, none⟩ (.int .i64 ((mm : Int) + 1))) b size n (p ++ [x])) := Lib.hid (by
          refine BoxN.push (g := g) (C := C) (first := first) (m := m) hGb hs0 hs4 HKQ.out hkb ?_ hnz hfn hGg hgb hsC HCQ.out ?_ ?_ ?_
          · rw [← HMM.out]; exact hmn
          · rw [← HMM.out]; exact HM.out
          · rw [← HMM.out]; exact setCell_same hbw 3 _
          · rw [Below.heap_setCell _ _ _ _ hgb]; exact hgw)
        have FT : Hid (Touch G w (W2.setCell ⟨b, 3, none⟩ (.int .i64 ((mm : Int) + 1)))) := Lib.hid (by
          refine HT.out.trans (Touch.trans (b := W1) (.of_below HB1.out) ⟨fun j hj hG => ?_, by simp only [setCell_size]; omega, hos2.1, hos2.2.1, hos2.2.2⟩)
          rw [Below.heap_setCell _ _ _ _ (fun e => hG (by rw [e]; exact hGb)), hof j (fun e => hG (by rw [e]; exact hGg))])
        clear hof hgw hz2 hos2 hbw
        have hmw := HMW.out
        go_wp2_with fail
        go_roundw
        case rel => exact ⟨k + 1, by omega, by go_num, by rw [HP.out]; exact FB.out, FT.out⟩
        case measure => simp [intOf]; omega
    · have hke : k = l.length := by omega
      subst hke
      rw [List.take_length] at hbk
      go_wp2_with fail
      show R _ _
      apply HQ.out
      · exact hbk
      · exact hT
end Go.Proofs.YtkedgiklcmkmmaaGreatDoor
