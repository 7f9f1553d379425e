/- Put: the ring grows where it is too short. -/
import Derived.Test.YtkedgiklcmkmmaaGreatDoorI11
namespace Go.Proofs.YtkedgiklcmkmmaaGreatDoor
open Go.RowKit Go.Maps

/-- An inbox whose ring has n places. -/
def BoxN (G : Nat → Prop) (w : World) (b size n : Nat) (q : List ByteArray) : Prop :=
  G b ∧ 0 < size ∧ size ≤ 4096 ∧ (∀ k ∈ q, keyB k = true) ∧ ∃ (rv : Value) (first : Nat), w.heap[b]? = some (.cells #[.int .i64 size, rv, .int .i64 first, .int .i64 q.length] 65) ∧ q.length ≤ n ∧ n ≤ size ∧ RingIs G w b rv n first q
theorem BoxN.box {G : Nat → Prop} {w : World} {b size n : Nat} {q : List ByteArray} (h : BoxN G w b size n q) : Box G w b size q := by
  obtain ⟨h1, h2, h3, h4, rv, first, h5⟩ := h
  exact ⟨h1, h2, h3, h4, rv, n, first, h5⟩
theorem Box.boxN {G : Nat → Prop} {w : World} {b size : Nat} {q : List ByteArray} (h : Box G w b size q) : ∃ n, BoxN G w b size n q := by
  obtain ⟨h1, h2, h3, h4, rv, n, first, h5⟩ := h
  exact ⟨n, h1, h2, h3, h4, rv, first, h5⟩
theorem RingIs.slice {G : Nat → Prop} {w : World} {b n first : Nat} {rv : Value} {q : List ByteArray} (h : RingIs G w b rv n first q) : ∃ ra, rv = .slice ra n n := by
  by_cases hn : n = 0
  · subst hn; exact ⟨none, (h.1 rfl).1⟩
  · obtain ⟨_, g, C, rfl, _⟩ := h.2 hn; exact ⟨_, rfl⟩

theorem put4_get (C : Array Value) (k : Nat) (x : ByteArray) (n : Nat) (hs : C.size = n * 4) (hk : k < n) (j : Nat) (hj : j < 4) :
    ((((C.setIfInBounds (k * 4) (.string x)).setIfInBounds (k * 4 + 1) (.slice none 0 0)).setIfInBounds (k * 4 + 2) (.slice none 0 0)).setIfInBounds (k * 4 + 3) (.slice none 0 0))[k * 4 + j]? = (zE x)[j]? := by
  have : j = 0 ∨ j = 1 ∨ j = 2 ∨ j = 3 := by omega
  rcases this with rfl | rfl | rfl | rfl
  · rw [Array.getElem?_setIfInBounds_ne (by omega), Array.getElem?_setIfInBounds_ne (by omega), Array.getElem?_setIfInBounds_ne (by omega), Nat.add_zero, Array.getElem?_setIfInBounds_self_of_lt (by omega)]
    rfl
  · rw [Array.getElem?_setIfInBounds_ne (by omega), Array.getElem?_setIfInBounds_ne (by omega), Array.getElem?_setIfInBounds_self_of_lt (by simp; omega)]
    rfl
  · rw [Array.getElem?_setIfInBounds_ne (by omega), Array.getElem?_setIfInBounds_self_of_lt (by simp; omega)]
    rfl
  · rw [Array.getElem?_setIfInBounds_self_of_lt (by simp; omega)]
    rfl
theorem _root_.Go.RowKit.Below.drewN {B : Nat} {a w : World} {n : Nat} (h : Below B a w) : Below B a (w.drewN n) := ⟨h.os, h.tape, h.output, h.size, h.block⟩

set_option maxRecDepth 100000 in
set_option maxHeartbeats 8000000 in
theorem put2 (l : List ByteArray) (v : Value) (a1 : Option Addr) (c1 : Nat) (G : Nat → Prop) (w : World) (b size n0 : Nat) (q : List ByteArray) (hbox : BoxN G w b size n0 q) (hfit : q.length + l.length ≤ size) (u2 u3 u4 u6 u7 u8 u9 u10 u11 u12 u13 u14 u15 u16 u17 u18 u19 u20 u21 u22 u23 u24 u25 u26 u27 u28 u29 u30 u31 u32 u33 u34 u35 u36 u37 u38 u39 u40 u41 u42 u43 u44 u45 u46 u47 u48 u49 u50 u51 u52 u53 u54 u55 u56 u57 u58 u59 u60 u61 u62 u63 u64 u65 u66 u67 u68 u69 u70 u71 u72 u73 u74 u75 u76 u77 u78 u79 u80 u81 u82 u83 u84 u85 u86 u87 u88 u89 u90 u91 u92 u93 u94 u95 u96 u97 u98 u99 u100 u101 u102 u103 u104 u105 u106 u107 u108 u109 u110 u111 u112 u113 u114 u115 u116 u117 u118 u119 u120 u121 u122 u123 u124 u125 u126 u127 u128 u129 u130 u131 u132 u133 u134 u135 u136 u137 u138 u139 : Value)
    (R : Act → World → Prop) (hQ : ∀ (u10x u11x u42x u43x u44x u45x u46x u47x u48x u49x u50x u51x u52x u53x u54x u55x u56x u57x u58x u59x u60x u61x u62x u63x u64x u65x u66x u67x u68x u69x u70x u71x u72x u73x u74x u75x u76x u77x u78x u79x u80x u81x u82x u83x u84x u85x u86x u87x u88x u89x u90x u91x u92x u93x u94x u95x u96x u97x u98x u99x u100x u101x u102x u103x u104x : Value) (wx : World) (n : Nat), q.length + l.length ≤ n → BoxN (fun k => G k ∨ w.heap.size ≤ k) wx b size n q → Touch G w wx → R { tmps := #[.pointer (some ⟨b, 0, none⟩), .slice a1 l.length c1, u2, u3, u4, v, u6, u7, u8, u9, u10x, u11x, u12, u13, u14, u15, u16, u17, u18, u19, u20, u21, u22, u23, u24, u25, u26, u27, u28, u29, u30, u31, u32, u33, u34, u35, u36, u37, u38, u39, u40, u41, u42x, u43x, u44x, u45x, u46x, u47x, u48x, u49x, u50x, u51x, u52x, u53x, u54x, u55x, u56x, u57x, u58x, u59x, u60x, u61x, u62x, u63x, u64x, u65x, u66x, u67x, u68x, u69x, u70x, u71x, u72x, u73x, u74x, u75x, u76x, u77x, u78x, u79x, u80x, u81x, u82x, u83x, u84x, u85x, u86x, u87x, u88x, u89x, u90x, u91x, u92x, u93x, u94x, u95x, u96x, u97x, u98x, u99x, u100x, u101x, u102x, u103x, u104x, u105, u106, u107, u108, u109, u110, u111, u112, u113, u114, u115, u116, u117, u118, u119, u120, u121, u122, u123, u124, u125, u126, u127, u128, u129, u130, u131, u132, u133, u134, u135, u136, u137, u138, u139], defers := [] } wx) :
    (codeAt [1,1,1,1,1,0] (Tryz.f13.body.getD .skip)).wp Tryz.prog (NQ R) { tmps := #[.pointer (some ⟨b, 0, none⟩), .slice a1 l.length c1, u2, u3, u4, v, u6, u7, u8, u9, u10, u11, u12, u13, u14, u15, u16, u17, u18, u19, u20, u21, u22, u23, u24, u25, u26, u27, u28, u29, u30, u31, u32, u33, u34, u35, u36, u37, u38, u39, u40, u41, u42, u43, u44, u45, u46, u47, u48, u49, u50, u51, u52, u53, u54, u55, u56, u57, u58, u59, u60, u61, u62, u63, u64, u65, u66, u67, u68, u69, u70, u71, u72, u73, u74, u75, u76, u77, u78, u79, u80, u81, u82, u83, u84, u85, u86, u87, u88, u89, u90, u91, u92, u93, u94, u95, u96, u97, u98, u99, u100, u101, u102, u103, u104, u105, u106, u107, u108, u109, u110, u111, u112, u113, u114, u115, u116, u117, u118, u119, u120, u121, u122, u123, u124, u125, u126, u127, u128, u129, u130, u131, u132, u133, u134, u135, u136, u137, u138, u139], defers := [] } w := by
  simp only [codeAt, codeL, codeR, Tryz.f13, Option.getD_some]
  have HQ := Lib.hid hQ
  have HBX := Lib.hid hbox
  clear hQ
  obtain ⟨hGb, hs0, hs4, hkeys, rv, first, hbk, hqn, hns, hring⟩ := hbox
  obtain ⟨ra, rfl⟩ := hring.slice
  have HR := Lib.hid hring
  have HBK := Lib.hid hbk
  have hbl := lt_of_heap hbk
  have c0 : w.cell? ⟨b, 0, none⟩ = some (.int .i64 size) := by rw [cell0 hbk 0]; rfl
  have c2 : w.cell? ⟨b, 1, none⟩ = some (.slice ra n0 n0) := by rw [cell0 hbk 1]; rfl
  have c3 : w.cell? ⟨b, 2, none⟩ = some (.int .i64 first) := by rw [cell0 hbk 2]; rfl
  have c4 : w.cell? ⟨b, 3, none⟩ = some (.int .i64 q.length) := by rw [cell0 hbk 3]; rfl
  have hw1 : IntKind.i64.wrap ((q.length : Int) + l.length) = (q.length : Int) + l.length := by rw [IntKind.wrap_i64]; omega
  clear hring hkeys hbk
  by_cases hgr : n0 < q.length + l.length
  · have t1 : decide ((n0 : Int) < (q.length : Int) + l.length) = true := decide_eq_true (by omega)
    have hw2 : IntKind.i64.wrap (2 * ((q.length : Int) + l.length)) = 2 * ((q.length : Int) + l.length) := by rw [IntKind.wrap_i64]; omega
    obtain ⟨n1, hn1⟩ : ∃ n1, n1 = min size (2 * (q.length + l.length)) := ⟨_, rfl⟩
    have hmin : min (size : Int) (2 * ((q.length : Int) + l.length)) = (n1 : Int) := by omega
    have q1n : q.length + l.length ≤ n1 := by omega
    have n1s : n1 ≤ size := by omega
    clear hn1
    obtain ⟨i0, hi0, hz0, hz1, hz2⟩ := info_parts Tryz_info41
    obtain ⟨CM, hCM⟩ : ∃ CM, CM = madeCells (Value.agg #[.string ⟨#[]⟩, .slice none 0 0, .slice none 0 0, .slice none 0 0]).cells (n1 * 4) := ⟨_, rfl⟩
    have hCs : CM.size = n1 * 4 := by rw [hCM]; exact size_madeCells _ _
    have hms : ∀ W : World, (Instr.makeSlice 29 (.int .i64 (n1 : Int)) (.int .i64 (n1 : Int))).run Tryz.prog W = .ok (.slice (some ⟨W.heap.size, 0, none⟩) n1 n1) (W.alloc (.cells CM 41)) := fun W => by
      have := run_makeSlice (P := Tryz.prog) W 29 41 i0 _ Tryz.underlying29 hi0 hz0 .i64 .i64 n1 n1 (by omega) (by omega) (by rw [hz1]; omega) (by rw [hz2]; omega) (by omega)
      rw [this, hCM, hz1]
      rfl
    clear hCM hi0 hz0 hz1 hz2 i0
    go_wp2_with fail
    go_quiet (fail)
    go_upto_region 15 with fail
    go_cut [10] from 55 to 68 (fun e wx => e = .slice (some ⟨w.heap.size, 0, none⟩) n1 n1 ∧ ∃ d, wx = (w.alloc (.cells CM 41)).drewN d)
    case first =>
      refine NQ.to ?_
      go_region_law (fail)
      all_goals
        simp only [NQ]
        go_wp2
        go_meet
        case rel => exact ⟨rfl, _, rfl⟩
    case rest =>
      obtain ⟨rfl, d, rfl⟩ := hcut
      obtain ⟨W1, hW1⟩ : ∃ W1, W1 = (w.alloc (.cells CM 41)).drewN d := ⟨_, rfl⟩
      have hb1 : Below w.heap.size w W1 := by rw [hW1]; exact ((Below.refl _ _).alloc (Nat.le_refl _) _).drewN
      have hg1 : W1.heap[w.heap.size]? = some (.cells CM 41) := by rw [hW1]; exact alloc_new _ _
      have hz1 : w.heap.size < W1.heap.size := lt_of_heap hg1
      rw [← hW1]
      clear hW1 hms hmin t1 hw1 hw2
      have d3 : W1.cell? ⟨b, 3, none⟩ = some (.int .i64 q.length) := by rw [hb1.cell (p := ⟨_, _, _⟩) hbl]; exact c4
      go_wp2_with fail
      go_loopw [73] (fun i wr => ∃ (k : Nat) (C : Array Value), k ≤ q.length ∧ i = .int .i64 k ∧ wr.heap[w.heap.size]? = some (.cells C 41) ∧ C.size = n1 * 4 ∧ (∀ i (h : i < q.length), i < k → ∀ j, j < 4 → C[i * 4 + j]? = (zE q[i])[j]?) ∧ Below w.heap.size w wr) (fun i _ => q.length - (intOf i).toNat)
      case atStart => exact ⟨0, CM, Nat.zero_le _, rfl, hg1, hCs, fun i h hi => absurd hi (Nat.not_lt_zero _), hb1⟩
      case round =>
        obtain ⟨k, C, hk, rfl, hgC, hsC, hCq, hB⟩ := hrel
        by_cases hlt : k < q.length
        · obtain ⟨hfn, g, C0, hv, hGg, hgb, hg0, hs00, hC0⟩ := HR.out.2 (by omega)
          cases hv
          have hgl0 := lt_of_heap hg0
          have hgr0 : wr.heap[g]? = some (.cells C0 41) := by rw [hB.block _ hgl0]; exact hg0
          have r0 : wr.cell? ⟨b, 1, none⟩ = some (.slice (some ⟨g, 0, none⟩) n0 n0) := by rw [hB.cell (p := ⟨_, _, _⟩) hbl]; exact c2
          have r1 : wr.cell? ⟨b, 2, none⟩ = some (.int .i64 first) := by rw [hB.cell (p := ⟨_, _, _⟩) hbl]; exact c3
          have hcl : ∀ j, j < 4 → wr.cell? ⟨g, (first + k) % n0 * 4 + j, none⟩ = (zE q[k])[j]? := fun j hj => by
            rw [cell0 hgr0]; exact hC0 k hlt j hj
          have HX : Hid (∃ x, x = q[k]) := Lib.hid ⟨_, rfl⟩
          obtain ⟨x, hx⟩ := HX.out
          rw [← hx] at hcl
          have HXE := Lib.hid hx
          clear hx HX
          have hmn : (first + k) % n0 < n0 := Nat.mod_lt _ (by omega)
          have hwr : IntKind.i64.wrap ((first : Int) + k) = (first : Int) + k := by rw [IntKind.wrap_i64]; omega
          have hn00 : ¬ n0 = 0 := by omega
          have htm : ((first : Int) + k).tmod (n0 : Int) = (((first + k) % n0 : Nat) : Int) := by
            rw [show (first : Int) + k = ((first + k : Nat) : Int) by omega]
            exact (Int.ofNat_tmod _ _).symm
          have HM : Hid (∃ m, m = (first + k) % n0) := Lib.hid ⟨_, rfl⟩
          obtain ⟨m, hm⟩ := HM.out
          rw [← hm] at hcl hmn htm
          clear hm HM
          have e0 : wr.cell? ⟨g, m * 4, none⟩ = some (.string x) := hcl 0 (by omega)
          have e1 : wr.cell? ⟨g, m * 4 + 1, none⟩ = some (.slice none 0 0) := hcl 1 (by omega)
          have e2 : wr.cell? ⟨g, m * 4 + 2, none⟩ = some (.slice none 0 0) := hcl 2 (by omega)
          have e3 : wr.cell? ⟨g, m * 4 + 3, none⟩ = some (.slice none 0 0) := hcl 3 (by omega)
          have gz : ∀ j, j < 4 → ∃ u, wr.cell? ⟨w.heap.size, k * 4 + j, none⟩ = some u := fun j hj => by
            rw [cell0 hgC]
            exact ⟨C[k * 4 + j]'(by omega), by rw [Array.getElem?_eq_getElem]⟩
          obtain ⟨y0, g0⟩ := gz 0 (by omega)
          replace g0 : wr.cell? ⟨w.heap.size, k * 4, none⟩ = some y0 := g0
          obtain ⟨y1, g1⟩ := gz 1 (by omega)
          obtain ⟨y2, g2⟩ := gz 2 (by omega)
          obtain ⟨y3, g3⟩ := gz 3 (by omega)
          have z0 : wr.frozen? ⟨w.heap.size, k * 4, none⟩ = false := froz0 hgC _
          have z1 : wr.frozen? ⟨w.heap.size, k * 4 + 1, none⟩ = false := froz0 hgC _
          have z2 : wr.frozen? ⟨w.heap.size, k * 4 + 2, none⟩ = false := froz0 hgC _
          have z3 : wr.frozen? ⟨w.heap.size, k * 4 + 3, none⟩ = false := froz0 hgC _
          have a2 : (0 : Int) ≤ m := by omega
          have a3 : (m : Int) < n0 := by omega
          have a4 : (0 : Int) ≤ k := by omega
          have a5 : (k : Int) < n1 := by omega
          have a6 : (k : Int) < q.length := by omega
          have HB := Lib.hid hB
          have HGC := Lib.hid hgC
          clear gz hcl hB hg0 hgr0 c0 c2 c3 c4 d3
          go_upto_region 19 with fail
          have FIN : Hid (∀ d, ∃ (k' : Nat) (C' : Array Value), k' ≤ q.length ∧ Value.int .i64 ((k : Int) + 1) = .int .i64 k' ∧ (((((wr.setCell ⟨w.heap.size, k * 4, none⟩ (.string x)).setCell ⟨w.heap.size, k * 4 + 1, none⟩ (.slice none 0 0)).setCell ⟨w.heap.size, k * 4 + 2, none⟩ (.slice none 0 0)).setCell ⟨w.heap.size, k * 4 + 3, none⟩ (.slice none 0 0)).drewN d).heap[w.heap.size]? = some (.cells C' 41) ∧ C'.size = n1 * 4 ∧ (∀ i (h : i < q.length), i < k' → ∀ j, j < 4 → C'[i * 4 + j]? = (zE q[i])[j]?) ∧ Below w.heap.size w (((((wr.setCell ⟨w.heap.size, k * 4, none⟩ (.string x)).setCell ⟨w.heap.size, k * 4 + 1, none⟩ (.slice none 0 0)).setCell ⟨w.heap.size, k * 4 + 2, none⟩ (.slice none 0 0)).setCell ⟨w.heap.size, k * 4 + 3, none⟩ (.slice none 0 0)).drewN d)) := Lib.hid (fun d => by
            refine ⟨k + 1, (((C.setIfInBounds (k * 4) (.string x)).setIfInBounds (k * 4 + 1) (.slice none 0 0)).setIfInBounds (k * 4 + 2) (.slice none 0 0)).setIfInBounds (k * 4 + 3) (.slice none 0 0), by omega, rfl, ?_, by simp [hsC], ?_, ?_⟩
            · exact setCell_same (setCell_same (setCell_same (setCell_same HGC.out _ _) _ _) _ _) _ _
            · intro i h hi j hj
              by_cases hik : i = k
              · subst hik
                rw [← HXE.out]
                exact put4_get C i x n1 hsC (by omega) j hj
              · rw [Array.getElem?_setIfInBounds_ne (by omega), Array.getElem?_setIfInBounds_ne (by omega), Array.getElem?_setIfInBounds_ne (by omega), Array.getElem?_setIfInBounds_ne (by omega)]
                exact hCq i h (by omega) j hj
            · exact ((((HB.out.setCell (Nat.le_refl _) _).setCell (Nat.le_refl _) _).setCell (Nat.le_refl _) _).setCell (Nat.le_refl _) _).drewN)
          clear hCq
          refine NQ.to ?_
          go_region_law (fail)
          all_goals
            simp only [NQ]
            go_wp2
            go_roundw
            case rel => exact FIN.out _
            case measure => simp [intOf]; omega
        · have hke : k = q.length := by omega
          subst hke
          have hbr : wr.heap[b]? = some (.cells #[.int .i64 size, .slice ra n0 n0, .int .i64 first, .int .i64 q.length] 65) := by rw [hB.block _ hbl]; exact HBK.out
          have r1 : wr.cell? ⟨b, 1, none⟩ = some (.slice ra n0 n0) := by rw [cell0 hbr 1]; rfl
          have r2 : wr.cell? ⟨b, 2, none⟩ = some (.int .i64 first) := by rw [cell0 hbr 2]; rfl
          have x1 : wr.frozen? ⟨b, 1, none⟩ = false := froz0 hbr 1
          have x2 : wr.frozen? ⟨b, 2, none⟩ = false := froz0 hbr 2
          have hbne : w.heap.size ≠ b := by omega
          go_wp2_with fail
          obtain ⟨Wf, hWf⟩ : ∃ Wf, Wf = (wr.setCell ⟨b, 1, none⟩ (.slice (some ⟨w.heap.size, 0, none⟩) n1 n1)).setCell ⟨b, 2, none⟩ (.int .i64 0) := ⟨_, rfl⟩
          rw [← hWf]
          have hbf : Wf.heap[b]? = some (.cells #[.int .i64 size, .slice (some ⟨w.heap.size, 0, none⟩) n1 n1, .int .i64 (0 : Nat), .int .i64 q.length] 65) := by rw [hWf]; exact setCell_same (setCell_same hbr _ _) _ _
          have hof : ∀ j, j ≠ b → Wf.heap[j]? = wr.heap[j]? := fun j hj => by rw [hWf, Below.heap_setCell _ _ _ _ hj, Below.heap_setCell _ _ _ _ hj]
          have hzf : Wf.heap.size = wr.heap.size := by rw [hWf]; simp only [setCell_size]
          have hosf : Wf.os = wr.os ∧ Wf.tape = wr.tape ∧ Wf.output = wr.output := by rw [hWf]; exact ⟨rfl, rfl, rfl⟩
          clear hWf
          show R _ _
          apply HQ.out (n := n1)
          · exact q1n
          · refine ⟨Or.inl HBX.out.1, HBX.out.2.1, HBX.out.2.2.1, HBX.out.2.2.2.1, _, 0, hbf, by omega, n1s, fun hn => by omega, fun _ => ⟨by omega, w.heap.size, C, rfl, Or.inr (Nat.le_refl _), hbne, by rw [hof _ hbne]; exact hgC, hsC, fun i hi j hj => ?_⟩⟩
            rw [Nat.zero_add, Nat.mod_eq_of_lt (by omega)]
            exact hCq i hi hi j hj
          · exact ⟨fun j hj hG => by rw [hof j (fun e => hG (e ▸ hGb)), hB.block _ hj], by rw [hzf]; exact hB.size, hosf.1.trans hB.os, hosf.2.1.trans hB.tape, hosf.2.2.trans hB.output⟩
  · have t1 : decide ((n0 : Int) < (q.length : Int) + l.length) = false := decide_eq_false (by omega)
    go_wp2_with fail
    go_quiet (fail)
    go_wp2_with fail
    show R _ _
    apply HQ.out (n := n0)
    · omega
    · exact ⟨Or.inl HBX.out.1, HBX.out.2.1, HBX.out.2.2.1, HBX.out.2.2.2.1, _, first, HBK.out, hqn, hns, fun hn => HR.out.1 hn, fun hn => by obtain ⟨x1, g, C, x2, x3, x4⟩ := HR.out.2 hn; exact ⟨x1, g, C, x2, Or.inl x3, x4⟩⟩
    · exact .of_below (Below.refl _ _).drewN
end Go.Proofs.YtkedgiklcmkmmaaGreatDoor
