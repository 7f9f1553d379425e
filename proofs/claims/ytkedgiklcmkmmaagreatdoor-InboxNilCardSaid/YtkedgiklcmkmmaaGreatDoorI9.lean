/- Inbox.Take of an inbox that is not empty. -/
import Derived.Test.YtkedgiklcmkmmaaGreatDoorI8
namespace Go.Proofs.YtkedgiklcmkmmaaGreatDoor
open Go.RowKit Go.Maps

set_option maxRecDepth 100000 in
set_option maxHeartbeats 4000000 in
theorem take_some {G : Nat → Prop} {w : World} {b size : Nat} {k : ByteArray} {q : List ByteArray} (h : Box G w b size (k :: q)) : Calls Tryz.prog 23 #[.pointer (some ⟨b, 0, none⟩)] w fun e w' => e = .returned (.tuple #[.agg #[.string k, .slice none 0 0, .slice none 0 0, .slice none 0 0], .int .i64 0]) ∧ Box G w' b size q ∧ (∀ j, j < w.heap.size → ¬ G j → w'.heap[j]? = w.heap[j]?) ∧ w.heap.size ≤ w'.heap.size ∧ w'.os = w.os ∧ w'.tape = w.tape ∧ w'.output = w.output := by
  obtain ⟨W1, hW1⟩ : ∃ W1, W1 = w.alloc (.cells #[.string ⟨#[]⟩, .slice none 0 0, .slice none 0 0, .slice none 0 0] 41) := ⟨_, rfl⟩
  have hb1 : Below w.heap.size w W1 := by rw [hW1]; exact (Below.refl _ _).alloc (Nat.le_refl _) _
  have hz1 : w.heap.size < W1.heap.size := by rw [hW1]; simp
  have hc1 : W1.heap[w.heap.size]? = some (.cells #[.string ⟨#[]⟩, .slice none 0 0, .slice none 0 0, .slice none 0 0] 41) := by rw [hW1]; exact alloc_new _ _
  have HH := Lib.hid (head_some (h.below hb1))
  have HB1 := Lib.hid hb1
  have HC1 := Lib.hid hc1
  have HBX := Lib.hid h
  clear hb1 hc1 h
  go_enter Tryz.func23, Tryz.ntmps23
  go_wp2_with fail
  rw [← hW1]
  refine HH.out.mono ?_
  rintro e w2 ⟨rfl, hb2⟩
  clear hW1
  obtain ⟨W3, hW3⟩ : ∃ W3, W3 = w2.alloc (.cells #[.string k, .slice none 0 0, .slice none 0 0, .slice none 0 0] 41) := ⟨_, rfl⟩
  have hz2 : w.heap.size < w2.heap.size := Nat.lt_of_lt_of_le hz1 hb2.size
  have hb3 : Below w.heap.size w W3 := by rw [hW3]; exact (HB1.out.trans (hb2.mono (Nat.le_of_lt hz1))).alloc (Nat.le_of_lt hz2) _
  obtain ⟨hGb, hs0, hs4, hkeys, rv, n, first, hbk0, hln, hns, -, hring⟩ := HBX.out
  obtain ⟨hfn, g, C, rfl, hGg, hgb, hgc0, hCs, hCq⟩ := hring (by simp at hln; omega)
  have hbl0 := lt_of_heap hbk0
  have hgl0 := lt_of_heap hgc0
  have hbk := (hb3.block _ hbl0).trans hbk0
  have hgc := (hb3.block _ hgl0).trans hgc0
  have ht4 : W3.heap[w2.heap.size]? = some (.cells #[.string k, .slice none 0 0, .slice none 0 0, .slice none 0 0] 41) := by rw [hW3]; exact alloc_new _ _
  have ht2 : W3.heap[w.heap.size]? = some (.cells #[.string ⟨#[]⟩, .slice none 0 0, .slice none 0 0, .slice none 0 0] 41) := by
    rw [hW3, alloc_old _ _ hz2, hb2.block _ hz1]; exact HC1.out
  have s1 : W3.cell? ⟨b, 1, none⟩ = some (.slice (some ⟨g, 0, none⟩) n n) := by rw [cell0 hbk 1]; rfl
  have s2 : W3.cell? ⟨b, 2, none⟩ = some (.int .i64 first) := by rw [cell0 hbk 2]; rfl
  have s3 : W3.cell? ⟨b, 3, none⟩ = some (.int .i64 ((k :: q).length : Nat)) := by rw [cell0 hbk 3]; rfl
  have hbl := lt_of_heap hbk
  have hgl := lt_of_heap hgc
  have a2 : (0 : Int) ≤ first := by omega
  have a3 : (first : Int) < n := by omega
  have a4 : (first : Int) + 1 ≤ n := by omega
  have a5 : (first : Int) ≤ first + 1 := by omega
  have hwr : IntKind.i64.wrap ((first : Int) + 1) = (first : Int) + 1 := by rw [IntKind.wrap_i64]; omega
  have gz : ∀ j, j < 4 → ∃ u, W3.cell? ⟨g, first * 4 + j, none⟩ = some u := fun j hj => by
    rw [cell0 hgc]
    exact ⟨C[first * 4 + j]'(by omega), by rw [Array.getElem?_eq_getElem]⟩
  obtain ⟨u0, g0⟩ := gz 0 (by omega)
  obtain ⟨u1, g1⟩ := gz 1 (by omega)
  obtain ⟨u2, g2⟩ := gz 2 (by omega)
  obtain ⟨u3, g3⟩ := gz 3 (by omega)
  have z0 : W3.frozen? ⟨g, first * 4, none⟩ = false := froz0 hgc _
  have z1 : W3.frozen? ⟨g, first * 4 + 1, none⟩ = false := froz0 hgc _
  have z2 : W3.frozen? ⟨g, first * 4 + 2, none⟩ = false := froz0 hgc _
  have z3 : W3.frozen? ⟨g, first * 4 + 3, none⟩ = false := froz0 hgc _
  go_upto_region 4 with fail
  rw [← hW3]
  clear hW3
  have hnf : ¬ n = first := by omega
  have hn0 : ¬ n = 0 := by omega
  have htm : ((first : Int) + 1).tmod (n : Int) = (((first + 1) % n : Nat) : Int) := by
    rw [show (first : Int) + 1 = ((first + 1 : Nat) : Int) by omega]
    exact (Int.ofNat_tmod _ _).symm
  have HCL := Lib.hid (show (∀ j, j < 4 → (W3.cell? ⟨g, first * 4 + j, none⟩).isSome = true) ∧ (∀ j, j < 4 → W3.frozen? ⟨g, first * 4 + j, none⟩ = false) from ⟨fun j hj => by obtain ⟨u, hu⟩ := gz j hj; rw [hu]; rfl, fun j _ => froz0 hgc _⟩)
  clear g0 g1 g2 g3 z0 z1 z2 z3 gz
  go_cut [5] from 15 to 28 (fun e wx => e = .int .i64 0 ∧ ∃ d, wx = (W3.setCells g (first * 4) [.string ⟨#[]⟩, .slice none 0 0, .slice none 0 0, .slice none 0 0]).drewN d)
  case first =>
    refine NQ.to ?_
    go_region_law (refine step_clear rfl _ rfl g (first * 4) (n - first) rfl HCL.out.1 HCL.out.2 ?_)
    all_goals
      simp only [NQ]
      go_wp2
      go_meet
      case rel => exact ⟨rfl, 1, rfl⟩
  case rest =>
    obtain ⟨rfl, d, rfl⟩ := hcut
    obtain ⟨W4, hW4⟩ : ∃ W4, W4 = (W3.setCells g (first * 4) [.string ⟨#[]⟩, .slice none 0 0, .slice none 0 0, .slice none 0 0]).drewN d := ⟨_, rfl⟩
    obtain ⟨C4, hC4⟩ : ∃ C4, C4 = (((C.setIfInBounds (first * 4) (.string ⟨#[]⟩)).setIfInBounds (first * 4 + 1) (.slice none 0 0)).setIfInBounds (first * 4 + 1 + 1) (.slice none 0 0)).setIfInBounds (first * 4 + 1 + 1 + 1) (.slice none 0 0) := ⟨_, rfl⟩
    have hg4 : W4.heap[g]? = some (.cells C4 41) := by
      rw [hW4, hC4]
      exact setCell_same (setCell_same (setCell_same (setCell_same hgc _ _) _ _) _ _) _ _
    have ho4 : ∀ j, j ≠ g → W4.heap[j]? = W3.heap[j]? := fun j hj => by
      rw [hW4]
      show (((((W3.setCell ⟨g, first * 4, none⟩ _).setCell ⟨g, first * 4 + 1, none⟩ _).setCell ⟨g, first * 4 + 1 + 1, none⟩ _).setCell ⟨g, first * 4 + 1 + 1 + 1, none⟩ _)).heap[j]? = _
      rw [Below.heap_setCell _ _ _ _ hj, Below.heap_setCell _ _ _ _ hj, Below.heap_setCell _ _ _ _ hj, Below.heap_setCell _ _ _ _ hj]
    have hz4 : W4.heap.size = W3.heap.size := by
      rw [hW4]
      show (((((W3.setCell ⟨g, first * 4, none⟩ _).setCell ⟨g, first * 4 + 1, none⟩ _).setCell ⟨g, first * 4 + 1 + 1, none⟩ _).setCell ⟨g, first * 4 + 1 + 1 + 1, none⟩ _)).heap.size = _
      simp only [setCell_size]
    have hos4 : W4.os = W3.os ∧ W4.tape = W3.tape ∧ W4.output = W3.output := by rw [hW4]; exact ⟨rfl, rfl, rfl⟩
    have hb4 : W4.heap[b]? = some (.cells #[.int .i64 size, .slice (some ⟨g, 0, none⟩) n n, .int .i64 first, .int .i64 ((k :: q).length : Nat)] 65) := by rw [ho4 b (fun e => hgb e.symm)]; exact hbk
    rw [← hW4]
    clear hW4
    have s1 : W4.cell? ⟨b, 1, none⟩ = some (.slice (some ⟨g, 0, none⟩) n n) := by rw [cell0 hb4 1]; rfl
    have s2 : W4.cell? ⟨b, 2, none⟩ = some (.int .i64 first) := by rw [cell0 hb4 2]; rfl
    have hfz2 : W4.frozen? ⟨b, 2, none⟩ = false := froz0 hb4 2
    go_upto_region 5 with fail
    go_cut [5] from 29 to 42 (fun e wx => e = .int .i64 0 ∧ ∃ d, wx = (W4.setCell ⟨b, 2, none⟩ (.int .i64 (((first + 1) % n : Nat) : Int))).drewN d)
    case first =>
      refine NQ.to ?_
      go_region_law (fail)
      all_goals
        simp only [NQ]
        go_wp2
        go_meet
        case rel => exact ⟨rfl, 1, rfl⟩
    case rest =>
      obtain ⟨rfl, d5, rfl⟩ := hcut
      obtain ⟨W5, hW5⟩ : ∃ W5, W5 = (W4.setCell ⟨b, 2, none⟩ (.int .i64 (((first + 1) % n : Nat) : Int))).drewN d5 := ⟨_, rfl⟩
      have hb5 : W5.heap[b]? = some (.cells #[.int .i64 size, .slice (some ⟨g, 0, none⟩) n n, .int .i64 (((first + 1) % n : Nat) : Int), .int .i64 ((k :: q).length : Nat)] 65) := by
        rw [hW5]
        exact setCell_same hb4 2 _
      have ho5 : ∀ j, j ≠ b → W5.heap[j]? = W4.heap[j]? := fun j hj => by
        rw [hW5]
        show (W4.setCell ⟨b, 2, none⟩ _).heap[j]? = _
        rw [Below.heap_setCell _ _ _ _ hj]
      have hz5 : W5.heap.size = W4.heap.size := by
        rw [hW5]
        show (W4.setCell ⟨b, 2, none⟩ _).heap.size = _
        rw [setCell_size]
      have hos5 : W5.os = W4.os ∧ W5.tape = W4.tape ∧ W5.output = W4.output := by rw [hW5]; exact ⟨rfl, rfl, rfl⟩
      have ht45 : W5.heap[w2.heap.size]? = some (.cells #[.string k, .slice none 0 0, .slice none 0 0, .slice none 0 0] 41) := by
        rw [ho5 _ (by omega), ho4 _ (by omega)]; exact ht4
      have ht25 : W5.heap[w.heap.size]? = some (.cells #[.string ⟨#[]⟩, .slice none 0 0, .slice none 0 0, .slice none 0 0] 41) := by
        rw [ho5 _ (by omega), ho4 _ (by omega)]; exact ht2
      rw [← hW5]
      clear hW5 s1 s2 hfz2
      have s3 : W5.cell? ⟨b, 3, none⟩ = some (.int .i64 ((k :: q).length : Nat)) := by rw [cell0 hb5 3]; rfl
      have s3f : W5.frozen? ⟨b, 3, none⟩ = false := froz0 hb5 3
      have x0 : W5.cell? ⟨w2.heap.size, 0, none⟩ = some (.string k) := by rw [cell0 ht45 0]; rfl
      have x1 : W5.cell? ⟨w2.heap.size, 1, none⟩ = some (.slice none 0 0) := by rw [cell0 ht45 1]; rfl
      have x2 : W5.cell? ⟨w2.heap.size, 2, none⟩ = some (.slice none 0 0) := by rw [cell0 ht45 2]; rfl
      have x3 : W5.cell? ⟨w2.heap.size, 3, none⟩ = some (.slice none 0 0) := by rw [cell0 ht45 3]; rfl
      have y0 : W5.cell? ⟨w.heap.size, 0, none⟩ = some (.string ⟨#[]⟩) := by rw [cell0 ht25 0]; rfl
      have y1 : W5.cell? ⟨w.heap.size, 1, none⟩ = some (.slice none 0 0) := by rw [cell0 ht25 1]; rfl
      have y2 : W5.cell? ⟨w.heap.size, 2, none⟩ = some (.slice none 0 0) := by rw [cell0 ht25 2]; rfl
      have y3 : W5.cell? ⟨w.heap.size, 3, none⟩ = some (.slice none 0 0) := by rw [cell0 ht25 3]; rfl
      have v0 : W5.frozen? ⟨w.heap.size, 0, none⟩ = false := froz0 ht25 0
      have v1 : W5.frozen? ⟨w.heap.size, 1, none⟩ = false := froz0 ht25 1
      have v2 : W5.frozen? ⟨w.heap.size, 2, none⟩ = false := froz0 ht25 2
      have v3 : W5.frozen? ⟨w.heap.size, 3, none⟩ = false := froz0 ht25 3
      have hw3 : IntKind.i64.wrap ((q.length : Nat) : Int) = (q.length : Int) := by rw [IntKind.wrap_i64]; simp at hln; omega
      have n1 : ¬ b = w.heap.size := by omega
      have n2 : ¬ w.heap.size = b := by omega
      have n3 : ¬ b = w2.heap.size := by omega
      have n4 : ¬ w2.heap.size = b := by omega
      go_wp2_with fail
      (try simp only [Exit.inBlock, Exit.then])
      refine bodyPost_ret (v := .tuple #[.agg #[.string k, .slice none 0 0, .slice none 0 0, .slice none 0 0], .int .i64 0]) ?_ rfl ⟨rfl, ?_⟩
      · rw [results_cell_tmp rfl]
        go_simp
      · clear HH HC1 HB1 HBX HCL hwr a2 a3 a4 a5 htm s3 s3f x0 x1 x2 x3 y0 y1 y2 y3 v0 v1 v2 v3 ht45 ht25 hz1 hb2
        obtain ⟨Wf, hWf⟩ : ∃ Wf, Wf = ((((W5.setCell ⟨b, 3, none⟩ (.int .i64 q.length)).setCell ⟨w.heap.size, 0, none⟩ (.string k)).setCell ⟨w.heap.size, 1, none⟩ (.slice none 0 0)).setCell ⟨w.heap.size, 2, none⟩ (.slice none 0 0)).setCell ⟨w.heap.size, 3, none⟩ (.slice none 0 0) := ⟨_, rfl⟩
        rw [← hWf]
        have hof : ∀ j, j ≠ b → j ≠ w.heap.size → Wf.heap[j]? = W5.heap[j]? := fun j h1 h2 => by
          rw [hWf, Below.heap_setCell _ _ _ _ h2, Below.heap_setCell _ _ _ _ h2, Below.heap_setCell _ _ _ _ h2, Below.heap_setCell _ _ _ _ h2, Below.heap_setCell _ _ _ _ h1]
        have hbf : Wf.heap[b]? = some (.cells #[.int .i64 size, .slice (some ⟨g, 0, none⟩) n n, .int .i64 (((first + 1) % n : Nat) : Int), .int .i64 (q.length : Nat)] 65) := by
          rw [hWf, Below.heap_setCell _ _ _ _ n1, Below.heap_setCell _ _ _ _ n1, Below.heap_setCell _ _ _ _ n1, Below.heap_setCell _ _ _ _ n1]
          exact setCell_same hb5 3 _
        have hzf : Wf.heap.size = W5.heap.size := by rw [hWf]; simp only [setCell_size]
        have hosf : Wf.os = W5.os ∧ Wf.tape = W5.tape ∧ Wf.output = W5.output := by rw [hWf]; exact ⟨rfl, rfl, rfl⟩
        clear hWf
        have hgf : Wf.heap[g]? = some (.cells C4 41) := by rw [hof g hgb (by omega), ho5 g hgb]; exact hg4
        have hlq : q.length + 1 ≤ n := by simp at hln; omega
        refine ⟨⟨hGb, hs0, hs4, fun x hx => hkeys x (List.mem_cons_of_mem _ hx), _, n, (first + 1) % n, hbf, by omega, hns, fun h0 => absurd h0 hn0, fun _ => ⟨Nat.mod_lt _ (by omega), g, C4, rfl, hGg, hgb, hgf, by rw [hC4]; simp [hCs], fun i hi j hj => ?_⟩⟩, fun j hj hGj => ?_, ?_, ?_⟩
        · have h1 := hCq (i + 1) (by simp; omega) j hj
          have he : ((first + 1) % n + i) % n = (first + (i + 1)) % n := by
            rw [Nat.mod_add_mod]
            congr 1
            omega
          have hne : (first + (i + 1)) % n ≠ first := fun hc => by
            have := Nat.mod_eq_of_lt hfn
            have hk : (first + (i + 1)) % n = (i + 1 + first) % n := by rw [Nat.add_comm]
            by_cases hlt : first + (i + 1) < n
            · rw [Nat.mod_eq_of_lt hlt] at hc; omega
            · rw [Nat.mod_eq_sub_mod (by omega), Nat.mod_eq_of_lt (by omega)] at hc; omega
          rw [he, hC4]
          generalize hm : (first + (i + 1)) % n = m at *
          rw [Array.getElem?_setIfInBounds_ne (by omega), Array.getElem?_setIfInBounds_ne (by omega), Array.getElem?_setIfInBounds_ne (by omega), Array.getElem?_setIfInBounds_ne (by omega), h1]
          rfl
        · rw [hof j (fun e => hGj (e ▸ hGb)) (by omega), ho5 j (fun e => hGj (e ▸ hGb)), ho4 j (fun e => hGj (e ▸ hGg)), hb3.block j hj]
        · have := hb3.size; omega
        · exact ⟨hosf.1.trans (hos5.1.trans (hos4.1.trans hb3.os)), hosf.2.1.trans (hos5.2.1.trans (hos4.2.1.trans hb3.tape)), hosf.2.2.trans (hos5.2.2.trans (hos4.2.2.trans hb3.output))⟩
end Go.Proofs.YtkedgiklcmkmmaaGreatDoor
