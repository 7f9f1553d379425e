/- Model.own walked: for every model of the shape of S27. -/
import Derived.Test.YtdeljhehcjknbaaDoorS33
import Derived.Deep.RegionLaw
namespace Go.Proofs.YtdeljhehcjknbaaDoor
open Go.RowKit Go.Maps Go.Sort Go.Lib

theorem step_append_src {P : Program} {w : World} {ops : Array Oper} {o : Oper} {a : Act} {K : Act → World → Prop} {Q : Exit → Act → World → Prop} {E : Prop} (hgd : o.guard = none) (s x : Operand) (t : TypeId)
    (ho : o.op = .call { callee := .builtin .append, args := #[s, x], argTypes := #[t, t] })
    (base : Nat) (e : TypeId) (i : TypeInfo) (z : Value) (size bytes : Nat) (ht : P.underlying t = some (.slice e)) (hi : P.info? e = some i) (hz : i.zero = some z)
    (hsize : i.size = size) (hby : i.bytes = bytes) (hzs : z.cells.size = size) (hsz : 0 < size)
    (v : Value) (n : Nat) (xs : List Value) (hs : a.eval s = v) (hown : w.ownsRow base e size v n xs)
    (src : Value) (m : Nat) (news : List Value) (hx : a.eval x = src) (hsrc : SrcIs w src m news) (hl : news.length = m * size) (h1 : ∀ u ∈ news, u.oneCell' = true)
    (h63 : n + m ≤ maxLen) (hbytes : (n + m) * bytes ≤ 140737488355328) (hbase : base ≤ w.heap.size)
    (h : ∀ v' w', w'.ownsRow base e size v' (n + m) (xs ++ news) → w.grownBy w' v.ownBlock → (v' = .slice none 0 0 ↔ v = .slice none 0 0 ∧ m = 0) → K (a.put o.dst v') w') :
    if Region.wanted o (yielded ops a.tmps) = true then Oper.wp P o a w K Q else E := by
  have hw : Region.wanted o (yielded ops a.tmps) = true := by simp [Region.wanted, hgd]
  rw [if_pos hw]
  exact wp_append_src s x t ho base e i z size bytes ht hi hz hsize hby hzs hsz v n xs hs hown src m news hx hsrc hl h1 h63 hbytes hbase h

theorem MemAt.sharp {G G' : Nat → Prop} {w w' : World} {v : Value} {m : List (ByteArray × Int)} (h : MemAt G w v m) (hG : ∀ k, G k ∧ k < w.heap.size → G' k) (hk : ∀ k, G k → k < w.heap.size → w'.heap[k]? = w.heap[k]?) (hs : w.heap.size ≤ w'.heap.size) : MemAt G' w' v m := by
  obtain ⟨a, cap, h1, h2, h3⟩ := h
  refine ⟨a, cap, h1, h2, fun hn => ?_⟩
  obtain ⟨g, e1, e2, e3, e4⟩ := h3 hn
  exact ⟨g, e1, hG g ⟨e2, e3⟩, Nat.lt_of_lt_of_le e3 hs, fun j u h => by rw [World.cell?_of_block (w := w) (hk g e2 e3)]; exact e4 j u h⟩
theorem RowP.sharp {G G' : Nat → Prop} {w w' : World} : ∀ {xs : List Value} {A : List APg}, RowP G w xs A → (∀ k, G k ∧ k < w.heap.size → G' k) → (∀ k, G k → k < w.heap.size → w'.heap[k]? = w.heap[k]?) → w.heap.size ≤ w'.heap.size → RowP G' w' xs A
  | [], [], _, _, _, _ => trivial
  | c :: o :: mv :: xs, x :: A, h, hG, hk, hs => ⟨h.1, h.2.1, h.2.2.1.sharp hG hk hs, RowP.sharp h.2.2.2 hG hk hs⟩
  | [], _ :: _, h, _, _, _ => h.elim
  | [_], _, h, _, _, _ => by simp [RowP] at h
  | [_, _], _, h, _, _, _ => by simp [RowP] at h
  | _ :: _ :: _ :: _, [], h, _, _, _ => by simp [RowP] at h

/-- The model's pages are a new row, whose members' rows are no cells of its own block. -/
def OwnPost (G : Nat → Prop) (w : World) (b : Nat) (A : List APg) (i : Nat) (e : Ending) (w' : World) : Prop :=
  ∃ g cap cur, e = .returned (.pointer (some ⟨g, i * 3, none⟩)) ∧ w'.heap[b]? = some (.cells #[.slice (some ⟨g, 0, none⟩) A.length cap] 38) ∧ A.length ≤ cap ∧ w.heap.size ≤ g ∧ w'.heap[g]? = some (.cells cur 66) ∧
      A.length * 3 ≤ cur.size ∧ RowP (fun k => (G k ∧ k ≠ b ∧ k < w.heap.size) ∨ (w.heap.size ≤ k ∧ k ≠ g)) w' (cur.toList.take (A.length * 3)) A ∧ Keep (fun k => k = b ∨ w.heap.size ≤ k) w w'

set_option maxRecDepth 100000 in
set_option maxHeartbeats 4000000 in
theorem own_m {G : Nat → Prop} {w : World} {b : Nat} {A : List APg} (i : Nat) (hi : i < A.length) (h : ModelIs G w b A) :
    Calls Tryd.prog 30 #[.pointer (some ⟨b, 0, none⟩), .int .i64 i] w (OwnPost G w b A i) := by
  obtain ⟨_, ⟨v, hb, hp⟩, _, h500, h50⟩ := h
  obtain ⟨xs, hrow, hsrc⟩ := pages_row hp
  have c0 := cell0 hb 0
  simp only [List.getElem?_toArray, List.getElem?_cons_zero] at c0
  have hbl := lt_of_heap hb
  have hfz : w.frozen? ⟨b, 0, none⟩ = false := by unfold World.frozen?; rw [hb]; simp
  have hm50 := h50 _ (List.getElem_mem hi)
  have hxl := hrow.len
  have HB := Lib.hid hb
  have HROW := Lib.hid hrow
  have HSRC := Lib.hid hsrc
  obtain ⟨i0, hi0, hz0, hz1, hz2⟩ := info_parts Tryd_info66
  have HI := Lib.hid (And.intro hi0 (And.intro hz0 (And.intro hz1 hz2)))
  obtain ⟨i1, hi1, hy0, hy1, hy2⟩ := info_parts Tryd_info61
  have HJ := Lib.hid (And.intro hi1 (And.intro hy0 (And.intro hy1 hy2)))
  clear hp hb hrow hsrc hi0 hz0 hz1 hz2 hi1 hy0 hy1 hy2 h50
  go_enter Tryd.func30, Tryd.ntmps30
  go_upto_region 2 with (at_builtin; refine wpList_append_src rfl _ _ 36 rfl w.heap.size 66 i0 (.agg #[.string ⟨#[]⟩, .string ⟨#[]⟩, .slice none 0 0]) 3 56 Tryd.underlying36 HI.out.1 HI.out.2.1 HI.out.2.2.1 HI.out.2.2.2 rfl (by decide) (.slice none 0 0) 0 [] rfl (World.ownsRow_nil _ _ _ _) _ _ _ rfl HSRC.out hxl HROW.out.one (by unfold maxLen; omega) (by omega) (Nat.le_refl _) ?_; intro v1 w1 hown1 hgr1 _; obtain ⟨hl1, ⟨-, h0⟩ | ⟨g, cap, cur, rfl, hg, hgb, h1, h2, h3, h4⟩⟩ := hown1; (exfalso; omega); have hf1 : w1.frozen? ⟨b, 0, none⟩ = false := (by rw [World.frozen?_of_block (w := w) (hgr1.block b hbl (by simp [Value.ownBlock]))]; exact hfz); have hc1 : w1.cell? ⟨b, 0, none⟩ = some v := (by rw [World.cell?_of_block (w := w) (hgr1.block b hbl (by simp [Value.ownBlock]))]; exact c0))
  have hgz : g < w1.heap.size := lt_of_heap hgb
  have hgb0 : g ≠ b := by omega
  obtain ⟨W2, hW2⟩ : ∃ W2, W2 = w1.setCell ⟨b, 0, none⟩ (.slice (some ⟨g, 0, none⟩) A.length cap) := ⟨_, rfl⟩
  have hs2 : W2.heap.size = w1.heap.size := by rw [hW2]; exact setCell_size _ _ _
  have hb1 : w1.heap[b]? = some (.cells #[v] 38) := by rw [hgr1.block b hbl (by simp [Value.ownBlock])]; exact HB.out
  have hb2 : W2.heap[b]? = some (.cells #[.slice (some ⟨g, 0, none⟩) A.length cap] 38) := by rw [hW2, setCell_same hb1]; rfl
  have hg2 : W2.heap[g]? = some (.cells cur 66) := by rw [hW2, Below.heap_setCell _ _ _ _ hgb0]; exact hgb
  have hold : ∀ k, k ≠ b → k < w.heap.size → W2.heap[k]? = w.heap[k]? := fun k h1 h2 => by rw [hW2, Below.heap_setCell _ _ _ _ h1, hgr1.block k h2 (by simp [Value.ownBlock])]
  have hrow2 : RowP (fun k => (G k ∧ k ≠ b)) W2 xs A := RowP.of (fun _ h => h) (fun k h1 h2 => hold k h1.2 h2) (by rw [hs2]; exact hgr1.size) HROW.out
  simp only [List.nil_append, Nat.zero_add] at h4
  obtain ⟨-, -, mv, hmv, hmm⟩ := hrow2.get i hi
  have hKeep2 : Keep (fun k => k = b ∨ w.heap.size ≤ k) w W2 := by
    rw [hW2]
    exact (Keep.grown (F := fun k => k = b ∨ w.heap.size ≤ k) (r := w.heap.size) ⟨hgr1.os, hgr1.tape, hgr1.output, hgr1.size, fun k hk _ => hgr1.block k hk (by simp [Value.ownBlock])⟩ (fun h => by omega)).trans (Keep.setCell _ _ _ (Or.inl rfl))
  have d0 : W2.cell? ⟨b, 0, none⟩ = some (.slice (some ⟨g, 0, none⟩) A.length cap) := by rw [cell0 hb2 0]; rfl
  have d1 : W2.cell? ⟨g, i * 3 + 2, none⟩ = some mv := by
    rw [cell0 hg2]
    rw [← h4, List.getElem?_take] at hmv
    split at hmv
    · simpa using hmv
    · cases hmv
  have d2 : W2.frozen? ⟨g, i * 3 + 2, none⟩ = false := by unfold World.frozen?; rw [hg2]; simp
  have hi0 : (0 : Int) ≤ i := by omega
  have hi1 : (i : Int) < A.length := by omega
  have hrowS : RowP (fun k => G k ∧ k ≠ b ∧ k < w.heap.size) W2 xs A := RowP.sharp HROW.out (fun k h => ⟨h.1.1, h.1.2, h.2⟩) (fun k h1 h2 => hold k h1.2 h2) (by rw [hs2]; exact hgr1.size)
  have HSM := Lib.hid (mem_src hmm)
  have HB2 := Lib.hid hb2
  have HG2 := Lib.hid hg2
  have HR2 := Lib.hid hrow2
  have HK2 := Lib.hid hKeep2
  have H4 := Lib.hid h4
  have hg2z : g < W2.heap.size := by omega
  have hb2z : b < W2.heap.size := by omega
  have hml : (flatM (memS A[i].mem)).length = A[i].mem.length * 2 := by rw [flatM_len, memS_len]
  have hmo : ∀ u ∈ flatM (memS A[i].mem), u.oneCell' = true := by
    intro u hu
    unfold flatM at hu
    obtain ⟨x, _, hx⟩ := List.mem_flatMap.1 hu
    rcases List.mem_cons.1 hx with rfl | hx
    · rfl
    · rcases List.mem_cons.1 hx with rfl | hx
      · rfl
      · cases hx
  have HMO := Lib.hid hmo
  have HML := Lib.hid hml
  have FIN : Hid (∀ w3 v3, w3.ownsRow W2.heap.size 61 2 v3 (0 + A[i].mem.length) ([] ++ flatM (memS A[i].mem)) → Below W2.heap.size W2 w3 → OwnPost G w b A i (.returned (.pointer (some ⟨g, i * 3, none⟩))) (w3.setCell ⟨g, i * 3 + 2, none⟩ v3)) := Lib.hid (by
    intro w3 v3 ho hb3
    simp only [Nat.zero_add, List.nil_append] at ho
    have hg3 : w3.heap[g]? = some (.cells cur 66) := by rw [hb3.block g hg2z]; exact hg2
    refine ⟨g, cap, cur.setIfInBounds (i * 3 + 2) v3, rfl, ?_, by omega, by omega, setCell_same hg3 _ _, ?_, ?_, ?_⟩
    · rw [Below.heap_setCell _ _ _ _ (show b ≠ g from fun e => hgb0 e.symm), hb3.block b hb2z]; exact hb2
    · rw [Array.size_setIfInBounds]; have := List.length_take_le (A.length * 3) cur.toList; have h5 : (cur.toList.take (A.length * 3)).length = A.length * 3 := by rw [h4]; exact hxl
      rw [List.length_take] at h5
      simp at h5; omega
    · rw [Array.toList_setIfInBounds, List.take_set, h4]
      have hm3 : MemAt (fun k => (G k ∧ k ≠ b ∧ k < w.heap.size) ∨ (w.heap.size ≤ k ∧ k ≠ g)) (w3.setCell ⟨g, i * 3 + 2, none⟩ v3) v3 A[i].mem :=
        (MemAt.of_own ho).of (fun k hk => Or.inr ⟨by omega, by omega⟩) (fun k hk _ => Below.heap_setCell _ _ _ _ (show k ≠ g by omega)) (by rw [setCell_size]; exact Nat.le_refl _)
      have hr3 : RowP (fun k => (G k ∧ k ≠ b ∧ k < w.heap.size) ∨ (w.heap.size ≤ k ∧ k ≠ g)) (w3.setCell ⟨g, i * 3 + 2, none⟩ v3) xs A :=
        RowP.of (G := fun k => G k ∧ k ≠ b ∧ k < w.heap.size) (fun k h => Or.inl h) (fun k h1 h2 => by rw [Below.heap_setCell _ _ _ _ (show k ≠ g by omega), hb3.block k h2]) (by rw [setCell_size]; exact hb3.size) (hrowS)
      have := RowP.set_mem hm3 hr3 i hi
      rw [show A.set i ⟨A[i].cart, A[i].owner, A[i].mem⟩ = A from List.set_getElem_self hi] at this
      exact this
    · exact (hKeep2.trans (Keep.of_below hb3 |>.mono (fun k _ h => h) |> fun x => x)).trans (Keep.setCell _ _ _ (Or.inr hg)))
  rw [← hW2]
  clear hrowS hb1 hb2 hg2 hold hrow2 hmv hmm hKeep2 h4 hW2 hmo hml hc1 hf1 c0 hgb hgr1 hl1 h1 h2 h3 hfz
  go_region_law (refine step_append_src rfl _ _ 50 rfl W2.heap.size 61 i1 (.agg #[.string ⟨#[]⟩, .int .i64 0]) 2 24 Tryd.underlying50 HJ.out.1 HJ.out.2.1 HJ.out.2.2.1 HJ.out.2.2.2 rfl (by decide) (.slice none 0 0) 0 [] rfl (World.ownsRow_nil _ _ _ _) _ _ _ rfl HSM.out HML.out HMO.out (by unfold maxLen; omega) (by omega) (Nat.le_refl _) ?_; intro v3 w3 hown3 hgr3 _; obtain ⟨a3, c3, rfl⟩ := owns_slice hown3; have g0 : w3.cell? ⟨b, 0, none⟩ = some (.slice (some ⟨g, 0, none⟩) A.length cap) := (by rw [World.cell?_of_block (w := W2) (hgr3.block b hb2z (by simp [Value.ownBlock]))]; exact d0); have g1 : w3.cell? ⟨g, i * 3 + 2, none⟩ = some mv := (by rw [World.cell?_of_block (w := W2) (hgr3.block g hg2z (by simp [Value.ownBlock]))]; exact d1); have g2 : w3.frozen? ⟨g, i * 3 + 2, none⟩ = false := (by rw [World.frozen?_of_block (w := W2) (hgr3.block g hg2z (by simp [Value.ownBlock]))]; exact d2); have hb3 : Below W2.heap.size W2 w3 := (Below.refl _ _).drew.grown hgr3 (Nat.le_refl _) (by simp [Value.ownBlock]))
  all_goals
    go_wp2
    go_ret
    have h9 := FIN.out _ _ hown3 hb3
    rw [Nat.zero_add] at h9
    exact h9
end Go.Proofs.YtdeljhehcjknbaaDoor
