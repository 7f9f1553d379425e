/- What a call of the model leaves: laws in plain Lean. -/
import Derived.Test.YtdeljhehcjknbaaDoorS34
import Derived.Test.YtdeljhehcjknbaaDoorS30
namespace Go.Proofs.YtdeljhehcjknbaaDoor
open Go.RowKit Go.Maps Go.Sort Go.Lib

/-- What a call of the model leaves: the answer n, the pages A'. -/
def DoPost (G : Nat → Prop) (w : World) (b : Nat) (A' : List APg) (n : Int) (e : Ending) (w' : World) : Prop :=
  e = .returned (.int .i64 n) ∧ ModelIs (fun k => G k ∨ w.heap.size ≤ k) w' b A' ∧ Keep (fun k => k = b ∨ w.heap.size ≤ k) w w'
theorem DoPost.same {G : Nat → Prop} {w w' : World} {b : Nat} {A : List APg} {n : Int} (hM : ModelIs G w b A) (hb : Below w.heap.size w w') : DoPost G w b A n (.returned (.int .i64 n)) w' :=
  ⟨rfl, hM.of (fun _ h => Or.inl h) (fun k _ hk => hb.block k hk) hb.size, Keep.of_below hb⟩
/-- The rules that every book keeps. -/
def Okay (A : List APg) : Prop := Inv A ∧ A.length ≤ 500 ∧ ∀ x ∈ A, x.mem.length ≤ 50
theorem DoPost.turned {G : Nat → Prop} {w w' : World} {b : Nat} {A' : List APg} {n : Int} {v : Value} (hG : G b) (hb : w'.heap[b]? = some (.cells #[v] 38 (0, 0))) (hp : PagesAt (fun k => (G k ∨ w.heap.size ≤ k) ∧ k ≠ b) w' v A') (hO : Okay A') (hK : Keep (fun k => k = b ∨ w.heap.size ≤ k) w w') : DoPost G w b A' n (.returned (.int .i64 n)) w' :=
  ⟨rfl, ⟨Or.inl hG, ⟨v, hb, hp⟩, hO⟩, hK⟩
theorem SrcIs.below {w w' : World} {x : Value} {m : Nat} {news : List Value} (h : SrcIs w x m news) (hb : Below w.heap.size w w') : SrcIs w' x m news := by
  rcases h with h | ⟨ad, c, h1, h2⟩
  · exact Or.inl h
  · refine Or.inr ⟨ad, c, h1, fun j u hj => ?_⟩
    have h3 := h2 j u hj
    have h4 : (ad.add j).block < w.heap.size := World.block_lt_of_cell? w _ h3
    rw [hb.cell h4]; exact h3
theorem owns_setCell {w : World} {base : Nat} {T : TypeId} {sz : Nat} {v : Value} {n : Nat} {xs : List Value} (h : w.ownsRow base T sz v n xs) {a : Addr} (ha : a.block < base) (u : Value) : (w.setCell a u).ownsRow base T sz v n xs := by
  obtain ⟨hl, h | ⟨g, cap, cur, h1, h2, h3, h4⟩⟩ := h
  · exact ⟨hl, Or.inl h⟩
  · exact ⟨hl, Or.inr ⟨g, cap, cur, h1, h2, by rw [Below.heap_setCell _ _ _ _ (by omega)]; exact h3, h4⟩⟩
theorem MemAt.nil (G : Nat → Prop) (w : World) : MemAt G w (.slice none 0 0) [] := ⟨none, 0, rfl, fun _ => ⟨rfl, rfl⟩, fun h => absurd rfl h⟩
/-- New pages, of the old ones' cells and new ones. -/
theorem add_block (g j : Nat) : ((⟨g, 0, none⟩ : Addr).add j).block = g := by unfold Addr.add; split <;> rfl
theorem DoPost.pages {G : Nat → Prop} {w w1 w5 : World} {b : Nat} {A' : List APg} {v v5 : Value} {ys : List Value} {n : Int} (hG : G b) (hb : w1.heap[b]? = some (.cells #[v] 38 (0, 0))) (h1 : Below w.heap.size w w1) (h5 : Below w1.heap.size w1 w5)
    (ho : w5.ownsRow w1.heap.size 66 3 v5 A'.length ys) (hr : RowP (fun k => G k ∧ k ≠ b) w1 ys A') (hO : Okay A') : DoPost G w b A' n (.returned (.int .i64 n)) (w5.setCell ⟨b, 0, none⟩ v5) := by
  have hbl := lt_of_heap hb
  have hb5 : w5.heap[b]? = some (.cells #[v] 38 (0, 0)) := by rw [h5.block b hbl]; exact hb
  have hs := h1.size
  refine DoPost.turned hG (v := v5) (by rw [setCell_same hb5]; rfl) (row_pages (owns_setCell ho hbl v5) (RowP.of (fun k h => ⟨Or.inl h.1, h.2⟩) (fun k hk hk2 => by rw [Below.heap_setCell _ _ _ _ hk.2, h5.block k hk2]) (by rw [setCell_size]; exact h5.size) hr) (fun k hk => ⟨Or.inr (by omega), by omega⟩)) hO ?_
  exact ((Keep.of_below h1).trans (Keep.of_below (h5) |>.mono (fun _ _ h => h))).trans (Keep.setCell _ _ _ (Or.inl rfl))
end Go.Proofs.YtdeljhehcjknbaaDoor
