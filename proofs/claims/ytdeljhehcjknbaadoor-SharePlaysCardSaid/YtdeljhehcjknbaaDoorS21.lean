/- What a slice of Acts holds when it reads as data: for every world. -/
import Derived.Test.YtdeljhehcjknbaaDoorS14
import Derived.Deep.Slices
namespace Go.Proofs.YtdeljhehcjknbaaDoor
open Go.ChangeShapes Go.WideShapes Go.ChangeAt Go.RowKit

def CallR.cells (c : CallR) : List Value := [.int .i64 c.op, .string c.key, .string c.other, .string c.item, .int .i64 c.qty, .slice c.da c.dl c.dc]
def ActR.cells (a : ActR) : List Value := [.int .i64 a.what, .string a.by_, .string a.cart, .string a.who, .int .i64 a.right] ++ a.call.cells

section
variable {H : Type} {enc : TypeId × Value → H} {W : World} {base : Nat} {sp : Nat → Bool} {held : Bool}
set_option maxRecDepth 100000 in
theorem call_of_trod {fuel : Nat} {cs : List Value} {x : DataW H × List MemPlace} (h : DataW.trod enc Tryd.prog W base sp held fuel 25 cs = some x) :
    ∃ c : CallR, cs = c.cells ∧ c.fits := by
  obtain ⟨xs, n, rfl, rfl, hl, hx, hf⟩ := DataW.trod_struct Tryd.underlying25 h
  have c25 : Tryd.prog.cellsOf 25 = 6 := by kernel_rfl
  have c1 : Tryd.prog.cellsOf 9 = 1 := by kernel_rfl
  have c2 : Tryd.prog.cellsOf 22 = 1 := by kernel_rfl
  have c3 : Tryd.prog.cellsOf 3 = 1 := by kernel_rfl
  have c4 : Tryd.prog.cellsOf 23 = 1 := by kernel_rfl
  rw [c25] at hl
  have h0 : DataW.trod enc Tryd.prog W base sp held n 22 ((cs.drop 0).take (Tryd.prog.cellsOf 22)) = xs[0]? := hf 0 _ rfl
  have h1 : DataW.trod enc Tryd.prog W base sp held n 9 ((cs.drop 1).take (Tryd.prog.cellsOf 9)) = xs[1]? := hf 1 _ rfl
  have h2 : DataW.trod enc Tryd.prog W base sp held n 9 ((cs.drop 2).take (Tryd.prog.cellsOf 9)) = xs[2]? := hf 2 _ rfl
  have h3 : DataW.trod enc Tryd.prog W base sp held n 9 ((cs.drop 3).take (Tryd.prog.cellsOf 9)) = xs[3]? := hf 3 _ rfl
  have h4 : DataW.trod enc Tryd.prog W base sp held n 3 ((cs.drop 4).take (Tryd.prog.cellsOf 3)) = xs[4]? := hf 4 _ rfl
  have h5 : DataW.trod enc Tryd.prog W base sp held n 23 ((cs.drop 5).take (Tryd.prog.cellsOf 23)) = xs[5]? := hf 5 _ rfl
  rw [c2] at h0
  rw [c1] at h1
  rw [c1] at h2
  rw [c1] at h3
  rw [c3] at h4
  rw [c4] at h5
  match xs, hx with
  | [x0, x1, x2, x3, x4, x5], _ =>
    match cs, hl with
    | [a0, a1, a2, a3, a4, a5], _ =>
      obtain ⟨op, e0, _, w0⟩ := DataW.trod_int Tryd.underlying22 h0
      obtain ⟨key, e1, _, w1⟩ := DataW.trod_string Tryd.underlying9 h1
      obtain ⟨other, e2, _, w2⟩ := DataW.trod_string Tryd.underlying9 h2
      obtain ⟨item, e3, _, w3⟩ := DataW.trod_string Tryd.underlying9 h3
      obtain ⟨qty, e4, _, w4⟩ := DataW.trod_int Tryd.underlying3 h4
      have w0' : -9223372036854775808 ≤ op ∧ op ≤ 9223372036854775807 := by
        have h := w0
        simp only [Lit.wf, Bool.and_eq_true, decide_eq_true_eq] at h
        exact h
      simp at e0 e1 e2 e3 e4
      subst e0 e1 e2 e3 e4
      rcases DataW.trod_slice Tryd.underlying23 h5 with ⟨e5, _⟩ | ⟨a, len, cap, _, _, _, _, e5, _, _, hlc, hcm, _⟩
      · simp at e5
        subst e5
        exact ⟨⟨op, key, other, item, qty, none, 0, 0⟩, rfl, w0'.1, w0'.2, w1, w2, w3, Nat.zero_le _⟩
      · simp at e5
        subst e5
        exact ⟨⟨op, key, other, item, qty, some a, len, cap⟩, rfl, w0'.1, w0'.2, w1, w2, w3, Nat.le_trans hlc hcm⟩

set_option maxRecDepth 100000 in
theorem act_of_trod {fuel : Nat} {cs : List Value} {x : DataW H × List MemPlace} (h : DataW.trod enc Tryd.prog W base sp held fuel 29 cs = some x) :
    ∃ a : ActR, cs = a.cells ∧ a.fits := by
  obtain ⟨xs, n, rfl, rfl, hl, hx, hf⟩ := DataW.trod_struct Tryd.underlying29 h
  have c29 : Tryd.prog.cellsOf 29 = 11 := by kernel_rfl
  have c25 : Tryd.prog.cellsOf 25 = 6 := by kernel_rfl
  have c1 : Tryd.prog.cellsOf 9 = 1 := by kernel_rfl
  have c2 : Tryd.prog.cellsOf 27 = 1 := by kernel_rfl
  have c3 : Tryd.prog.cellsOf 3 = 1 := by kernel_rfl
  rw [c29] at hl
  have h0 : DataW.trod enc Tryd.prog W base sp held n 3 ((cs.drop 0).take (Tryd.prog.cellsOf 3)) = xs[0]? := hf 0 _ rfl
  have h1 : DataW.trod enc Tryd.prog W base sp held n 9 ((cs.drop 1).take (Tryd.prog.cellsOf 9)) = xs[1]? := hf 1 _ rfl
  have h2 : DataW.trod enc Tryd.prog W base sp held n 9 ((cs.drop 2).take (Tryd.prog.cellsOf 9)) = xs[2]? := hf 2 _ rfl
  have h3 : DataW.trod enc Tryd.prog W base sp held n 9 ((cs.drop 3).take (Tryd.prog.cellsOf 9)) = xs[3]? := hf 3 _ rfl
  have h4 : DataW.trod enc Tryd.prog W base sp held n 27 ((cs.drop 4).take (Tryd.prog.cellsOf 27)) = xs[4]? := hf 4 _ rfl
  have h5 : DataW.trod enc Tryd.prog W base sp held n 25 ((cs.drop 5).take (Tryd.prog.cellsOf 25)) = xs[5]? := hf 5 _ rfl
  rw [c3] at h0
  rw [c1] at h1
  rw [c1] at h2
  rw [c1] at h3
  rw [c2] at h4
  rw [c25] at h5
  match xs, hx with
  | [x0, x1, x2, x3, x4, x5], _ =>
    match cs, hl with
    | [a0, a1, a2, a3, a4, a5, a6, a7, a8, a9, a10], _ =>
      obtain ⟨what, e0, _, w0⟩ := DataW.trod_int Tryd.underlying3 h0
      obtain ⟨by_, e1, _, w1⟩ := DataW.trod_string Tryd.underlying9 h1
      obtain ⟨cart, e2, _, w2⟩ := DataW.trod_string Tryd.underlying9 h2
      obtain ⟨who, e3, _, w3⟩ := DataW.trod_string Tryd.underlying9 h3
      obtain ⟨right, e4, _, w4⟩ := DataW.trod_int Tryd.underlying27 h4
      obtain ⟨c, e5, w5⟩ := call_of_trod h5
      simp at e0 e1 e2 e3 e4 e5
      subst e0 e1 e2 e3 e4
      refine ⟨⟨what, by_, cart, who, right, c⟩, ?_, w1, w2, w3, w5⟩
      show _ = [_, _, _, _, _] ++ c.cells
      rw [← e5]; rfl

/-- The slice v holds the Acts l. -/
def ActsIs (w : World) (v : Value) (l : List ActR) : Prop := ∃ (o : Option Addr) (cap : Nat), v = .slice o l.length cap ∧ l.length ≤ maxLen ∧
  ∀ i, (hi : i < l.length) → ∃ b off, o = some ⟨b, off, none⟩ ∧ b < w.heap.size ∧ ∀ j, j < 11 → w.cell? ⟨b, off + i * 11 + j, none⟩ = l[i].cells[j]?

theorem acts_of_trod {fuel : Nat} {v : Value} {x : DataW H × List MemPlace} (h : DataW.trod enc Tryd.prog W base sp held fuel 39 [v] = some x) :
    ∃ l : List ActR, ActsIs W v l ∧ ∀ a ∈ l, a.fits := by
  have c29 : Tryd.prog.cellsOf 29 = 11 := by kernel_rfl
  rcases Go.Deep.open_slice Tryd.underlying39 h with ⟨e, _⟩ | ⟨a, len, cap, m, n, D, Pl, e, _, hlc, hcm, hm, _, hel⟩
  · simp at e
    exact ⟨[], ⟨none, 0, e, Nat.zero_le _, fun i hi => absurd hi (Nat.not_lt_zero i)⟩, by simp⟩
  · simp at e
    subst e
    have hmm : len ≤ m := by rw [hm]; split <;> omega
    rw [c29] at hel
    have each : ∀ i, i < len → ∃ r : ActR, W.cells? base (a.add (i * 11)) 11 = some r.cells ∧ r.fits := fun i hi => by
      obtain ⟨cs', h1, h2⟩ := hel i (by omega)
      obtain ⟨r, rfl, hr⟩ := act_of_trod h2
      exact ⟨r, h1, hr⟩
    clear hel
    have all : ∀ k, k ≤ len → ∃ l : List ActR, l.length = k ∧ (∀ r ∈ l, r.fits) ∧ ∀ i, (hi : i < l.length) → W.cells? base (a.add (i * 11)) 11 = some l[i].cells := by
      intro k
      induction k with
      | zero => intro _; exact ⟨[], rfl, by simp, fun i hi => by simp at hi⟩
      | succ k ih =>
        intro hk
        obtain ⟨l, h1, h2, h3⟩ := ih (by omega)
        obtain ⟨r, h4, h5⟩ := each k (by omega)
        refine ⟨l ++ [r], by simp [h1], ?_, ?_⟩
        · intro q hq
          simp at hq
          rcases hq with hq | rfl
          · exact h2 q hq
          · exact h5
        · intro i hi
          simp [h1] at hi
          by_cases e : i < l.length
          · rw [List.getElem_append_left e]; exact h3 i e
          · have e2 : i = k := by omega
            subst e2
            rw [List.getElem_append_right (by omega)]
            simpa [h1] using h4
    obtain ⟨l, rfl, h2, h3⟩ := all len (Nat.le_refl _)
    refine ⟨l, ⟨some a, cap, rfl, by omega, fun i hi => ?_⟩, h2⟩
    have h4 := World.cells?_some (h3 i hi)
    have h0 := (World.cells?_some (h3 0 (by omega))).2.2 0 (by omega)
    have e0 : (a.add (0 * 11)).add 0 = a := by simp [Addr.add]
    have ec : (l[0]'(by omega)).cells[0]? = some (.int .i64 (l[0]'(by omega)).what) := rfl
    rw [e0, ec] at h0
    have hs : a.spot = none := by
      cases e : a.spot with
      | none => rfl
      | some q =>
        unfold World.cell? at h0
        split at h0
        · simp [e] at h0
        · cases h0
    have hb : a.block < W.heap.size := by
      rcases Nat.lt_or_ge a.block W.heap.size with h' | h'
      · exact h'
      · unfold World.cell? at h0; rw [Array.getElem?_eq_none h'] at h0; cases h0
    refine ⟨a.block, a.off, by obtain ⟨x, y, z⟩ := a; simp at hs; subst hs; rfl, hb, fun j hj => ?_⟩
    have h6 := h4.2.2 j hj
    rw [Go.Deep.add_add] at h6
    have e1 : ∀ n, a.add n = ⟨a.block, a.off + n, none⟩ := fun n => by
      unfold Addr.add
      split
      · rename_i e; subst e; obtain ⟨x, y, z⟩ := a; simp at hs; subst hs; rfl
      · rfl
    rw [e1] at h6
    rw [Nat.add_assoc]
    exact h6
end
end Go.Proofs.YtdeljhehcjknbaaDoor
