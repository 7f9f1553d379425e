/- Marks and items, without a program in sight. -/
import Derived.Test.YtjoljfnlkddfbaaGreatDoorReg
import Derived.Deep.Slices
import Derived.Lib.IndexMore
import Derived.Shelf.Strings.Trim
set_option linter.unusedSimpArgs false
set_option linter.unusedVariables false
set_option maxRecDepth 100000
namespace Go.Proofs.YtjoljfnlkddfbaaGreatDoor
open Go.ChangeShapes Go.WideShapes Go.ChangeAt Go.RowKit

structure DotD where
 rep : Int
 ctr : Int
deriving DecidableEq
structure MarkD where
 dot : DotD
 qty : Int
 time : Int
deriving DecidableEq
structure ItemD where
 name : ByteArray
 marks : List MarkD
deriving DecidableEq
structure CartD where
 vec : List DotD
 cloud : List DotD
 items : List ItemD
deriving DecidableEq
structure EntD where
 key : ByteArray
 cart : CartD
deriving DecidableEq

def I64 (x : Int) : Prop := -9223372036854775808 ≤ x ∧ x ≤ 9223372036854775807
def U64 (x : Int) : Prop := 0 ≤ x ∧ x ≤ 18446744073709551615

/-- The slice v holds the list l, sz cells an element, each as R says. -/
def Arr {α : Type} (R : World → α → List Value → Prop) (sz : Nat) (w : World) (v : Value) (l : List α) : Prop :=
 ∃ (o : Option Addr) (cap : Nat), v = .slice o l.length cap ∧ l.length ≤ cap ∧ cap ≤ maxLen ∧
  ∀ i (hi : i < l.length), ∃ b off cs, o = some ⟨b, off, none⟩ ∧ b < w.heap.size ∧ cs.length = sz ∧ R w l[i] cs ∧ ∀ j, j < sz → w.cell? ⟨b, off + i * sz + j, none⟩ = cs[j]?

def DotR (_ : World) (d : DotD) (cs : List Value) : Prop := cs = [.int .i64 d.rep, .int .i64 d.ctr] ∧ I64 d.rep ∧ I64 d.ctr
def MarkR (_ : World) (m : MarkD) (cs : List Value) : Prop := cs = [.int .i64 m.dot.rep, .int .i64 m.dot.ctr, .int .i64 m.qty, .int .u64 m.time] ∧ I64 m.dot.rep ∧ I64 m.dot.ctr ∧ I64 m.qty ∧ U64 m.time
def ItemR (w : World) (x : ItemD) (cs : List Value) : Prop := ∃ mv, cs = [.string x.name, mv] ∧ x.name.size ≤ maxLen ∧ Arr MarkR 4 w mv x.marks
def CartR (w : World) (c : CartD) (cs : List Value) : Prop := ∃ v1 v2 v3, cs = [v1, v2, v3] ∧ Arr DotR 2 w v1 c.vec ∧ Arr DotR 2 w v2 c.cloud ∧ Arr ItemR 2 w v3 c.items
def EntR (w : World) (x : EntD) (cs : List Value) : Prop := ∃ c3, cs = .string x.key :: c3 ∧ x.key.size ≤ maxLen ∧ CartR w x.cart c3

theorem Arr.mono {α : Type} {R R' : World → α → List Value → Prop} {sz : Nat} {w w' : World} {v : Value} {l : List α} (h : Arr R sz w v l) (hR : ∀ a cs, R w a cs → R' w' a cs) (hb : Below w.heap.size w w') : Arr R' sz w' v l := by
 obtain ⟨o, cap, h1, h2, h3, h4⟩ := h
 refine ⟨o, cap, h1, h2, h3, fun i hi => ?_⟩
 obtain ⟨b, off, cs, e1, e2, e3, e4, e5⟩ := h4 i hi
 exact ⟨b, off, cs, e1, Nat.lt_of_lt_of_le e2 hb.size, e3, hR _ _ e4, fun j hj => by rw [hb.cell (p := ⟨_, _, _⟩) e2]; exact e5 j hj⟩
theorem Arr.dots {w w' : World} {v : Value} {l : List DotD} (h : Arr DotR 2 w v l) (hb : Below w.heap.size w w') : Arr DotR 2 w' v l := h.mono (fun _ _ h => h) hb
theorem Arr.marks {w w' : World} {v : Value} {l : List MarkD} (h : Arr MarkR 4 w v l) (hb : Below w.heap.size w w') : Arr MarkR 4 w' v l := h.mono (fun _ _ h => h) hb
theorem ItemR.below {w w' : World} {x : ItemD} {cs : List Value} (h : ItemR w x cs) (hb : Below w.heap.size w w') : ItemR w' x cs := by
 obtain ⟨mv, h1, h2, h3⟩ := h
 exact ⟨mv, h1, h2, h3.marks hb⟩
theorem Arr.items {w w' : World} {v : Value} {l : List ItemD} (h : Arr ItemR 2 w v l) (hb : Below w.heap.size w w') : Arr ItemR 2 w' v l := h.mono (fun _ _ h => h.below hb) hb
theorem CartR.below {w w' : World} {c : CartD} {cs : List Value} (h : CartR w c cs) (hb : Below w.heap.size w w') : CartR w' c cs := by
 obtain ⟨v1, v2, v3, h0, h1, h2, h3⟩ := h
 exact ⟨v1, v2, v3, h0, h1.dots hb, h2.dots hb, h3.items hb⟩
theorem EntR.below {w w' : World} {x : EntD} {cs : List Value} (h : EntR w x cs) (hb : Below w.heap.size w w') : EntR w' x cs := by
 obtain ⟨c3, h0, h1, h2⟩ := h
 exact ⟨c3, h0, h1, h2.below hb⟩
section
variable {H : Type} {enc : TypeId × Value → H} {W : World} {base : Nat} {sp : Nat → Bool} {held : Bool}

theorem addr_plain {W : World} {a : Addr} {v : Value} (h : W.cell? a = some v) : ∃ b off, a = ⟨b, off, none⟩ ∧ b < W.heap.size := by
 have hs : a.spot = none := by
  cases e : a.spot with
  | none => rfl
  | some q =>
   unfold World.cell? at h
   split at h
   ·simp [e] at h
   ·cases h
 refine ⟨a.block, a.off, by obtain ⟨x, y, z⟩ := a; simp at hs; subst hs; rfl, ?_⟩
 rcases Nat.lt_or_ge a.block W.heap.size with h' | h'
 ·exact h'
 ·unfold World.cell? at h; rw [Array.getElem?_eq_none h'] at h; cases h

theorem arr_of_trod {α : Type} (R : World → α → List Value → Prop) (sz : Nat) (t e : TypeId) (ht : Tryz.prog.underlying t = some (.slice e)) (hsz : Tryz.prog.cellsOf e = sz) (h0 : 0 < sz)
  (hR : ∀ fuel cs x, DataW.trod enc Tryz.prog W base sp held fuel e cs = some x → ∃ a, R W a cs) {fuel : Nat} {v : Value} {x : DataW H × List MemPlace} (h : DataW.trod enc Tryz.prog W base sp held fuel t [v] = some x) : ∃ l, Arr R sz W v l := by
 rcases Go.Deep.open_slice ht h with ⟨e, _⟩ | ⟨a, len, cap, m, n, D, Pl, e, _, hlc, hcm, hm, _, hel⟩
 ·simp at e
  exact ⟨[], none, 0, e, Nat.le_refl _, Nat.zero_le _, fun i hi => absurd hi (Nat.not_lt_zero i)⟩
 ·simp at e
  subst e
  have hmm : len ≤ m := by rw [hm]; split <;> omega
  rw [hsz] at hel
  have each : ∀ i, i < len → ∃ r : α, ∃ cs, W.cells? base (a.add (i * sz)) sz = some cs ∧ R W r cs := fun i hi => by
   obtain ⟨cs', h1, h2⟩ := hel i (by omega)
   obtain ⟨r, hr⟩ := hR _ _ _ h2
   exact ⟨r, cs', h1, hr⟩
  clear hel
  have all : ∀ k, k ≤ len → ∃ l : List α, l.length = k ∧ ∀ i, (hi : i < l.length) → ∃ cs, W.cells? base (a.add (i * sz)) sz = some cs ∧ R W l[i] cs := by
   intro k
   induction k with
   | zero => intro _; exact ⟨[], rfl, fun i hi => by simp at hi⟩
   | succ k ih =>
    intro hk
    obtain ⟨l, h1, h3⟩ := ih (by omega)
    obtain ⟨r, cs, h4, h5⟩ := each k (by omega)
    refine ⟨l ++ [r], by simp [h1], fun i hi => ?_⟩
    simp [h1] at hi
    by_cases e : i < l.length
    ·rw [List.getElem_append_left e]; exact h3 i e
    ·have e2 : i = k := by omega
     subst e2
     rw [List.getElem_append_right (by omega)]
     exact ⟨cs, h4, by simpa [h1] using h5⟩
  obtain ⟨l, rfl, h3⟩ := all len (Nat.le_refl _)
  refine ⟨l, some a, cap, rfl, hlc, hcm, fun i hi => ?_⟩
  obtain ⟨cs0, k0, _⟩ := h3 0 (by omega)
  obtain ⟨_, k1, k2⟩ := World.cells?_some k0
  have k3 := k2 0 h0
  rw [show (a.add (0 * sz)).add 0 = a by simp [Addr.add], List.getElem?_eq_getElem (by omega)] at k3
  obtain ⟨b, off, rfl, hb⟩ := addr_plain k3
  obtain ⟨cs, c0, cR⟩ := h3 i hi
  obtain ⟨_, c1, c2⟩ := World.cells?_some c0
  refine ⟨b, off, cs, rfl, hb, c1, cR, fun j hj => ?_⟩
  have c3 := c2 j hj
  rw [Go.Deep.add_add, show (⟨b, off, none⟩ : Addr).add (i * sz + j) = ⟨b, off + i * sz + j, none⟩ by unfold Addr.add; split <;> simp_all <;> omega] at c3
  exact c3

theorem i64_wf {n : Int} (h : (Lit.int .i64 n).wf = true) : I64 n := by
 simp only [Lit.wf, Bool.and_eq_true, decide_eq_true_eq] at h
 exact h
theorem u64_wf {n : Int} (h : (Lit.int .u64 n).wf = true) : U64 n := by
 simp only [Lit.wf, Bool.and_eq_true, decide_eq_true_eq] at h
 exact h

theorem dot_of_trod {fuel : Nat} {cs : List Value} {x : DataW H × List MemPlace} (h : DataW.trod enc Tryz.prog W base sp held fuel 39 cs = some x) : ∃ d : DotD, DotR W d cs := by
 obtain ⟨xs, n, rfl, rfl, hl, hx, hf⟩ := DataW.trod_struct Tryz.underlying39 h
 have c0 : Tryz.prog.cellsOf 39 = 2 := by kernel_rfl
 have c1 : Tryz.prog.cellsOf 3 = 1 := by kernel_rfl
 rw [c0] at hl
 have h0 : DataW.trod enc Tryz.prog W base sp held n 3 ((cs.drop 0).take (Tryz.prog.cellsOf 3)) = xs[0]? := hf 0 _ rfl
 have h1 : DataW.trod enc Tryz.prog W base sp held n 3 ((cs.drop 1).take (Tryz.prog.cellsOf 3)) = xs[1]? := hf 1 _ rfl
 rw [c1] at h0 h1
 match xs, hx with
 | [x0, x1], _ =>
  match cs, hl with
  | [a0, a1], _ =>
   obtain ⟨y0, e0, _, w0⟩ := DataW.trod_int Tryz.underlying3 h0
   obtain ⟨y1, e1, _, w1⟩ := DataW.trod_int Tryz.underlying3 h1
   simp at e0 e1
   subst e0 e1
   exact ⟨⟨y0, y1⟩, rfl, i64_wf w0, i64_wf w1⟩

theorem mark_of_trod {fuel : Nat} {cs : List Value} {x : DataW H × List MemPlace} (h : DataW.trod enc Tryz.prog W base sp held fuel 85 cs = some x) : ∃ m : MarkD, MarkR W m cs := by
 obtain ⟨xs, n, rfl, rfl, hl, hx, hf⟩ := DataW.trod_struct Tryz.underlying85 h
 have c0 : Tryz.prog.cellsOf 85 = 4 := by kernel_rfl
 have c1 : Tryz.prog.cellsOf 3 = 1 := by kernel_rfl
 have c2 : Tryz.prog.cellsOf 39 = 2 := by kernel_rfl
 have c3 : Tryz.prog.cellsOf 68 = 1 := by kernel_rfl
 rw [c0] at hl
 have h0 : DataW.trod enc Tryz.prog W base sp held n 39 ((cs.drop 0).take (Tryz.prog.cellsOf 39)) = xs[0]? := hf 0 _ rfl
 have h1 : DataW.trod enc Tryz.prog W base sp held n 3 ((cs.drop 2).take (Tryz.prog.cellsOf 3)) = xs[1]? := hf 1 _ rfl
 have h2 : DataW.trod enc Tryz.prog W base sp held n 68 ((cs.drop 3).take (Tryz.prog.cellsOf 68)) = xs[2]? := hf 2 _ rfl
 rw [c1] at h1
 rw [c2] at h0
 rw [c3] at h2
 match xs, hx with
 | [x0, x1, x2], _ =>
  match cs, hl with
  | [a0, a1, a2, a3], _ =>
   obtain ⟨d, e0, d1, d2⟩ := dot_of_trod h0
   obtain ⟨y1, e1, _, w1⟩ := DataW.trod_int Tryz.underlying3 h1
   obtain ⟨y2, e2, _, w2⟩ := DataW.trod_int Tryz.underlying68 h2
   simp at e0 e1 e2
   obtain ⟨rfl, rfl⟩ := e0
   subst e1 e2
   exact ⟨⟨d, y1, y2⟩, rfl, d1, d2, i64_wf w1, u64_wf w2⟩

theorem item_of_trod {fuel : Nat} {cs : List Value} {x : DataW H × List MemPlace} (h : DataW.trod enc Tryz.prog W base sp held fuel 55 cs = some x) : ∃ m : ItemD, ItemR W m cs := by
 obtain ⟨xs, n, rfl, rfl, hl, hx, hf⟩ := DataW.trod_struct Tryz.underlying55 h
 have c0 : Tryz.prog.cellsOf 55 = 2 := by kernel_rfl
 have c1 : Tryz.prog.cellsOf 9 = 1 := by kernel_rfl
 have c2 : Tryz.prog.cellsOf 53 = 1 := by kernel_rfl
 rw [c0] at hl
 have h0 : DataW.trod enc Tryz.prog W base sp held n 9 ((cs.drop 0).take (Tryz.prog.cellsOf 9)) = xs[0]? := hf 0 _ rfl
 have h1 : DataW.trod enc Tryz.prog W base sp held n 53 ((cs.drop 1).take (Tryz.prog.cellsOf 53)) = xs[1]? := hf 1 _ rfl
 rw [c1] at h0
 rw [c2] at h1
 match xs, hx with
 | [x0, x1], _ =>
  match cs, hl with
  | [a0, a1], _ =>
   obtain ⟨s, e0, _, w0⟩ := DataW.trod_string Tryz.underlying9 h0
   obtain ⟨l, hl⟩ := arr_of_trod (v := a1) MarkR 4 53 85 Tryz.underlying53 (by kernel_rfl) (by decide) (fun _ _ _ h => mark_of_trod h) h1
   simp at e0
   subst e0
   exact ⟨⟨s, l⟩, a1, rfl, w0, hl⟩

theorem items_of_trod {fuel : Nat} {v : Value} {x : DataW H × List MemPlace} (h : DataW.trod enc Tryz.prog W base sp held fuel 26 [v] = some x) : ∃ l, Arr ItemR 2 W v l :=
 arr_of_trod ItemR 2 26 55 Tryz.underlying26 (by kernel_rfl) (by decide) (fun _ _ _ h => item_of_trod h) h

theorem cart_of_trod {fuel : Nat} {cs : List Value} {x : DataW H × List MemPlace} (h : DataW.trod enc Tryz.prog W base sp held fuel 28 cs = some x) : ∃ c : CartD, CartR W c cs := by
 obtain ⟨xs, n, rfl, rfl, hl, hx, hf⟩ := DataW.trod_struct Tryz.underlying28 h
 have c0 : Tryz.prog.cellsOf 28 = 3 := by kernel_rfl
 have c1 : Tryz.prog.cellsOf 25 = 2 := by kernel_rfl
 have c2 : Tryz.prog.cellsOf 26 = 1 := by kernel_rfl
 rw [c0] at hl
 have h0 : DataW.trod enc Tryz.prog W base sp held n 25 ((cs.drop 0).take (Tryz.prog.cellsOf 25)) = xs[0]? := hf 0 _ rfl
 have h1 : DataW.trod enc Tryz.prog W base sp held n 26 ((cs.drop 2).take (Tryz.prog.cellsOf 26)) = xs[1]? := hf 1 _ rfl
 rw [c1] at h0
 rw [c2] at h1
 match xs, hx with
 | [x0, x1], _ =>
  match cs, hl with
  | [a0, a1, a2], _ =>
   obtain ⟨l3, hl3⟩ := items_of_trod (v := a2) h1
   obtain ⟨ys, n2, rfl, _, hl', hy, hg⟩ := DataW.trod_struct Tryz.underlying25 h0
   have c4 : Tryz.prog.cellsOf 23 = 1 := by kernel_rfl
   have c5 : Tryz.prog.cellsOf 22 = 1 := by kernel_rfl
   have g0 : DataW.trod enc Tryz.prog W base sp held n2 23 ((([a0, a1, a2].drop 0 |>.take 2).drop 0).take (Tryz.prog.cellsOf 23)) = ys[0]? := hg 0 _ rfl
   have g1 : DataW.trod enc Tryz.prog W base sp held n2 22 ((([a0, a1, a2].drop 0 |>.take 2).drop 1).take (Tryz.prog.cellsOf 22)) = ys[1]? := hg 1 _ rfl
   rw [c4] at g0
   rw [c5] at g1
   match ys, hy with
   | [y0, y1], _ =>
    obtain ⟨l1, hl1⟩ := arr_of_trod (v := a0) DotR 2 23 39 Tryz.underlying23 (by kernel_rfl) (by decide) (fun _ _ _ h => dot_of_trod h) g0
    obtain ⟨l2, hl2⟩ := arr_of_trod (v := a1) DotR 2 22 39 Tryz.underlying22 (by kernel_rfl) (by decide) (fun _ _ _ h => dot_of_trod h) g1
    exact ⟨⟨l1, l2, l3⟩, a0, a1, a2, rfl, hl1, hl2, hl3⟩

end
end Go.Proofs.YtjoljfnlkddfbaaGreatDoor
namespace Go.Proofs.YtjoljfnlkddfbaaGreatDoor

def dlt (a b : DotD) : Bool := decide (a.ctr < b.ctr) || (decide (a.ctr = b.ctr) && decide (a.rep < b.rep))
theorem dlt_iff (a b : DotD) : dlt a b = true ↔ a.ctr < b.ctr ∨ (a.ctr = b.ctr ∧ a.rep < b.rep) := by simp [dlt]
theorem dlt_irrefl (a : DotD) : dlt a a = false := by
 rw [← Bool.not_eq_true, dlt_iff]; omega
theorem dlt_trans {a b c : DotD} (h : dlt a b = true) (k : dlt b c = true) : dlt a c = true := by
 rw [dlt_iff] at *; omega
theorem dlt_asymm {a b : DotD} (h : dlt a b = true) : dlt b a = false := by
 rw [← Bool.not_eq_true]; rw [dlt_iff] at *; omega
theorem dlt_total {a b : DotD} (h : dlt a b = false) (k : dlt b a = false) : a = b := by
 rw [← Bool.not_eq_true, dlt_iff] at *
 obtain ⟨x, y⟩ := a
 obtain ⟨z, t⟩ := b
 simp at h k ⊢
 omega
theorem dlt_ne {a b : DotD} (h : dlt a b = true) : a ≠ b := by
 rintro rfl
 rw [dlt_irrefl] at h
 cases h

/-- A set: strictly rising. -/
def SS (l : List DotD) : Prop := l.Pairwise (fun a b => dlt a b = true)
theorem ss_ext : ∀ {l m : List DotD}, SS l → SS m → (∀ x, x ∈ l ↔ x ∈ m) → l = m
 | [], [], _, _, _ => rfl
 | [], b :: m, _, _, h => by have := (h b).2 (.head _); cases this
 | a :: l, [], _, _, h => by have := (h a).1 (.head _); cases this
 | a :: l, b :: m, hl, hm, h => by
  obtain ⟨ha, hl'⟩ := List.pairwise_cons.1 hl
  obtain ⟨hb, hm'⟩ := List.pairwise_cons.1 hm
  have hab : a = b := by
   rcases List.mem_cons.1 ((h a).1 (.head _)) with e | e
   ·exact e
   ·rcases List.mem_cons.1 ((h b).2 (.head _)) with e2 | e2
    ·exact e2.symm
    ·have h1 := hb a e
     have h2 := ha b e2
     rw [dlt_asymm h1] at h2
     cases h2
  subst hab
  congr 1
  refine ss_ext hl' hm' (fun x => ⟨fun hx => ?_, fun hx => ?_⟩)
  ·rcases List.mem_cons.1 ((h x).1 (.tail _ hx)) with e | e
   ·exact absurd e.symm (dlt_ne (ha x hx))
   ·exact e
  ·rcases List.mem_cons.1 ((h x).2 (.tail _ hx)) with e | e
   ·exact absurd e.symm (dlt_ne (hb x hx))
   ·exact e
theorem SS.nodup {l : List DotD} (h : SS l) : l.Nodup := h.imp (fun h => dlt_ne h)

/-- Equals that stand beside each other become one. -/
def compactD : List DotD → List DotD
 | [] => []
 | [a] => [a]
 | a :: b :: l => if a = b then compactD (b :: l) else a :: compactD (b :: l)
theorem compactD_mem : ∀ (l : List DotD) (x : DotD), x ∈ compactD l ↔ x ∈ l
 | [], x => by simp [compactD]
 | [a], x => by simp [compactD]
 | a :: b :: l, x => by
  have ih := compactD_mem (b :: l) x
  unfold compactD
  split
  ·rename_i h
   subst h
   rw [ih]; simp
  ·rw [List.mem_cons, ih]; simp
theorem compactD_ss : ∀ (l : List DotD), l.Pairwise (fun a b => dlt b a = false) → SS (compactD l)
 | [], _ => List.Pairwise.nil
 | [a], _ => by simp [compactD, SS]
 | a :: b :: l, h => by
  obtain ⟨ha, h'⟩ := List.pairwise_cons.1 h
  have ih := compactD_ss (b :: l) h'
  unfold compactD
  split
  ·exact ih
  ·rename_i hne
   refine List.pairwise_cons.2 ⟨fun x hx => ?_, ih⟩
   rw [compactD_mem] at hx
   have h1 := ha x hx
   cases hax : dlt a x with
   | true => rfl
   | false =>
    exfalso
    have e := dlt_total hax h1
    subst e
    have h2 := ha b (.head _)
    obtain ⟨hb, _⟩ := List.pairwise_cons.1 h'
    rcases List.mem_cons.1 hx with e | e
    ·exact hne e
    ·have h3 := hb a e
     exact hne (dlt_total h3 h2)

/-- The list in order. -/
def sortD (l : List DotD) : List DotD := l.mergeSort (fun x y => !dlt y x)
theorem sortD_sorted (l : List DotD) : (sortD l).Pairwise (fun a b => dlt b a = false) := by
 have h := List.pairwise_mergeSort (le := fun x y => !dlt y x)
  (fun a b c h k => by
   simp only [Bool.not_eq_true'] at *
   rw [← Bool.not_eq_true] at *
   rw [dlt_iff] at *; omega)
  (fun a b => by
   rw [Bool.or_eq_true, Bool.not_eq_true', Bool.not_eq_true']
   rw [← Bool.not_eq_true, ← Bool.not_eq_true, dlt_iff, dlt_iff]; omega) l
 exact h.imp (fun h => by simpa using h)
/-- The set of a list. -/
def setD (l : List DotD) : List DotD := compactD (sortD l)
theorem setD_ss (l : List DotD) : SS (setD l) := compactD_ss _ (sortD_sorted l)
theorem setD_mem (l : List DotD) (x : DotD) : x ∈ setD l ↔ x ∈ l := by
 unfold setD sortD
 rw [compactD_mem, (List.mergeSort_perm l _).mem_iff]
theorem setD_of_ss {l : List DotD} (h : SS l) : setD l = l := ss_ext (setD_ss l) h (setD_mem l)

/-- A set with one more. -/
def withD (s : List DotD) (d : DotD) : List DotD := if d ∈ s then s else s.takeWhile (fun x => dlt x d) ++ d :: s.dropWhile (fun x => dlt x d)
theorem withD_mem (s : List DotD) (d x : DotD) : x ∈ withD s d ↔ x ∈ s ∨ x = d := by
 unfold withD
 split
 ·rename_i h
  constructor
  ·exact Or.inl
  ·rintro (h' | rfl)
   ·exact h'
   ·exact h
 ·rw [List.mem_append, List.mem_cons]
  have := List.takeWhile_append_dropWhile (p := fun x => dlt x d) (l := s)
  have h2 : x ∈ s ↔ x ∈ s.takeWhile (fun x => dlt x d) ∨ x ∈ s.dropWhile (fun x => dlt x d) := by
   rw [← List.mem_append, this]
  rw [h2]
  constructor
  ·rintro (h | h | h)
   ·exact Or.inl (Or.inl h)
   ·exact Or.inr h
   ·exact Or.inl (Or.inr h)
  ·rintro ((h | h) | h)
   ·exact Or.inl h
   ·exact Or.inr (Or.inr h)
   ·exact Or.inr (Or.inl h)
theorem mem_takeWhile_dlt {s : List DotD} {d x : DotD} (h : x ∈ s.takeWhile (fun x => dlt x d)) : dlt x d = true := by
 induction s with
 | nil => simp at h
 | cons a s ih =>
  rw [List.takeWhile_cons] at h
  split at h
  ·rcases List.mem_cons.1 h with e | e
   ·subst e; assumption
   ·exact ih e
  ·simp at h
theorem mem_dropWhile_dlt : ∀ {s : List DotD} {d x : DotD}, SS s → d ∉ s → x ∈ s.dropWhile (fun x => dlt x d) → dlt d x = true
 | [], _, _, _, _, h => by simp at h
 | a :: s, d, x, hs, hd, h => by
  obtain ⟨ha, hs'⟩ := List.pairwise_cons.1 hs
  rw [List.dropWhile_cons] at h
  split at h
  ·exact mem_dropWhile_dlt hs' (fun h' => hd (.tail _ h')) h
  ·rename_i hn
   have hda : dlt d a = true := by
    cases e : dlt d a with
    | true => rfl
    | false =>
     exfalso
     have := dlt_total (by simpa using hn) e
     exact hd (this ▸ .head _)
   rcases List.mem_cons.1 h with e | e
   ·subst e; exact hda
   ·exact dlt_trans hda (ha x e)
theorem withD_ss {s : List DotD} (h : SS s) (d : DotD) : SS (withD s d) := by
 unfold withD
 split
 ·exact h
 ·rename_i hd
  have hsub1 : (s.takeWhile (fun x => dlt x d)).Pairwise (fun a b => dlt a b = true) := h.sublist (List.takeWhile_sublist _)
  have hsub2 : (s.dropWhile (fun x => dlt x d)).Pairwise (fun a b => dlt a b = true) := h.sublist (List.dropWhile_sublist _)
  refine List.pairwise_append.2 ⟨hsub1, List.pairwise_cons.2 ⟨fun x hx => mem_dropWhile_dlt h hd hx, hsub2⟩, fun x hx y hy => ?_⟩
  have h1 := mem_takeWhile_dlt hx
  rcases List.mem_cons.1 hy with e | e
  ·subst e; exact h1
  ·exact dlt_trans h1 (mem_dropWhile_dlt h hd e)
/-- The union as the reference makes it. -/
def unionD (a b : List DotD) : List DotD := b.foldl withD (a.foldl withD [])
theorem foldl_withD : ∀ (l s : List DotD), SS s → SS (l.foldl withD s) ∧ ∀ x, x ∈ l.foldl withD s ↔ x ∈ s ∨ x ∈ l
 | [], s, h => ⟨h, fun x => by simp⟩
 | a :: l, s, h => by
  obtain ⟨h1, h2⟩ := foldl_withD l (withD s a) (withD_ss h a)
  refine ⟨h1, fun x => ?_⟩
  rw [List.foldl_cons, h2, withD_mem, List.mem_cons]
  constructor
  ·rintro ((h | h) | h)
   ·exact Or.inl h
   ·exact Or.inr (Or.inl h)
   ·exact Or.inr (Or.inr h)
  ·rintro (h | h | h)
   ·exact Or.inl (Or.inl h)
   ·exact Or.inl (Or.inr h)
   ·exact Or.inr h
theorem unionD_eq (a b : List DotD) : unionD a b = setD (a ++ b) := by
 unfold unionD
 obtain ⟨h1, h2⟩ := foldl_withD a [] List.Pairwise.nil
 obtain ⟨h3, h4⟩ := foldl_withD b _ h1
 refine ss_ext h3 (setD_ss _) (fun x => ?_)
 rw [h4, h2, setD_mem, List.mem_append]
 simp
end Go.Proofs.YtjoljfnlkddfbaaGreatDoor
namespace Go.Proofs.YtjoljfnlkddfbaaGreatDoor
open Go.RowKit

def validDotD (d : DotD) : Bool := decide (1 ≤ d.rep) && decide (d.rep ≤ 65535) && decide (1 ≤ d.ctr) && decide (d.ctr ≤ 4294967295)
def validMarkD (m : MarkD) : Bool := validDotD m.dot && (decide (1 ≤ m.qty) && decide (m.qty ≤ 2147483647)) && decide (0 < m.time)
def isSetB : List DotD → Bool
 | [] => true
 | [_] => true
 | a :: b :: l => dlt a b && isSetB (b :: l)
theorem isSetB_iff : ∀ {l : List DotD}, isSetB l = true ↔ SS l
 | [] => by simp [isSetB, SS]
 | [a] => by simp [isSetB, SS]
 | a :: b :: l => by
  unfold isSetB
  rw [Bool.and_eq_true, isSetB_iff (l := b :: l)]
  constructor
  ·rintro ⟨h1, h2⟩
   refine List.pairwise_cons.2 ⟨fun x hx => ?_, h2⟩
   rcases List.mem_cons.1 hx with e | e
   ·subst e; exact h1
   ·exact dlt_trans h1 ((List.pairwise_cons.1 h2).1 x e)
  ·intro h
   obtain ⟨h1, h2⟩ := List.pairwise_cons.1 h
   exact ⟨h1 b (.head _), h2⟩
theorem compactD_len : ∀ (l : List DotD), (compactD l).length ≤ l.length
 | [] => Nat.le_refl _
 | [a] => Nat.le_refl _
 | a :: b :: l => by
  have ih := compactD_len (b :: l)
  unfold compactD
  split
  ·exact Nat.le_trans ih (by simp)
  ·simp only [List.length_cons] at *; omega
theorem compactD_eq : ∀ {l : List DotD}, (compactD l).length = l.length → compactD l = l
 | [], _ => rfl
 | [a], _ => rfl
 | a :: b :: l, h => by
  have ih := @compactD_eq (b :: l)
  have hl := compactD_len (b :: l)
  unfold compactD at h ⊢
  split at h
  ·simp only [List.length_cons] at *; omega
  ·rename_i hne
   rw [if_neg hne]
   rw [ih (by simp only [List.length_cons] at *; omega)]
theorem compactD_ss_self : ∀ {l : List DotD}, SS l → compactD l = l
 | [], _ => rfl
 | [a], _ => rfl
 | a :: b :: l, h => by
  obtain ⟨h1, h2⟩ := List.pairwise_cons.1 h
  unfold compactD
  rw [if_neg (dlt_ne (h1 b (.head _))), compactD_ss_self h2]
/-- As many dots in the set as in the list: each dot once. -/
theorem setD_len_iff (l : List DotD) : (setD l).length = l.length ↔ l.Nodup := by
 have hp := List.mergeSort_perm l (fun x y => !dlt y x)
 have hpl : (sortD l).length = l.length := hp.length_eq
 constructor
 ·intro h
  have h1 : compactD (sortD l) = sortD l := compactD_eq (by rw [hpl]; exact h)
  have h2 : SS (sortD l) := h1 ▸ compactD_ss _ (sortD_sorted l)
  exact hp.nodup_iff.1 h2.nodup
 ·intro h
  have h1 : (sortD l).Nodup := hp.nodup_iff.2 h
  have h2 : SS (sortD l) := by
   have hs := sortD_sorted l
   refine (List.pairwise_and_iff.2 ⟨hs, h1⟩).imp (fun {a b} ⟨h3, h4⟩ => ?_)
   cases e : dlt a b with
   | true => rfl
   | false => exact absurd (dlt_total e h3) h4
  unfold setD
  rw [compactD_ss_self h2, hpl]

def dotsM (ms : List MarkD) : List DotD := ms.map (·.dot)
/-- The names of items. -/
def nameB (s : ByteArray) : Bool := decide (1 ≤ s.size) && decide (s.size ≤ 64) && s.data.toList.all (fun b => decide (32 ≤ b.toNat) && decide (b.toNat ≤ 126)) && (decide (Lib.trimB s.data.toList 32 = s.data.toList)) && !(Lib.contains s.data.toList [32, 32])
def oneI (x : ItemD) : Bool := nameB x.name && decide (0 < x.marks.length) && isSetB (dotsM x.marks) && x.marks.all validMarkD
def allDots (l : List ItemD) : List DotD := l.flatMap (fun x => dotsM x.marks)
def ltK (a b : ByteArray) : Prop := a.data.toList < b.data.toList
instance (a b : ByteArray) : Decidable (ltK a b) := by unfold ltK; infer_instance
theorem ltK_irrefl (a : ByteArray) : ¬ ltK a a := List.lt_irrefl _
theorem ltK_trans {a b c : ByteArray} (h : ltK a b) (h2 : ltK b c) : ltK a c := List.lt_trans h h2
/-- The names strictly rise. -/
def risB : List ItemD → Bool
 | [] => true
 | [_] => true
 | a :: b :: l => decide (ltK a.name b.name) && risB (b :: l)
theorem risB_iff : ∀ {l : List ItemD}, risB l = true ↔ l.Pairwise (fun a b => ltK a.name b.name)
 | [] => by simp [risB]
 | [a] => by simp [risB]
 | a :: b :: l => by
  unfold risB
  rw [Bool.and_eq_true, decide_eq_true_iff, risB_iff (l := b :: l)]
  constructor
  ·rintro ⟨h1, h2⟩
   refine List.pairwise_cons.2 ⟨fun x hx => ?_, h2⟩
   rcases List.mem_cons.1 hx with e | e
   ·subst e; exact h1
   ·exact ltK_trans h1 ((List.pairwise_cons.1 h2).1 x e)
  ·intro h
   obtain ⟨h1, h2⟩ := List.pairwise_cons.1 h
   exact ⟨h1 b (.head _), h2⟩
def meetB (a b : ItemD) : Bool := (dotsM a.marks).any (fun d => decide (d ∈ dotsM b.marks))
theorem meetB_false {a b : ItemD} : meetB a b = false ↔ ∀ d, d ∈ dotsM a.marks → d ∉ dotsM b.marks := by
 unfold meetB
 rw [List.any_eq_false]
 simp
theorem nodup_allDots : ∀ {l : List ItemD}, (∀ x ∈ l, (dotsM x.marks).Nodup) → ((allDots l).Nodup ↔ l.Pairwise (fun a b => meetB a b = false))
 | [], _ => by simp [allDots]
 | a :: l, h => by
  have ih := @nodup_allDots l (fun x hx => h x (.tail _ hx))
  have e : allDots (a :: l) = dotsM a.marks ++ allDots l := by simp [allDots]
  rw [e, List.nodup_append, ih, List.pairwise_cons]
  constructor
  ·rintro ⟨_, h2, h3⟩
   refine ⟨fun b hb => meetB_false.2 (fun d hd hdb => ?_), h2⟩
   exact h3 d hd d (List.mem_flatMap.2 ⟨b, hb, hdb⟩) rfl
  ·rintro ⟨h1, h2⟩
   refine ⟨h a (.head _), h2, fun d hd d' hd' e => ?_⟩
   subst e
   obtain ⟨b, hb, hdb⟩ := List.mem_flatMap.1 hd'
   exact meetB_false.1 (h1 b hb) d hd hdb
/-- The items are valid. -/
def validI (l : List ItemD) : Bool := l.all oneI && risB l && decide ((setD (allDots l)).length = (allDots l).length)
theorem oneI_nodup {x : ItemD} (h : oneI x = true) : (dotsM x.marks).Nodup := by
 unfold oneI at h
 simp only [Bool.and_eq_true] at h
 exact (isSetB_iff.1 h.1.2).nodup
/-- .. as the reference says it. -/
theorem validI_iff (l : List ItemD) : validI l = true ↔ l.all oneI = true ∧ risB l = true ∧ l.Pairwise (fun a b => meetB a b = false) := by
 unfold validI
 rw [Bool.and_eq_true, Bool.and_eq_true, decide_eq_true_iff, setD_len_iff]
 constructor
 ·rintro ⟨⟨h1, h2⟩, h3⟩
  exact ⟨h1, h2, (nodup_allDots (fun x hx => oneI_nodup (List.all_eq_true.1 h1 x hx))).1 h3⟩
 ·rintro ⟨h1, h2, h3⟩
  exact ⟨⟨h1, h2⟩, (nodup_allDots (fun x hx => oneI_nodup (List.all_eq_true.1 h1 x hx))).2 h3⟩
end Go.Proofs.YtjoljfnlkddfbaaGreatDoor
