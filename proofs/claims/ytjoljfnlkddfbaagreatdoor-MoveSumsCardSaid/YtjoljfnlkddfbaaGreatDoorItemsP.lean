/- Marks and items, without a program in sight. -/
import Derived.Test.YtjoljfnlkddfbaaGreatDoorReg
import Derived.Deep.Slices
import Derived.Lib.IndexMore
import Derived.Shelf.Strings.Trim
set_option linter.unusedSimpArgs false
set_option linter.unusedVariables false
set_option maxRecDepth 100000
namespace Go.Proofs.YtjoljfnlkddfbaaGreatDoor
open Go.ChangeShapes Go.WideShapes Go.ChangeAt Go.RowKit

structure DotD where
 rep : Int
 ctr : Int
deriving DecidableEq
structure MarkD where
 dot : DotD
 qty : Int
 time : Int
deriving DecidableEq
structure ItemD where
 name : ByteArray
 marks : List MarkD
deriving DecidableEq
structure CartD where
 vec : List DotD
 cloud : List DotD
 items : List ItemD
deriving DecidableEq
structure EntD where
 key : ByteArray
 cart : CartD
deriving DecidableEq

def I64 (x : Int) : Prop := -9223372036854775808 ≤ x ∧ x ≤ 9223372036854775807
def U64 (x : Int) : Prop := 0 ≤ x ∧ x ≤ 18446744073709551615

/-- The slice v holds the list l, sz cells an element, each as R says. -/
def Arr {α : Type} (R : World → α → List Value → Prop) (sz : Nat) (w : World) (v : Value) (l : List α) : Prop :=
 ∃ (o : Option Addr) (cap : Nat), v = .slice o l.length cap ∧ l.length ≤ cap ∧ cap ≤ maxLen ∧
  ∀ i (hi : i < l.length), ∃ b off cs, o = some ⟨b, off, none⟩ ∧ b < w.heap.size ∧ cs.length = sz ∧ R w l[i] cs ∧ ∀ j, j < sz → w.cell? ⟨b, off + i * sz + j, none⟩ = cs[j]?

def DotR (_ : World) (d : DotD) (cs : List Value) : Prop := cs = [.int .i64 d.rep, .int .i64 d.ctr] ∧ I64 d.rep ∧ I64 d.ctr
def MarkR (_ : World) (m : MarkD) (cs : List Value) : Prop := cs = [.int .i64 m.dot.rep, .int .i64 m.dot.ctr, .int .i64 m.qty, .int .u64 m.time] ∧ I64 m.dot.rep ∧ I64 m.dot.ctr ∧ I64 m.qty ∧ U64 m.time
def ItemR (w : World) (x : ItemD) (cs : List Value) : Prop := ∃ mv, cs = [.string x.name, mv] ∧ x.name.size ≤ maxLen ∧ Arr MarkR 4 w mv x.marks
def CartR (w : World) (c : CartD) (cs : List Value) : Prop := ∃ v1 v2 v3, cs = [v1, v2, v3] ∧ Arr DotR 2 w v1 c.vec ∧ Arr DotR 2 w v2 c.cloud ∧ Arr ItemR 2 w v3 c.items
def EntR (w : World) (x : EntD) (cs : List Value) : Prop := ∃ c3, cs = .string x.key :: c3 ∧ x.key.size ≤ maxLen ∧ CartR w x.cart c3

theorem Arr.mono {α : Type} {R R' : World → α → List Value → Prop} {sz : Nat} {w w' : World} {v : Value} {l : List α} (h : Arr R sz w v l) (hR : ∀ a cs, R w a cs → R' w' a cs) (hb : Below w.heap.size w w') : Arr R' sz w' v l := by
 obtain ⟨o, cap, h1, h2, h3, h4⟩ := h
 refine ⟨o, cap, h1, h2, h3, fun i hi => ?_⟩
 obtain ⟨b, off, cs, e1, e2, e3, e4, e5⟩ := h4 i hi
 exact ⟨b, off, cs, e1, Nat.lt_of_lt_of_le e2 hb.size, e3, hR _ _ e4, fun j hj => by rw [hb.cell (p := ⟨_, _, _⟩) e2]; exact e5 j hj⟩
theorem Arr.dots {w w' : World} {v : Value} {l : List DotD} (h : Arr DotR 2 w v l) (hb : Below w.heap.size w w') : Arr DotR 2 w' v l := h.mono (fun _ _ h => h) hb
theorem Arr.marks {w w' : World} {v : Value} {l : List MarkD} (h : Arr MarkR 4 w v l) (hb : Below w.heap.size w w') : Arr MarkR 4 w' v l := h.mono (fun _ _ h => h) hb
theorem ItemR.below {w w' : World} {x : ItemD} {cs : List Value} (h : ItemR w x cs) (hb : Below w.heap.size w w') : ItemR w' x cs := by
 obtain ⟨mv, h1, h2, h3⟩ := h
 exact ⟨mv, h1, h2, h3.marks hb⟩
theorem Arr.items {w w' : World} {v : Value} {l : List ItemD} (h : Arr ItemR 2 w v l) (hb : Below w.heap.size w w') : Arr ItemR 2 w' v l := h.mono (fun _ _ h => h.below hb) hb
theorem CartR.below {w w' : World} {c : CartD} {cs : List Value} (h : CartR w c cs) (hb : Below w.heap.size w w') : CartR w' c cs := by
 obtain ⟨v1, v2, v3, h0, h1, h2, h3⟩ := h
 exact ⟨v1, v2, v3, h0, h1.dots hb, h2.dots hb, h3.items hb⟩
theorem EntR.below {w w' : World} {x : EntD} {cs : List Value} (h : EntR w x cs) (hb : Below w.heap.size w w') : EntR w' x cs := by
 obtain ⟨c3, h0, h1, h2⟩ := h
 exact ⟨c3, h0, h1, h2.below hb⟩
section
variable {H : Type} {enc : TypeId × Value → H} {W : World} {base : Nat} {sp : Nat → Bool} {held : Bool}

theorem addr_plain {W : World} {a : Addr} {v : Value} (h : W.cell? a = some v) : ∃ b off, a = ⟨b, off, none⟩ ∧ b < W.heap.size := by
 have hs : a.spot = none := by
  cases e : a.spot with
  | none => rfl
  | some q =>
   unfold World.cell? at h
   split at h
   ·simp [e] at h
   ·cases h
 refine ⟨a.block, a.off, by obtain ⟨x, y, z⟩ := a; simp at hs; subst hs; rfl, ?_⟩
 rcases Nat.lt_or_ge a.block W.heap.size with h' | h'
 ·exact h'
 ·unfold World.cell? at h; rw [Array.getElem?_eq_none h'] at h; cases h

theorem arr_of_trod {α : Type} (R : World → α → List Value → Prop) (sz : Nat) (t e : TypeId) (ht : Tryz.prog.underlying t = some (.slice e)) (hsz : Tryz.prog.cellsOf e = sz) (h0 : 0 < sz)
  (hR : ∀ fuel cs x, DataW.trod enc Tryz.prog W base sp held fuel e cs = some x → ∃ a, R W a cs) {fuel : Nat} {v : Value} {x : DataW H × List MemPlace} (h : DataW.trod enc Tryz.prog W base sp held fuel t [v] = some x) : ∃ l, Arr R sz W v l := by
 rcases Go.Deep.open_slice ht h with ⟨e, _⟩ | ⟨a, len, cap, m, n, D, Pl, e, _, hlc, hcm, hm, _, hel⟩
 ·simp at e
  exact ⟨[], none, 0, e, Nat.le_refl _, Nat.zero_le _, fun i hi => absurd hi (Nat.not_lt_zero i)⟩
 ·simp at e
  subst e
  have hmm : len ≤ m := by rw [hm]; split <;> omega
  rw [hsz] at hel
  have each : ∀ i, i < len → ∃ r : α, ∃ cs, W.cells? base (a.add (i * sz)) sz = some cs ∧ R W r cs := fun i hi => by
   obtain ⟨cs', h1, h2⟩ := hel i (by omega)
   obtain ⟨r, hr⟩ := hR _ _ _ h2
   exact ⟨r, cs', h1, hr⟩
  clear hel
  have all : ∀ k, k ≤ len → ∃ l : List α, l.length = k ∧ ∀ i, (hi : i < l.length) → ∃ cs, W.cells? base (a.add (i * sz)) sz = some cs ∧ R W l[i] cs := by
   intro k
   induction k with
   | zero => intro _; exact ⟨[], rfl, fun i hi => by simp at hi⟩
   | succ k ih =>
    intro hk
    obtain ⟨l, h1, h3⟩ := ih (by omega)
    obtain ⟨r, cs, h4, h5⟩ := each k (by omega)
    refine ⟨l ++ [r], by simp [h1], fun i hi => ?_⟩
    simp [h1] at hi
    by_cases e : i < l.length
    ·rw [List.getElem_append_left e]; exact h3 i e
    ·have e2 : i = k := by omega
     subst e2
     rw [List.getElem_append_right (by omega)]
     exact ⟨cs, h4, by simpa [h1] using h5⟩
  obtain ⟨l, rfl, h3⟩ := all len (Nat.le_refl _)
  refine ⟨l, some a, cap, rfl, hlc, hcm, fun i hi => ?_⟩
  obtain ⟨cs0, k0, _⟩ := h3 0 (by omega)
  obtain ⟨_, k1, k2⟩ := World.cells?_some k0
  have k3 := k2 0 h0
  rw [show (a.add (0 * sz)).add 0 = a by simp [Addr.add], List.getElem?_eq_getElem (by omega)] at k3
  obtain ⟨b, off, rfl, hb⟩ := addr_plain k3
  obtain ⟨cs, c0, cR⟩ := h3 i hi
  obtain ⟨_, c1, c2⟩ := World.cells?_some c0
  refine ⟨b, off, cs, rfl, hb, c1, cR, fun j hj => ?_⟩
  have c3 := c2 j hj
  rw [Go.Deep.add_add, show (⟨b, off, none⟩ : Addr).add (i * sz + j) = ⟨b, off + i * sz + j, none⟩ by unfold Addr.add; split <;> simp_all <;> omega] at c3
  exact c3

theorem i64_wf {n : Int} (h : (Lit.int .i64 n).wf = true) : I64 n := by
 simp only [Lit.wf, Bool.and_eq_true, decide_eq_true_eq] at h
 exact h
theorem u64_wf {n : Int} (h : (Lit.int .u64 n).wf = true) : U64 n := by
 simp only [Lit.wf, Bool.and_eq_true, decide_eq_true_eq] at h
 exact h

theorem dot_of_trod {fuel : Nat} {cs : List Value} {x : DataW H × List MemPlace} (h : DataW.trod enc Tryz.prog W base sp held fuel 39 cs = some x) : ∃ d : DotD, DotR W d cs := by
 obtain ⟨xs, n, rfl, rfl, hl, hx, hf⟩ := DataW.trod_struct Tryz.underlying39 h
 have c0 : Tryz.prog.cellsOf 39 = 2 := by kernel_rfl
 have c1 : Tryz.prog.cellsOf 3 = 1 := by kernel_rfl
 rw [c0] at hl
 have h0 : DataW.trod enc Tryz.prog W base sp held n 3 ((cs.drop 0).take (Tryz.prog.cellsOf 3)) = xs[0]? := hf 0 _ rfl
 have h1 : DataW.trod enc Tryz.prog W base sp held n 3 ((cs.drop 1).take (Tryz.prog.cellsOf 3)) = xs[1]? := hf 1 _ rfl
 rw [c1] at h0 h1
 match xs, hx with
 | [x0, x1], _ =>
  match cs, hl with
  | [a0, a1], _ =>
   obtain ⟨y0, e0, _, w0⟩ := DataW.trod_int Tryz.underlying3 h0
   obtain ⟨y1, e1, _, w1⟩ := DataW.trod_int Tryz.underlying3 h1
   simp at e0 e1
   subst e0 e1
   exact ⟨⟨y0, y1⟩, rfl, i64_wf w0, i64_wf w1⟩

theorem mark_of_trod {fuel : Nat} {cs : List Value} {x : DataW H × List MemPlace} (h : DataW.trod enc Tryz.prog W base sp held fuel 85 cs = some x) : ∃ m : MarkD, MarkR W m cs := by
 obtain ⟨xs, n, rfl, rfl, hl, hx, hf⟩ := DataW.trod_struct Tryz.underlying85 h
 have c0 : Tryz.prog.cellsOf 85 = 4 := by kernel_rfl
 have c1 : Tryz.prog.cellsOf 3 = 1 := by kernel_rfl
 have c2 : Tryz.prog.cellsOf 39 = 2 := by kernel_rfl
 have c3 : Tryz.prog.cellsOf 68 = 1 := by kernel_rfl
 rw [c0] at hl
 have h0 : DataW.trod enc Tryz.prog W base sp held n 39 ((cs.drop 0).take (Tryz.prog.cellsOf 39)) = xs[0]? := hf 0 _ rfl
 have h1 : DataW.trod enc Tryz.prog W base sp held n 3 ((cs.drop 2).take (Tryz.prog.cellsOf 3)) = xs[1]? := hf 1 _ rfl
 have h2 : DataW.trod enc Tryz.prog W base sp held n 68 ((cs.drop 3).take (Tryz.prog.cellsOf 68)) = xs[2]? := hf 2 _ rfl
 rw [c1] at h1
 rw [c2] at h0
 rw [c3] at h2
 match xs, hx with
 | [x0, x1, x2], _ =>
  match cs, hl with
  | [a0, a1, a2, a3], _ =>
   obtain ⟨d, e0, d1, d2⟩ := dot_of_trod h0
   obtain ⟨y1, e1, _, w1⟩ := DataW.trod_int Tryz.underlying3 h1
   obtain ⟨y2, e2, _, w2⟩ := DataW.trod_int Tryz.underlying68 h2
   simp at e0 e1 e2
   obtain ⟨rfl, rfl⟩ := e0
   subst e1 e2
   exact ⟨⟨d, y1, y2⟩, rfl, d1, d2, i64_wf w1, u64_wf w2⟩

theorem item_of_trod {fuel : Nat} {cs : List Value} {x : DataW H × List MemPlace} (h : DataW.trod enc Tryz.prog W base sp held fuel 55 cs = some x) : ∃ m : ItemD, ItemR W m cs := by
 obtain ⟨xs, n, rfl, rfl, hl, hx, hf⟩ := DataW.trod_struct Tryz.underlying55 h
 have c0 : Tryz.prog.cellsOf 55 = 2 := by kernel_rfl
 have c1 : Tryz.prog.cellsOf 9 = 1 := by kernel_rfl
 have c2 : Tryz.prog.cellsOf 53 = 1 := by kernel_rfl
 rw [c0] at hl
 have h0 : DataW.trod enc Tryz.prog W base sp held n 9 ((cs.drop 0).take (Tryz.prog.cellsOf 9)) = xs[0]? := hf 0 _ rfl
 have h1 : DataW.trod enc Tryz.prog W base sp held n 53 ((cs.drop 1).take (Tryz.prog.cellsOf 53)) = xs[1]? := hf 1 _ rfl
 rw [c1] at h0
 rw [c2] at h1
 match xs, hx with
 | [x0, x1], _ =>
  match cs, hl with
  | [a0, a1], _ =>
   obtain ⟨s, e0, _, w0⟩ := DataW.trod_string Tryz.underlying9 h0
   obtain ⟨l, hl⟩ := arr_of_trod (v := a1) MarkR 4 53 85 Tryz.underlying53 (by kernel_rfl) (by decide) (fun _ _ _ h => mark_of_trod h) h1
   simp at e0
   subst e0
   exact ⟨⟨s, l⟩, a1, rfl, w0, hl⟩

theorem items_of_trod {fuel : Nat} {v : Value} {x : DataW H × List MemPlace} (h : DataW.trod enc Tryz.prog W base sp held fuel 26 [v] = some x) : ∃ l, Arr ItemR 2 W v l :=
 arr_of_trod ItemR 2 26 55 Tryz.underlying26 (by kernel_rfl) (by decide) (fun _ _ _ h => item_of_trod h) h

theorem cart_of_trod {fuel : Nat} {cs : List Value} {x : DataW H × List MemPlace} (h : DataW.trod enc Tryz.prog W base sp held fuel 28 cs = some x) : ∃ c : CartD, CartR W c cs := by
 obtain ⟨xs, n, rfl, rfl, hl, hx, hf⟩ := DataW.trod_struct Tryz.underlying28 h
 have c0 : Tryz.prog.cellsOf 28 = 3 := by kernel_rfl
 have c1 : Tryz.prog.cellsOf 25 = 2 := by kernel_rfl
 have c2 : Tryz.prog.cellsOf 26 = 1 := by kernel_rfl
 rw [c0] at hl
 have h0 : DataW.trod enc Tryz.prog W base sp held n 25 ((cs.drop 0).take (Tryz.prog.cellsOf 25)) = xs[0]? := hf 0 _ rfl
 have h1 : DataW.trod enc Tryz.prog W base sp held n 26 ((cs.drop 2).take (Tryz.prog.cellsOf 26)) = xs[1]? := hf 1 _ rfl
 rw [c1] at h0
 rw [c2] at h1
 match xs, hx with
 | [x0, x1], _ =>
  match cs, hl with
  | [a0, a1, a2], _ =>
   obtain ⟨l3, hl3⟩ := items_of_trod (v := a2) h1
   obtain ⟨ys, n2, rfl, _, hl', hy, hg⟩ := DataW.trod_struct Tryz.underlying25 h0
   have c4 : Tryz.prog.cellsOf 23 = 1 := by kernel_rfl
   have c5 : Tryz.prog.cellsOf 22 = 1 := by kernel_rfl
   have g0 : DataW.trod enc Tryz.prog W base sp held n2 23 ((([a0, a1, a2].drop 0 |>.take 2).drop 0).take (Tryz.prog.cellsOf 23)) = ys[0]? := hg 0 _ rfl
   have g1 : DataW.trod enc Tryz.prog W base sp held n2 22 ((([a0, a1, a2].drop 0 |>.take 2).drop 1).take (Tryz.prog.cellsOf 22)) = ys[1]? := hg 1 _ rfl
   rw [c4] at g0
   rw [c5] at g1
   match ys, hy with
   | [y0, y1], _ =>
    obtain ⟨l1, hl1⟩ := arr_of_trod (v := a0) DotR 2 23 39 Tryz.underlying23 (by kernel_rfl) (by decide) (fun _ _ _ h => dot_of_trod h) g0
    obtain ⟨l2, hl2⟩ := arr_of_trod (v := a1) DotR 2 22 39 Tryz.underlying22 (by kernel_rfl) (by decide) (fun _ _ _ h => dot_of_trod h) g1
    exact ⟨⟨l1, l2, l3⟩, a0, a1, a2, rfl, hl1, hl2, hl3⟩
