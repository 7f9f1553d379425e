/- The abstract book, and what Open, Close, Pass and Grant make of it. -/
import Derived.Test.YtdeljhehcjknbaaDoorS3
namespace Go.Proofs.YtdeljhehcjknbaaDoor
open Go.RowKit Go.Maps

/-- What may have been written lies in F; the rest of what was there is as it was. -/
structure Keep (F : Nat → Prop) (w w' : World) : Prop where
  os : w'.os = w.os
  tape : w'.tape = w.tape
  output : w'.output = w.output
  size : w.heap.size ≤ w'.heap.size
  block : ∀ k, k < w.heap.size → ¬ F k → w'.heap[k]? = w.heap[k]?

theorem Keep.refl (F : Nat → Prop) (w : World) : Keep F w w := ⟨rfl, rfl, rfl, Nat.le_refl _, fun _ _ _ => rfl⟩
theorem Keep.of_below {F : Nat → Prop} {w w' : World} (h : Below w.heap.size w w') : Keep F w w' := ⟨h.os, h.tape, h.output, h.size, fun k hk _ => h.block k hk⟩
theorem Keep.trans {F : Nat → Prop} {a b c : World} (h : Keep F a b) (k : Keep F b c) : Keep F a c :=
  ⟨k.os.trans h.os, k.tape.trans h.tape, k.output.trans h.output, Nat.le_trans h.size k.size, fun i hi hF => (k.block i (Nat.lt_of_lt_of_le hi h.size) hF).trans (h.block i hi hF)⟩
theorem Keep.mono {F F' : Nat → Prop} {w w' : World} (h : Keep F w w') (hF : ∀ k, k < w.heap.size → F k → F' k) : Keep F' w w' :=
  ⟨h.os, h.tape, h.output, h.size, fun k hk hn => h.block k hk fun hf => hn (hF k hk hf)⟩
theorem Keep.grown {F : Nat → Prop} {w w' : World} {r : Nat} (h : w.grownBy w' (some r)) (hr : r < w.heap.size → F r) : Keep F w w' :=
  ⟨h.os, h.tape, h.output, h.size, fun k hk hn => h.block k hk fun e => hn (by cases e; exact hr hk)⟩
theorem Keep.setCell {F : Nat → Prop} (w : World) (p : Addr) (v : Value) (hp : F p.block) : Keep F w (w.setCell p v) :=
  ⟨rfl, rfl, rfl, by simp [World.setCell], fun k _ hn => Below.heap_setCell _ _ _ _ (fun e => hn (by rw [e]; exact hp))⟩
theorem Keep.below {F : Nat → Prop} {w w' : World} (h : Keep F w w') (B : Nat) (hB : B ≤ w.heap.size) (hF : ∀ k, k < B → ¬ F k) : Below B w w' :=
  ⟨h.os, h.tape, h.output, h.size, fun k hk => h.block k (by omega) (hF k hk)⟩

/-- The same, said of what lies below block number B alone: for a chain of steps. -/
structure KeepN (B : Nat) (F : Nat → Prop) (w w' : World) : Prop where
  os : w'.os = w.os
  tape : w'.tape = w.tape
  output : w'.output = w.output
  size : w.heap.size ≤ w'.heap.size
  block : ∀ k, k < B → ¬ F k → w'.heap[k]? = w.heap[k]?
section
variable {B : Nat} {F : Nat → Prop} {a w w' : World}
theorem KeepN.refl (B : Nat) (F : Nat → Prop) (w : World) : KeepN B F w w := ⟨rfl, rfl, rfl, Nat.le_refl _, fun _ _ _ => rfl⟩
theorem KeepN.trans (h : KeepN B F a w) (k : KeepN B F w w') : KeepN B F a w' :=
  ⟨k.os.trans h.os, k.tape.trans h.tape, k.output.trans h.output, Nat.le_trans h.size k.size, fun i hi hF => (k.block i hi hF).trans (h.block i hi hF)⟩
theorem KeepN.below (h : KeepN B F a w) (hb : Below w.heap.size w w') (hB : B ≤ w.heap.size) : KeepN B F a w' :=
  h.trans ⟨hb.os, hb.tape, hb.output, hb.size, fun k hk _ => hb.block k (by omega)⟩
theorem KeepN.alloc (h : KeepN B F a w) (hB : B ≤ w.heap.size) (o : Obj) : KeepN B F a (w.alloc o) :=
  h.below ((Below.refl _ _).alloc (Nat.le_refl _) o) hB
theorem KeepN.setCell (h : KeepN B F a w) (p : Addr) (v : Value) (hp : p.block < B → F p.block) : KeepN B F a (w.setCell p v) :=
  h.trans ⟨rfl, rfl, rfl, by simp [World.setCell], fun k hk hn => Below.heap_setCell _ _ _ _ (fun e => hn (by subst e; exact hp hk))⟩
theorem KeepN.grown {r : Nat} (h : KeepN B F a w) (hg : w.grownBy w' (some r)) (hB : B ≤ w.heap.size) (hr : r < B → F r) : KeepN B F a w' :=
  h.trans ⟨hg.os, hg.tape, hg.output, hg.size, fun k hk hn => hg.block k (by omega) fun e => hn (by cases e; exact hr hk)⟩
theorem KeepN.drew (h : KeepN B F a w) : KeepN B F a w.drew := h.trans ⟨rfl, rfl, rfl, Nat.le_refl _, fun _ _ _ => rfl⟩
theorem KeepN.keep (h : KeepN w.heap.size F w w') : Keep F w w' := ⟨h.os, h.tape, h.output, h.size, h.block⟩
end

/-- A page of a book. -/
structure APg where
  cart : ByteArray
  owner : ByteArray
  mem : List (ByteArray × Int)
def PgR.abs (x : PgR) : APg := ⟨x.cart, x.owner, x.mem⟩
def aFind : List APg → ByteArray → Option APg
  | [], _ => none
  | x :: r, c => if c = x.cart then some x else aFind r c
def APg.rights (x : APg) (who : ByteArray) : Int := if who = x.owner then 15 else (lkA x.mem who).getD 0
def aSet : List APg → ByteArray → APg → List APg
  | [], _, _ => []
  | x :: r, c, y => if c = x.cart then y :: r else x :: aSet r c y
def aDel : List APg → ByteArray → List APg
  | [], _ => []
  | x :: r, c => if c = x.cart then r else x :: aDel r c

theorem aFind_abs (L : List PgR) (c : ByteArray) : aFind (L.map PgR.abs) c = (pgA L c).map PgR.abs := by
  induction L with
  | nil => rfl
  | cons x L ih => simp only [List.map_cons, aFind, pgA]; rw [show (PgR.abs x).cart = x.cart from rfl]; split <;> simp_all

theorem pgA_split : ∀ {L : List PgR} {c : ByteArray} {x : PgR}, pgA L c = some x → ∃ L1 L2, L = L1 ++ x :: L2 ∧ (∀ y, aSet (L.map PgR.abs) c y = L1.map PgR.abs ++ y :: L2.map PgR.abs) ∧ aDel (L.map PgR.abs) c = L1.map PgR.abs ++ L2.map PgR.abs ∧ delA (ptrs L) c = ptrs (L1 ++ L2) ∧ x.cart = c
  | [], _, _, h => by cases h
  | y :: L, c, x, h => by
    simp only [pgA] at h
    split at h
    · rename_i e
      cases h
      exact ⟨[], L, rfl, fun y => by simp [aSet, PgR.abs, e], by simp [aDel, PgR.abs, e], by simp [ptrs, delA, e], e.symm⟩
    · rename_i e
      obtain ⟨L1, L2, h1, h2, h3, h4, h5⟩ := pgA_split h
      refine ⟨y :: L1, L2, by rw [h1]; rfl, fun z => ?_, ?_, ?_, h5⟩
      · simp only [List.map_cons, aSet, List.cons_append]
        rw [if_neg (show ¬ c = (PgR.abs y).cart from e), h2 z]
      · simp only [List.map_cons, aDel, List.cons_append]
        rw [if_neg (show ¬ c = (PgR.abs y).cart from e), h3]
      · simp only [ptrs, List.map_cons, delA, if_neg e, List.cons_append]
        have := h4; simp only [ptrs] at this; rw [this]

theorem putA_ptrs_none : ∀ {L : List PgR} {c : ByteArray} (v : Value), pgA L c = none → putA (ptrs L) c v = ptrs L ++ [(c, v)]
  | [], _, _, _ => rfl
  | y :: L, c, v, h => by
    simp only [pgA] at h
    split at h
    · cases h
    · rename_i e
      have := putA_ptrs_none v h
      simp only [ptrs, List.map_cons, putA, if_neg e, List.cons_append] at this ⊢
      rw [this]

/-- The book at block b holds the pages A; all that it takes up lies in F. -/
def Book (w : World) (b : Nat) (A : List APg) (F : Nat → Prop) : Prop :=
  ∃ mr L, BookIs w b mr L ∧ A = L.map PgR.abs ∧ (∀ k ∈ foot b mr L, F k) ∧ ∀ k, F k → k < w.heap.size

theorem Book.below {w w' : World} {b : Nat} {A : List APg} {F : Nat → Prop} (h : Book w b A F) (hB : Below w.heap.size w w') : Book w' b A F := by
  obtain ⟨mr, L, h1, h2, h3, h4⟩ := h
  exact ⟨mr, L, h1.below hB, h2, h3, fun k hk => Nat.lt_of_lt_of_le (h4 k hk) hB.size⟩
theorem Book.mono {w : World} {b : Nat} {A : List APg} {F F' : Nat → Prop} (h : Book w b A F) (hF : ∀ k, F k → F' k) (hF' : ∀ k, F' k → k < w.heap.size) : Book w b A F' := by
  obtain ⟨mr, L, h1, h2, h3, h4⟩ := h
  exact ⟨mr, L, h1, h2, fun k hk => hF k (h3 k hk), hF'⟩
/-- What a book may take up behind a call that may lay blocks. -/
def Wider (F : Nat → Prop) (w w' : World) (k : Nat) : Prop := F k ∨ (w.heap.size ≤ k ∧ k < w'.heap.size)

def openE (A : List APg) (who cart : ByteArray) : Int :=
  if keyB who && keyB cart then match aFind A cart with
    | some _ => 11
    | none => if 500 ≤ A.length then 7 else 0
  else 2
def openA (A : List APg) (who cart : ByteArray) : List APg := if openE A who cart = 0 then A ++ [⟨cart, who, []⟩] else A
def closeE (A : List APg) (who cart : ByteArray) : Int :=
  if keyB cart && keyB who then match aFind A cart with
    | none => 9
    | some x => if x.owner = who then 0 else 18
  else 2
def closeA (A : List APg) (who cart : ByteArray) : List APg := if closeE A who cart = 0 then aDel A cart else A
def passE (A : List APg) (who cart who2 : ByteArray) : Int :=
  if keyB cart && (keyB who && keyB who2) then match aFind A cart with
    | none => 9
    | some x => if x.owner = who then (if who = who2 then 0 else if (lkA x.mem who2).getD 0 = 0 ∧ 50 ≤ x.mem.length then 7 else 0) else 18
  else 2
def passA (A : List APg) (who cart who2 : ByteArray) : List APg :=
  if passE A who cart who2 = 0 ∧ who ≠ who2 then match aFind A cart with
    | none => A
    | some x => aSet A cart ⟨x.cart, who2, putA (delA x.mem who2) who 15⟩
  else A
/-- Some right of a set. -/
def bitsI (op : BinOp) (x y : Int) : Int := bits op .i64 x y
def denied (x : APg) (who who2 : ByteArray) (r : Int) : Bool :=
  bits .and .i64 (x.rights who) 8 == 0 || decide (who2 = x.owner) || decide (who2 = who) || bits .andNot .i64 (bits .xor .i64 r ((lkA x.mem who2).getD 0)) (x.rights who) != 0
def grantE (A : List APg) (who cart who2 : ByteArray) (r : Int) : Int :=
  if r < 0 ∨ 15 < r then 2 else
  if keyB cart && (keyB who && keyB who2) then match aFind A cart with
    | none => 9
    | some x => if denied x who who2 r then 18 else if r = 0 then 0 else if (lkA x.mem who2).getD 0 = 0 ∧ 50 ≤ x.mem.length then 7 else 0
  else 2
def grantA (A : List APg) (who cart who2 : ByteArray) (r : Int) : List APg :=
  if grantE A who cart who2 r = 0 then match aFind A cart with
    | none => A
    | some x => aSet A cart ⟨x.cart, x.owner, if r = 0 then delA x.mem who2 else putA x.mem who2 r⟩
  else A
end Go.Proofs.YtdeljhehcjknbaaDoor
