/- cart.different walked. -/
import Derived.Test.YtfnfbcaoihhbpaaGreatDoorMapK
import Derived.Test.YtfnfbcaoihhbpaaGreatDoorRow
import Derived.Test.YtfnfbcaoihhbpaaGreatDoorC17
import Derived.Test.YtfnfbcaoihhbpaaGreatDoorCanonP
namespace Go.Proofs.YtfnfbcaoihhbpaaGreatDoor
open Go.RowKit Go.Maps

theorem equalDot (x y : DotD) (w : World) : (Op.equal 30 (dotV x) (dotV y)).run Tryz.prog w = .ok (decide (x = y)) w := by
  have h := eqDot x y w
  unfold dotV at h ⊢
  rw [run_eql_struct] at h
  show (Op.equalIn 10000 30 _ _).run Tryz.prog w = _
  rcases hr : (Op.equalIn 10000 30 (.agg #[.int .i64 x.rep, .int .i64 x.ctr]) (.agg #[.int .i64 y.rep, .int .i64 y.ctr])).run Tryz.prog w with ⟨b, w'⟩ | _ <;> rw [hr] at h <;> simp [Result.andThen] at h
  obtain ⟨h1, h2⟩ := h
  rw [h1, h2]
theorem findAsking_dot (k : DotD) : ∀ (es : List MapEntry) (m : List (DotD × Value)) (i : Nat), es.map (fun e => (e.key, e.val)) = m.map (fun p => (dotV p.1, p.2)) → ∀ w, (Instr.findAsking 30 (dotV k) es i).run Tryz.prog w = .ok (ixK m k i) w
  | [], [], _, _, _ => rfl
  | [], _ :: _, _, h, _ => by simp at h
  | _ :: _, [], _, h, _ => by simp at h
  | e :: es, p :: m, i, h, w => by
    simp only [List.map_cons, List.cons.injEq, Prod.mk.injEq] at h
    obtain ⟨⟨h1, h2⟩, h3⟩ := h
    unfold Instr.findAsking
    rw [h1]
    simp only [Sem.run_bind, equalDot, Result.andThen_ok, ixK]
    by_cases hk : k = p.1
    · subst hk; simp [h2]
    · simp [hk, findAsking_dot k es m (i + 1) h3 w]
def dotK : KEnc DotD Tryz.prog where
  enc := dotV
  kt := 30
  inj := fun {a b} h => by
    unfold dotV at h
    injection h with h
    have h1 := congrArg (fun x : Array Value => x[0]?) h
    have h2 := congrArg (fun x : Array Value => x[1]?) h
    simp at h1 h2
    cases a; cases b
    simp_all
  find := fun k es m h w => by
    cases es with
    | nil =>
      cases m with
      | nil => simp [Instr.findKey, run_underlying Tryz.underlying30, Result.andThen, Instr.findNow, ixK]
      | cons p m => simp at h
    | cons e es =>
      cases m with
      | nil => simp at h
      | cons p m =>
        have hn : ∀ kd, Instr.findNow kd (dotV k) (e :: es) 0 = none := fun kd => by unfold Instr.findNow dotV; cases kd <;> rfl
        unfold Instr.findKey
        simp only [Sem.run_bind, run_underlying Tryz.underlying30, Result.andThen_ok, hn]
        exact findAsking_dot k (e :: es) (p :: m) 0 h w
  check := fun em k w => by
    show Sem.run Tryz.prog (Instr.checkKey em (9999 + 1) 30 (dotV k)) w = _
    have hi : ∀ (n : Int) (w : World), (Instr.checkKey em 9999 3 (.int .i64 n)).run Tryz.prog w = .ok () w := fun n w => by
      show Sem.run Tryz.prog (Instr.checkKey em (9998 + 1) 3 (.int .i64 n)) w = _
      unfold Instr.checkKey
      simp [run_underlying Tryz.underlying3, Result.andThen]
    unfold dotV Instr.checkKey
    simp only [Sem.run_bind, run_underlying Tryz.underlying30, Result.andThen_ok]
    go_simp
  bits := fun k => by
    show Instr.sameBits (9999 + 1) (dotV k) (dotV k) = true
    unfold dotV
    simp [Instr.sameBits]
end Go.Proofs.YtfnfbcaoihhbpaaGreatDoor
set_option linter.unusedSimpArgs false
set_option linter.unusedVariables false
namespace Go.Proofs.YtfnfbcaoihhbpaaGreatDoor
open Go.RowKit Go.Maps

theorem lkA_put {α : Type} (v : α) : ∀ (m : List (ByteArray × α)) (k k' : ByteArray), lkA (putA m k v) k' = if k' = k then some v else lkA m k'
  | [], k, k' => by simp [putA, lkA]
  | p :: r, k, k' => by
    unfold putA
    by_cases h : k = p.1
    · rw [if_pos h]
      unfold lkA
      by_cases h2 : k' = p.1
      · simp [h, h2]
      · simp [h, h2]
    · rw [if_neg h]
      unfold lkA
      rw [lkA_put v r k k']
      by_cases h2 : k' = p.1
      · have : ¬ k' = k := fun e => h (e ▸ h2)
        simp [h2, this]
        intro e; exact absurd e.symm h
      · simp [h2]
section
variable {κ : Type} [DecidableEq κ]
theorem lkK_put {α : Type} (v : α) : ∀ (m : List (κ × α)) (k k' : κ), lkK (putK m k v) k' = if k' = k then some v else lkK m k'
  | [], k, k' => by simp [putK, lkK]
  | p :: r, k, k' => by
    unfold putK
    by_cases h : k = p.1
    · rw [if_pos h]
      unfold lkK
      by_cases h2 : k' = p.1
      · simp [h, h2]
      · simp [h, h2]
    · rw [if_neg h]
      unfold lkK
      rw [lkK_put v r k k']
      by_cases h2 : k' = p.1
      · have : ¬ k' = k := fun e => h (e ▸ h2)
        simp [h2]
        intro e; exact absurd e.symm h
      · simp [h2]
end
/-- Maps that are sets. -/
def NSet (w : World) (r : Nat) (S : ByteArray → Bool) : Prop := ∃ m, MapIs w r m ∧ ∀ k, lkA m k = if S k then some (.bool true) else none
def DSet (w : World) (r : Nat) (S : DotD → Bool) : Prop := ∃ m, MapK dotK w r m ∧ ∀ k, lkK m k = if S k then some (.bool true) else none
theorem NSet.of {w w' : World} {r : Nat} {S : ByteArray → Bool} (h : NSet w r S) (hb : w'.heap[r]? = w.heap[r]?) : NSet w' r S := by
  obtain ⟨m, h1, h2⟩ := h
  exact ⟨m, h1.of_block hb, h2⟩
theorem DSet.of {w w' : World} {r : Nat} {S : DotD → Bool} (h : DSet w r S) (hb : w'.heap[r]? = w.heap[r]?) : DSet w' r S := by
  obtain ⟨m, h1, h2⟩ := h
  exact ⟨m, h1.of_block hb, h2⟩
theorem NSet.lt {w : World} {r : Nat} {S : ByteArray → Bool} (h : NSet w r S) : r < w.heap.size := by
  obtain ⟨m, ⟨es, clk, h1, _⟩, _⟩ := h
  exact lt_of_heap h1
theorem DSet.lt {w : World} {r : Nat} {S : DotD → Bool} (h : DSet w r S) : r < w.heap.size := by
  obtain ⟨m, ⟨es, clk, h1, _⟩, _⟩ := h
  exact lt_of_heap h1
theorem NSet.new (w : World) : NSet (w.alloc (.map #[] 0)) w.heap.size (fun _ => false) := ⟨[], mapIs_new w, fun _ => rfl⟩
theorem DSet.new (w : World) : DSet (w.alloc (.map #[] 0)) w.heap.size (fun _ => false) := ⟨[], mapK_new w, fun _ => rfl⟩
/-- One more, one less. -/
theorem NSet.put {w : World} {r : Nat} {S S' : ByteArray → Bool} {m : List (ByteArray × Value)} {nm : ByteArray} (h : MapIs w r (putA m nm (.bool true))) (hl : ∀ k, lkA m k = if S k then some (.bool true) else none) (hS : ∀ k, S' k = (decide (k = nm) || S k)) : NSet w r S' := ⟨_, h, fun k => by
  rw [lkA_put, hl, hS]
  by_cases hk : k = nm <;> simp [hk]⟩
theorem DSet.put {w : World} {r : Nat} {S S' : DotD → Bool} {m : List (DotD × Value)} {d : DotD} (h : MapK dotK w r (putK m d (.bool true))) (hl : ∀ k, lkK m k = if S k then some (.bool true) else none) (hS : ∀ k, S' k = (decide (k = d) || S k)) : DSet w r S' := ⟨_, h, fun k => by
  rw [lkK_put, hl, hS]
  by_cases hk : k = d <;> simp [hk]⟩
end Go.Proofs.YtfnfbcaoihhbpaaGreatDoor
