/- join.Join walked. -/
import Derived.Test.YtfnfbcaoihhbpaaGreatDoorC16
set_option linter.unusedSimpArgs false
set_option linter.unusedVariables false
set_option maxRecDepth 100000
set_option maxHeartbeats 16000000
namespace Go.Proofs.YtfnfbcaoihhbpaaGreatDoor
open Go.RowKit Go.Maps Go.Sort Go.Shelf

/-- A cart in memory of its own. -/
def OwnC (base : Nat) (w : World) (x1 x2 x3 : Value) (c : CartD) : Prop := EDot.Row base w x1 c.vec ∧ EDot.Row base w x2 c.cloud ∧ ∃ ps, ps.map (·.x) = c.items ∧ FreshI base w x3 ps
theorem OwnC.below {base : Nat} {w w' : World} {x1 x2 x3 : Value} {c : CartD} (h : OwnC base w x1 x2 x3 c) (hb : Below w.heap.size w w') : OwnC base w' x1 x2 x3 c := by
 obtain ⟨h1, h2, ps, h3, h4⟩ := h
 exact ⟨h1.below hb, h2.below hb, ps, h3, h4.below hb⟩
theorem OwnC.mono {base base' : Nat} {w : World} {x1 x2 x3 : Value} {c : CartD} (h : OwnC base w x1 x2 x3 c) (hb : base' ≤ base) : OwnC base' w x1 x2 x3 c := by
 obtain ⟨h1, h2, ps, h3, h4⟩ := h
 exact ⟨h1.mono hb, h2.mono hb, ps, h3, h4.mono hb⟩
theorem validC_DI {c : CartD} (h : validC c = true) : (∀ d ∈ c.vec, DI d) ∧ ∀ d ∈ c.cloud, DI d := by
 obtain ⟨h1, h2, h3⟩ := validX_parts (compactB_parts (validC_parts h).1).1
 exact ⟨fun d hd => DI_valid (List.all_eq_true.1 (validV_parts h1).1 d hd), fun d hd => DI_valid (List.all_eq_true.1 h3 d hd)⟩
theorem OwnC.cart {base : Nat} {w : World} {x1 x2 x3 : Value} {c : CartD} (h : OwnC base w x1 x2 x3 c) (hv : validC c = true) : CartA w x1 x2 x3 c := by
 obtain ⟨h1, h2, ps, h3, h4⟩ := h
 exact ⟨h1.dots (validC_DI hv).1, h2.dots (validC_DI hv).2, by rw [← h3]; exact h4.arr⟩
theorem OwnC.zero (base : Nat) (w : World) : OwnC base w (.slice none 0 0) (.slice none 0 0) (.slice none 0 0) zeroC := ⟨Enc.Row.nil _ _, Enc.Row.nil _ _, [], rfl, Enc.Row.nil _ _, fun p hp => by simp at hp, List.Pairwise.nil⟩
/-- A cart under way: in a block, its parts of its own. -/
def JOut (B bo : Nat) (w : World) (U : List DotD × List DotD) (I : List ItemD) : Prop :=
 ∃ y1 y2 y3 ps, w.heap[bo]? = some (.cells #[y1, y2, y3] 28) ∧ EDot.Row B w y1 U.1 ∧ EDot.Row B w y2 U.2 ∧ FreshI B w y3 ps ∧ ps.map (·.x) = I
theorem JOut.below {B bo : Nat} {w w' : World} {U : List DotD × List DotD} {I : List ItemD} (h : JOut B bo w U I) (hb : Below w.heap.size w w') : JOut B bo w' U I := by
 obtain ⟨y1, y2, y3, ps, h1, h2, h3, h4, h5⟩ := h
 exact ⟨y1, y2, y3, ps, by rw [hb.block _ (lt_of_heap h1)]; exact h1, h2.below hb, h3.below hb, h4.below hb, h5⟩
theorem erow_ne {α : Type} {E : Enc α} {base b : Nat} {w : World} {v : Value} {l : List α} {C : Array Value} {T : TypeId} (h : E.Row base w v l) (hb : w.heap[b]? = some (.cells C T)) (hT : T ≠ E.T) : ∀ k, v.ownBlock = some k → k ≠ b := by
 intro k hk e
 subst e
 obtain ⟨_, ⟨h1, _⟩ | ⟨g, cap, cur, h1, _, hg, _⟩⟩ := h
 ·rw [h1] at hk; simp [Value.ownBlock] at hk
 ·rw [h1] at hk
  have e1 : g = k := by simpa [Value.ownBlock] using hk
  subst e1
  rw [hg] at hb
  injection hb with e
  injection e with _ e _
  exact hT e.symm
theorem rows_apart {α β : Type} {E : Enc α} {F : Enc β} {base base' : Nat} {w : World} {v u : Value} {l : List α} {m : List β} (h : E.Row base w v l) (g : F.Row base' w u m) (hT : E.T ≠ F.T) : Apart v u := by
 intro k hk hk2
 obtain ⟨_, ⟨h3, _⟩ | ⟨g', cap', cur', h3, _, hg', _⟩⟩ := g
 ·rw [h3] at hk2; simp [Value.ownBlock] at hk2
 ·rw [h3] at hk2
  have e2 : g' = k := by simpa [Value.ownBlock] using hk2
  subst e2
  exact erow_ne h hg' (fun e => hT e.symm) _ hk rfl
theorem FreshI.stayF {base : Nat} {w w' : World} {v : Value} {ps : List ItW} (h : FreshI base w v ps) (hb : ∀ k, base ≤ k → k < w.heap.size → (v.ownBlock = some k ∨ ∃ p ∈ ps, p.v.ownBlock = some k) → w'.heap[k]? = w.heap[k]?) : FreshI base w' v ps := by
 obtain ⟨h1, h2, h3⟩ := h
 refine ⟨h1.stay (fun k hk => hb k (h1.lt k hk).1 (h1.lt k hk).2 (Or.inl hk)), fun p hp => ⟨(h2 p hp).1.stay (fun k hk => ?_), (h2 p hp).2⟩, h3⟩
 have := (h2 p hp).1.2.1.lt k hk
 exact hb k this.1 this.2 (Or.inr ⟨p, hp, hk⟩)
/-- One more item. -/
theorem JOut.add {B bo : Nat} {wr w6 w8 : World} {U : List DotD × List DotD} {y1 y2 y3 v8 : Value} {ps : List ItW} {q : ItW} (h1 : wr.heap[bo]? = some (.cells #[y1, y2, y3] 28)) (h2 : EDot.Row B wr y1 U.1) (h3 : EDot.Row B wr y2 U.2) (h4 : FreshI B wr y3 ps) (hB : B ≤ wr.heap.size) (hbo : bo < B)
  (hb : Below wr.heap.size wr (w6.alloc (.cells #[.string q.x.name, q.v] 50))) (hw6 : wr.heap.size < w6.heap.size) (hs : q.x.name.size ≤ maxLen) (hmi : ∀ m ∈ q.x.marks, MI m) (hrow : EMark.Row wr.heap.size (w6.alloc (.cells #[.string q.x.name, q.v] 50)) q.v q.x.marks)
  (h8 : EItem.Row B w8 v8 (ps ++ [q])) (hgr : (w6.alloc (.cells #[.string q.x.name, q.v] 50)).grownBy w8 y3.ownBlock) : JOut B bo (w8.setCell ⟨bo, 2, none⟩ v8) U ((ps ++ [q]).map (·.x)) := by
 have h6 : FreshI wr.heap.size (w6.alloc (.cells #[.string q.x.name, q.v] 50)) (.slice (some ⟨w6.heap.size, 0, none⟩) 1 1) [q] := by
  have hr1 : EItem.Row wr.heap.size (w6.alloc (.cells #[.string q.x.name, q.v] 50)) (.slice (some ⟨w6.heap.size, 0, none⟩) 1 1) [q] := (row_lit EItem [q] w6 (by unfold maxLen; simp)).mono (Nat.le_of_lt hw6)
  refine ⟨hr1, fun p hp => ?_, List.pairwise_singleton _ _⟩
  rw [List.mem_singleton.1 hp]
  exact ⟨⟨hs, hrow, hmi⟩, apart_types hr1 hrow⟩
 have hF := fresh_append (h4.below hb) h6 hB (fun p hp k hk => ((h4.2.1 p hp).1.2.1.lt k hk).2) (fun k hk => (h4.1.lt k hk).2) h8 hgr
 have hbl := lt_of_heap h1
 have hne : ∀ k, y3.ownBlock = some k → k ≠ bo := fun k hk e => by have := (h4.1.lt k hk).1; omega
 have hb8 : w8.heap[bo]? = some (.cells #[y1, y2, y3] 28) := by
  rw [hgr.block bo (by have := hb.size; omega) (fun e => hne bo e.symm rfl), hb.block bo hbl]; exact h1
 have hst : ∀ {y : Value} {l : List DotD}, EDot.Row B wr y l → EDot.Row B (w8.setCell ⟨bo, 2, none⟩ v8) y l := fun {y l} hy => by
  have hy6 := hy.below hb
  refine (hy6.stay (w' := w8) (fun k hk => hgr.block k (hy6.lt k hk).2 (fun e => rows_apart hy6 (h4.below hb).1 (by decide) k hk e.symm))).stay (fun k hk => setCell_other (fun e => by have := (hy.lt k hk).1; omega))
 exact ⟨y1, y2, v8, ps ++ [q], setCell_same hb8 2 v8, hst h2, hst h3, hF.stayF (fun k hk _ _ => setCell_other (by omega)), rfl⟩
def CartPost (R : CartD) (E : Int) (w : World) (e : Ending) (w' : World) : Prop :=
 ∃ x1 x2 x3, e = .returned (.tuple #[.agg #[x1, x2, x3], .int .i64 E]) ∧ OwnC w.heap.size w' x1 x2 x3 R ∧ Below w.heap.size w w'
def SzC (c : CartD) : Prop := Lt c.items ∧ c.vec.length + c.cloud.length ≤ 10000
end Go.Proofs.YtfnfbcaoihhbpaaGreatDoor

