/- Marks and items as rows of memory; a fresh copy of items. -/
import Derived.Test.YtjlhdgmcaiiagaaGreatDoorRow
import Derived.Test.YtjlhdgmcaiiagaaGreatDoorIt1
namespace Go.Proofs.YtjlhdgmcaiiagaaGreatDoor
open Go.RowKit Go.Maps Go.Sort Go.Shelf

def encM (m : MarkD) : List Value := [.int .i64 m.dot.rep, .int .i64 m.dot.ctr, .int .i64 m.qty, .int .u64 m.time]
def EMark : Enc MarkD := ⟨encM, 4, 62, by decide, fun _ => rfl, fun x u hu => by
  simp [encM] at hu
  rcases hu with rfl | rfl | rfl | rfl <;> rfl⟩
def EDot : Enc DotD := ⟨encD, 2, 24, by decide, fun _ => rfl, encD_one⟩
/-- An item in memory: its data, and where its marks lie. -/
structure ItW where
  x : ItemD
  mo : Option Addr
  mc : Nat
instance : Inhabited ItW := ⟨⟨⟨⟨#[]⟩, []⟩, none, 0⟩⟩
instance : Inhabited MarkD := ⟨⟨⟨0, 0⟩, 0, 0⟩⟩
def ItW.v (p : ItW) : Value := .slice p.mo p.x.marks.length p.mc
def encT (p : ItW) : List Value := [.string p.x.name, p.v]
def EItem : Enc ItW := ⟨encT, 2, 31, by decide, fun _ => rfl, fun x u hu => by
  simp [encT, ItW.v] at hu
  rcases hu with rfl | rfl <;> rfl⟩
def ItwR (w : World) (p : ItW) (cs : List Value) : Prop := cs = encT p ∧ p.x.name.size ≤ maxLen ∧ Arr MarkR 4 w p.v p.x.marks

theorem Arr.srcE {α : Type} {R : World → α → List Value → Prop} (E : Enc α) {w : World} {v : Value} {l : List α} (h : Arr R E.k w v l) (hR : ∀ a cs, R w a cs → cs = E.enc a) (hn : l ≠ []) : SrcIs w v l.length (E.flat l) := by
  obtain ⟨o, c, rfl, _, _, hel⟩ := h
  obtain ⟨b, off, _, rfl, _⟩ := hel 0 (List.length_pos_iff.2 hn)
  refine Or.inr ⟨_, _, rfl, fun j u hj => ?_⟩
  have hp := E.pos
  have hjl : j < l.length * E.k := by
    rcases Nat.lt_or_ge j (l.length * E.k) with h | h
    · exact h
    · rw [List.getElem?_eq_none (by rw [E.flat_len]; exact h)] at hj; cases hj
  have hd : j / E.k < l.length := (Nat.div_lt_iff_lt_mul hp).2 hjl
  have hm : j % E.k < E.k := Nat.mod_lt _ hp
  have et : j / E.k * E.k + j % E.k = j := by rw [Nat.mul_comm]; exact Nat.div_add_mod j E.k
  have h6 := E.flat_get l (j / E.k) hd (j % E.k) hm
  rw [et] at h6
  obtain ⟨b', off', cs, he, _, _, hr, hc⟩ := hel (j / E.k) hd
  cases he
  rw [h6, ← hR _ _ hr] at hj
  rw [addr_add, ← et, ← Nat.add_assoc, hc _ hm]
  exact hj
theorem Arr.of_row {α : Type} {R : World → α → List Value → Prop} {E : Enc α} {base : Nat} {w : World} {v : Value} {l : List α} (h : E.Row base w v l) (hR : ∀ a ∈ l, R w a (E.enc a)) : Arr R E.k w v l := by
  have hle := h.le
  by_cases hn : l = []
  · subst hn
    obtain ⟨_, ⟨h1, _⟩ | ⟨g, cap, cur, h1, _, _, h3, h4, _⟩⟩ := h
    · exact ⟨none, 0, h1, Nat.le_refl _, Nat.zero_le _, fun i hi => absurd hi (Nat.not_lt_zero i)⟩
    · exact ⟨_, cap, h1, h3, h4, fun i hi => absurd hi (Nat.not_lt_zero i)⟩
  · obtain ⟨g, cap, rfl, hin, _⟩ := h.some hn
    obtain ⟨C, _, _, h3, h4, _⟩ := id hin
    exact ⟨_, cap, rfl, h3, h4, fun i hi => ⟨g, 0, E.enc l[i], rfl, hin.gl, E.len _, hR _ (List.getElem_mem hi), fun j hj => by rw [Nat.zero_add]; exact hin.cell i hi j hj⟩⟩
theorem Arr.itw {w : World} {v : Value} {l : List ItemD} (h : Arr ItemR 2 w v l) : ∃ ps : List ItW, ps.map (·.x) = l ∧ Arr ItwR 2 w v ps := by
  obtain ⟨o, c, rfl, h2, h3, hel⟩ := h
  have each : ∀ i : Fin l.length, ∃ p : ItW, p.x = l[i] ∧ ∃ b off cs, o = some ⟨b, off, none⟩ ∧ b < w.heap.size ∧ cs.length = 2 ∧ ItwR w p cs ∧ ∀ j, j < 2 → w.cell? ⟨b, off + i * 2 + j, none⟩ = cs[j]? := fun i => by
    obtain ⟨b, off, cs, e1, e2, e3, ⟨mv, e4, e5, e6⟩, e7⟩ := hel i.1 i.2
    obtain ⟨mo, mc, hv, _⟩ := id e6
    exact ⟨⟨l[i], mo, mc⟩, rfl, b, off, cs, e1, e2, e3, ⟨by rw [e4, hv]; rfl, e5, by rw [hv] at e6; exact e6⟩, e7⟩
  let f : Fin l.length → ItW := fun i => Classical.choose (each i)
  have hf := fun i => Classical.choose_spec (each i)
  have hmap : (List.ofFn f).map (·.x) = l := by
    apply List.ext_getElem
    · simp
    · intro i h1 h2
      simp only [List.getElem_map, List.getElem_ofFn]
      exact (hf ⟨i, by simpa using h2⟩).1
  refine ⟨List.ofFn f, hmap, o, c, by rw [List.length_ofFn], by rw [List.length_ofFn]; exact h2, h3, fun i hi => ?_⟩
  rw [List.length_ofFn] at hi
  obtain ⟨_, b, off, cs, e1, e2, e3, e4, e5⟩ := hf ⟨i, hi⟩
  exact ⟨b, off, cs, e1, e2, e3, by rw [List.getElem_ofFn]; exact e4, e5⟩
theorem Arr.of_itw {w : World} {v : Value} {ps : List ItW} (h : Arr ItwR 2 w v ps) : Arr ItemR 2 w v (ps.map (·.x)) := by
  obtain ⟨o, c, rfl, h2, h3, hel⟩ := h
  refine ⟨o, c, by rw [List.length_map], by rw [List.length_map]; exact h2, h3, fun i hi => ?_⟩
  rw [List.length_map] at hi
  obtain ⟨b, off, cs, e1, e2, e3, ⟨e4, e5, e6⟩, e7⟩ := hel i hi
  exact ⟨b, off, cs, e1, e2, e3, ⟨ps[i].v, by rw [List.getElem_map]; exact e4, by rw [List.getElem_map]; exact e5, by rw [List.getElem_map]; exact e6⟩, e7⟩
def MI (m : MarkD) : Prop := I64 m.dot.rep ∧ I64 m.dot.ctr ∧ I64 m.qty ∧ U64 m.time
theorem markR_enc {w : World} {a : MarkD} {cs : List Value} (h : MarkR w a cs) : cs = EMark.enc a := h.1
theorem Arr.marksMI {w : World} {v : Value} {l : List MarkD} (h : Arr MarkR 4 w v l) : ∀ m ∈ l, MI m := by
  intro m hm
  obtain ⟨i, hi, rfl⟩ := List.getElem_of_mem hm
  obtain ⟨o, c, _, _, _, h⟩ := h
  obtain ⟨b, off, cs, _, _, _, hR, _⟩ := h i hi
  exact hR.2
theorem Arr.of_marks {base : Nat} {w : World} {v : Value} {l : List MarkD} (h : EMark.Row base w v l) (hI : ∀ m ∈ l, MI m) : Arr MarkR 4 w v l :=
  Arr.of_row (E := EMark) h (fun a ha => ⟨rfl, hI a ha⟩)
/-- Items in memory of their own: the list, and all lists of marks. -/
def ItOk (base : Nat) (w : World) (p : ItW) : Prop := p.x.name.size ≤ maxLen ∧ EMark.Row base w p.v p.x.marks ∧ ∀ m ∈ p.x.marks, MI m
def Apart (a b : Value) : Prop := ∀ k, a.ownBlock = some k → b.ownBlock ≠ some k
theorem Apart.symm {a b : Value} (h : Apart a b) : Apart b a := fun k h1 h2 => h k h2 h1
def FreshI (base : Nat) (w : World) (v : Value) (ps : List ItW) : Prop :=
  EItem.Row base w v ps ∧ (∀ p ∈ ps, ItOk base w p ∧ Apart v p.v) ∧ ps.Pairwise (fun a b => Apart a.v b.v)
theorem ItOk.below {base : Nat} {w w' : World} {p : ItW} (h : ItOk base w p) (hb : Below w.heap.size w w') : ItOk base w' p := ⟨h.1, h.2.1.below hb, h.2.2⟩
theorem ItOk.mono {base base' : Nat} {w : World} {p : ItW} (h : ItOk base w p) (hb : base' ≤ base) : ItOk base' w p := ⟨h.1, h.2.1.mono hb, h.2.2⟩
theorem ItOk.stay {base : Nat} {w w' : World} {p : ItW} (h : ItOk base w p) (hb : ∀ k, p.v.ownBlock = some k → w'.heap[k]? = w.heap[k]?) : ItOk base w' p := ⟨h.1, h.2.1.stay hb, h.2.2⟩
theorem FreshI.below {base : Nat} {w w' : World} {v : Value} {ps : List ItW} (h : FreshI base w v ps) (hb : Below w.heap.size w w') : FreshI base w' v ps :=
  ⟨h.1.below hb, fun p hp => ⟨(h.2.1 p hp).1.below hb, (h.2.1 p hp).2⟩, h.2.2⟩
theorem FreshI.mono {base base' : Nat} {w : World} {v : Value} {ps : List ItW} (h : FreshI base w v ps) (hb : base' ≤ base) : FreshI base' w v ps :=
  ⟨h.1.mono hb, fun p hp => ⟨(h.2.1 p hp).1.mono hb, (h.2.1 p hp).2⟩, h.2.2⟩
theorem FreshI.arrw {base : Nat} {w : World} {v : Value} {ps : List ItW} (h : FreshI base w v ps) : Arr ItwR 2 w v ps :=
  Arr.of_row (E := EItem) h.1 (fun p hp => ⟨rfl, (h.2.1 p hp).1.1, Arr.of_marks (h.2.1 p hp).1.2.1 (h.2.1 p hp).1.2.2⟩)
theorem FreshI.arr {base : Nat} {w : World} {v : Value} {ps : List ItW} (h : FreshI base w v ps) : Arr ItemR 2 w v (ps.map (·.x)) := h.arrw.of_itw
end Go.Proofs.YtjlhdgmcaiiagaaGreatDoor
