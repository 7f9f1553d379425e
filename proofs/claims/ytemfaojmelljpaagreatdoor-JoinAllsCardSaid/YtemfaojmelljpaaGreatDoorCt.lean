/- Carts as elements of a slice. -/
import Derived.Test.YtemfaojmelljpaaGreatDoorC21
namespace Go.Proofs.YtemfaojmelljpaaGreatDoor
open Go.RowKit Go.Maps

structure CtW where
 c : CartD
 o1 : Option Addr
 k1 : Nat
 o2 : Option Addr
 k2 : Nat
 o3 : Option Addr
 k3 : Nat
def CtW.v1 (p : CtW) : Value := .slice p.o1 p.c.vec.length p.k1
def CtW.v2 (p : CtW) : Value := .slice p.o2 p.c.cloud.length p.k2
def CtW.v3 (p : CtW) : Value := .slice p.o3 p.c.items.length p.k3
def encCt (p : CtW) : List Value := [p.v1, p.v2, p.v3]
def ECart : Enc CtW := ⟨encCt, 3, 28, by decide, fun _ => rfl, fun x u hu => by
 simp [encCt, CtW.v1, CtW.v2, CtW.v3] at hu
 rcases hu with rfl | rfl | rfl <;> rfl⟩
def CtR (w : World) (p : CtW) (cs : List Value) : Prop := cs = encCt p ∧ CartA w p.v1 p.v2 p.v3 p.c
theorem infoCart : (Tryz.prog.info? 28).map (fun i => (i.zero, i.size, i.bytes)) = some (some (.agg #[.slice none 0 0, .slice none 0 0, .slice none 0 0]), 3, 72) := by kernel_rfl
theorem Arr.ctw {w : World} {v : Value} {l : List CartD} (h : Arr CartR 3 w v l) : ∃ ps : List CtW, ps.map (·.c) = l ∧ Arr CtR 3 w v ps := by
 obtain ⟨o, c, rfl, h2, h3, hel⟩ := h;have each : ∀ i : Fin l.length, ∃ p : CtW, p.c = l[i] ∧ ∃ b off cs, o = some ⟨b, off, none⟩ ∧ b < w.heap.size ∧ cs.length = 3 ∧ CtR w p cs ∧ ∀ j, j < 3 → w.cell? ⟨b, off + i * 3 + j, none⟩ = cs[j]? := fun i => by
  obtain ⟨b, off, cs, e1, e2, e3, e4, e7⟩ := hel i.1 i.2;obtain ⟨v1, v2, v3, rfl, hA⟩ := e4.cart;obtain ⟨o1, k1, hv1⟩ := hA.1.slice;obtain ⟨o2, k2, hv2⟩ := hA.2.1.slice;obtain ⟨o3, k3, hv3⟩ := hA.2.2.slice;exact ⟨⟨l[i], o1, k1, o2, k2, o3, k3⟩, rfl, b, off, _, e1, e2, e3, ⟨by rw [hv1, hv2, hv3]; rfl, by rw [hv1, hv2, hv3] at hA; exact hA⟩, e7⟩
 let f : Fin l.length → CtW := fun i => Classical.choose (each i)
 have hf := fun i => Classical.choose_spec (each i)
 have hmap : (List.ofFn f).map (·.c) = l := by
  apply List.ext_getElem
  ·simp
  ·intro i h1 h2
   simp only [List.getElem_map, List.getElem_ofFn];exact (hf ⟨i, by simpa using h2⟩).1
 refine ⟨List.ofFn f, hmap, o, c, by rw [List.length_ofFn], by rw [List.length_ofFn]; exact h2, h3, fun i hi => ?_⟩
 rw [List.length_ofFn] at hi;obtain ⟨_, b, off, cs, e1, e2, e3, e4, e5⟩ := hf ⟨i, hi⟩;exact ⟨b, off, cs, e1, e2, e3, by rw [List.getElem_ofFn]; exact e4, e5⟩
theorem Arr.of_ctw {w : World} {v : Value} {ps : List CtW} (h : Arr CtR 3 w v ps) : Arr CartR 3 w v (ps.map (·.c)) := by
 obtain ⟨o, c, rfl, h2, h3, hel⟩ := h;refine ⟨o, c, by rw [List.length_map], by rw [List.length_map]; exact h2, h3, fun i hi => ?_⟩
 rw [List.length_map] at hi;obtain ⟨b, off, cs, e1, e2, e3, ⟨e4, e5⟩, e7⟩ := hel i hi;exact ⟨b, off, cs, e1, e2, e3, ⟨_, _, _, e4, by rw [List.getElem_map]; exact e5.1, by rw [List.getElem_map]; exact e5.2.1, by rw [List.getElem_map]; exact e5.2.2⟩, e7⟩
theorem CtR.below {w w' : World} {p : CtW} {cs : List Value} (h : CtR w p cs) (hb : Below w.heap.size w w') : CtR w' p cs := ⟨h.1, h.2.below hb⟩
theorem Arr.ctws {w w' : World} {v : Value} {l : List CtW} (h : Arr CtR 3 w v l) (hb : Below w.heap.size w w') : Arr CtR 3 w' v l := h.mono (fun _ _ h => h.below hb) hb
theorem Arr.ctwAt {w : World} {v : Value} {l : List CtW} (h : Arr CtR 3 w v l) : (∃ (o : Option Addr) (c : Nat), v = .slice o l.length c ∧ ∀ i (hi : i < l.length), ∃ b off, o = some ⟨b, off, none⟩ ∧ b < w.heap.size ∧ w.cell? ⟨b, off + i * 3, none⟩ = some l[i].v1 ∧ w.cell? ⟨b, off + i * 3 + 1, none⟩ = some l[i].v2 ∧ w.cell? ⟨b, off + i * 3 + 2, none⟩ = some l[i].v3) ∧ ∀ p ∈ l, CartA w p.v1 p.v2 p.v3 p.c := by
 obtain ⟨o, c, rfl, h2, h3, hel⟩ := h;refine ⟨⟨o, c, rfl, fun i hi => ?_⟩, fun p hp => ?_⟩
 ·obtain ⟨b, off, cs, h1, h4, h5, ⟨h6, h7⟩, h9⟩ := hel i hi
  subst h6;exact ⟨b, off, h1, h4, by rw [← Nat.add_zero (off + i * 3), h9 0 (by omega)]; rfl, by rw [h9 1 (by omega)]; rfl, by rw [h9 2 (by omega)]; rfl⟩
 ·obtain ⟨i, hi, rfl⟩ := List.mem_iff_getElem.1 hp
  obtain ⟨b, off, cs, h1, h4, h5, ⟨h6, h7⟩, h9⟩ := hel i hi;exact h7
theorem Arr.ctwOf {base : Nat} {w0 w : World} {v : Value} {ps qs : List CtW} {vs : Value} (h : ECart.Row base w v qs) (hs : Arr CtR 3 w0 vs ps) (hb : Below w0.heap.size w0 w) (hm : ∀ q ∈ qs, q ∈ ps) : Arr CartR 3 w v (qs.map (·.c)) :=
 Arr.of_ctw (Arr.of_row (E := ECart) h (fun a ha => ⟨rfl, (hs.ctwAt.2 a (hm a ha)).below hb⟩))
end Go.Proofs.YtemfaojmelljpaaGreatDoor
