/- Sorted keys of maps, walked: for every map block keyed by strings. -/
import Derived.Test.YtdeljhehcjknbaaDoorS9
import Derived.Test.YtdeljhehcjknbaaDoorIter
namespace Go.Proofs.YtdeljhehcjknbaaDoor
open Go.RowKit Go.Maps Go.Sort

def anyElem (_ : Value) : Option (DataW Unit × List MemPlace) := some (.nil, [])

theorem insert_perm {H : Type} (x : Lit × DataW H) : ∀ l : List (Lit × DataW H), (DataW.insert x l).Perm (x :: l)
  | [] => List.Perm.refl _
  | y :: r => by
    unfold DataW.insert
    split
    · exact List.Perm.refl _
    · exact ((insert_perm x r).cons y).trans (List.Perm.swap x y r)
theorem sorted_perm {H : Type} : ∀ l : List (Lit × DataW H), (l.foldr DataW.insert []).Perm l
  | [] => List.Perm.refl _
  | x :: l => (insert_perm x _).trans ((sorted_perm l).cons x)

theorem MapIs.owns {P : Program} {kt : TypeId} {w : World} {r : Nat} {m : List (ByteArray × Value)} (h : MapIs w r m) (hk : P.underlying kt = some .string) (hsz : ∀ p ∈ m, p.1.size ≤ maxLen) (hlen : m.length ≤ maxLen) :
    ∃ D0 : DataW Unit, w.ownsMap P kt anyElem r m.length D0 ∧ (strKeys D0).Perm (m.map fun p => p.1.data.toList) ∧ Maps.size D0 = m.length := by
  obtain ⟨es, clk, hb, hst, he⟩ := h
  have hl : es.size = m.length := by have := congrArg List.length he; simpa using this
  have hkeys : ∀ x ∈ es.toList, ∃ s : ByteArray, x.key = .string s ∧ s.size ≤ maxLen := by
    intro x hx
    have hmem : (x.key, x.val) ∈ m.map (fun p => (Value.string p.1, p.2)) := by rw [← he]; exact List.mem_map.2 ⟨x, hx, rfl⟩
    obtain ⟨p, hp, hpe⟩ := List.mem_map.1 hmem
    simp only [Prod.mk.injEq] at hpe
    exact ⟨p.1, hpe.1.symm, hsz p hp⟩
  have hrd : ∀ x ∈ es.toList, ∀ s : ByteArray, x.key = .string s → s.size ≤ maxLen → WideElems.rd P kt anyElem x = some (.string s.data.toList, .nil) := by
    intro x _ s hs h5
    simp [WideElems.rd, hs, Go.WideMaps.keyOf_string_mk hk h5, anyElem]
  refine ⟨_, ⟨es, clk, hb, ⟨by omega, hst, fun x hx => ?_⟩, by omega, rfl⟩, ?_, ?_⟩
  · obtain ⟨s, h1, h2⟩ := hkeys x hx
    exact ⟨_, hrd x hx s h1 h2⟩
  · have h1 : (strKeys (DataW.map ((es.toList.map (WideElems.rg P kt anyElem)).foldr DataW.insert []))) = ((es.toList.map (WideElems.rg P kt anyElem)).foldr DataW.insert []).map fun p => _root_.Go.strOf p.1 := rfl
    rw [h1]
    refine ((sorted_perm _).map _).trans ?_
    rw [List.map_map]
    have h2 : es.toList.map ((fun p => _root_.Go.strOf p.1) ∘ WideElems.rg P kt anyElem) = m.map fun p => p.1.data.toList := by
      have h3 : es.toList.map ((fun p => _root_.Go.strOf p.1) ∘ WideElems.rg P kt anyElem) = (es.toList.map (fun e => (e.key, e.val))).map (fun q => match q.1 with | .string s => s.data.toList | _ => []) := by
        rw [List.map_map]
        apply List.map_congr_left
        intro x hx
        obtain ⟨s, h1, h2⟩ := hkeys x hx
        simp [WideElems.rg, hrd x hx s h1 h2, h1, _root_.Go.strOf]
      rw [h3, he, List.map_map]
      rfl
    rw [h2]
  · show ((es.toList.map (WideElems.rg P kt anyElem)).foldr DataW.insert []).length = _
    rw [(sorted_perm _).length_eq]; simpa using hl

def sortK (m : List (ByteArray × Value)) : List (List UInt8) := (m.map fun p => p.1.data.toList).mergeSort (fun x y => decide (x ≤ y))
theorem sortK_len (m : List (ByteArray × Value)) : (sortK m).length = m.length := by simp [sortK]

def SortedPost (m : List (ByteArray × Value)) (W : World) (e : Ending) (w' : World) : Prop :=
  ∃ v, e = .returned v ∧ w'.ownsRow W.heap.size 9 1 v m.length ((sortK m).map encStr) ∧ Below W.heap.size W w'

theorem sorted_of {m : List (ByteArray × Value)} {D0 : DataW Unit} {W : World} {e : Ending} {w' : World} (h1 : (strKeys D0).Perm (m.map fun p => p.1.data.toList))
    (h : ∃ (v : Value) (ss : List (List UInt8)), e = .returned v ∧ ss.Perm (strKeys D0) ∧ w'.ownsRow W.heap.size 9 1 v ss.length ((ss.mergeSort (fun x y => decide (x ≤ y))).map encStr) ∧ (v = .slice none 0 0 ↔ ss = []) ∧ Below W.heap.size W w') : SortedPost m W e w' := by
  obtain ⟨v, ss, he, hp, ho, _, hb⟩ := h
  have hp2 := hp.trans h1
  refine ⟨v, he, ?_, hb⟩
  have e1 : ss.mergeSort (fun x y => decide (x ≤ y)) = sortK m := mergeSort_of_perm hp2
  have e2 : ss.length = m.length := by rw [hp2.length_eq]; simp
  rw [e1, e2] at ho
  exact ho

theorem keys38 (mb : Option Nat) (W : World) : Calls Tryd.prog 38 #[.map mb] W fun e w' => e = .returned (.func (.func 49) #[] #[.pointer (some ⟨W.heap.size, 0, none⟩)]) ∧ w' = W.alloc (.cells #[.map mb] 78) := callsIn_wide.1 (Tryd.maps_Keys_38 mb W)
theorem keys36 (mb : Option Nat) (W : World) : Calls Tryd.prog 36 #[.map mb] W fun e w' => e = .returned (.func (.func 48) #[] #[.pointer (some ⟨W.heap.size, 0, none⟩)]) ∧ w' = W.alloc (.cells #[.map mb] 32) := callsIn_wide.1 (Tryd.maps_Keys_36 mb W)

theorem sorted38 (r : Nat) (m : List (ByteArray × Value)) (w : World) (h : MapIs w r m) (hsz : ∀ p ∈ m, p.1.size ≤ maxLen) (hlen : m.length ≤ 1000) :
    Calls Tryd.prog 35 #[.func (.func 49) #[] #[.pointer (some ⟨w.heap.size, 0, none⟩)]] (w.alloc (.cells #[.map (some r)] 78)) (SortedPost m (w.alloc (.cells #[.map (some r)] 78))) := by
  obtain ⟨D0, h1, h2, h3⟩ := h.owns Tryd.underlying9 hsz (by unfold maxLen; omega)
  exact (callsIn_wide.1 (Tryd.slices_Sorted_keys_35_38 r m.length D0 anyElem w h1 (by rw [h3]; unfold maxLen; omega) (by rw [h3]; omega))).mono fun e w' h => sorted_of h2 h
theorem sorted36 (r : Nat) (m : List (ByteArray × Value)) (w : World) (h : MapIs w r m) (hsz : ∀ p ∈ m, p.1.size ≤ maxLen) (hlen : m.length ≤ 1000) :
    Calls Tryd.prog 35 #[.func (.func 48) #[] #[.pointer (some ⟨w.heap.size, 0, none⟩)]] (w.alloc (.cells #[.map (some r)] 32)) (SortedPost m (w.alloc (.cells #[.map (some r)] 32))) := by
  obtain ⟨D0, h1, h2, h3⟩ := h.owns Tryd.underlying9 hsz (by unfold maxLen; omega)
  exact (callsIn_wide.1 (Tryd.slices_Sorted_keys_35_36 r m.length D0 anyElem w h1 (by rw [h3]; unfold maxLen; omega) (by rw [h3]; omega))).mono fun e w' h => sorted_of h2 h
theorem sorted36n (w : World) :
    Calls Tryd.prog 35 #[.func (.func 48) #[] #[.pointer (some ⟨w.heap.size, 0, none⟩)]] (w.alloc (.cells #[.map none] 32)) (SortedPost [] (w.alloc (.cells #[.map none] 32))) :=
  (callsIn_wide.1 (Tryd.slices_Sorted_keys_nil_35_36 w)).mono fun e w' ⟨v, ss, he, hs, ho, _, hb⟩ => ⟨v, he, by subst hs; exact ho, hb⟩
end Go.Proofs.YtdeljhehcjknbaaDoor
