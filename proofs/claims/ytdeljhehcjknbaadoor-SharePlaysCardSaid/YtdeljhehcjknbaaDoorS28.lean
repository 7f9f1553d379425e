/- Model.rights walked: for every model of the shape of S27. -/
import Derived.Test.YtdeljhehcjknbaaDoorS27
namespace Go.Proofs.YtdeljhehcjknbaaDoor
open Go.RowKit Go.Maps Go.Sort Go.Lib

theorem lkA_at {α : Type} : ∀ {l : List (ByteArray × α)} {k : ByteArray} {i : Nat}, (hi : i < l.length) → l[i].1 = k → (∀ j (hj : j < i), (l[j]'(by omega)).1 ≠ k) → lkA l k = some l[i].2
  | (a, v) :: l, k, 0, _, h, _ => by simp only [lkA]; rw [if_pos (show k = a from h.symm)]; rfl
  | (a, v) :: l, k, i + 1, hi, h, hn => by
    simp only [lkA]
    rw [if_neg (show ¬ k = a from fun e => hn 0 (by omega) e.symm)]
    exact lkA_at (i := i) (by simpa using hi) (by simpa using h) (fun j hj => by have := hn (j + 1) (by omega); simpa using this)
theorem lkA_no {α : Type} : ∀ {l : List (ByteArray × α)} {k : ByteArray}, (∀ j (hj : j < l.length), l[j].1 ≠ k) → lkA l k = none
  | [], _, _ => rfl
  | (a, v) :: l, k, h => by
    simp only [lkA]
    rw [if_neg (show ¬ k = a from fun e => h 0 (by simp) e.symm)]
    exact lkA_no (fun j hj => by have := h (j + 1) (by simpa using hj); simpa using this)
theorem lkA_isSome {α : Type} {l : List (ByteArray × α)} {k : ByteArray} : (lkA l k).isSome = true ↔ k ∈ l.map (·.1) := by
  induction l with
  | nil => simp [lkA]
  | cons p l ih =>
    obtain ⟨a, v⟩ := p
    simp only [lkA, List.map_cons, List.mem_cons]
    by_cases h : k = a
    · simp [h]
    · simp [h, ih]
theorem lk_keys (f : ByteArray → Int) (who : ByteArray) : ∀ ks : List (List UInt8), lkA (ks.map fun k => ((⟨k.toArray⟩ : ByteArray), f ⟨k.toArray⟩)) who = if who.data.toList ∈ ks then some (f who) else none
  | [] => rfl
  | k :: ks => by
    simp only [List.map_cons, lkA, List.mem_cons]
    by_cases h : who = ⟨k.toArray⟩
    · subst h; simp
    · have h2 : ¬ who.data.toList = k := fun e => h (by rw [← e])
      rw [if_neg h, lk_keys f who ks]
      simp [h2]
theorem sortK_mem (m : List (ByteArray × Int)) (who : ByteArray) : who.data.toList ∈ sortK (memV m) ↔ who ∈ m.map (·.1) := by
  unfold sortK
  rw [(List.mergeSort_perm _ _).mem_iff]
  simp only [memV, List.map_map, List.mem_map, Function.comp_def]
  constructor
  · rintro ⟨p, hp, e⟩
    exact ⟨p, hp, ByteArray.ext (Array.toList_inj.1 e)⟩
  · rintro ⟨p, hp, rfl⟩
    exact ⟨p, hp, rfl⟩
/-- A member's right is looked up alike in the row. -/
theorem lk_memS (m : List (ByteArray × Int)) (who : ByteArray) : (lkA (memS m) who).getD 0 = (lkA m who).getD 0 := by
  unfold memS
  rw [lk_keys (fun k => (lkA m k).getD 0) who, ]
  by_cases h : who ∈ m.map (·.1)
  · rw [if_pos ((sortK_mem m who).2 h)]; rfl
  · rw [if_neg (fun e => h ((sortK_mem m who).1 e))]
    have : (lkA m who).isSome = false := by
      cases e : (lkA m who).isSome
      · rfl
      · exact absurd (lkA_isSome.1 e) h
    rw [Option.isSome_eq_false_iff, Option.isNone_iff_eq_none] at this
    rw [this]

set_option maxRecDepth 100000 in
set_option maxHeartbeats 2000000 in
theorem rights_m {G : Nat → Prop} {w : World} {b : Nat} {A : List APg} (who cart : ByteArray) (h : ModelIs G w b A) :
    Calls Tryd.prog 28 #[.pointer (some ⟨b, 0, none⟩), .string who, .string cart] w fun e w' => e = .returned (.int .i64 (rightsA A who cart)) ∧ Below w.heap.size w w' := by
  have HFI := Lib.hid (find_m cart h)
  obtain ⟨_, ⟨v, hb, a, cap, rfl, -, hp⟩, _, h500, h50⟩ := h
  have c0 := cell0 hb 0
  simp only [List.getElem?_toArray, List.getElem?_cons_zero] at c0
  have hbl := lt_of_heap hb
  cases hi : idxA A cart with
  | none =>
    have HF : Hid (rightsA A who cart = 0) := Lib.hid (by unfold rightsA; rw [aFind_idx, hi]; rfl)
    have hfi : findI A cart = -1 := by unfold findI; rw [hi]
    rw [hfi] at HFI
    clear hp hb hi
    go_enter Tryd.func28, Tryd.ntmps28
    go_wp2_with (go_at_call 27; refine HFI.out.mono ?_; rintro e w6 ⟨rfl, rfl⟩)
    go_ret
    exact ⟨by rw [HF.out]; rfl, Below.refl _ _⟩
  | some i =>
    obtain ⟨hlt, hfind, hcart⟩ := idxA_get hi
    have hfi : findI A cart = i := by unfold findI; rw [hi]
    rw [hfi] at HFI
    have HF : Hid (rightsA A who cart = A[i].rights who) := Lib.hid (by unfold rightsA; rw [hfind])
    obtain ⟨g, rfl, _, hg1, hpg⟩ := hp (by intro e; rw [e] at hlt; simp at hlt)
    obtain ⟨-, d1, mv, d2, am, cm, rfl, -, hmm⟩ := hpg i hlt
    have hm50 := h50 _ (List.getElem_mem hlt)
    have hi0 : (0 : Int) ≤ i := by omega
    have hi1 : (i : Int) < A.length := by omega
    clear hpg hp hb hi hfind hcart h50
    generalize A[i] = x at *
    by_cases ho : x.owner = who
    · have hos := str_eq ho
      have HX : Hid (x.rights who = 15) := Lib.hid (by unfold APg.rights; rw [if_pos ho.symm])
      clear ho
      go_enter Tryd.func28, Tryd.ntmps28
      go_wp2_with (go_at_call 27; refine HFI.out.mono ?_; rintro e w6 ⟨rfl, rfl⟩)
      go_ret
      exact ⟨by rw [HF.out, HX.out]; rfl, Below.refl _ _⟩
    · have hos := str_ne ho
      have HX : Hid (x.rights who = (lkA (memS x.mem) who).getD 0) := Lib.hid (by unfold APg.rights; rw [if_neg (fun e => ho e.symm), lk_memS])
      have HMM := Lib.hid hmm
      have HL := Lib.hid (memS_len x.mem)
      clear ho hmm
      go_enter Tryd.func28, Tryd.ntmps28
      go_wp2_with (go_at_call 27; refine HFI.out.mono ?_; rintro e w6 ⟨rfl, rfl⟩)
      go_loopw [34] (fun i wr => ∃ k : Nat, k ≤ x.mem.length ∧ i = .int .i64 k ∧ (∀ j (_ : j < k) (h2 : j < (memS x.mem).length), (memS x.mem)[j].1 ≠ who) ∧ Below w.heap.size w wr) (fun i _ => x.mem.length - (intOf i).toNat)
      case atStart => exact ⟨0, Nat.zero_le _, rfl, fun j hj => by omega, Below.refl _ _⟩
      case round =>
        obtain ⟨k, hk, rfl, hno, hB⟩ := hrel
        have HNO := Lib.hid hno
        have HB := Lib.hid hB
        have hsz := hB.size
        clear hno hB
        by_cases hkl : k < x.mem.length
        · obtain ⟨gm, rfl, _, hgm, hcm⟩ := HMM.out (by intro e; rw [e] at hkl; simp at hkl)
          have hks : k < (memS x.mem).length := by rw [HL.out]; exact hkl
          obtain ⟨f1, f2⟩ := flatM_get (memS x.mem) k hks
          have e1 : wr.cell? ⟨gm, k * 2, none⟩ = some (.string (memS x.mem)[k].1) := by rw [HB.out.cell (p := ⟨_, _, _⟩) hgm]; exact hcm _ _ f1
          have e2 : wr.cell? ⟨gm, k * 2 + 1, none⟩ = some (.int .i64 (memS x.mem)[k].2) := by rw [HB.out.cell (p := ⟨_, _, _⟩) hgm]; exact hcm _ _ f2
          have hk0 : (0 : Int) ≤ k := by omega
          have hk1 : (k : Int) < x.mem.length := by omega
          clear hcm f1 f2
          by_cases hc : (memS x.mem)[k].1 = who
          · have HR : Hid ((lkA (memS x.mem) who).getD 0 = (memS x.mem)[k].2) := Lib.hid (by rw [lkA_at hks hc (fun j hj => HNO.out j hj (by omega))]; rfl)
            have hcs := str_eq hc
            clear hc HNO
            generalize (memS x.mem)[k].1 = s at *
            generalize (memS x.mem)[k].2 = r at *
            go_wp2
            go_ret
            exact ⟨by rw [HF.out, HX.out, HR.out]; rfl, HB.out.alloc hsz _⟩
          · have HST : Hid (∀ j (_ : j < k + 1) (h2 : j < (memS x.mem).length), (memS x.mem)[j].1 ≠ who) := Lib.hid (fun j hj h2 => by
              by_cases e : j = k
              · subst e; exact hc
              · exact HNO.out j (by omega) h2)
            have hcs := str_ne hc
            clear hc HNO
            generalize (memS x.mem)[k].1 = s at e1 hcs
            generalize (memS x.mem)[k].2 = r at e2
            go_wp2
            go_roundw
            case rel => exact ⟨k + 1, by omega, by go_num, HST.out, HB.out.alloc hsz _⟩
            case measure => simp [intOf]; omega
        · have hke : k = x.mem.length := by omega
          subst hke
          have HR : Hid ((lkA (memS x.mem) who).getD 0 = 0) := Lib.hid (by rw [lkA_no (fun j hj => HNO.out j (by rw [HL.out] at hj; exact hj) hj)]; rfl)
          go_wp2
          go_ret
          exact ⟨by rw [HF.out, HX.out, HR.out]; rfl, HB.out⟩
end Go.Proofs.YtdeljhehcjknbaaDoor
