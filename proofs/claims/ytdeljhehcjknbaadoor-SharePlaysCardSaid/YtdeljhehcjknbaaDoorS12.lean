/- Book.Carts walked: for every book of the shape of S4. -/
import Derived.Test.YtdeljhehcjknbaaDoorS11
namespace Go.Proofs.YtdeljhehcjknbaaDoor
open Go.RowKit Go.Maps Go.Sort

def sortC (A : List APg) : List (List UInt8) := (A.map fun x => x.cart.data.toList).mergeSort (fun x y => decide (x ≤ y))
def rightsA (A : List APg) (who cart : ByteArray) : Int := match aFind A cart with
  | none => 0
  | some x => x.rights who
def cartsL (A : List APg) (who : ByteArray) (l : List (List UInt8)) : List ByteArray := (l.filter fun k => rightsA A who ⟨k.toArray⟩ != 0).map fun k => ⟨k.toArray⟩
def cartsA (A : List APg) (who : ByteArray) : List ByteArray := cartsL A who (sortC A)
def flatS (l : List ByteArray) : List Value := l.map Value.string
def StrsPost (l : List ByteArray) (w : World) (e : Ending) (w' : World) : Prop := ∃ v, e = .returned v ∧ w'.ownsRow w.heap.size 9 1 v l.length (flatS l) ∧ Below w.heap.size w w'

theorem sortC_eq (L : List PgR) : sortK (ptrs L) = sortC (L.map PgR.abs) := by
  unfold sortK sortC ptrs
  rw [List.map_map, List.map_map]
  rfl
theorem Tryd_info9 : (Tryd.prog.info? 9).map (fun i => (i.zero, i.size, i.bytes)) = some (some (.string ⟨#[]⟩), 1, 16) := by kernel_rfl

theorem sortC_mem (A : List APg) : ∀ k ∈ sortC A, ∃ x ∈ A, k = x.cart.data.toList := by
  intro k hk
  have := (List.mergeSort_perm _ _).mem_iff.1 hk
  obtain ⟨x, hx, rfl⟩ := List.mem_map.1 this
  exact ⟨x, hx, rfl⟩
theorem aFind_some {A : List APg} {x : APg} (h : x ∈ A) : ∃ y, aFind A x.cart = some y := by
  induction A with
  | nil => cases h
  | cons z A ih =>
    simp only [aFind]
    split
    · exact ⟨_, rfl⟩
    · rename_i hne
      rcases List.mem_cons.1 h with rfl | h
      · exact absurd rfl hne
      · exact ih h
theorem bytes_back (s : ByteArray) : (⟨s.data.toList.toArray⟩ : ByteArray) = s := by cases s; simp

set_option maxRecDepth 100000 in
set_option maxHeartbeats 2000000 in
theorem carts_any (b : Nat) (A : List APg) (F : Nat → Prop) (who : ByteArray) (w : World) (hK : Book w b A F) :
    Calls Tryd.prog 15 #[.pointer (some ⟨b, 0, none⟩), .string who] w (StrsPost (cartsA A who) w) := by
  obtain ⟨mr, L, hB, hA, hF, hFs⟩ := hK
  have c0 := cell0 hB.hb 0
  have hlen := hB.len
  have HSORT : Hid (Calls Tryd.prog 35 #[.func (.func 48) #[] #[.pointer (some ⟨w.heap.size, 0, none⟩)]] (w.alloc (.cells #[.map mr] 32)) (SortedPost (ptrs L) (w.alloc (.cells #[.map mr] 32)))) := Lib.hid (by
    have hm := hB.hm
    cases mr with
    | none =>
      have e : ptrs L = [] := hm
      rw [e]; exact sorted36n w
    | some r =>
      refine sorted36 r (ptrs L) w hm ?_ (by rw [lenPtrs]; omega)
      intro p hp
      obtain ⟨q, hq, rfl⟩ := List.mem_map.1 hp
      have := keyB_size (hB.wf q hq).1
      unfold maxLen; simp only; omega)
  have HK := Lib.hid (fun W => keys36 mr W)
  have HB := Lib.hid hB
  have HAL := Lib.hid hA
  have HSC := Lib.hid (show sortK (ptrs L) = sortC A by rw [sortC_eq, hA])
  have HL := Lib.hid (show (sortC A).length = L.length by rw [← HSC.out, sortK_len, lenPtrs])
  have HCA : Hid (cartsA A who = cartsL A who (sortC A)) := Lib.hid rfl
  have HMEM := Lib.hid (sortC_mem A)
  clear hB hA hF hFs
  obtain ⟨i0, hi, hz0, hz1, hz2⟩ := info_parts Tryd_info9
  have HI := Lib.hid (And.intro hi (And.intro hz0 (And.intro hz1 hz2)))
  clear hi hz0 hz1 hz2
  go_enter Tryd.func15, Tryd.ntmps15
  go_wp2_with (first
    | (go_at_call 36; refine (HK.out _).mono ?_; rintro e w1 ⟨rfl, rfl⟩)
    | (go_at_call 35; refine HSORT.out.mono ?_; rintro e w2 ⟨v, rfl, hrow, hb2⟩; obtain ⟨a, cap, rfl, hcells⟩ := rowForm hrow; have HC := Lib.hid hcells; clear hrow hcells; rw [lenPtrs]))
  have hsz2 := hb2.size
  rw [alloc_size] at hsz2
  have hbw : Below w.heap.size w w2 := ((Below.refl _ _).alloc (Nat.le_refl _) _).trans (hb2.mono (by simp))
  have HBW := Lib.hid hbw
  have HB2 := Lib.hid (HB.out.below hbw)
  rw [HSC.out] at HC
  clear hbw hb2
  go_loopw [5, 17] (fun v5 i wr => ∃ k : Nat, k ≤ L.length ∧ i = .int .i64 k ∧ wr.ownsRow w2.heap.size 9 1 v5 (cartsL A who ((sortC A).take k)).length (flatS (cartsL A who ((sortC A).take k))) ∧ Below w2.heap.size w2 wr) (fun _ i _ => L.length - (intOf i).toNat)
  case atStart => exact ⟨0, Nat.zero_le _, rfl, World.ownsRow_nil _ _ _ _, Below.refl _ _⟩
  case round =>
    obtain ⟨k, hk, rfl, hown, hBr⟩ := hrel
    have HBr := Lib.hid hBr
    have HO := Lib.hid hown
    have hsz := hBr.size
    clear hBr hown
    by_cases hlt : k < L.length
    · obtain ⟨g, rfl, hg1, hg2, hg3⟩ := HC.out (by rw [lenPtrs]; omega)
      have hks : k < (sortC A).length := by rw [HL.out]; exact hlt
      have e0 : wr.cell? ⟨g, k, none⟩ = some (.string ⟨(sortC A)[k].toArray⟩) := by
        rw [HBr.out.cell (p := ⟨_, _, _⟩) hg2, hg3 k (by simpa using hks)]; simp
      have HBk := Lib.hid (HB2.out.below HBr.out)
      have c0 := cell0 HBk.out.hb 0
      have hlk := HBk.out.look ⟨(sortC A)[k].toArray⟩
      have HT : Hid (cartsL A who ((sortC A).take (k + 1)) = cartsL A who ((sortC A).take k) ++ cartsL A who [(sortC A)[k]]) := Lib.hid (by
        unfold cartsL; rw [List.take_succ_eq_append_getElem hks, List.filter_append, List.map_append])
      obtain ⟨x, hp⟩ : ∃ x, pgA L ⟨(sortC A)[k].toArray⟩ = some x := by
        obtain ⟨y, hy, he⟩ := HMEM.out _ (List.getElem_mem hks)
        obtain ⟨z, hz⟩ := aFind_some hy
        rw [HAL.out, aFind_abs] at hz
        rw [he, bytes_back]
        cases h : pgA L y.cart with
        | none => rw [h] at hz; cases hz
        | some x => exact ⟨x, rfl⟩
      rw [hp] at hlk
      simp only [Option.map_some, Option.getD_some, PgR.ptr] at hlk
      have HRA : Hid (rightsA A who ⟨(sortC A)[k].toArray⟩ = rightsR x who) := Lib.hid (by
        have hA2 := aFind_abs L ⟨(sortC A)[k].toArray⟩
        rw [← HAL.out, hp] at hA2
        unfold rightsA; rw [hA2]; rfl)
      have hpr := prights_any x who wr (HBk.out.hp x (pgA_mem hp).1)
      unfold PgR.ptr at hpr
      have HPR := Lib.hid hpr
      clear hg3 hp hpr
      have HLT := Lib.hid (show (cartsL A who ((sortC A).take k)).length ≤ k by
        unfold cartsL; rw [List.length_map]
        exact Nat.le_trans (List.length_filter_le _ _) (List.length_take_le _ _))
      generalize (sortC A)[k] = key at *
      clear hks
      generalize hr : rightsR x who = r at *
      have HR := Lib.hid hr
      clear hr
      cases hz : (r != 0)
      · have HZ : Hid (cartsL A who [key] = []) := Lib.hid (by unfold cartsL; rw [List.filter_cons, HRA.out, hz]; rfl)
        go_wp2_with (go_at_call 33; refine HPR.out.mono ?_; rintro e w' ⟨rfl, rfl⟩)
        go_roundw
        case rel => exact ⟨k + 1, by omega, by go_num, by rw [HT.out, HZ.out, List.append_nil]; exact HO.out, HBr.out⟩
        case measure => simp [intOf]; omega
      · have HZ : Hid (cartsL A who [key] = [⟨key.toArray⟩]) := Lib.hid (by unfold cartsL; rw [List.filter_cons, HRA.out, hz]; rfl)
        have hln : (cartsL A who ((sortC A).take k)).length ≤ k := HLT.out
        go_wp2_with (first
          | (go_at_call 33; refine HPR.out.mono ?_; rintro e w' ⟨rfl, rfl⟩)
          | (at_builtin; refine wpList_append_own _ rfl _ _ 43 rfl w2.heap.size 9 i0 (.string ⟨#[]⟩) 1 16 Tryd.underlying43 HI.out.1 HI.out.2.1 HI.out.2.2.1 HI.out.2.2.2 rfl (by decide) u5 _ _ rfl (HO.out.alloc _) ⟨wr.heap.size, 0, none⟩ 1 1 [.string ⟨key.toArray⟩] rfl rfl (fun j u h => alloc_cells2 wr #[.string ⟨key.toArray⟩] 9 j u (by simpa using h)) (by simp [Value.oneCell']) (by unfold maxLen; omega) (by omega) (by rw [alloc_size]; omega) ?_; intro v' w' hown' hgr' _))
        go_roundw
        case rel =>
          refine ⟨k + 1, by omega, by go_num, ?_, ?_⟩
          · rw [HT.out, HZ.out, List.length_append]; simpa [flatS] using hown'
          · exact (HBr.out.alloc hsz _).grown hgr' (by rw [alloc_size]; omega) (own_blk HO.out)
        case measure => simp [intOf]; omega
    · have hke : k = L.length := by omega
      subst hke
      go_wp2
      go_ret
      refine ⟨_, rfl, ?_, HBW.out.trans (HBr.out.mono (by omega))⟩
      have ho := HO.out
      rw [List.take_of_length_le (by rw [HL.out]; exact Nat.le_refl _)] at ho
      rw [HCA.out]
      exact ownsRow_base ho (by omega)
end Go.Proofs.YtdeljhehcjknbaaDoor
