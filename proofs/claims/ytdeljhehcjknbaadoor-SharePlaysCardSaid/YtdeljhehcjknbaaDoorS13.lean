/- The two comparisons of lists (members, texts) walked: for lists that lie readable. -/
import Derived.Test.YtdeljhehcjknbaaDoorS12
namespace Go.Proofs.YtdeljhehcjknbaaDoor
open Go.RowKit Go.Maps Go.Sort

/-- A slice from the head of a block on, that holds some cells, sz of them an element. -/
def Rd (w : World) (v : Value) (sz n : Nat) (xs : List Value) : Prop :=
  ∃ a cap, v = .slice a n cap ∧ xs.length = n * sz ∧ n ≤ maxLen ∧ (n ≠ 0 → ∃ g, a = some ⟨g, 0, none⟩ ∧ g < w.heap.size ∧ ∀ j u, xs[j]? = some u → w.cell? ⟨g, j, none⟩ = some u)

theorem Rd.below {w w' : World} {v : Value} {sz n : Nat} {xs : List Value} (h : Rd w v sz n xs) (hb : Below w.heap.size w w') : Rd w' v sz n xs := by
  obtain ⟨a, cap, h1, h2, h3, h4⟩ := h
  refine ⟨a, cap, h1, h2, h3, fun hn => ?_⟩
  obtain ⟨g, e1, e2, e3⟩ := h4 hn
  exact ⟨g, e1, Nat.lt_of_lt_of_le e2 hb.size, fun j u h => by rw [hb.cell (p := ⟨_, _, _⟩) e2]; exact e3 j u h⟩

theorem Rd.of_own {w : World} {base : Nat} {T : TypeId} {v : Value} {sz n : Nat} {xs : List Value} (h : w.ownsRow base T sz v n xs) (hn : n ≤ maxLen) : Rd w v sz n xs := by
  have h0 := h
  obtain ⟨hl, ⟨rfl, rfl⟩ | ⟨g, cap, cur, rfl, hg, hb, h1, h2, h3, h4⟩⟩ := h
  · exact ⟨none, 0, rfl, hl, hn, fun h => absurd rfl h⟩
  · refine ⟨_, cap, rfl, hl, hn, fun _ => ⟨g, rfl, lt_of_heap hb, fun j u hj => ?_⟩⟩
    rw [cell0 hb]
    rw [← h4, List.getElem?_take] at hj
    split at hj
    · simpa using hj
    · cases hj

theorem flatM_get (l : List (ByteArray × Int)) (k : Nat) (h : k < l.length) : (flatM l)[k * 2]? = some (.string l[k].1) ∧ (flatM l)[k * 2 + 1]? = some (.int .i64 l[k].2) := by
  unfold flatM
  induction l generalizing k with
  | nil => simp at h
  | cons x l ih =>
    cases k with
    | zero => simp
    | succ k =>
      have := ih k (by simpa using h)
      simp only [List.flatMap_cons] at this ⊢
      have e1 : (k + 1) * 2 = k * 2 + 1 + 1 := by omega
      rw [e1]
      simpa using this

theorem drewN_add (w : World) (n m : Nat) : (w.drewN n).drewN m = w.drewN (n + m) := by unfold World.drewN; simp only [Nat.add_assoc]

theorem take_eq_snoc {α : Type} {l1 l2 : List α} {k : Nat} (h1 : k < l1.length) (h2 : k < l2.length) (h : l1.take k = l2.take k) (he : l1[k] = l2[k]) : l1.take (k + 1) = l2.take (k + 1) := by
  rw [List.take_succ_eq_append_getElem h1, List.take_succ_eq_append_getElem h2, h, he]

set_option maxRecDepth 100000 in
set_option maxHeartbeats 1000000 in
theorem membersEq_any (v1 v2 : Value) (l1 l2 : List (ByteArray × Int)) (w : World) (h1 : Rd w v1 2 l1.length (flatM l1)) (h2 : Rd w v2 2 l2.length (flatM l2)) :
    Calls Tryd.prog 21 #[v1, v2] w fun e w' => e = .returned (.bool (decide (l1 = l2))) ∧ ∃ n, w' = w.drewN n := by
  obtain ⟨a1, c1, rfl, _, hm1, hc1⟩ := h1
  obtain ⟨a2, c2, rfl, _, hm2, hc2⟩ := h2
  unfold maxLen at hm1 hm2
  have HC1 := Lib.hid hc1
  have HC2 := Lib.hid hc2
  clear hc1 hc2
  by_cases hlen : l1.length = l2.length
  · have HLEN := Lib.hid hlen
    have hne : ((l1.length : Int) != (l2.length : Int)) = false := by rw [hlen]; simp
    have hle : l1.length ≤ l2.length := by omega
    have hge : l2.length ≤ l1.length := by omega
    clear hlen
    go_enter Tryd.func21, Tryd.ntmps21
    go_wp2
    go_loopw [5] (fun i wr => ∃ k : Nat, k ≤ l1.length ∧ i = .int .i64 k ∧ l1.take k = l2.take k ∧ ∃ n, wr = w.drewN n) (fun i _ => l1.length - (intOf i).toNat)
    case atStart => exact ⟨0, Nat.zero_le _, rfl, rfl, 0, rfl⟩
    case round =>
      obtain ⟨k, hk, rfl, htk, n, hwr⟩ := hrel
      have HTK := Lib.hid htk
      clear htk
      by_cases hlt : k < l1.length
      · have hlt2 : k < l2.length := by omega
        obtain ⟨g1, rfl, hg1, hd1⟩ := HC1.out (by omega)
        obtain ⟨g2, rfl, hg2, hd2⟩ := HC2.out (by omega)
        obtain ⟨f1, f2⟩ := flatM_get l1 k hlt
        obtain ⟨f3, f4⟩ := flatM_get l2 k hlt2
        have e1 : wr.cell? ⟨g1, k * 2, none⟩ = some (.string l1[k].1) := by rw [hwr]; exact hd1 _ _ f1
        have e2 : wr.cell? ⟨g1, k * 2 + 1, none⟩ = some (.int .i64 l1[k].2) := by rw [hwr]; exact hd1 _ _ f2
        have e3 : wr.cell? ⟨g2, k * 2, none⟩ = some (.string l2[k].1) := by rw [hwr]; exact hd2 _ _ f3
        have e4 : wr.cell? ⟨g2, k * 2 + 1, none⟩ = some (.int .i64 l2[k].2) := by rw [hwr]; exact hd2 _ _ f4
        have HS := Lib.hid (fun he => take_eq_snoc hlt hlt2 HTK.out he)
        have HN := Lib.hid (show l1[k] ≠ l2[k] → decide (l1 = l2) = false from fun hne => by
          rw [decide_eq_false_iff_not]; intro he; subst he; exact hne rfl)
        have HWR := Lib.hid hwr
        have hk0 : (0 : Int) ≤ k := by omega
        have hk1 : (k : Int) < l1.length := by omega
        have hk2 : (k : Int) < l2.length := by omega
        clear hd1 hd2 f1 f2 f3 f4 hwr
        generalize l1[k] = x1 at *
        generalize l2[k] = x2 at *
        obtain ⟨s1, r1⟩ := x1
        obtain ⟨s2, r2⟩ := x2
        simp only at e1 e2 e3 e4
        by_cases hs : s1 = s2
        · by_cases hr : r1 = r2
          · subst hs hr
            go_wp2
            go_quiet (fail)
            go_wp2
            go_roundw
            case rel => exact ⟨k + 1, by omega, by go_num, HS.out trivial, n + nq, by rw [HWR.out, drewN_add]⟩
            case measure => simp [intOf]; omega
          · have hr1 : (r1 == r2) = false := by simpa using hr
            have HF := Lib.hid (HN.out (by intro e; exact hr (by injection e)))
            subst hs
            clear hr HN HS
            go_wp2
            go_quiet (fail)
            go_wp2
            go_ret
            exact ⟨by rw [HF.out]; rfl, n + nq, by rw [HWR.out, drewN_add]⟩
        · have hs1 := str_ne hs
          have HF := Lib.hid (HN.out (by intro e; exact hs (by injection e)))
          clear hs HN HS
          go_wp2
          go_quiet (fail)
          go_wp2
          go_ret
          exact ⟨by rw [HF.out]; rfl, n + nq, by rw [HWR.out, drewN_add]⟩
      · have hke : k = l1.length := by omega
        subst hke
        have HT : Hid (decide (l1 = l2) = true) := Lib.hid (by
          have := HTK.out
          rw [List.take_of_length_le (Nat.le_refl _), List.take_of_length_le hge] at this
          exact decide_eq_true this)
        go_wp2
        go_ret
        exact ⟨by rw [HT.out]; rfl, n, rfl⟩
  · have HF : Hid (decide (l1 = l2) = false) := Lib.hid (by rw [decide_eq_false_iff_not]; intro e; exact hlen (by rw [e]))
    have hne : ((l1.length : Int) != (l2.length : Int)) = true := by simp; omega
    clear hlen
    go_enter Tryd.func21, Tryd.ntmps21
    go_wp2
    go_ret
    exact ⟨by rw [HF.out]; rfl, 0, rfl⟩
set_option maxRecDepth 100000 in
set_option maxHeartbeats 1000000 in
theorem textsEq_any (v1 v2 : Value) (l1 l2 : List ByteArray) (w : World) (h1 : Rd w v1 1 l1.length (flatS l1)) (h2 : Rd w v2 1 l2.length (flatS l2)) :
    Calls Tryd.prog 25 #[v1, v2] w fun e w' => e = .returned (.bool (decide (l1 = l2))) ∧ ∃ n, w' = w.drewN n := by
  obtain ⟨a1, c1, rfl, _, hm1, hc1⟩ := h1
  obtain ⟨a2, c2, rfl, _, hm2, hc2⟩ := h2
  unfold maxLen at hm1 hm2
  have HC1 := Lib.hid hc1
  have HC2 := Lib.hid hc2
  clear hc1 hc2
  by_cases hlen : l1.length = l2.length
  · have HLEN := Lib.hid hlen
    have hne : ((l1.length : Int) != (l2.length : Int)) = false := by rw [hlen]; simp
    have hle : l1.length ≤ l2.length := by omega
    have hge : l2.length ≤ l1.length := by omega
    clear hlen
    go_enter Tryd.func25, Tryd.ntmps25
    go_wp2
    go_loopw [5] (fun i wr => ∃ k : Nat, k ≤ l1.length ∧ i = .int .i64 k ∧ l1.take k = l2.take k ∧ ∃ n, wr = w.drewN n) (fun i _ => l1.length - (intOf i).toNat)
    case atStart => exact ⟨0, Nat.zero_le _, rfl, rfl, 0, rfl⟩
    case round =>
      obtain ⟨k, hk, rfl, htk, n, hwr⟩ := hrel
      have HTK := Lib.hid htk
      clear htk
      by_cases hlt : k < l1.length
      · have hlt2 : k < l2.length := by omega
        obtain ⟨g1, rfl, hg1, hd1⟩ := HC1.out (by omega)
        obtain ⟨g2, rfl, hg2, hd2⟩ := HC2.out (by omega)
        have f1 : (flatS l1)[k]? = some (.string l1[k]) := by unfold flatS; rw [List.getElem?_map, List.getElem?_eq_getElem hlt]; rfl
        have f3 : (flatS l2)[k]? = some (.string l2[k]) := by unfold flatS; rw [List.getElem?_map, List.getElem?_eq_getElem hlt2]; rfl
        have e1 : wr.cell? ⟨g1, k, none⟩ = some (.string l1[k]) := by rw [hwr]; exact hd1 _ _ f1
        have e3 : wr.cell? ⟨g2, k, none⟩ = some (.string l2[k]) := by rw [hwr]; exact hd2 _ _ f3
        have HS := Lib.hid (fun he => take_eq_snoc hlt hlt2 HTK.out he)
        have HN := Lib.hid (show l1[k] ≠ l2[k] → decide (l1 = l2) = false from fun hne => by
          rw [decide_eq_false_iff_not]; intro he; subst he; exact hne rfl)
        have HWR := Lib.hid hwr
        have hk0 : (0 : Int) ≤ k := by omega
        have hk1 : (k : Int) < l1.length := by omega
        have hk2 : (k : Int) < l2.length := by omega
        clear hd1 hd2 f1 f3 hwr
        generalize l1[k] = s1 at *
        generalize l2[k] = s2 at *
        by_cases hs : s1 = s2
        · subst hs
          go_wp2
          go_quiet (fail)
          go_wp2
          go_roundw
          case rel => exact ⟨k + 1, by omega, by go_num, HS.out trivial, n + nq, by rw [HWR.out, drewN_add]⟩
          case measure => simp [intOf]; omega
        · have hs1 := str_ne hs
          have HF := Lib.hid (HN.out hs)
          clear hs HN HS
          go_wp2
          go_quiet (fail)
          go_wp2
          go_ret
          exact ⟨by rw [HF.out]; rfl, n + nq, by rw [HWR.out, drewN_add]⟩
      · have hke : k = l1.length := by omega
        subst hke
        have HT : Hid (decide (l1 = l2) = true) := Lib.hid (by
          have := HTK.out
          rw [List.take_of_length_le (Nat.le_refl _), List.take_of_length_le hge] at this
          exact decide_eq_true this)
        go_wp2
        go_ret
        exact ⟨by rw [HT.out]; rfl, n, rfl⟩
  · have HF : Hid (decide (l1 = l2) = false) := Lib.hid (by rw [decide_eq_false_iff_not]; intro e; exact hlen (by rw [e]))
    have hne : ((l1.length : Int) != (l2.length : Int)) = true := by simp; omega
    clear hlen
    go_enter Tryd.func25, Tryd.ntmps25
    go_wp2
    go_ret
    exact ⟨by rw [HF.out]; rfl, 0, rfl⟩
end Go.Proofs.YtdeljhehcjknbaaDoor
