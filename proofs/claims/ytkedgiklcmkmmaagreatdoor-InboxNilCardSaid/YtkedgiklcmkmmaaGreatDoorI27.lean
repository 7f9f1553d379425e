/- Small: whether a cart, or entries, are small. -/
import Derived.Test.YtkedgiklcmkmmaaGreatDoorData
import Derived.Test.YtkedgiklcmkmmaaGreatDoorNames
namespace Go.Proofs.YtkedgiklcmkmmaaGreatDoor
open Go.RowKit Go.Maps

def okI (x : ItemD) : Bool := decide (x.marks.length ≤ 20) && decide (x.name.size ≤ 100)
def smallC (c : CartD) : Bool := decide (c.vec.length ≤ 40) && decide (c.cloud.length ≤ 40) && decide (c.items.length ≤ 20) && c.items.all okI

set_option maxRecDepth 100000 in
set_option maxHeartbeats 2000000 in
theorem smallC_any (c : CartD) (v1 v2 v3 : Value) (w : World) (h : CartR w c [v1, v2, v3]) : Calls Tryz.prog 34 #[.agg #[v1, v2, v3]] w fun e w' => e = .returned (.bool (smallC c)) ∧ Below w.heap.size w w' := by
  obtain ⟨x1, x2, x3, he, h1, h2, h3⟩ := h
  cases he
  obtain ⟨o1, c1, rfl, -⟩ := h1
  obtain ⟨o2, c2, rfl, -⟩ := h2
  obtain ⟨o3, c3, rfl, hcap, hcm, hit⟩ := h3
  have HIT := Lib.hid hit
  have hn : c.items.length ≤ maxLen := Nat.le_trans hcap hcm
  unfold maxLen at hn
  clear hit hcap hcm
  go_enter Tryz.func34, Tryz.ntmps34
  go_wp2_with fail
  obtain ⟨W1, hW1⟩ : ∃ W1, W1 = w.alloc (.cells #[.slice o1 c.vec.length c1, .slice o2 c.cloud.length c2, .slice o3 c.items.length c3] 39) := ⟨_, rfl⟩
  have hg1 : W1.heap[w.heap.size]? = some (.cells #[.slice o1 c.vec.length c1, .slice o2 c.cloud.length c2, .slice o3 c.items.length c3] 39) := by rw [hW1]; exact alloc_new _ _
  have hb1 : Below w.heap.size w W1 := by rw [hW1]; exact (Below.refl _ _).alloc (Nat.le_refl _) _
  rw [← hW1]
  clear hW1
  have HB := Lib.hid hb1
  have d0 : W1.cell? ⟨w.heap.size, 0, none⟩ = some (.slice o1 c.vec.length c1) := by rw [cell0 hg1 0]; rfl
  have d1 : W1.cell? ⟨w.heap.size, 1, none⟩ = some (.slice o2 c.cloud.length c2) := by rw [cell0 hg1 1]; rfl
  have d2 : W1.cell? ⟨w.heap.size, 2, none⟩ = some (.slice o3 c.items.length c3) := by rw [cell0 hg1 2]; rfl
  clear hg1 hb1
  go_loopw [3] (fun i wr => ∃ k : Nat, k ≤ c.items.length ∧ k ≤ 21 ∧ i = .int .i64 k ∧ wr = W1 ∧ ∀ j (h : j < c.items.length), j < k → okI c.items[j] = true) (fun i _ => 21 - (intOf i).toNat)
  case atStart => exact ⟨0, Nat.zero_le _, Nat.zero_le _, rfl, rfl, fun j _ h => absurd h (Nat.not_lt_zero _)⟩
  case round =>
    obtain ⟨k, hk, hk21, rfl, rfl, hall⟩ := hrel
    have HALL := Lib.hid hall
    clear hall
    by_cases hlt : k < c.items.length
    · by_cases hl21 : k < 21
      · obtain ⟨b, off, cs, rfl, hbl, hcs, ⟨mv, rfl, hnm, om, cm, rfl, hm1, hm2, -⟩, hcells⟩ := HIT.out k hlt
        have e0 : wr.cell? ⟨b, off + k * 2, none⟩ = some (.string c.items[k].name) := by
          rw [HB.out.cell (p := ⟨_, _, _⟩) hbl]; exact hcells 0 (by decide)
        have e1 : wr.cell? ⟨b, off + k * 2 + 1, none⟩ = some (.slice om c.items[k].marks.length cm) := by
          rw [HB.out.cell (p := ⟨_, _, _⟩) hbl]; exact hcells 1 (by decide)
        have hok : okI c.items[k] = (decide (c.items[k].marks.length ≤ 20) && decide (c.items[k].name.size ≤ 100)) := rfl
        have HOK := Lib.hid hok
        have HBAD : Hid (okI c.items[k] = false → smallC c = false) := Lib.hid (fun h => by
          unfold smallC
          rw [List.all_eq_false.2 ⟨c.items[k], List.getElem_mem hlt, by simp [h]⟩]; simp)
        have HNXT : Hid (okI c.items[k] = true → ∀ j (h : j < c.items.length), j < k + 1 → okI c.items[j] = true) := Lib.hid (fun hk1 j hj hjk => by
          rcases Nat.lt_or_ge j k with h | h
          · exact HALL.out j hj h
          · have : j = k := by omega
            subst this; exact hk1)
        clear hok hcells
        have t0 : decide ((k : Int) < 21) = true := decide_eq_true (by omega)
        have a4 : (0 : Int) ≤ k := by omega
        have a5 : (k : Int) < c.items.length := by omega
        have hkw : IntKind.i64.wrap ((k : Int) + 1) = (k : Int) + 1 := by rw [IntKind.wrap_i64]; omega
        obtain ⟨ml, hml⟩ : ∃ ml, ml = c.items[k].marks.length := ⟨_, rfl⟩
        obtain ⟨nm, hnme⟩ : ∃ nm, nm = c.items[k].name := ⟨_, rfl⟩
        obtain ⟨okk, hokk⟩ : ∃ okk, okk = okI c.items[k] := ⟨_, rfl⟩
        rw [← hml, ← hnme, ← hokk] at HOK
        rw [← hokk] at HBAD HNXT
        rw [← hml] at e1 hm1
        rw [← hnme] at e0 hnm
        unfold maxLen at hnm hm2
        clear hml hnme hokk
        by_cases hm20 : 20 < ml
        · have HF := Lib.hid (HBAD.out (by rw [HOK.out]; simp; omega))
          have t1 : decide (20 < (ml : Int)) = true := decide_eq_true (by omega)
          clear HBAD HNXT HOK
          go_wp2_with fail
          go_ret
          exact ⟨by rw [HF.out]; rfl, HB.out⟩
        · by_cases hn100 : 100 < nm.size
          · have HF := Lib.hid (HBAD.out (by rw [HOK.out]; simp; omega))
            have t1 : decide (20 < (ml : Int)) = false := decide_eq_false (by omega)
            have t2 : decide (100 < (nm.size : Int)) = true := decide_eq_true (by omega)
            clear HBAD HNXT HOK
            go_wp2_with fail
            go_ret
            exact ⟨by rw [HF.out]; rfl, HB.out⟩
          · have HF := Lib.hid (HNXT.out (by rw [HOK.out]; simp; omega))
            have t1 : decide (20 < (ml : Int)) = false := decide_eq_false (by omega)
            have t2 : decide (100 < (nm.size : Int)) = false := decide_eq_false (by omega)
            clear HBAD HNXT HOK
            go_wp2_with fail
            go_roundw
            case rel => exact ⟨k + 1, by omega, by omega, by go_num, trivial, HF.out⟩
            case measure => simp [intOf]; omega
      · have hk20 : ¬ c.items.length ≤ 20 := by omega
        have HF : Hid (smallC c = false) := Lib.hid (by unfold smallC; simp; intros; omega)
        clear HALL HIT
        have t0 : decide ((k : Int) < 21) = false := decide_eq_false (by omega)
        have ti : decide ((c.items.length : Int) ≤ 20) = false := decide_eq_false (by omega)
        by_cases hv : c.vec.length ≤ 40
        · by_cases hcl : c.cloud.length ≤ 40
          · have tv : decide ((c.vec.length : Int) ≤ 40) = true := decide_eq_true (by omega)
            have tc : decide ((c.cloud.length : Int) ≤ 40) = true := decide_eq_true (by omega)
            go_wp2_with fail
            go_ret
            exact ⟨by rw [HF.out]; rfl, HB.out⟩
          · have tv : decide ((c.vec.length : Int) ≤ 40) = true := decide_eq_true (by omega)
            have tc : decide ((c.cloud.length : Int) ≤ 40) = false := decide_eq_false (by omega)
            go_wp2_with fail
            go_ret
            exact ⟨by rw [HF.out]; rfl, HB.out⟩
        · have tv : decide ((c.vec.length : Int) ≤ 40) = false := decide_eq_false (by omega)
          go_wp2_with fail
          go_ret
          exact ⟨by rw [HF.out]; rfl, HB.out⟩
    · have hke : k = c.items.length := by omega
      have HA : Hid (c.items.all okI = true) := Lib.hid (List.all_eq_true.2 (fun x hx => by
        obtain ⟨j, hj, rfl⟩ := List.getElem_of_mem hx
        exact HALL.out j hj (by omega)))
      have HF : Hid (smallC c = (decide (c.vec.length ≤ 40) && decide (c.cloud.length ≤ 40) && decide (c.items.length ≤ 20))) := Lib.hid (by unfold smallC; rw [HA.out]; simp)
      clear HALL HIT HA
      by_cases hv : c.vec.length ≤ 40
      · by_cases hcl : c.cloud.length ≤ 40
        · by_cases hit : c.items.length ≤ 20
          · have tv : decide ((c.vec.length : Int) ≤ 40) = true := decide_eq_true (by omega)
            have tc : decide ((c.cloud.length : Int) ≤ 40) = true := decide_eq_true (by omega)
            have ti : decide ((c.items.length : Int) ≤ 20) = true := decide_eq_true (by omega)
            go_wp2_with fail
            go_ret
            exact ⟨by rw [HF.out, decide_eq_true hv, decide_eq_true hcl, decide_eq_true hit]; rfl, HB.out⟩
          · have tv : decide ((c.vec.length : Int) ≤ 40) = true := decide_eq_true (by omega)
            have tc : decide ((c.cloud.length : Int) ≤ 40) = true := decide_eq_true (by omega)
            have ti : decide ((c.items.length : Int) ≤ 20) = false := decide_eq_false (by omega)
            go_wp2_with fail
            go_ret
            exact ⟨by rw [HF.out, decide_eq_true hv, decide_eq_true hcl, decide_eq_false hit]; rfl, HB.out⟩
        · have tv : decide ((c.vec.length : Int) ≤ 40) = true := decide_eq_true (by omega)
          have tc : decide ((c.cloud.length : Int) ≤ 40) = false := decide_eq_false (by omega)
          go_wp2_with fail
          go_ret
          exact ⟨by rw [HF.out, decide_eq_true hv, decide_eq_false hcl]; rfl, HB.out⟩
      · have tv : decide ((c.vec.length : Int) ≤ 40) = false := decide_eq_false (by omega)
        go_wp2_with fail
        go_ret
        exact ⟨by rw [HF.out, decide_eq_false hv]; rfl, HB.out⟩
def okE (x : EntD) : Bool := decide (x.key.size ≤ 100) && smallC x.cart
def smallL (l : List EntD) (m : Nat) : Bool := decide (l.length ≤ m) && l.all okE

set_option maxRecDepth 100000 in
set_option maxHeartbeats 2000000 in
theorem smallL_any (l : List EntD) (m : Nat) (hm : m ≤ 1000) (v : Value) (w : World) (h : Arr EntR 4 w v l) : Calls Tryz.prog 18 #[v, .int .i64 m] w fun e w' => e = .returned (.bool (smallL l m)) ∧ Below w.heap.size w w' := by
  obtain ⟨o, cap, rfl, hcap, hcm, hel⟩ := h
  have HEL := Lib.hid hel
  have hn : l.length ≤ maxLen := Nat.le_trans hcap hcm
  unfold maxLen at hn
  clear hel hcap hcm
  go_enter Tryz.func18, Tryz.ntmps18
  go_wp2_with fail
  go_loopw [5] (fun i wr => ∃ k : Nat, k ≤ l.length ∧ k ≤ m ∧ i = .int .i64 k ∧ Below w.heap.size w wr ∧ ∀ j (h : j < l.length), j < k → okE l[j] = true) (fun i _ => m - (intOf i).toNat)
  case atStart => exact ⟨0, Nat.zero_le _, Nat.zero_le _, rfl, Below.refl _ _, fun j _ h => absurd h (Nat.not_lt_zero _)⟩
  case round =>
    obtain ⟨k, hk, hkm, rfl, hB, hall⟩ := hrel
    have HALL := Lib.hid hall
    have HB := Lib.hid hB
    clear hall hB
    by_cases hlt : k < l.length
    · by_cases hlm : k < m
      · obtain ⟨b, off, cs, rfl, hbl, hcs, ⟨c3, rfl, hnm, hcart⟩, hcells⟩ := HEL.out k hlt
        have hcart0 := hcart
        obtain ⟨v1, v2, v3, rfl, -⟩ := hcart0
        have hbr : b < wr.heap.size := Nat.lt_of_lt_of_le hbl HB.out.size
        have e0 : wr.cell? ⟨b, off + k * 4, none⟩ = some (.string l[k].key) := by
          rw [HB.out.cell (p := ⟨_, _, _⟩) hbl]; exact hcells 0 (by decide)
        have e1 : wr.cell? ⟨b, off + k * 4 + 1, none⟩ = some v1 := by
          rw [HB.out.cell (p := ⟨_, _, _⟩) hbl]; exact hcells 1 (by decide)
        have e2 : wr.cell? ⟨b, off + k * 4 + 2, none⟩ = some v2 := by
          rw [HB.out.cell (p := ⟨_, _, _⟩) hbl]; exact hcells 2 (by decide)
        have e3 : wr.cell? ⟨b, off + k * 4 + 3, none⟩ = some v3 := by
          rw [HB.out.cell (p := ⟨_, _, _⟩) hbl]; exact hcells 3 (by decide)
        have HSM := Lib.hid (smallC_any _ v1 v2 v3 wr (hcart.below HB.out))
        have HOK : Hid (okE l[k] = (decide (l[k].key.size ≤ 100) && smallC l[k].cart)) := Lib.hid rfl
        have HBAD : Hid (okE l[k] = false → smallL l m = false) := Lib.hid (fun h => by
          unfold smallL
          rw [List.all_eq_false.2 ⟨l[k], List.getElem_mem hlt, by simp [h]⟩]; simp)
        have HNXT : Hid (okE l[k] = true → ∀ j (h : j < l.length), j < k + 1 → okE l[j] = true) := Lib.hid (fun hk1 j hj hjk => by
          rcases Nat.lt_or_ge j k with h | h
          · exact HALL.out j hj h
          · have : j = k := by omega
            subst this; exact hk1)
        clear hcells hcart hcs
        have t0 : decide ((k : Int) < m) = true := decide_eq_true (by omega)
        have a4 : (0 : Int) ≤ k := by omega
        have a5 : (k : Int) < l.length := by omega
        have hkw : IntKind.i64.wrap ((k : Int) + 1) = (k : Int) + 1 := by rw [IntKind.wrap_i64]; omega
        obtain ⟨nm, hnme⟩ : ∃ nm, nm = l[k].key := ⟨_, rfl⟩
        obtain ⟨okk, hokk⟩ : ∃ okk, okk = okE l[k] := ⟨_, rfl⟩
        obtain ⟨sm, hsm⟩ : ∃ sm, sm = smallC l[k].cart := ⟨_, rfl⟩
        rw [← hnme, ← hokk, ← hsm] at HOK
        rw [← hokk] at HBAD HNXT
        rw [← hsm] at HSM
        rw [← hnme] at e0 hnm
        unfold maxLen at hnm
        clear hnme hokk hsm
        by_cases hn100 : 100 < nm.size
        · have HF := Lib.hid (HBAD.out (by rw [HOK.out]; simp; omega))
          have t2 : decide (100 < (nm.size : Int)) = true := decide_eq_true (by omega)
          clear HBAD HNXT HOK
          go_wp2_with fail
          go_ret
          exact ⟨by rw [HF.out]; rfl, HB.out⟩
        · have t2 : decide (100 < (nm.size : Int)) = false := decide_eq_false (by omega)
          cases sm with
          | false =>
            have HF := Lib.hid (HBAD.out (by rw [HOK.out]; simp))
            clear HBAD HNXT HOK
            go_wp2_with fail
            refine HSM.out.mono ?_
            rintro e w2 ⟨rfl, hb2⟩
            go_wp2_with fail
            go_ret
            exact ⟨by rw [HF.out]; rfl, HB.out.trans (hb2.mono HB.out.size)⟩
          | true =>
            have HF := Lib.hid (HNXT.out (by rw [HOK.out]; simp; omega))
            clear HBAD HNXT HOK
            go_wp2_with fail
            refine HSM.out.mono ?_
            rintro e w2 ⟨rfl, hb2⟩
            have hbf := HB.out.trans (hb2.mono HB.out.size)
            clear hb2
            go_wp2_with fail
            go_roundw
            case rel => exact ⟨k + 1, by omega, by omega, by go_num, hbf, HF.out⟩
            case measure => simp [intOf]; omega
      · have hk20 : ¬ l.length ≤ m := by omega
        have HF : Hid (smallL l m = false) := Lib.hid (by unfold smallL; rw [decide_eq_false hk20]; rfl)
        clear HALL HEL
        have t0 : decide ((k : Int) < m) = false := decide_eq_false (by omega)
        have t1 : decide ((l.length : Int) ≤ m) = false := decide_eq_false (by omega)
        go_wp2_with fail
        go_ret
        exact ⟨by rw [HF.out]; rfl, HB.out⟩
    · have hke : k = l.length := by omega
      have HA : Hid (l.all okE = true) := Lib.hid (List.all_eq_true.2 (fun x hx => by
        obtain ⟨j, hj, rfl⟩ := List.getElem_of_mem hx
        exact HALL.out j hj (by omega)))
      have hkm2 : l.length ≤ m := by omega
      have HF : Hid (smallL l m = true) := Lib.hid (by unfold smallL; rw [HA.out, decide_eq_true hkm2]; rfl)
      have t1 : decide ((l.length : Int) ≤ m) = true := decide_eq_true (by omega)
      clear HALL HEL HA
      go_wp2_with fail
      go_ret
      exact ⟨by rw [HF.out]; rfl, HB.out⟩
end Go.Proofs.YtkedgiklcmkmmaaGreatDoor
