/- needs and Book.Allows walked: for every book of the shape of S4 where the table of rows lies. -/
import Derived.Test.YtdeljhehcjknbaaDoorS8
namespace Go.Proofs.YtdeljhehcjknbaaDoor
open Go.RowKit Go.Maps

def needsR (op : Int) (key other : ByteArray) : List (ByteArray × Int) :=
  if op = 4 then [(key, 1)] else if op = 1 then [(key, 2)] else if op = 3 ∨ op = 5 then [(key, 4)] else if op = 2 then [(key, 6)]
  else if op = 6 then [(key, 4), (other, 2)] else if op = 7 then [(key, 5), (other, 2)] else []
def flatN (l : List (ByteArray × Int)) : Array Value := (l.flatMap fun x => [Value.string x.1, Value.int .i64 x.2]).toArray
/-- A slice of needs in new memory, or nil. -/
def NeedIs (w : World) (v : Value) (l : List (ByteArray × Int)) : Prop := (v = .slice none 0 0 ∧ l = []) ∨ ∃ B, v = .slice (some ⟨B, 0, none⟩) l.length l.length ∧ l ≠ [] ∧ w.heap[B]? = some (.cells (flatN l) 74)
def NeedPost (l : List (ByteArray × Int)) (w : World) (e : Ending) (w' : World) : Prop := ∃ v, e = .returned v ∧ NeedIs w' v l ∧ Below w.heap.size w w'

theorem needsR_len (op : Int) (key other : ByteArray) : (needsR op key other).length ≤ 2 := by
  unfold needsR
  split
  · simp
  split
  · simp
  split
  · simp
  split
  · simp
  split
  · simp
  split <;> simp
theorem need_mk (w : World) (o : Obj) (l : List (ByteArray × Int)) (C : Array Value) (hC : C = flatN l) (hl : l ≠ []) (n : Nat) (hn : n = l.length) : NeedPost l w (.returned (.slice (some ⟨w.heap.size + 1, 0, none⟩) n n)) ((w.alloc o).alloc (.cells C 74)) := by
  subst hC hn
  refine ⟨_, rfl, Or.inr ⟨_, rfl, hl, ?_⟩, ((Below.refl _ _).alloc (Nat.le_refl _) _).alloc (by simp) _⟩
  have := alloc_new (w.alloc o) (.cells (flatN l) 74)
  simpa only [alloc_size] using this

set_option maxRecDepth 100000 in
set_option maxHeartbeats 1000000 in
theorem needs_any (c : CallR) (w : World) : Calls Tryd.prog 31 #[c.val] w (NeedPost (needsR c.op c.key c.other) w) := by
  obtain ⟨op, key, other, item, qty, da, dl, dc⟩ := c
  unfold CallR.val
  simp only
  have fin : ∀ (l : List (ByteArray × Int)) (w' : World) (v : Value), needsR op key other = l → NeedPost l w (.returned v) w' → NeedPost (needsR op key other) w (.returned v) w' := fun l w' v h h2 => by rw [h]; exact h2
  by_cases h4 : op = 4
  · subst h4
    go_enter Tryd.func31, Tryd.ntmps31
    go_wp2
    go_ret
    exact need_mk w _ _ _ rfl (by simp [needsR]) _ rfl
  by_cases h1 : op = 1
  · subst h1
    go_enter Tryd.func31, Tryd.ntmps31
    go_wp2
    go_ret
    exact need_mk w _ _ _ rfl (by simp [needsR]) _ rfl
  by_cases h3 : op = 3
  · subst h3
    go_enter Tryd.func31, Tryd.ntmps31
    go_wp2
    go_ret
    exact need_mk w _ _ _ rfl (by simp [needsR]) _ rfl
  by_cases h5 : op = 5
  · subst h5
    go_enter Tryd.func31, Tryd.ntmps31
    go_wp2
    go_ret
    exact need_mk w _ _ _ rfl (by simp [needsR]) _ rfl
  by_cases h2 : op = 2
  · subst h2
    go_enter Tryd.func31, Tryd.ntmps31
    go_wp2
    go_ret
    exact need_mk w _ _ _ rfl (by simp [needsR]) _ rfl
  by_cases h6 : op = 6
  · subst h6
    go_enter Tryd.func31, Tryd.ntmps31
    go_wp2
    go_ret
    exact need_mk w _ _ _ rfl (by simp [needsR]) _ rfl
  by_cases h7 : op = 7
  · subst h7
    go_enter Tryd.func31, Tryd.ntmps31
    go_wp2
    go_ret
    exact need_mk w _ _ _ rfl (by simp [needsR]) _ rfl
  have hN : Hid (needsR op key other = []) := Lib.hid (by unfold needsR; rw [if_neg h4, if_neg h1, if_neg (by omega), if_neg h2, if_neg h6, if_neg h7])
  have e1 : (op == 1) = false := by simpa using h1
  have e2 : (op == 2) = false := by simpa using h2
  have e3 : (op == 3) = false := by simpa using h3
  have e4 : (op == 4) = false := by simpa using h4
  have e5 : (op == 5) = false := by simpa using h5
  have e6 : (op == 6) = false := by simpa using h6
  have e7 : (op == 7) = false := by simpa using h7
  clear h1 h2 h3 h4 h5 h6 h7
  go_enter Tryd.func31, Tryd.ntmps31
  go_wp2
  go_ret
  exact fin _ _ _ hN.out ⟨_, rfl, Or.inl ⟨rfl, rfl⟩, (Below.refl _ _).alloc (Nat.le_refl _) _⟩

def isNo (A : List APg) (n : ByteArray × Int) : Bool := (aFind A n.1).isNone
def lacks (A : List APg) (who : ByteArray) (n : ByteArray × Int) : Bool := match aFind A n.1 with
  | none => false
  | some x => bits .and .i64 (x.rights who) n.2 != n.2
def allowsL (A : List APg) (who : ByteArray) (l : List (ByteArray × Int)) : Int := if l.any (isNo A) then 9 else if l.any (lacks A who) then 18 else 0
def allowsE (A : List APg) (who : ByteArray) (c : CallR) : Int :=
  if keyB who && c.ok && !(needsR c.op c.key c.other).isEmpty then allowsL A who (needsR c.op c.key c.other) else 2

theorem flatN_get (l : List (ByteArray × Int)) (k : Nat) (h : k < l.length) : (flatN l)[k * 2]? = some (.string l[k].1) ∧ (flatN l)[k * 2 + 1]? = some (.int .i64 l[k].2) := by
  unfold flatN
  induction l generalizing k with
  | nil => simp at h
  | cons x l ih =>
    cases k with
    | zero => simp
    | succ k =>
      have := ih k (by simpa using h)
      simp only [List.getElem?_toArray, List.flatMap_cons] at this ⊢
      have e1 : (k + 1) * 2 = k * 2 + 1 + 1 := by omega
      rw [e1]
      simpa using this

theorem alloc_cells_lt {w : World} {B : Nat} {C : Array Value} {T : TypeId} (h : w.heap[B]? = some (.cells C T)) (o : Obj) : (w.alloc o).heap[B]? = some (.cells C T) := by
  rw [alloc_old _ _ (lt_of_heap h)]; exact h

set_option maxRecDepth 100000 in
set_option maxHeartbeats 2000000 in
theorem allows_any (b : Nat) (A : List APg) (F : Nat → Prop) (who : ByteArray) (c : CallR) (w : World) (hK : Book w b A F) (hw : who.size ≤ maxLen) (hc : c.fits) (hR : RowsLie w) :
    Calls Tryd.prog 12 #[.pointer (some ⟨b, 0, none⟩), .string who, c.val] w fun e w' => e = .returned (.int .i64 (allowsE A who c)) ∧ Below w.heap.size w w' := by
  obtain ⟨mr, L, hB, hA, hF, hFs⟩ := hK
  have HB := Lib.hid hB
  have HAL := Lib.hid hA
  have HNEED := Lib.hid (fun w0 => needs_any c w0)
  have HKEY := Lib.hid (fun w0 => key_any who w0 hw)
  have HRL : Hid (∀ w', Below w.heap.size w w' → RowsLie w') := Lib.hid (fun w' hb => by
    obtain ⟨C, tt, fz, h1, h2⟩ := hR
    exact ⟨C, tt, fz, by rw [hb.block 0 (lt_of_heap h1), h1], h2⟩)
  have HVAL := Lib.hid (fun w0 h => valid_any c w0 hc h)
  clear hB hA hF hFs hc hR
  obtain ⟨l, hl⟩ : ∃ l, l = needsR c.op c.key c.other := ⟨_, rfl⟩
  have HLEN : Hid (l.length ≤ 2) := Lib.hid (by rw [hl]; exact needsR_len _ _ _)
  obtain ⟨ok, hok⟩ : ∃ ok, ok = c.ok := ⟨_, rfl⟩
  have HE0 : Hid (allowsE A who c = if keyB who && ok && !l.isEmpty then allowsL A who l else 2) := Lib.hid (by subst hl hok; rfl)
  rw [← hl] at HNEED
  rw [← hok] at HVAL
  clear hl hok
  obtain ⟨op, key, other, item, qty, da, dl, dc⟩ := c
  unfold CallR.val at *
  simp only at *
  generalize hcall : (Value.agg #[.int .i64 op, .string key, .string other, .string item, .int .i64 qty, .slice da dl dc]) = cv at *
  have HCV := Lib.hid hcall.symm
  clear hcall
  cases hk : keyB who
  · have HE : Hid (allowsE A who ⟨op, key, other, item, qty, da, dl, dc⟩ = 2) := Lib.hid (by rw [HE0.out, hk]; rfl)
    rw [hk] at HKEY
    clear hk HE0
    rw [HCV.out]
    go_enter Tryd.func12, Tryd.ntmps12
    go_wp2_with (first
      | (go_at_call 31; rw [← HCV.out]; refine (HNEED.out _).mono ?_; rintro e w1 ⟨v, rfl, hv, hb1⟩; have HV := Lib.hid hv; clear hv)
      | (go_at_call 26; refine (HKEY.out _).mono ?_; rintro e w2 ⟨rfl, hb2⟩))
    go_ret
    exact ⟨by rw [HE.out]; rfl, (((Below.refl _ _).alloc (Nat.le_refl _) _).trans (hb1.mono (by simp))).trans (hb2.mono (by have := hb1.size; simp at this; omega))⟩
  · rw [hk] at HKEY
    cases ok
    · have HE : Hid (allowsE A who ⟨op, key, other, item, qty, da, dl, dc⟩ = 2) := Lib.hid (by rw [HE0.out, hk]; rfl)
      clear hk HE0
      rw [HCV.out]
      go_enter Tryd.func12, Tryd.ntmps12
      go_wp2_with (first
        | (go_at_call 31; rw [← HCV.out]; refine (HNEED.out _).mono ?_; rintro e w1 ⟨v, rfl, hv, hb1⟩; have HV := Lib.hid hv; clear hv; have hbx : Below w.heap.size w w1 := ((Below.refl _ _).alloc (Nat.le_refl _) _).trans (hb1.mono (by simp)); obtain ⟨hcl, hfr⟩ := bcell hb1; have hz1 : w.heap.size < w1.heap.size := (by have := hb1.size; simp at this; omega))
        | (go_at_call 26; refine (HKEY.out _).mono ?_; rintro e w2 ⟨rfl, hb2⟩; have hby := hbx.trans (hb2.mono hbx.size); obtain ⟨hcl2, hfr2⟩ := bcell hb2)
        | (go_at_call 32; rw [← HCV.out]; refine (HVAL.out _ (HRL.out _ hby)).mono ?_; rintro e w3 ⟨rfl, hb3⟩))
      go_ret
      exact ⟨by rw [HE.out]; rfl, hby.trans (hb3.mono hby.size)⟩
    · cases l with
      | nil =>
        have HE : Hid (allowsE A who ⟨op, key, other, item, qty, da, dl, dc⟩ = 2) := Lib.hid (by rw [HE0.out, hk]; rfl)
        have HN : Hid (∀ w0, Calls Tryd.prog 31 #[cv] w0 fun e w' => e = .returned (.slice none 0 0) ∧ Below w0.heap.size w0 w') := Lib.hid (fun w0 => (HNEED.out w0).mono (by
          rintro e w' ⟨v, rfl, h | ⟨B, _, h, _⟩, hb⟩
          · rw [h.1]; exact ⟨rfl, hb⟩
          · exact absurd rfl h))
        clear hk HE0
        rw [HCV.out]
        go_enter Tryd.func12, Tryd.ntmps12
        go_wp2_with (first
          | (go_at_call 31; rw [← HCV.out]; refine (HN.out _).mono ?_; rintro e w1 ⟨rfl, hb1⟩; have hbx : Below w.heap.size w w1 := ((Below.refl _ _).alloc (Nat.le_refl _) _).trans (hb1.mono (by simp)); obtain ⟨hcl, hfr⟩ := bcell hb1; have hz1 : w.heap.size < w1.heap.size := (by have := hb1.size; simp at this; omega))
          | (go_at_call 26; refine (HKEY.out _).mono ?_; rintro e w2 ⟨rfl, hb2⟩; have hby := hbx.trans (hb2.mono hbx.size); obtain ⟨hcl2, hfr2⟩ := bcell hb2)
          | (go_at_call 32; rw [← HCV.out]; refine (HVAL.out _ (HRL.out _ hby)).mono ?_; rintro e w3 ⟨rfl, hb3⟩))
        go_ret
        exact ⟨by rw [HE.out]; rfl, hby.trans (hb3.mono hby.size)⟩
      | cons n0 l0 =>
        have HE1 : Hid (allowsE A who ⟨op, key, other, item, qty, da, dl, dc⟩ = allowsL A who (n0 :: l0)) := Lib.hid (by rw [HE0.out, hk]; rfl)
        have HN : Hid (∀ w0, Calls Tryd.prog 31 #[cv] w0 fun e w' => ∃ B, e = .returned (.slice (some ⟨B, 0, none⟩) (n0 :: l0).length (n0 :: l0).length) ∧ w'.heap[B]? = some (.cells (flatN (n0 :: l0)) 74) ∧ Below w0.heap.size w0 w') := Lib.hid (fun w0 => (HNEED.out w0).mono (by
          rintro e w' ⟨v, rfl, h | ⟨B, h1, h, h2⟩, hb⟩
          · exact absurd h.2 (by simp)
          · exact ⟨B, by rw [h1], h2, hb⟩))
        have hpos : 0 < (n0 :: l0).length := by simp
        generalize n0 :: l0 = l at *
        clear hk HE0 HNEED
        have hl2 : l.length ≤ 2 := HLEN.out
        have hne0 : ((l.length : Int) == 0) = false := beq_eq_false_iff_ne.2 (by omega)
        rw [HCV.out]
        go_enter Tryd.func12, Tryd.ntmps12
        go_wp2_with (first
          | (go_at_call 31; rw [← HCV.out]; refine (HN.out _).mono ?_; rintro e w1 ⟨B, rfl, hBl, hb1⟩; have HBL := Lib.hid hBl; clear hBl; have hbx : Below w.heap.size w w1 := ((Below.refl _ _).alloc (Nat.le_refl _) _).trans (hb1.mono (by simp)); obtain ⟨hcl, hfr⟩ := bcell hb1; have hz1 : w.heap.size < w1.heap.size := (by have := hb1.size; simp at this; omega))
          | (go_at_call 26; refine (HKEY.out _).mono ?_; rintro e w2 ⟨rfl, hb2⟩; have hby := hbx.trans (hb2.mono hbx.size); obtain ⟨hcl2, hfr2⟩ := bcell hb2)
          | (go_at_call 32; rw [← HCV.out]; refine (HVAL.out _ (HRL.out _ hby)).mono ?_; rintro e w3 ⟨rfl, hb3⟩; have hbz := hby.trans (hb3.mono hby.size); have HB3 := Lib.hid (HB.out.below hbz); have HBB : Hid (w3.heap[B]? = some (.cells (flatN l) 74)) := Lib.hid (by rw [hb3.block B (Nat.lt_of_lt_of_le (lt_of_heap HBL.out) hb2.size), hb2.block B (lt_of_heap HBL.out)]; exact HBL.out)))
        have HZ := Lib.hid hbz
        clear hcl hfr hcl2 hfr2 hb1 hb2 hb3 hbx hby hbz HBL
        have hBlt := lt_of_heap HBB.out
        go_loopw [33] (fun i wr => ∃ k : Nat, k ≤ l.length ∧ i = .int .i64 k ∧ (l.take k).any (isNo A) = false ∧ Below w3.heap.size w3 wr) (fun i _ => l.length - (intOf i).toNat)
        case atStart => exact ⟨0, Nat.zero_le _, rfl, rfl, Below.refl _ _⟩
        case round =>
          obtain ⟨k, hk, rfl, hany, hB⟩ := hrel
          have hsz := hB.size
          have HBr := Lib.hid hB
          have HA := Lib.hid hany
          clear hB hany
          by_cases hlt : k < l.length
          · obtain ⟨d0, d1⟩ := flatN_get l k hlt
            have e0 : wr.cell? ⟨B, k * 2, none⟩ = some (.string l[k].1) := by rw [HBr.out.cell (p := ⟨_, _, _⟩) hBlt, cell0 HBB.out]; exact d0
            have e1 : wr.cell? ⟨B, k * 2 + 1, none⟩ = some (.int .i64 l[k].2) := by rw [HBr.out.cell (p := ⟨_, _, _⟩) hBlt, cell0 HBB.out]; exact d1
            have HS : Hid ((l.take (k + 1)).any (isNo A) = ((l.take k).any (isNo A) || isNo A l[k])) := Lib.hid (by
              rw [List.take_succ_eq_append_getElem hlt, List.any_append]; simp)
            have HNN : Hid (isNo A l[k] = true → l.any (isNo A) = true) := Lib.hid (fun h => by
              rw [List.any_eq_true]; exact ⟨l[k], List.getElem_mem hlt, h⟩)
            clear d0 d1
            generalize l[k] = nn at *
            obtain ⟨nc, nr⟩ := nn
            simp only at e0 e1
            have HBk := Lib.hid (HB3.out.below HBr.out)
            have hbk : b < wr.heap.size := lt_of_heap HBk.out.hb
            have c0 := cell0 HBk.out.hb 0
            have hlk : ∀ m, (Instr.lookup 32 (.map mr) (.string nc) false).run Tryd.prog ((wr.alloc (.cells #[.string nc, .int .i64 nr] 74)).drewN m) = .ok (((pgA L nc).map PgR.ptr).getD (.pointer none)) ((wr.alloc (.cells #[.string nc, .int .i64 nr] 74)).drewN m) := fun m => ((HBk.out.below ((Below.refl _ _).alloc (Nat.le_refl _) _)).drewN m).look nc
            have HIS : Hid (isNo A (nc, nr) = (pgA L nc).isNone) := Lib.hid (by unfold isNo; rw [HAL.out, aFind_abs]; simp)
            cases hp : pgA L nc with
            | none =>
              rw [hp] at hlk HIS
              simp only [Option.map_none, Option.getD_none] at hlk
              clear hp
              go_wp2
              go_quiet (fail)
              go_wp2
              go_ret
              exact ⟨by rw [HE1.out]; unfold allowsL; rw [if_pos (HNN.out HIS.out)]; rfl, HZ.out.trans ((below_drewN (HBr.out.alloc hsz _) _).mono HZ.out.size)⟩
            | some x =>
              rw [hp] at hlk HIS
              simp only [Option.map_some, Option.getD_some, PgR.ptr] at hlk
              clear hp
              go_wp2
              go_quiet (fail)
              go_wp2
              go_roundw
              case rel => exact ⟨k + 1, by omega, by go_num, by rw [HS.out, HA.out, HIS.out]; rfl, below_drewN (HBr.out.alloc hsz _) _⟩
              case measure => simp [intOf]; omega
          · have hke : k = l.length := by omega
            subst hke
            rw [List.take_of_length_le (Nat.le_refl _)] at HA
            have hsz0 := HBr.out.size
            obtain ⟨wo, rfl⟩ : ∃ wo : World, wo = wr := ⟨_, rfl⟩
            go_wp2
            go_loopw [48] (fun i wq => ∃ k : Nat, k ≤ l.length ∧ i = .int .i64 k ∧ (l.take k).any (lacks A who) = false ∧ Below w3.heap.size w3 wq) (fun i _ => l.length - (intOf i).toNat)
            case atStart => exact ⟨0, Nat.zero_le _, rfl, rfl, HBr.out⟩
            case round =>
              obtain ⟨k, hk, rfl, hany, hB⟩ := hrel
              have hsz := hB.size
              have HBq := Lib.hid hB
              have HA2 := Lib.hid hany
              clear hB hany
              by_cases hlt : k < l.length
              · obtain ⟨d0, d1⟩ := flatN_get l k hlt
                have e0 : wr.cell? ⟨B, k * 2, none⟩ = some (.string l[k].1) := by rw [HBq.out.cell (p := ⟨_, _, _⟩) hBlt, cell0 HBB.out]; exact d0
                have e1 : wr.cell? ⟨B, k * 2 + 1, none⟩ = some (.int .i64 l[k].2) := by rw [HBq.out.cell (p := ⟨_, _, _⟩) hBlt, cell0 HBB.out]; exact d1
                have HS : Hid ((l.take (k + 1)).any (lacks A who) = ((l.take k).any (lacks A who) || lacks A who l[k])) := Lib.hid (by
                  rw [List.take_succ_eq_append_getElem hlt, List.any_append]; simp)
                have HNN : Hid (lacks A who l[k] = true → l.any (lacks A who) = true) := Lib.hid (fun h => by
                  rw [List.any_eq_true]; exact ⟨l[k], List.getElem_mem hlt, h⟩)
                have hno : isNo A l[k] = false := by
                  have := HA.out
                  rw [List.any_eq_false] at this
                  simpa using this l[k] (List.getElem_mem hlt)
                clear d0 d1
                generalize l[k] = nn at *
                obtain ⟨nc, nr⟩ := nn
                simp only at e0 e1
                have HBk := Lib.hid (HB3.out.below HBq.out)
                have hbk : b < wr.heap.size := lt_of_heap HBk.out.hb
                have c0 := cell0 HBk.out.hb 0
                have hlk : ∀ m, (Instr.lookup 32 (.map mr) (.string nc) false).run Tryd.prog ((wr.alloc (.cells #[.string nc, .int .i64 nr] 74)).drewN m) = .ok (((pgA L nc).map PgR.ptr).getD (.pointer none)) ((wr.alloc (.cells #[.string nc, .int .i64 nr] 74)).drewN m) := fun m => ((HBk.out.below ((Below.refl _ _).alloc (Nat.le_refl _) _)).drewN m).look nc
                cases hp : pgA L nc with
                | none => exfalso; unfold isNo at hno; rw [HAL.out, aFind_abs, hp] at hno; simp at hno
                | some x =>
                  rw [hp] at hlk
                  simp only [Option.map_some, Option.getD_some, PgR.ptr] at hlk
                  have HLA : Hid (lacks A who (nc, nr) = (bits .and .i64 (rightsR x who) nr != nr)) := Lib.hid (by unfold lacks; rw [HAL.out, aFind_abs]; simp only [hp]; rfl)
                  have HPR : Hid (∀ m, Calls Tryd.prog 33 #[.pointer (some ⟨x.p, 0, none⟩), .string who] ((wr.alloc (.cells #[.string nc, .int .i64 nr] 74)).drewN m) fun e w' => e = .returned (.int .i64 (rightsR x who)) ∧ w' = (wr.alloc (.cells #[.string nc, .int .i64 nr] 74)).drewN m) := Lib.hid (fun m => (prights_any x who _ (((HBk.out.below ((Below.refl _ _).alloc (Nat.le_refl _) _)).drewN m).hp x (pgA_mem hp).1)).mono fun _ _ ⟨h, h'⟩ => ⟨h, h'.symm⟩)
                  generalize rightsR x who = rr at *
                  clear hp hno
                  cases hbit : (bits .and .i64 rr nr != nr)
                  all_goals
                    rw [hbit] at HLA
                    go_wp2
                    go_quiet ((go_at_call 33; exact Calls.quiet_of_same (HPR.out _)))
                    go_wp2
                  · go_roundw
                    case rel => exact ⟨k + 1, by omega, by go_num, by rw [HS.out, HA2.out, HLA.out]; rfl, below_drewN (HBq.out.alloc hsz _) _⟩
                    case measure => simp [intOf]; omega
                  · go_ret
                    exact ⟨by rw [HE1.out]; unfold allowsL; rw [HA.out, HNN.out HLA.out]; rfl, HZ.out.trans ((below_drewN (HBq.out.alloc hsz _) _).mono HZ.out.size)⟩
              · have hke : k = l.length := by omega
                subst hke
                rw [List.take_of_length_le (Nat.le_refl _)] at HA2
                go_wp2
                go_ret
                exact ⟨by rw [HE1.out]; unfold allowsL; rw [HA.out, HA2.out]; rfl, HZ.out.trans (HBq.out.mono HZ.out.size)⟩
end Go.Proofs.YtdeljhehcjknbaaDoor
