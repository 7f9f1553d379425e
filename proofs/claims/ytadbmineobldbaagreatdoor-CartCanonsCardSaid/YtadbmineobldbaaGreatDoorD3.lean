/- cart.different walked. -/
import Derived.Test.YtadbmineobldbaaGreatDoorMapK
import Derived.Test.YtadbmineobldbaaGreatDoorRow
import Derived.Test.YtadbmineobldbaaGreatDoorC17
import Derived.Test.YtadbmineobldbaaGreatDoorCanonP
namespace Go.Proofs.YtadbmineobldbaaGreatDoor
open Go.RowKit Go.Maps

theorem equalDot (x y : DotD) (w : World) : (Op.equal 63 (dotV x) (dotV y)).run Tryz.prog w = .ok (decide (x = y)) w := by
  have h := eqDot x y w;unfold dotV at h ⊢;rw [run_eql_struct] at h
  show (Op.equalIn 10000 63 _ _).run Tryz.prog w = _
  rcases hr : (Op.equalIn 10000 63 (.agg #[.int .i64 x.rep, .int .i64 x.ctr]) (.agg #[.int .i64 y.rep, .int .i64 y.ctr])).run Tryz.prog w with ⟨b, w'⟩ | _ <;> rw [hr] at h <;> simp [Result.andThen] at h
  obtain ⟨h1, h2⟩ := h;rw [h1, h2]
theorem findAsking_dot (k : DotD) : ∀ (es : List MapEntry) (m : List (DotD × Value)) (i : Nat), es.map (fun e => (e.key, e.val)) = m.map (fun p => (dotV p.1, p.2)) → ∀ w, (Instr.findAsking 63 (dotV k) es i).run Tryz.prog w = .ok (ixK m k i) w
  | [], [], _, _, _ => rfl
  | [], _ :: _, _, h, _ => by simp at h
  | _ :: _, [], _, h, _ => by simp at h
  | e :: es, p :: m, i, h, w => by
    simp only [List.map_cons, List.cons.injEq, Prod.mk.injEq] at h;obtain ⟨⟨h1, h2⟩, h3⟩ := h;unfold Instr.findAsking;rw [h1];simp only [Sem.run_bind, equalDot, Result.andThen_ok, ixK]
    by_cases hk : k = p.1
    · subst hk; simp [h2]
    · simp [hk, findAsking_dot k es m (i + 1) h3 w]
def dotK : KEnc DotD Tryz.prog where
  enc := dotV
  kt := 63
  inj := fun {a b} h => by
    unfold dotV at h;injection h with h
    have h1 := congrArg (fun x : Array Value => x[0]?) h
    have h2 := congrArg (fun x : Array Value => x[1]?) h
    simp at h1 h2
    cases a; cases b
    simp_all
  find := fun k es m h w => by
    cases es with
    | nil =>
      cases m with
      | nil => simp [Instr.findKey, run_underlying Tryz.underlying63, Result.andThen, Instr.findNow, ixK]
      | cons p m => simp at h
    | cons e es =>
      cases m with
      | nil => simp at h
      | cons p m =>
        have hn : ∀ kd, Instr.findNow kd (dotV k) (e :: es) 0 = none := fun kd => by unfold Instr.findNow dotV; cases kd <;> rfl
        unfold Instr.findKey;simp only [Sem.run_bind, run_underlying Tryz.underlying63, Result.andThen_ok, hn];exact findAsking_dot k (e :: es) (p :: m) 0 h w
  check := fun em k w => by
    show Sem.run Tryz.prog (Instr.checkKey em (9999 + 1) 63 (dotV k)) w = _
    have hi : ∀ (n : Int) (w : World), (Instr.checkKey em 9999 3 (.int .i64 n)).run Tryz.prog w = .ok () w := fun n w => by
      show Sem.run Tryz.prog (Instr.checkKey em (9998 + 1) 3 (.int .i64 n)) w = _
      unfold Instr.checkKey
      simp [run_underlying Tryz.underlying3, Result.andThen]
    unfold dotV Instr.checkKey;simp only [Sem.run_bind, run_underlying Tryz.underlying63, Result.andThen_ok];go_simp
  bits := fun k => by
    show Instr.sameBits (9999 + 1) (dotV k) (dotV k) = true
    unfold dotV
    simp [Instr.sameBits]
end Go.Proofs.YtadbmineobldbaaGreatDoor
set_option linter.unusedSimpArgs false
set_option linter.unusedVariables false
namespace Go.Proofs.YtadbmineobldbaaGreatDoor
open Go.RowKit Go.Maps

theorem lkA_put {α : Type} (v : α) : ∀ (m : List (ByteArray × α)) (k k' : ByteArray), lkA (putA m k v) k' = if k' = k then some v else lkA m k'
  | [], k, k' => by simp [putA, lkA]
  | p :: r, k, k' => by
    unfold putA
    by_cases h : k = p.1
    · rw [if_pos h]
      unfold lkA
      by_cases h2 : k' = p.1
      · simp [h, h2]
      · simp [h, h2]
    · rw [if_neg h]
      unfold lkA;rw [lkA_put v r k k']
      by_cases h2 : k' = p.1
      · have : ¬ k' = k := fun e => h (e ▸ h2)
        simp [h2, this]
        intro e; exact absurd e.symm h
      · simp [h2]
theorem lkA_notin {α : Type} : ∀ (m : List (ByteArray × α)) (k : ByteArray), k ∉ m.map (·.1) → lkA m k = none
  | [], _, _ => rfl
  | p :: r, k, h => by
    simp only [List.map_cons, List.mem_cons, not_or] at h;unfold lkA;rw [if_neg h.1];exact lkA_notin r k h.2
theorem lkA_del {α : Type} : ∀ (m : List (ByteArray × α)) (k k' : ByteArray), (m.map (·.1)).Nodup → lkA (delA m k) k' = if k' = k then none else lkA m k'
  | [], k, k', _ => by simp [delA, lkA]
  | p :: r, k, k', hn => by
    simp only [List.map_cons, List.nodup_cons] at hn;unfold delA
    by_cases h : k = p.1
    · rw [if_pos h]
      by_cases h2 : k' = k
      · rw [if_pos h2, h2, h]; exact lkA_notin r p.1 hn.1
      · rw [if_neg h2]
        conv => rhs; unfold lkA
        rw [if_neg (by rw [← h]; exact h2)]
    · rw [if_neg h]
      unfold lkA;rw [lkA_del r k k' hn.2]
      by_cases h2 : k' = p.1
      · have : ¬ k' = k := fun e => h (e ▸ h2)
        simp [h2]
        intro e; exact absurd e.symm h
      · simp [h2]
section
variable {κ : Type} [DecidableEq κ]
theorem lkK_put {α : Type} (v : α) : ∀ (m : List (κ × α)) (k k' : κ), lkK (putK m k v) k' = if k' = k then some v else lkK m k'
  | [], k, k' => by simp [putK, lkK]
  | p :: r, k, k' => by
    unfold putK
    by_cases h : k = p.1
    · rw [if_pos h]
      unfold lkK
      by_cases h2 : k' = p.1
      · simp [h, h2]
      · simp [h, h2]
    · rw [if_neg h]
      unfold lkK;rw [lkK_put v r k k']
      by_cases h2 : k' = p.1
      · have : ¬ k' = k := fun e => h (e ▸ h2)
        simp [h2]
        intro e; exact absurd e.symm h
      · simp [h2]
theorem lkK_notin {α : Type} : ∀ (m : List (κ × α)) (k : κ), k ∉ m.map (·.1) → lkK m k = none
  | [], _, _ => rfl
  | p :: r, k, h => by
    simp only [List.map_cons, List.mem_cons, not_or] at h;unfold lkK;rw [if_neg h.1];exact lkK_notin r k h.2
theorem lkK_del {α : Type} : ∀ (m : List (κ × α)) (k k' : κ), (m.map (·.1)).Nodup → lkK (delK m k) k' = if k' = k then none else lkK m k'
  | [], k, k', _ => by simp [delK, lkK]
  | p :: r, k, k', hn => by
    simp only [List.map_cons, List.nodup_cons] at hn;unfold delK
    by_cases h : k = p.1
    · rw [if_pos h]
      by_cases h2 : k' = k
      · rw [if_pos h2, h2, h]; exact lkK_notin r p.1 hn.1
      · rw [if_neg h2]
        conv => rhs; unfold lkK
        rw [if_neg (by rw [← h]; exact h2)]
    · rw [if_neg h]
      unfold lkK;rw [lkK_del r k k' hn.2]
      by_cases h2 : k' = p.1
      · have : ¬ k' = k := fun e => h (e ▸ h2)
        simp [h2]
        intro e; exact absurd e.symm h
      · simp [h2]
end
def NSet (w : World) (r : Nat) (S : ByteArray → Bool) : Prop := ∃ m, MapIs w r m ∧ ∀ k, lkA m k = if S k then some (.bool true) else none
def DSet (w : World) (r : Nat) (S : DotD → Bool) : Prop := ∃ m, MapK dotK w r m ∧ ∀ k, lkK m k = if S k then some (.bool true) else none
theorem NSet.of {w w' : World} {r : Nat} {S : ByteArray → Bool} (h : NSet w r S) (hb : w'.heap[r]? = w.heap[r]?) : NSet w' r S := by
  obtain ⟨m, h1, h2⟩ := h;exact ⟨m, h1.of_block hb, h2⟩
theorem DSet.of {w w' : World} {r : Nat} {S : DotD → Bool} (h : DSet w r S) (hb : w'.heap[r]? = w.heap[r]?) : DSet w' r S := by
  obtain ⟨m, h1, h2⟩ := h;exact ⟨m, h1.of_block hb, h2⟩
theorem NSet.lt {w : World} {r : Nat} {S : ByteArray → Bool} (h : NSet w r S) : r < w.heap.size := by
  obtain ⟨m, ⟨es, clk, h1, _⟩, _⟩ := h;exact lt_of_heap h1
theorem DSet.lt {w : World} {r : Nat} {S : DotD → Bool} (h : DSet w r S) : r < w.heap.size := by
  obtain ⟨m, ⟨es, clk, h1, _⟩, _⟩ := h;exact lt_of_heap h1
def nmsTo (l : List ItemD) (k : Nat) (nm : ByteArray) : Bool := (l.take k).any (fun x => decide (nm = x.name))
def dtsTo (l : List ItemD) (k : Nat) (ms : List MarkD) (j : Nat) (d : DotD) : Bool := (allDots (l.take k) ++ dotsM (ms.take j)).any (fun x => decide (d = x))
theorem nmsTo_iff {l : List ItemD} {k : Nat} {nm : ByteArray} : nmsTo l k nm = true ↔ nm ∈ (l.take k).map (·.name) := by
  unfold nmsTo;rw [List.any_eq_true, List.mem_map]
  constructor
  · rintro ⟨x, hx, h⟩
    exact ⟨x, hx, (of_decide_eq_true h).symm⟩
  · rintro ⟨x, hx, h⟩
    exact ⟨x, hx, decide_eq_true h.symm⟩
theorem dtsTo_iff {l : List ItemD} {k : Nat} {ms : List MarkD} {j : Nat} {d : DotD} : dtsTo l k ms j d = true ↔ d ∈ allDots (l.take k) ++ dotsM (ms.take j) := by
  unfold dtsTo;rw [List.any_eq_true]
  constructor
  · rintro ⟨x, hx, h⟩
    rw [of_decide_eq_true h]; exact hx
  · intro h
    exact ⟨d, h, decide_eq_true rfl⟩
theorem nmsTo_succ (l : List ItemD) (k : Nat) (h : k < l.length) (nm : ByteArray) : nmsTo l (k + 1) nm = (decide (nm = l[k].name) || nmsTo l k nm) := by
  unfold nmsTo;rw [List.take_succ_eq_append_getElem h, List.any_append]
  simp [Bool.or_comm]
theorem dtsTo_step (l : List ItemD) (k : Nat) (ms : List MarkD) (j : Nat) (h : j < ms.length) (d : DotD) : dtsTo l k ms (j + 1) d = (decide (d = ms[j].dot) || dtsTo l k ms j d) := by
  unfold dtsTo;rw [List.take_succ_eq_append_getElem h];unfold dotsM;rw [List.map_append, ← List.append_assoc, List.any_append]
  simp [Bool.or_comm]
theorem dtsTo_next (l : List ItemD) (k : Nat) (h : k < l.length) (ms : List MarkD) : dtsTo l k l[k].marks l[k].marks.length = dtsTo l (k + 1) ms 0 := by
  funext d
  unfold dtsTo;rw [List.take_length, List.take_succ_eq_append_getElem h, allDots_append]
  simp [allDots, dotsM]
theorem pre_dots (l : List ItemD) (k : Nat) (h : k < l.length) (j : Nat) : (allDots (l.take k) ++ dotsM (l[k].marks.take j)).Sublist (allDots l) := by
  have e : l = l.take k ++ l[k] :: l.drop (k + 1) := by rw [List.getElem_cons_drop, List.take_append_drop]
  have e2 : allDots l = allDots (l.take k) ++ (dotsM l[k].marks ++ allDots (l.drop (k + 1))) := by
    conv => lhs; rw [e]
    rw [allDots_append, allDots_cons]
  rw [e2];refine List.Sublist.append (List.Sublist.refl _) ?_;exact ((List.take_sublist j _).map _).trans (List.sublist_append_left _ _)
theorem diff_name {l : List ItemD} {k : Nat} (h : k < l.length) (hn : nmsTo l k l[k].name = true) : diffI l = false := by
  unfold diffI;have : ¬ (l.map (·.name)).Nodup := fun hd => by
    have h1 : ((l.take (k + 1)).map (·.name)).Nodup := hd.sublist ((List.take_sublist _ _).map _);rw [List.take_succ_eq_append_getElem h, List.map_append, List.nodup_append] at h1;exact h1.2.2 _ (nmsTo_iff.1 hn) l[k].name (by simp) rfl
  rw [decide_eq_false this]; rfl
theorem diff_dot {l : List ItemD} {k j : Nat} (h : k < l.length) (hj : j < l[k].marks.length) (hd : dtsTo l k l[k].marks j l[k].marks[j].dot = true) : diffI l = false := by
  unfold diffI;have : ¬ (allDots l).Nodup := fun hn => by
    have h1 := hn.sublist (pre_dots l k h (j + 1));rw [List.take_succ_eq_append_getElem hj] at h1;unfold dotsM at h1;rw [List.map_append, ← List.append_assoc, List.nodup_append] at h1;exact h1.2.2 _ (dtsTo_iff.1 hd) l[k].marks[j].dot (by simp) rfl
  rw [decide_eq_false this]; simp
theorem diff_true {l : List ItemD} (hn : ∀ k (h : k < l.length), nmsTo l k l[k].name = false) (hd : ∀ k (h : k < l.length) j (hj : j < l[k].marks.length), dtsTo l k l[k].marks j l[k].marks[j].dot = false) : diffI l = true := by
  have h1 : ∀ k, k ≤ l.length → ((l.take k).map (·.name)).Nodup := by
    intro k
    induction k with
    | zero => intro _; simp
    | succ k ih =>
      intro hk;rw [List.take_succ_eq_append_getElem (by omega), List.map_append, List.nodup_append]
      refine ⟨ih (by omega), by simp, fun a ha b hb e => ?_⟩
      simp at hb
      subst e;rw [hb] at ha;have := nmsTo_iff.2 ha;rw [hn k (by omega)] at this
      cases this
  have h2 : ∀ k, k ≤ l.length → (allDots (l.take k)).Nodup := by
    intro k
    induction k with
    | zero => intro _; simp [allDots]
    | succ k ih =>
      intro hk;have hk2 : k < l.length := by omega
      have h3 : ∀ j, j ≤ l[k].marks.length → (allDots (l.take k) ++ dotsM (l[k].marks.take j)).Nodup := by
        intro j
        induction j with
        | zero => intro _; simpa [dotsM] using ih (by omega)
        | succ j ihj =>
          intro hj;rw [List.take_succ_eq_append_getElem (by omega)]
          unfold dotsM;rw [List.map_append, ← List.append_assoc, List.nodup_append];refine ⟨ihj (by omega), by simp, fun a ha b hb e => ?_⟩
          simp at hb
          subst e;rw [hb] at ha;have := dtsTo_iff.2 ha;rw [hd k hk2 j (by omega)] at this
          cases this
      have := h3 _ (Nat.le_refl _);rw [List.take_length] at this;rw [List.take_succ_eq_append_getElem hk2, allDots_append]
      simpa [allDots] using this
  unfold diffI;have a1 := h1 _ (Nat.le_refl _);have a2 := h2 _ (Nat.le_refl _);rw [List.take_length] at a1 a2;rw [decide_eq_true a1, decide_eq_true a2]; rfl
theorem NSet.new (w : World) : NSet (w.alloc (.map #[] 0)) w.heap.size (fun _ => false) := ⟨[], mapIs_new w, fun _ => rfl⟩
theorem DSet.new (w : World) : DSet (w.alloc (.map #[] 0)) w.heap.size (fun _ => false) := ⟨[], mapK_new w, fun _ => rfl⟩
theorem nmsTo_zero (l : List ItemD) : nmsTo l 0 = fun _ => false := by funext nm; simp [nmsTo]
theorem dtsTo_zero (l : List ItemD) (ms : List MarkD) : dtsTo l 0 ms 0 = fun _ => false := by funext d; simp [dtsTo, allDots, dotsM]
theorem dtsTo_any (l : List ItemD) (k : Nat) (ms ms' : List MarkD) : dtsTo l k ms 0 = dtsTo l k ms' 0 := by funext d; simp [dtsTo, dotsM]
theorem NSet.put {w : World} {r : Nat} {S S' : ByteArray → Bool} {m : List (ByteArray × Value)} {nm : ByteArray} (h : MapIs w r (putA m nm (.bool true))) (hl : ∀ k, lkA m k = if S k then some (.bool true) else none) (hS : ∀ k, S' k = (decide (k = nm) || S k)) : NSet w r S' := ⟨_, h, fun k => by
  rw [lkA_put, hl, hS]
  by_cases hk : k = nm <;> simp [hk]⟩
theorem NSet.del {w w0 : World} {r : Nat} {S S' : ByteArray → Bool} {m : List (ByteArray × Value)} {nm : ByteArray} (h : MapIs w r (delA m nm)) (hm : MapIs w0 r m) (hl : ∀ k, lkA m k = if S k then some (.bool true) else none) (hS : ∀ k, S' k = (!decide (k = nm) && S k)) : NSet w r S' := ⟨_, h, fun k => by
  rw [lkA_del _ _ _ hm.nodup, hl, hS]
  by_cases hk : k = nm <;> simp [hk]⟩
theorem DSet.put {w : World} {r : Nat} {S S' : DotD → Bool} {m : List (DotD × Value)} {d : DotD} (h : MapK dotK w r (putK m d (.bool true))) (hl : ∀ k, lkK m k = if S k then some (.bool true) else none) (hS : ∀ k, S' k = (decide (k = d) || S k)) : DSet w r S' := ⟨_, h, fun k => by
  rw [lkK_put, hl, hS]
  by_cases hk : k = d <;> simp [hk]⟩
theorem DSet.del {w w0 : World} {r : Nat} {S S' : DotD → Bool} {m : List (DotD × Value)} {d : DotD} (h : MapK dotK w r (delK m d)) (hm : MapK dotK w0 r m) (hl : ∀ k, lkK m k = if S k then some (.bool true) else none) (hS : ∀ k, S' k = (!decide (k = d) && S k)) : DSet w r S' := ⟨_, h, fun k => by
  rw [lkK_del _ _ _ hm.nodup, hl, hS]
  by_cases hk : k = d <;> simp [hk]⟩
set_option linter.unusedSimpArgs false in
set_option linter.unusedVariables false in
set_option maxRecDepth 100000 in
set_option maxHeartbeats 16000000 in
theorem cartDifferent_any (l : List ItemD) (v : Value) (w : World) (h : Arr ItemR 2 w v l) (hl : Lt l) : Calls Tryz.prog 46 #[v] w fun e w' => e = .returned (.bool (diffI l)) ∧ Below w.heap.size w w' := by
  obtain ⟨o, c, rfl, hel⟩ := h.itemAt;have HEL := Hd hel;have HLT := Hd hl;have hmm := @run_makeMap Tryz.prog;obtain ⟨W1, hW1⟩ : ∃ x, x = w.alloc (.map #[] 0) := ⟨_, rfl⟩;obtain ⟨W2, hW2⟩ : ∃ x, x = W1.alloc (.map #[] 0) := ⟨_, rfl⟩;have hb1 : Below w.heap.size w W1 := by rw [hW1]; exact bal
  have hb12 : Below W1.heap.size W1 W2 := by rw [hW2]; exact bal
  have hs1 : W1.heap.size = w.heap.size + 1 := by rw [hW1, alloc_size]
  have hn2 : NSet W2 w.heap.size (nmsTo l 0) := by
    rw [nmsTo_zero];have h1 : NSet W1 w.heap.size (fun _ => false) := by rw [hW1]; exact NSet.new w
    exact h1.of (hb12.block _ (by omega))
  have hd2 : DSet W2 (w.heap.size + 1) (dtsTo l 0 [] 0) := by
    rw [dtsTo_zero, ← hs1, hW2]; exact DSet.new W1
  have HN2 := Hd hn2;have HD2 := Hd hd2;have HB2 := Hd (btr hb1 hb12);have HW2 : Hid (W2 = (w.alloc (.map #[] 0)).alloc (.map #[] 0)) := Hd (by rw [hW2, hW1])
  have HZ : ∀ W : World, (zeroValue 4).run Tryz.prog W = .ok (.bool false) W := fun W => by go_simp
  have HZZ := Hd HZ;have hne : w.heap.size ≠ w.heap.size + 1 := by omega
  have HNE := Hd hne;clear h hel hl hW1 hW2 hb1 hb12 hs1 hn2 hd2 HZ hne
  go_enter Tryz.func46, Tryz.ntmps46
  go_wp2_with fail
  rw [← HW2.out];clear hmm
  go_loopw [17] (fun iv wr => ∃ k : Nat, k ≤ l.length ∧ iv = .int .i64 k ∧ NSet wr w.heap.size (nmsTo l k) ∧ DSet wr (w.heap.size + 1) (dtsTo l k [] 0) ∧ Below w.heap.size w wr) (fun iv _ => l.length - (intOf iv).toNat)
  case atStart => exact ⟨0, Nat.zero_le _, rfl, HN2.out, HD2.out, HB2.out⟩
  case round =>
    obtain ⟨k, hk, rfl, hn, hd, hB⟩ := hrel;have HB := Hd hB;have HD := Hd hd;have HNS := Hd hn;clear hB hd hn
    by_cases hlt : k < l.length
    · obtain ⟨b, off, mv, rfl, hbl, e0, e1, hns, hmk⟩ := HEL.out k hlt
      have f0 : wr.cell? ⟨b, off + k * 2, none⟩ = some (.string l[k].name) := by rw [HB.out.cell (p := ⟨_, _, _⟩) hbl]; exact e0
      have f1 : wr.cell? ⟨b, off + k * 2 + 1, none⟩ = some mv := by rw [HB.out.cell (p := ⟨_, _, _⟩) hbl]; exact e1
      have HSU := Hd (nmsTo_succ l k hlt);have HDN := Hd (dtsTo_next l k hlt []);have hlm := HLT.out.2 _ (List.getElem_mem hlt);have hll := HLT.out.1;obtain ⟨om, cm, rfl, hmel⟩ := hmk.markAt;have HME := Hd hmel;generalize hMS : l[k].marks = ms at *
      generalize l[k].name = nm at *
      obtain ⟨W3, hW3⟩ : ∃ x, x = wr.alloc (.cells #[.string nm, .slice om ms.length cm] 56) := ⟨_, rfl⟩;have hb3 : Below wr.heap.size wr W3 := by rw [hW3]; exact bal
      have hx3 : W3.heap[wr.heap.size]? = some (.cells #[.string nm, .slice om ms.length cm] 56) := by rw [hW3]; exact alloc_new _ _
      have hlt1 := HNS.out.lt;have hlt2 := HD.out.lt;obtain ⟨m1, hm1, hl1⟩ := HNS.out.of (hb3.block _ hlt1);have HD3 := Hd (HD.out.of (hb3.block _ hlt2));have HM1 := Hd hm1;have HL1 := Hd hl1;have HX3 := Hd hx3;have HB3 := Hd (btr HB.out hb3);have hlt3 : w.heap.size < W3.heap.size := Nat.lt_of_lt_of_le hlt1 hb3.size;have y0 : W3.cell? ⟨wr.heap.size, 0, none⟩ = some (.string nm) := cl0 hx3 0 rfl;have HW3 := Hd hW3;have a0 : (0 : Int) ≤ k := by omega
      have a1 : (k : Int) < (l.length : Int) := by omega
      have hkw : IntKind.i64.wrap ((k : Int) + 1) = (k : Int) + 1 := by rw [IntKind.wrap_i64]; omega
      have hneb : wr.heap.size ≠ w.heap.size := by omega
      have hneb2 : wr.heap.size ≠ w.heap.size + 1 := by omega
      clear e0 e1 hbl hns hmk hmel hb3 hx3 hW3 hm1 hl1
      go_upto_region 5 with fail
      rw [← HW3.out];clear HW3 f0 f1
      go_wp2_with (at_mapUpdate; refine wpList_updS rfl _ _ _ rfl Tryz.underlying112 Tryz.underlying9 rfl HM1.out nm rfl _ rfl ?_; intro w4 hm4 hg4; have hx4 := (hg4.block _ (lt_of_heap HX3.out) (fun e => hneb (by injection e))).trans HX3.out; have z1 : w4.cell? ⟨wr.heap.size, 1, none⟩ = some (.slice om ms.length cm) := cl0 hx4 1 rfl)
      have HN4 : Hid (NSet w4 w.heap.size (nmsTo l (k + 1))) := Hd (NSet.put hm4 HL1.out HSU.out);have HD4 : Hid (DSet w4 (w.heap.size + 1) (dtsTo l k ms 0)) := Hd (by
        rw [dtsTo_any l k ms []];exact HD3.out.of (hg4.block _ HD3.out.lt (fun e => HNE.out (by injection e with e; exact e.symm))))
      have HB4 := Hd (HB3.out.grown hg4 (Nat.le_of_lt hlt3) (fun j hj => by injection hj with hj; omega))
      clear hm4 hg4 hx4 z1 y0 HX3 HM1 HL1 HD3 HB3;clear HB HD HNS;obtain ⟨wo, hwo⟩ : ∃ x, x = wr.heap.size := ⟨_, rfl⟩;clear hwo
      go_loopw [27] (fun jv wi => ∃ j : Nat, j ≤ ms.length ∧ jv = .int .i64 j ∧ NSet wi w.heap.size (nmsTo l (k + 1)) ∧ DSet wi (w.heap.size + 1) (dtsTo l k ms j) ∧ Below w.heap.size w wi) (fun jv _ => ms.length - (intOf jv).toNat)
      case atStart => exact ⟨0, Nat.zero_le _, rfl, HN4.out, HD4.out, HB4.out⟩
      case round =>
        clear HN4 HD4 HB4;obtain ⟨j, hj, rfl, hn, hd, hB⟩ := hrel;have HB := Hd hB;have HD := Hd hd;have HNS := Hd hn;clear hB hd hn
        by_cases hjt : j < ms.length
        · obtain ⟨bm, offm, rfl, hbml, e0, e1, e2, e3, -⟩ := HME.out j hjt
          have f0 : wr.cell? ⟨bm, offm + j * 4, none⟩ = some (.int .i64 ms[j].dot.rep) := by rw [HB.out.cell (p := ⟨_, _, _⟩) hbml]; exact e0
          have f1 : wr.cell? ⟨bm, offm + j * 4 + 1, none⟩ = some (.int .i64 ms[j].dot.ctr) := by rw [HB.out.cell (p := ⟨_, _, _⟩) hbml]; exact e1
          have f2 : wr.cell? ⟨bm, offm + j * 4 + 2, none⟩ = some (.int .i64 ms[j].qty) := by rw [HB.out.cell (p := ⟨_, _, _⟩) hbml]; exact e2
          have f3 : wr.cell? ⟨bm, offm + j * 4 + 3, none⟩ = some (.int .u64 ms[j].time) := by rw [HB.out.cell (p := ⟨_, _, _⟩) hbml]; exact e3
          have HSJ := Hd (dtsTo_step l k ms j hjt);generalize ms[j] = mk at *
          obtain ⟨W5, hW5⟩ : ∃ x, x = wr.alloc (.cells #[.int .i64 mk.dot.rep, .int .i64 mk.dot.ctr, .int .i64 mk.qty, .int .u64 mk.time] 65) := ⟨_, rfl⟩;have hb5 : Below wr.heap.size wr W5 := by rw [hW5]; exact bal
          have hx5 : W5.heap[wr.heap.size]? = some (.cells #[.int .i64 mk.dot.rep, .int .i64 mk.dot.ctr, .int .i64 mk.qty, .int .u64 mk.time] 65) := by rw [hW5]; exact alloc_new _ _
          have hlt1 := HNS.out.lt;have hlt2 := HD.out.lt;obtain ⟨m2, hm2, hl2⟩ := HD.out.of (hb5.block _ hlt2);have HN5 := Hd (HNS.out.of (hb5.block _ hlt1));have HM2 := Hd hm2;have HL2 := Hd hl2;have HB5 := Hd (btr HB.out hb5);have hlt3 : w.heap.size < W5.heap.size := Nat.lt_of_lt_of_le hlt1 hb5.size;have y0 : W5.cell? ⟨wr.heap.size, 0, none⟩ = some (.int .i64 mk.dot.rep) := cl0 hx5 0 rfl;have y1 : W5.cell? ⟨wr.heap.size, 1, none⟩ = some (.int .i64 mk.dot.ctr) := cl0 hx5 1 rfl;have HW5 := Hd hW5;have b0 : (0 : Int) ≤ j := by omega
          have b1 : (j : Int) < (ms.length : Int) := by omega
          have hjw : IntKind.i64.wrap ((j : Int) + 1) = (j : Int) + 1 := by rw [IntKind.wrap_i64]; omega
          clear e0 e1 e2 e3 hbml hb5 hx5 hW5 hm2 hl2
          go_upto_region 9 with fail
          rw [← HW5.out];clear HW5 f0 f1 f2 f3
          go_wp2_with (at_mapUpdate; refine wpList_updK (E := dotK) rfl _ _ _ rfl Tryz.underlying113 rfl HM2.out mk.dot rfl _ rfl ?_; intro w6 hm6 hg6)
          have HD6 : Hid (DSet w6 (w.heap.size + 1) (dtsTo l k ms (j + 1))) := Hd (DSet.put hm6 HL2.out HSJ.out);have HN6 : Hid (NSet w6 w.heap.size (nmsTo l (k + 1))) := Hd (HN5.out.of (hg6.block _ HN5.out.lt (fun e => HNE.out (by injection e))))
          have HB6 := Hd (HB5.out.grown hg6 (Nat.le_of_lt hlt3) (fun j hj => by injection hj with hj; omega))
          clear hm6 hg6 y0 y1 HM2 HL2 HN5 HB5
          go_roundw
          case rel => exact ⟨j + 1, by omega, by go_num, HN6.out, HD6.out, HB6.out⟩
          case measure => simp [intOf]; omega
        · have hje : j = ms.length := by omega
          have b1 : ¬ ((j : Int) < (ms.length : Int)) := by omega
          have HD7 : Hid (DSet wr (w.heap.size + 1) (dtsTo l (k + 1) [] 0)) := Hd (by rw [← HDN.out, ← hje]; exact HD.out)
          clear HD
          go_wp2_with fail
          go_roundw
          case rel => exact ⟨k + 1, by omega, by go_num, HNS.out, HD7.out, HB.out⟩
          case measure => simp [intOf]; omega
    · have hke : k = l.length := by omega
      have a1 : ¬ ((k : Int) < (l.length : Int)) := by omega
      have HALLN : Hid (∀ k (h : k < l.length), nmsTo l l.length l[k].name = true) := Hd (fun k h => nmsTo_iff.2 (by rw [List.take_length]; exact List.mem_map.2 ⟨_, List.getElem_mem h, rfl⟩))
      have HALLD : Hid (∀ k (h : k < l.length) j (hj : j < l[k].marks.length), dtsTo l l.length [] 0 l[k].marks[j].dot = true) := Hd (fun k h j hj => dtsTo_iff.2 (by
        rw [List.take_length];refine List.mem_append.2 (Or.inl ?_);unfold allDots dotsM;exact List.mem_flatMap.2 ⟨_, List.getElem_mem h, List.mem_map.2 ⟨_, List.getElem_mem hj, rfl⟩⟩))
      have hnn := HNS.out;have hdd := HD.out;rw [hke] at hnn hdd;have HNF : Hid (NSet wr w.heap.size (fun nm => !nmsTo l 0 nm && nmsTo l l.length nm)) := Hd (by rw [nmsTo_zero]; simpa using hnn)
      have HDF : Hid (DSet wr (w.heap.size + 1) (fun d => !dtsTo l 0 [] 0 d && dtsTo l l.length [] 0 d)) := Hd (by rw [dtsTo_zero]; simpa using hdd)
      clear hnn hdd HNS HD hk hke
      go_wp2_with fail
      go_loopw [38] (fun iv wr => ∃ k : Nat, k ≤ l.length ∧ iv = .int .i64 k ∧ NSet wr w.heap.size (fun nm => !nmsTo l k nm && nmsTo l l.length nm) ∧ DSet wr (w.heap.size + 1) (fun d => !dtsTo l k [] 0 d && dtsTo l l.length [] 0 d) ∧ (∀ k', k' < k → ∀ (h : k' < l.length), nmsTo l k' l[k'].name = false ∧ ∀ j (hj : j < l[k'].marks.length), dtsTo l k' l[k'].marks j l[k'].marks[j].dot = false) ∧ Below w.heap.size w wr) (fun iv _ => l.length - (intOf iv).toNat)
      case atStart => exact ⟨0, Nat.zero_le _, rfl, HNF.out, HDF.out, fun k' hk' => absurd hk' (Nat.not_lt_zero k'), HB.out⟩
      case round =>
        clear HNF HDF HB a1 hlt;obtain ⟨k, hk, rfl, hn, hd, hok, hB⟩ := hrel;have HB := Hd hB;have HD := Hd hd;have HNS := Hd hn;have HOK := Hd hok;clear hB hd hn hok
        by_cases hlt : k < l.length
        · obtain ⟨b, off, mv, rfl, hbl, e0, e1, hns, hmk⟩ := HEL.out k hlt
          have f0 : wr.cell? ⟨b, off + k * 2, none⟩ = some (.string l[k].name) := by rw [HB.out.cell (p := ⟨_, _, _⟩) hbl]; exact e0
          have f1 : wr.cell? ⟨b, off + k * 2 + 1, none⟩ = some mv := by rw [HB.out.cell (p := ⟨_, _, _⟩) hbl]; exact e1
          have HSU := Hd (nmsTo_succ l k hlt);have HDN := Hd (dtsTo_next l k hlt []);have HAN := Hd (HALLN.out k hlt);have HAD := Hd (HALLD.out k hlt);have HBADN : Hid (nmsTo l k l[k].name = true → diffI l = false) := Hd (fun h => diff_name hlt h)
          have HBADD : Hid (∀ j (hj : j < l[k].marks.length), dtsTo l k l[k].marks j l[k].marks[j].dot = true → diffI l = false) := Hd (fun j hj h => diff_dot hlt hj h)
          have HOK2 : Hid (nmsTo l k l[k].name = false → (∀ j (hj : j < l[k].marks.length), dtsTo l k l[k].marks j l[k].marks[j].dot = false) → ∀ k', k' < k + 1 → ∀ (h : k' < l.length), nmsTo l k' l[k'].name = false ∧ ∀ j (hj : j < l[k'].marks.length), dtsTo l k' l[k'].marks j l[k'].marks[j].dot = false) := Hd (fun h1 h2 k' hk' h => by
            rcases Nat.lt_or_ge k' k with h3 | h3
            · exact HOK.out k' h3 h
            · obtain rfl : k' = k := by omega
              exact ⟨h1, h2⟩)
          have hlm := HLT.out.2 _ (List.getElem_mem hlt);have hll := HLT.out.1;obtain ⟨om, cm, rfl, hmel⟩ := hmk.markAt;have HME := Hd hmel;generalize hMS : l[k].marks = ms at *
          generalize l[k].name = nm at *
          obtain ⟨W3, hW3⟩ : ∃ x, x = wr.alloc (.cells #[.string nm, .slice om ms.length cm] 56) := ⟨_, rfl⟩;have hb3 : Below wr.heap.size wr W3 := by rw [hW3]; exact bal
          have hx3 : W3.heap[wr.heap.size]? = some (.cells #[.string nm, .slice om ms.length cm] 56) := by rw [hW3]; exact alloc_new _ _
          have hlt1 := HNS.out.lt;have hlt2 := HD.out.lt;obtain ⟨m1, hm1, hl1⟩ := HNS.out.of (hb3.block _ hlt1);have HD3 := Hd (HD.out.of (hb3.block _ hlt2));have HM1 := Hd hm1;have HL1 := Hd hl1;have HX3 := Hd hx3;have HB3 := Hd (btr HB.out hb3);have hlt3 : w.heap.size < W3.heap.size := Nat.lt_of_lt_of_le hlt1 hb3.size;have y0 : W3.cell? ⟨wr.heap.size, 0, none⟩ = some (.string nm) := cl0 hx3 0 rfl;have HW3 := Hd hW3;have a0 : (0 : Int) ≤ k := by omega
          have a1 : (k : Int) < (l.length : Int) := by omega
          have hkw : IntKind.i64.wrap ((k : Int) + 1) = (k : Int) + 1 := by rw [IntKind.wrap_i64]; omega
          have hneb : wr.heap.size ≠ w.heap.size := by omega
          have hneb2 : wr.heap.size ≠ w.heap.size + 1 := by omega
          have HLK : Hid ((lkA m1 nm).getD (.bool false) = .bool (!nmsTo l k nm)) := Hd (by
            rw [hl1]
            show (if (!nmsTo l k nm && nmsTo l l.length nm) = true then some (Value.bool true) else none).getD (.bool false) = _
            rw [HAN.out, Bool.and_true]
            cases nmsTo l k nm <;> rfl)
          clear e0 e1 hbl hns hmk hmel hb3 hx3 hW3 hm1 hl1 HAN
          go_upto_region 15 with fail
          rw [← HW3.out];clear HW3 f0 f1
          cases hbn : nmsTo l k nm with
          | true =>
            have HLK2 : Hid ((lkA m1 nm).getD (.bool false) = .bool false) := Hd (by rw [HLK.out, hbn]; rfl)
            have HF := Hd (HBADN.out hbn);clear hbn HLK HBADN HBADD HOK2 HOK
            go_wp2_with (at_lookup; go_loud (refine wpList_lookS rfl _ _ rfl Tryz.underlying112 Tryz.underlying9 (HZZ.out _) rfl HM1.out nm rfl ?_); go_loud (rw [HLK2.out]))
            go_ret
            exact ⟨by rw [HF.out]; rfl, HB3.out⟩
          | false =>
            have HLK2 : Hid ((lkA m1 nm).getD (.bool false) = .bool true) := Hd (by rw [HLK.out, hbn]; rfl)
            have HNF := Hd hbn;clear hbn HLK HBADN
            go_wp2_with (first | (at_lookup; go_loud (refine wpList_lookS rfl _ _ rfl Tryz.underlying112 Tryz.underlying9 (HZZ.out _) rfl HM1.out nm rfl ?_); go_loud (rw [HLK2.out])) | (at_delete; refine wpList_delS rfl _ _ rfl Tryz.underlying112 Tryz.underlying9 rfl HM1.out nm rfl ?_; intro w4 hm4 hg4; have hx4 := (hg4.block _ (lt_of_heap HX3.out) (fun e => hneb (by injection e))).trans HX3.out; have z1 : w4.cell? ⟨wr.heap.size, 1, none⟩ = some (.slice om ms.length cm) := cl0 hx4 1 rfl))
            have HN4 : Hid (NSet w4 w.heap.size (fun nm => !nmsTo l (k + 1) nm && nmsTo l l.length nm)) := Hd (NSet.del hm4 HM1.out HL1.out (fun q => by rw [HSU.out, Bool.not_or, Bool.and_assoc]))
            have HD4 : Hid (DSet w4 (w.heap.size + 1) (fun d => !dtsTo l k ms 0 d && dtsTo l l.length [] 0 d)) := Hd (by
              rw [dtsTo_any l k ms []];exact HD3.out.of (hg4.block _ HD3.out.lt (fun e => HNE.out (by injection e with e; exact e.symm))))
            have HB4 := Hd (HB3.out.grown hg4 (Nat.le_of_lt hlt3) (fun j hj => by injection hj with hj; omega))
            clear hm4 hg4 hx4 z1 y0 HX3 HM1 HL1 HD3 HB3 HLK2 HB HD HNS
            go_loopw [53] (fun jv wi => ∃ j : Nat, j ≤ ms.length ∧ jv = .int .i64 j ∧ NSet wi w.heap.size (fun nm => !nmsTo l (k + 1) nm && nmsTo l l.length nm) ∧ DSet wi (w.heap.size + 1) (fun d => !dtsTo l k ms j d && dtsTo l l.length [] 0 d) ∧ (∀ j', j' < j → ∀ (h : j' < ms.length), dtsTo l k ms j' ms[j'].dot = false) ∧ Below w.heap.size w wi) (fun jv _ => ms.length - (intOf jv).toNat)
            case atStart => exact ⟨0, Nat.zero_le _, rfl, HN4.out, HD4.out, fun j' hj' => absurd hj' (Nat.not_lt_zero j'), HB4.out⟩
            case round =>
              clear HN4 HD4 HB4;obtain ⟨j, hj, rfl, hn, hd, hokj, hB⟩ := hrel;have HB := Hd hB;have HD := Hd hd;have HNS := Hd hn;have HOJ := Hd hokj;clear hB hd hn hokj
              by_cases hjt : j < ms.length
              · obtain ⟨bm, offm, rfl, hbml, e0, e1, e2, e3, -⟩ := HME.out j hjt
                have f0 : wr.cell? ⟨bm, offm + j * 4, none⟩ = some (.int .i64 ms[j].dot.rep) := by rw [HB.out.cell (p := ⟨_, _, _⟩) hbml]; exact e0
                have f1 : wr.cell? ⟨bm, offm + j * 4 + 1, none⟩ = some (.int .i64 ms[j].dot.ctr) := by rw [HB.out.cell (p := ⟨_, _, _⟩) hbml]; exact e1
                have f2 : wr.cell? ⟨bm, offm + j * 4 + 2, none⟩ = some (.int .i64 ms[j].qty) := by rw [HB.out.cell (p := ⟨_, _, _⟩) hbml]; exact e2
                have f3 : wr.cell? ⟨bm, offm + j * 4 + 3, none⟩ = some (.int .u64 ms[j].time) := by rw [HB.out.cell (p := ⟨_, _, _⟩) hbml]; exact e3
                have HSJ := Hd (dtsTo_step l k ms j hjt);have HAJ := Hd (HAD.out j hjt);have HBJ := Hd (HBADD.out j hjt);have HOJ2 : Hid (dtsTo l k ms j ms[j].dot = false → ∀ j', j' < j + 1 → ∀ (h : j' < ms.length), dtsTo l k ms j' ms[j'].dot = false) := Hd (fun h1 j' hj' h => by
                  rcases Nat.lt_or_ge j' j with h3 | h3
                  · exact HOJ.out j' h3 h
                  · obtain rfl : j' = j := by omega
                    exact h1)
                generalize ms[j] = mk at *
                obtain ⟨W5, hW5⟩ : ∃ x, x = wr.alloc (.cells #[.int .i64 mk.dot.rep, .int .i64 mk.dot.ctr, .int .i64 mk.qty, .int .u64 mk.time] 65) := ⟨_, rfl⟩;have hb5 : Below wr.heap.size wr W5 := by rw [hW5]; exact bal
                have hx5 : W5.heap[wr.heap.size]? = some (.cells #[.int .i64 mk.dot.rep, .int .i64 mk.dot.ctr, .int .i64 mk.qty, .int .u64 mk.time] 65) := by rw [hW5]; exact alloc_new _ _
                have hlt1 := HNS.out.lt;have hlt2 := HD.out.lt;obtain ⟨m2, hm2, hl2⟩ := HD.out.of (hb5.block _ hlt2);have HN5 := Hd (HNS.out.of (hb5.block _ hlt1));have HM2 := Hd hm2;have HL2 := Hd hl2;have HB5 := Hd (btr HB.out hb5);have hlt3 : w.heap.size < W5.heap.size := Nat.lt_of_lt_of_le hlt1 hb5.size;have y0 : W5.cell? ⟨wr.heap.size, 0, none⟩ = some (.int .i64 mk.dot.rep) := cl0 hx5 0 rfl;have y1 : W5.cell? ⟨wr.heap.size, 1, none⟩ = some (.int .i64 mk.dot.ctr) := cl0 hx5 1 rfl;have HW5 := Hd hW5;have b0 : (0 : Int) ≤ j := by omega
                have b1 : (j : Int) < (ms.length : Int) := by omega
                have hjw : IntKind.i64.wrap ((j : Int) + 1) = (j : Int) + 1 := by rw [IntKind.wrap_i64]; omega
                have HLJ : Hid ((lkK m2 mk.dot).getD (.bool false) = .bool (!dtsTo l k ms j mk.dot)) := Hd (by
                  rw [hl2]
                  show (if (!dtsTo l k ms j mk.dot && dtsTo l l.length [] 0 mk.dot) = true then some (Value.bool true) else none).getD (.bool false) = _
                  rw [HAJ.out, Bool.and_true]
                  cases dtsTo l k ms j mk.dot <;> rfl)
                clear e0 e1 e2 e3 hbml hb5 hx5 hW5 hm2 hl2 HAJ
                go_upto_region 21 with fail
                rw [← HW5.out];clear HW5 f0 f1 f2 f3
                cases hbd : dtsTo l k ms j mk.dot with
                | true =>
                  have HLJ2 : Hid ((lkK m2 mk.dot).getD (.bool false) = .bool false) := Hd (by rw [HLJ.out, hbd]; rfl)
                  have HF := Hd (HBJ.out hbd);clear hbd HLJ HBJ HBADD HOK2 HOK HOJ HOJ2
                  go_wp2_with (at_lookup; go_loud (refine wpList_lookK (E := dotK) rfl _ _ rfl Tryz.underlying113 (HZZ.out _) rfl HM2.out mk.dot rfl ?_); go_loud (rw [HLJ2.out]))
                  go_ret
                  exact ⟨by rw [HF.out]; rfl, HB5.out⟩
                | false =>
                  have HLJ2 : Hid ((lkK m2 mk.dot).getD (.bool false) = .bool true) := Hd (by rw [HLJ.out, hbd]; rfl)
                  have HOJ3 := Hd (HOJ2.out hbd);clear hbd HLJ HBJ HOJ HOJ2
                  go_wp2_with (first | (at_lookup; go_loud (refine wpList_lookK (E := dotK) rfl _ _ rfl Tryz.underlying113 (HZZ.out _) rfl HM2.out mk.dot rfl ?_); go_loud (rw [HLJ2.out])) | (at_delete; refine wpList_delK (E := dotK) rfl _ _ rfl Tryz.underlying113 rfl HM2.out mk.dot rfl ?_; intro w6 hm6 hg6))
                  have HD6 : Hid (DSet w6 (w.heap.size + 1) (fun d => !dtsTo l k ms (j + 1) d && dtsTo l l.length [] 0 d)) := Hd (DSet.del hm6 HM2.out HL2.out (fun q => by rw [HSJ.out, Bool.not_or, Bool.and_assoc]))
                  have HN6 : Hid (NSet w6 w.heap.size (fun nm => !nmsTo l (k + 1) nm && nmsTo l l.length nm)) := Hd (HN5.out.of (hg6.block _ HN5.out.lt (fun e => HNE.out (by injection e))))
                  have HB6 := Hd (HB5.out.grown hg6 (Nat.le_of_lt hlt3) (fun j hj => by injection hj with hj; omega))
                  clear hm6 hg6 y0 y1 HM2 HL2 HN5 HB5 HLJ2
                  go_roundw
                  case rel => exact ⟨j + 1, by omega, by go_num, HN6.out, HD6.out, HOJ3.out, HB6.out⟩
                  case measure => simp [intOf]; omega
              · have hje : j = ms.length := by omega
                have b1 : ¬ ((j : Int) < (ms.length : Int)) := by omega
                have HD7 : Hid (DSet wr (w.heap.size + 1) (fun d => !dtsTo l (k + 1) [] 0 d && dtsTo l l.length [] 0 d)) := Hd (by rw [← HDN.out, ← hje]; exact HD.out)
                have HOK3 := Hd (HOK2.out HNF.out (fun j' h => HOJ.out j' (by omega) h))
                clear HD HOJ HOK HOK2
                go_wp2_with fail
                go_roundw
                case rel => exact ⟨k + 1, by omega, by go_num, HNS.out, HD7.out, HOK3.out, HB.out⟩
                case measure => simp [intOf]; omega
        · have hke : k = l.length := by omega
          have a1 : ¬ ((k : Int) < (l.length : Int)) := by omega
          have HF : Hid (diffI l = true) := Hd (diff_true (fun k' h => (HOK.out k' (by omega) h).1) (fun k' h => (HOK.out k' (by omega) h).2))
          clear HOK HALLN HALLD
          go_wp2_with fail
          go_ret
          exact ⟨by rw [HF.out]; rfl, HB.out⟩
end Go.Proofs.YtadbmineobldbaaGreatDoor
