/- The law's `set` walked: a member's right set in an ordered row. -/
import Derived.Test.YtdeljhehcjknbaaDoorS31
namespace Go.Proofs.YtdeljhehcjknbaaDoor
open Go.RowKit Go.Maps Go.Sort Go.Lib

instance (a b : ByteArray) : Decidable (ltK a b) := by unfold ltK; infer_instance
/-- What `set` makes of the rest of a row; the Boolean says that the new entry stands already. -/
def setL (who : ByteArray) (r : Int) : Bool → List (ByteArray × Int) → List (ByteArray × Int)
  | true, [] => []
  | false, [] => [(who, r)]
  | true, x :: l => (if x.1 = who then [] else [x]) ++ setL who r true l
  | false, x :: l => if ltK x.1 who then x :: setL who r false l else (who, r) :: ((if x.1 = who then [] else [x]) ++ setL who r true l)
theorem setL_true (who : ByteArray) (r : Int) : ∀ l : List (ByteArray × Int), setL who r true l = l.filter fun x => decide (x.1 ≠ who)
  | [] => rfl
  | x :: l => by
    simp only [setL, setL_true who r l, List.filter_cons]
    by_cases h : x.1 = who <;> simp [h]
theorem lk_filter (who : ByteArray) (k : ByteArray) : ∀ l : List (ByteArray × Int), lkA (l.filter fun x => decide (x.1 ≠ who)) k = if k = who then none else lkA l k
  | [] => by simp [lkA]
  | (a, v) :: l => by
    simp only [List.filter_cons]
    by_cases h : a = who
    · subst h
      simp only [ne_eq, not_true, decide_false, Bool.false_eq_true, if_false]
      have := lk_filter a k l
      simp only [ne_eq] at this
      rw [this]
      by_cases e : k = a
      · simp [e]
      · simp [e, lkA]
    · simp only [ne_eq, h, not_false_eq_true, decide_true, if_true, lkA]
      have := lk_filter who k l
      simp only [ne_eq] at this
      rw [this]
      by_cases e : k = a
      · subst e; simp [h]
      · simp [e]
theorem setL_lk {who : ByteArray} {r : Int} {l : List (ByteArray × Int)} (h : Rising l) (k : ByteArray) : lkA (setL who r false l) k = if k = who then some r else lkA l k := by
  induction l with
  | nil => simp only [setL, lkA]
  | cons x l ih =>
    obtain ⟨a, v⟩ := x
    simp only [setL]
    by_cases hlt : ltK a who
    · rw [if_pos hlt]
      simp only [lkA]
      rw [ih (List.pairwise_cons.1 h).2]
      by_cases e : k = a
      · subst e
        simp only [if_pos]
        rw [if_neg (fun e => by subst e; exact ltK_irrefl _ hlt)]
      · simp [e]
    · rw [if_neg hlt]
      simp only [lkA]
      by_cases e : k = who
      · simp [e]
      · rw [if_neg e, if_neg e]
        by_cases ha : a = who
        · subst ha
          rw [if_pos rfl, List.nil_append, setL_true, lk_filter, if_neg e, if_neg e]
        · rw [if_neg ha]
          simp only [List.cons_append, List.nil_append, lkA]
          rw [setL_true, lk_filter, if_neg e]
theorem setL_rising {who : ByteArray} {r : Int} {l : List (ByteArray × Int)} (h : Rising l) : Rising (setL who r false l) := by
  induction l with
  | nil => exact List.pairwise_singleton _ _
  | cons x l ih =>
    obtain ⟨a, v⟩ := x
    have hc := List.pairwise_cons.1 h
    simp only [setL]
    by_cases hlt : ltK a who
    · rw [if_pos hlt]
      refine List.pairwise_cons.2 ⟨?_, ih hc.2⟩
      intro y hy
      have : y = (who, r) ∨ y ∈ l := by
        clear ih h hc
        induction l with
        | nil => simp [setL] at hy; exact Or.inl hy
        | cons z l ih2 =>
          simp only [setL] at hy
          split at hy
          · rcases List.mem_cons.1 hy with rfl | hy
            · exact Or.inr (.head _)
            · rcases ih2 hy with h | h
              · exact Or.inl h
              · exact Or.inr (.tail _ h)
          · rcases List.mem_cons.1 hy with rfl | hy
            · exact Or.inl rfl
            · rw [setL_true] at hy
              rcases List.mem_append.1 hy with hy | hy
              · split at hy
                · cases hy
                · simp at hy; subst hy; exact Or.inr (.head _)
              · exact Or.inr (.tail _ (List.mem_filter.1 hy).1)
      rcases this with rfl | hy
      · exact hlt
      · exact hc.1 y hy
    · rw [if_neg hlt]
      have hge : ∀ y ∈ l, ltK who y.1 := by
        intro y hy
        rcases ltK_tri a who with h1 | rfl | h1
        · exact absurd h1 hlt
        · exact hc.1 y hy
        · exact ltK_trans h1 (hc.1 y hy)
      have hf : Rising (setL who r true l) := by rw [setL_true]; exact hc.2.filter _
      refine List.pairwise_cons.2 ⟨?_, ?_⟩
      · intro y hy
        rcases List.mem_append.1 hy with hy | hy
        · split at hy
          · cases hy
          · rename_i hne
            simp at hy; subst hy
            rcases ltK_tri a who with h1 | h1 | h1
            · exact absurd h1 hlt
            · exact absurd h1 hne
            · exact h1
        · rw [setL_true] at hy
          exact hge y (List.mem_filter.1 hy).1
      · by_cases ha : a = who
        · rw [if_pos ha, List.nil_append]; exact hf
        · rw [if_neg ha]
          refine List.pairwise_cons.2 ⟨?_, hf⟩
          intro y hy
          change y ∈ setL who r true l at hy
          rw [setL_true] at hy
          exact hc.1 y (List.mem_filter.1 hy).1
theorem lk_putA_ne {m : List (ByteArray × Int)} {k k2 : ByteArray} {v : Int} : lkA (putA m k v) k2 = if k2 = k then some v else lkA m k2 := by
  induction m with
  | nil => simp only [putA, lkA]
  | cons p m ih =>
    obtain ⟨a, u⟩ := p
    simp only [putA]
    by_cases h : k = a
    · subst h
      simp only [if_pos, lkA]
      by_cases e : k2 = k <;> simp [e]
    · rw [if_neg h]
      simp only [lkA, ih]
      by_cases e : k2 = a
      · subst e; rw [if_pos rfl, if_neg (fun e => h (Eq.symm e)), if_pos rfl]
      · simp [e]
theorem lk_delA_ne {m : List (ByteArray × Int)} {k k2 : ByteArray} (h : k2 ≠ k) : lkA (delA m k) k2 = lkA m k2 := by
  induction m with
  | nil => rfl
  | cons p m ih =>
    obtain ⟨a, u⟩ := p
    simp only [delA]
    by_cases e : k = a
    · subst e; rw [if_pos rfl]; simp [lkA, h]
    · rw [if_neg e]; simp only [lkA, ih]
/-- `set` on an ordered row is the ordered row of the set map. -/
theorem setL_put {m : List (ByteArray × Int)} {who : ByteArray} {r : Int} (h : (m.map (·.1)).Nodup) (h2 : ((putA m who r).map (·.1)).Nodup) : setL who r false (memS m) = memS (putA m who r) :=
  memS_eq h2 (setL_rising (memS_rising h)) fun k => by rw [setL_lk (memS_rising h), lk_memS_full, lk_putA_ne]
theorem setL_del {m : List (ByteArray × Int)} {who : ByteArray} {r : Int} (h : (m.map (·.1)).Nodup) (h2 : ((delA m who).map (·.1)).Nodup) : setL who r true (memS m) = memS (delA m who) :=
  memS_eq h2 (by rw [setL_true]; exact (memS_rising h).filter _) fun k => by
    rw [setL_true, lk_filter, lk_memS_full]
    by_cases e : k = who
    · subst e; rw [if_pos rfl, lk_delA h]
    · rw [if_neg e, lk_delA_ne e]

theorem owns_slice {w : World} {base : Nat} {T : TypeId} {sz : Nat} {v : Value} {n : Nat} {xs : List Value} (h : w.ownsRow base T sz v n xs) : ∃ a c, v = .slice a n c := by
  obtain ⟨_, ⟨rfl, rfl⟩ | ⟨g, cap, cur, rfl, _⟩⟩ := h
  · exact ⟨_, _, rfl⟩
  · exact ⟨_, _, rfl⟩
theorem MemAt.of_own {w : World} {base : Nat} {v : Value} {m : List (ByteArray × Int)} (h : w.ownsRow base 61 2 v m.length (flatM (memS m))) : MemAt (fun k => base ≤ k) w v m := by
  obtain ⟨hl, ⟨rfl, h0⟩ | ⟨g, cap, cur, rfl, hg, hb, h1, h2, h3, h4⟩⟩ := h
  · have hm : m = [] := List.eq_nil_of_length_eq_zero h0
    subst hm
    exact ⟨none, 0, rfl, fun _ => ⟨rfl, rfl⟩, fun h => absurd rfl h⟩
  · refine ⟨_, cap, rfl, (fun h => by cases h), fun _ => ⟨g, rfl, hg, lt_of_heap hb, fun j u hj => ?_⟩⟩
    rw [cell0 hb]
    rw [← h4, List.getElem?_take] at hj
    split at hj
    · simpa using hj
    · cases hj
theorem alloc_cells3 (w : World) (n : Nat) (hn : w.heap.size = n) (C : Array Value) (T : TypeId) (i : Nat) (u : Value) (h : C[i]? = some u) : (w.alloc (.cells C T)).cell? ((⟨n, 0, none⟩ : Addr).add i) = some u := by
  subst hn; exact alloc_cells2 w C T i u h
set_option maxRecDepth 100000 in
set_option maxHeartbeats 4000000 in
/-- `set` on a page at ⟨g, o⟩: the page's row of members is new; nothing else is turned. -/
theorem set_m {G : Nat → Prop} {w : World} {g o : Nat} {m m' : List (ByteArray × Int)} {mv : Value} {C : Array Value} {T : TypeId} (who : ByteArray) (r : Int) (hg : w.heap[g]? = some (.cells C T)) (hc : C[o + 2]? = some mv) (hm : MemAt G w mv m) (h50 : m.length ≤ 50) (hm' : setL who r (r == 0) (memS m) = memS m') :
    Calls Tryd.prog 29 #[.pointer (some ⟨g, o, none⟩), .string who, .int .i64 r] w fun e w' => e = .returned (.tuple #[]) ∧ ∃ w1 v', Below w.heap.size w w1 ∧ w' = w1.setCell ⟨g, o + 2, none⟩ v' ∧ MemAt (fun k => w.heap.size ≤ k) w1 v' m' := by
  have hgl := lt_of_heap hg
  have c0 := cell0 hg (o + 2)
  rw [hc] at c0
  have HFZ : Hid (∀ wx, Below w.heap.size w wx → wx.frozen? ⟨g, o + 2, none⟩ = false) := Lib.hid (fun wx hx => by rw [hx.frozen (p := ⟨g, o + 2, none⟩) hgl]; unfold World.frozen?; rw [hg]; simp)
  obtain ⟨a, cap, rfl, -, hmm⟩ := hm
  have HMM := Lib.hid hmm
  have HL := Lib.hid (memS_len m)
  have HR := Lib.hid hm'
  clear hmm hc hm'
  obtain ⟨i0, hi, hz0, hz1, hz2⟩ := info_parts Tryd_info61
  have HI := Lib.hid (And.intro hi (And.intro hz0 (And.intro hz1 hz2)))
  clear hi hz0 hz1 hz2
  obtain ⟨d0, hd0⟩ : ∃ d0, d0 = (r == 0) := ⟨_, rfl⟩
  have HD0 := Lib.hid hd0
  go_enter Tryd.func29, Tryd.ntmps29
  rw [← hd0] at HR
  clear hd0
  go_wp2
  rw [← HD0.out]
  go_loopw [6, 7, 17] (fun v6 v7 i wr => ∃ (k : Nat) (out : List (ByteArray × Int)) (d : Bool), k ≤ m.length ∧ i = .int .i64 k ∧ v7 = .bool d ∧ wr.ownsRow w.heap.size 61 2 v6 out.length (flatM out) ∧ out.length ≤ 2 * k ∧ out ++ setL who r d ((memS m).drop k) = memS m' ∧ Below w.heap.size w wr) (fun _ _ i _ => m.length - (intOf i).toNat)
  case atStart => exact ⟨0, [], d0, Nat.zero_le _, rfl, rfl, World.ownsRow_nil _ _ _ _, Nat.zero_le _, HR.out, Below.refl _ _⟩
  case round =>
    obtain ⟨k, out, d, hk, rfl, rfl, hown, hlen, heq, hB⟩ := hrel
    have HB := Lib.hid hB
    have HO := Lib.hid hown
    have hsz := hB.size
    clear hB hown
    by_cases hlt : k < m.length
    · obtain ⟨gm, rfl, _, hgm, hcm⟩ := HMM.out (by intro e; rw [e] at hlt; simp at hlt)
      have hks : k < (memS m).length := by rw [HL.out]; exact hlt
      obtain ⟨f1, f2⟩ := flatM_get (memS m) k hks
      have e1 : wr.cell? ⟨gm, k * 2, none⟩ = some (.string (memS m)[k].1) := by rw [HB.out.cell (p := ⟨_, _, _⟩) hgm]; exact hcm _ _ f1
      have e2 : wr.cell? ⟨gm, k * 2 + 1, none⟩ = some (.int .i64 (memS m)[k].2) := by rw [HB.out.cell (p := ⟨_, _, _⟩) hgm]; exact hcm _ _ f2
      have hk0 : (0 : Int) ≤ k := by omega
      have hk1 : (k : Int) < m.length := by omega
      have hdr : (memS m).drop k = ((memS m)[k].1, (memS m)[k].2) :: (memS m).drop (k + 1) := by rw [List.drop_eq_getElem_cons hks]
      rw [hdr] at heq
      have HEQ := Lib.hid heq
      clear hcm f1 f2 hdr heq
      generalize (memS m)[k].1 = s at *
      generalize (memS m)[k].2 = q at *
      cases d
      · by_cases hl : ltK s who
        · have hbl : Op.bytesLess s.toList who.toList = true := by rw [bytesLess_eq, bytes_toList, bytes_toList]; exact decide_eq_true hl
          have hne : ¬ s = who := fun e => by subst e; exact ltK_irrefl _ hl
          have hss := str_ne hne
          have HST : Hid (setL who r false ((s, q) :: (memS m).drop (k + 1)) = [(s, q)] ++ setL who r false ((memS m).drop (k + 1))) := Lib.hid (by simp only [setL]; rw [if_pos hl]; rfl)
          clear hl hne
          go_wp2_with (at_builtin; refine wpList_append_own _ rfl _ _ 50 rfl w.heap.size 61 i0 (.agg #[.string ⟨#[]⟩, .int .i64 0]) 2 24 Tryd.underlying50 HI.out.1 HI.out.2.1 HI.out.2.2.1 HI.out.2.2.2 rfl (by decide) u6 out.length _ rfl ((HO.out.alloc _).alloc _) ⟨wr.heap.size + 1, 0, none⟩ 1 1 [.string s, .int .i64 q] rfl rfl (fun j u h => alloc_cells3 (wr.alloc (.cells #[.string s, .int .i64 q] 61)) (wr.heap.size + 1) (by simp) #[.string s, .int .i64 q] 61 j u (by simpa using h)) (by simp [Value.oneCell']) (by unfold maxLen; omega) (by omega) (by simp only [alloc_size]; omega) ?_; intro v' w' hown' hgr' _)
          go_roundw
          case rel =>
            refine ⟨k + 1, out ++ [(s, q)], false, by omega, by go_num, rfl, ?_, ?_, ?_, ?_⟩
            · rw [flatM_snoc, List.length_append]; exact hown'
            · simp; omega
            · rw [← HEQ.out, HST.out, List.append_assoc]
            · exact ((HB.out.alloc hsz _).alloc (by simp only [alloc_size]; omega) _).grown hgr' (by simp only [alloc_size]; omega) (own_blk HO.out)
          case measure => simp [intOf]; omega
        · have hbl : Op.bytesLess s.toList who.toList = false := by rw [bytesLess_eq, bytes_toList, bytes_toList]; exact decide_eq_false hl
          by_cases hne : s = who
          · have HST : Hid (setL who r false ((s, q) :: (memS m).drop (k + 1)) = [(who, r)] ++ setL who r true ((memS m).drop (k + 1))) := Lib.hid (by simp only [setL]; rw [if_neg hl, if_pos hne]; rfl)
            have hss := str_eq hne
            clear hl hne
            go_wp2_with (at_builtin; refine wpList_append_own _ rfl _ _ 50 rfl w.heap.size 61 i0 (.agg #[.string ⟨#[]⟩, .int .i64 0]) 2 24 Tryd.underlying50 HI.out.1 HI.out.2.1 HI.out.2.2.1 HI.out.2.2.2 rfl (by decide) u6 out.length _ rfl ((HO.out.alloc _).alloc _) ⟨wr.heap.size + 1, 0, none⟩ 1 1 [.string who, .int .i64 r] rfl rfl (fun j u h => alloc_cells3 (wr.alloc (.cells #[.string s, .int .i64 q] 61)) (wr.heap.size + 1) (by simp) #[.string who, .int .i64 r] 61 j u (by simpa using h)) (by simp [Value.oneCell']) (by unfold maxLen; omega) (by omega) (by simp only [alloc_size]; omega) ?_; intro v1 w1 hown1 hgr1 _; have e3 := hgr1.cell (a := ⟨wr.heap.size, 0, none⟩) (v := .string s) (by simp) (fun e => by have := (HO.out.lt _ e.symm).2; simp only at this; omega))
            go_roundw
            case rel =>
              refine ⟨k + 1, out ++ [(who, r)], true, by omega, by go_num, rfl, ?_, ?_, ?_, ?_⟩
              · rw [flatM_snoc, List.length_append]; exact hown1
              · simp; omega
              · rw [← HEQ.out, HST.out, List.append_assoc]
              · exact ((HB.out.alloc hsz _).alloc (by simp only [alloc_size]; omega) _).grown hgr1 (by simp only [alloc_size]; omega) (own_blk HO.out)
            case measure => simp [intOf]; omega
          · have HST : Hid (setL who r false ((s, q) :: (memS m).drop (k + 1)) = [(who, r), (s, q)] ++ setL who r true ((memS m).drop (k + 1))) := Lib.hid (by simp only [setL]; rw [if_neg hl, if_neg hne]; rfl)
            have hss := str_ne hne
            clear hl hne
            go_wp2_with (at_builtin; first | (refine wpList_append_own _ rfl _ _ 50 rfl w.heap.size 61 i0 (.agg #[.string ⟨#[]⟩, .int .i64 0]) 2 24 Tryd.underlying50 HI.out.1 HI.out.2.1 HI.out.2.2.1 HI.out.2.2.2 rfl (by decide) v1 (out.length + 1) _ rfl (hown1.alloc _) ⟨w1.heap.size, 0, none⟩ 1 1 [.string s, .int .i64 q] rfl rfl (fun j u h => alloc_cells2 w1 #[.string s, .int .i64 q] 61 j u (by simpa using h)) (by simp [Value.oneCell']) (by unfold maxLen; omega) (by omega) (by simp only [alloc_size]; omega) ?_; intro v' w' hown' hgr' _) | (refine wpList_append_own _ rfl _ _ 50 rfl w.heap.size 61 i0 (.agg #[.string ⟨#[]⟩, .int .i64 0]) 2 24 Tryd.underlying50 HI.out.1 HI.out.2.1 HI.out.2.2.1 HI.out.2.2.2 rfl (by decide) u6 out.length _ rfl ((HO.out.alloc _).alloc _) ⟨wr.heap.size + 1, 0, none⟩ 1 1 [.string who, .int .i64 r] rfl rfl (fun j u h => alloc_cells3 (wr.alloc (.cells #[.string s, .int .i64 q] 61)) (wr.heap.size + 1) (by simp) #[.string who, .int .i64 r] 61 j u (by simpa using h)) (by simp [Value.oneCell']) (by unfold maxLen; omega) (by omega) (by simp only [alloc_size]; omega) ?_; intro v1 w1 hown1 hgr1 _; have e3 := hgr1.cell (a := ⟨wr.heap.size, 0, none⟩) (v := .string s) (by simp) (fun e => by have := (HO.out.lt _ e.symm).2; simp only at this; omega); have e4 := hgr1.cell (a := ⟨wr.heap.size, 1, none⟩) (v := .int .i64 q) (by simp) (fun e => by have := (HO.out.lt _ e.symm).2; simp only at this; omega); have hb1 := ((HB.out.alloc hsz _).alloc (by simp only [alloc_size]; omega) _).grown hgr1 (by simp only [alloc_size]; omega) (own_blk HO.out); have hz1 := hb1.size))
            go_roundw
            case rel =>
              refine ⟨k + 1, out ++ [(who, r), (s, q)], true, by omega, by go_num, rfl, ?_, ?_, ?_, ?_⟩
              · rw [show out ++ [(who, r), (s, q)] = (out ++ [(who, r)]) ++ [(s, q)] by simp, flatM_snoc, flatM_snoc, List.length_append, List.length_append]; exact hown'
              · simp; omega
              · rw [← HEQ.out, HST.out, List.append_assoc]
              · exact (hb1.alloc hz1 _).grown hgr' (by simp only [alloc_size]; omega) (own_blk hown1)
            case measure => simp [intOf]; omega
      · by_cases hne : s = who
        · have HST : Hid (setL who r true ((s, q) :: (memS m).drop (k + 1)) = setL who r true ((memS m).drop (k + 1))) := Lib.hid (by simp only [setL]; rw [if_pos hne]; rfl)
          have hss := str_eq hne
          clear hne
          go_wp2
          go_roundw
          case rel =>
            refine ⟨k + 1, out, true, by omega, by go_num, rfl, HO.out.alloc _, by omega, ?_, HB.out.alloc hsz _⟩
            rw [← HEQ.out, HST.out]
          case measure => simp [intOf]; omega
        · have HST : Hid (setL who r true ((s, q) :: (memS m).drop (k + 1)) = [(s, q)] ++ setL who r true ((memS m).drop (k + 1))) := Lib.hid (by simp only [setL]; rw [if_neg hne])
          have hss := str_ne hne
          clear hne
          go_wp2_with (at_builtin; refine wpList_append_own _ rfl _ _ 50 rfl w.heap.size 61 i0 (.agg #[.string ⟨#[]⟩, .int .i64 0]) 2 24 Tryd.underlying50 HI.out.1 HI.out.2.1 HI.out.2.2.1 HI.out.2.2.2 rfl (by decide) u6 out.length _ rfl ((HO.out.alloc _).alloc _) ⟨wr.heap.size + 1, 0, none⟩ 1 1 [.string s, .int .i64 q] rfl rfl (fun j u h => alloc_cells3 (wr.alloc (.cells #[.string s, .int .i64 q] 61)) (wr.heap.size + 1) (by simp) #[.string s, .int .i64 q] 61 j u (by simpa using h)) (by simp [Value.oneCell']) (by unfold maxLen; omega) (by omega) (by simp only [alloc_size]; omega) ?_; intro v' w' hown' hgr' _)
          go_roundw
          case rel =>
            refine ⟨k + 1, out ++ [(s, q)], true, by omega, by go_num, rfl, ?_, ?_, ?_, ?_⟩
            · rw [flatM_snoc, List.length_append]; exact hown'
            · simp; omega
            · rw [← HEQ.out, HST.out, List.append_assoc]
            · exact ((HB.out.alloc hsz _).alloc (by simp only [alloc_size]; omega) _).grown hgr' (by simp only [alloc_size]; omega) (own_blk HO.out)
          case measure => simp [intOf]; omega
    · have hke : k = m.length := by omega
      subst hke
      have hf1 := HFZ.out _ HB.out
      have c1 : wr.cell? ⟨g, o + 2, none⟩ = w.cell? ⟨g, o + 2, none⟩ := HB.out.cell (p := ⟨g, o + 2, none⟩) hgl
      have hgz : ¬ g = wr.heap.size := by omega
      rw [show (memS m).drop m.length = [] by rw [← HL.out]; exact List.drop_length] at heq
      cases d
      · go_wp2_with (at_builtin; refine wpList_append_own _ rfl _ _ 50 rfl w.heap.size 61 i0 (.agg #[.string ⟨#[]⟩, .int .i64 0]) 2 24 Tryd.underlying50 HI.out.1 HI.out.2.1 HI.out.2.2.1 HI.out.2.2.2 rfl (by decide) u6 out.length _ rfl (HO.out.alloc _) ⟨wr.heap.size, 0, none⟩ 1 1 [.string who, .int .i64 r] rfl rfl (fun j u h => alloc_cells2 wr #[.string who, .int .i64 r] 61 j u (by simpa using h)) (by simp [Value.oneCell']) (by unfold maxLen; omega) (by omega) (by simp only [alloc_size]; omega) ?_; intro v' wL hown' hgr' _; obtain ⟨a7, c7, rfl⟩ := owns_slice hown'; have hbL := (HB.out.alloc hsz _).grown hgr' (by simp only [alloc_size]; omega) (own_blk HO.out); have hf2 := HFZ.out _ hbL; have c2 : wL.cell? ⟨g, o + 2, none⟩ = w.cell? ⟨g, o + 2, none⟩ := hbL.cell (p := ⟨g, o + 2, none⟩) hgl)
        refine bodyPost_end (results_none rfl _ _ _) rfl ?_
        refine ⟨rfl, wL, _, hbL, rfl, ?_⟩
        simp only [setL] at heq
        have hlen2 : out.length + 1 = m'.length := by rw [← memS_len m', ← heq]; simp
        rw [hlen2, show flatM out ++ [Value.string who, Value.int .i64 r] = flatM (memS m') by rw [← heq, flatM_snoc]] at hown'
        rw [hlen2]
        exact MemAt.of_own hown'
      · simp only [setL, List.append_nil] at heq
        obtain ⟨a6, cap6, rfl⟩ := owns_slice HO.out
        go_wp2
        refine bodyPost_end (results_none rfl _ _ _) rfl ?_
        refine ⟨rfl, wr, _, HB.out, rfl, ?_⟩
        have ho := HO.out
        have hlen2 : out.length = m'.length := by rw [← memS_len m', ← heq]
        rw [show flatM out = flatM (memS m') by rw [heq], hlen2] at ho
        rw [memS_len]
        exact MemAt.of_own ho
end Go.Proofs.YtdeljhehcjknbaaDoor
