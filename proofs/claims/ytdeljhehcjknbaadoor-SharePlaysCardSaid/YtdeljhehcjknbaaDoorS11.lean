/- Book.Members walked: for every book of the shape of S4. -/
import Derived.Test.YtdeljhehcjknbaaDoorS10
namespace Go.Proofs.YtdeljhehcjknbaaDoor
open Go.RowKit Go.Maps Go.Sort

def memS (m : List (ByteArray × Int)) : List (ByteArray × Int) := (sortK (memV m)).map fun k => (⟨k.toArray⟩, (lkA m ⟨k.toArray⟩).getD 0)
theorem memS_len (m : List (ByteArray × Int)) : (memS m).length = m.length := by simp [memS, sortK_len, memV_len]
def membersA (A : List APg) (cart : ByteArray) : List (ByteArray × Int) := match aFind A cart with
  | none => []
  | some x => memS x.mem
def flatM (l : List (ByteArray × Int)) : List Value := l.flatMap fun x => [.string x.1, .int .i64 x.2]
theorem flatM_len (l : List (ByteArray × Int)) : (flatM l).length = l.length * 2 := by
  induction l with
  | nil => rfl
  | cons x l ih => simp only [flatM, List.flatMap_cons, List.length_append, List.length_cons, List.length_nil] at ih ⊢; omega
def MembersPost (l : List (ByteArray × Int)) (w : World) (e : Ending) (w' : World) : Prop := ∃ v, e = .returned v ∧ w'.ownsRow w.heap.size 61 2 v l.length (flatM l) ∧ Below w.heap.size w w'

theorem rowForm {w : World} {base : Nat} {T : TypeId} {v : Value} {n : Nat} {xs : List Value} (h : w.ownsRow base T 1 v n xs) :
    ∃ a cap, v = .slice a n cap ∧ (n ≠ 0 → ∃ g, a = some ⟨g, 0, none⟩ ∧ base ≤ g ∧ g < w.heap.size ∧ ∀ j (hj : j < xs.length), w.cell? ⟨g, j, none⟩ = some xs[j]) := by
  obtain ⟨hl, ⟨rfl, rfl⟩ | ⟨g, cap, cur, rfl, hg, hb, h1, h2, h3, h4⟩⟩ := h
  · exact ⟨none, 0, rfl, fun h => absurd rfl h⟩
  · refine ⟨_, cap, rfl, fun _ => ⟨g, rfl, hg, lt_of_heap hb, fun j hj => ?_⟩⟩
    rw [cell0 hb]
    have e : xs[j]? = some xs[j] := List.getElem?_eq_getElem hj
    rw [← e, ← h4, List.getElem?_take, if_pos (by omega)]
    simp

theorem ownsRow_base {w : World} {base base' : Nat} {T : TypeId} {sz : Nat} {v : Value} {n : Nat} {xs : List Value} (h : w.ownsRow base T sz v n xs) (hb : base' ≤ base) : w.ownsRow base' T sz v n xs := by
  obtain ⟨hl, h | ⟨g, cap, cur, h1, h2, h3⟩⟩ := h
  · exact ⟨hl, Or.inl h⟩
  · exact ⟨hl, Or.inr ⟨g, cap, cur, h1, by omega, h3⟩⟩
theorem flatM_snoc (l : List (ByteArray × Int)) (x : ByteArray × Int) : flatM (l ++ [x]) = flatM l ++ [.string x.1, .int .i64 x.2] := by simp [flatM]
theorem alloc_cells2 (w : World) (C : Array Value) (T : TypeId) (i : Nat) (u : Value) (h : C[i]? = some u) : (w.alloc (.cells C T)).cell? ((⟨w.heap.size, 0, none⟩ : Addr).add i) = some u := by
  have e : (⟨w.heap.size, 0, none⟩ : Addr).add i = ⟨w.heap.size, i, none⟩ := by
    unfold Addr.add
    split
    · rename_i h0; rw [h0]
    · simp
  rw [e, cell0 (alloc_new w (.cells C T))]
  exact h
theorem own_blk {w : World} {base : Nat} {T : TypeId} {sz : Nat} {v : Value} {n : Nat} {xs : List Value} (h : w.ownsRow base T sz v n xs) : ∀ k, v.ownBlock = some k → base ≤ k := fun k hk => (h.lt k hk).1

theorem Tryd_info61 : (Tryd.prog.info? 61).map (fun i => (i.zero, i.size, i.bytes)) = some (some (.agg #[.string ⟨#[]⟩, .int .i64 0]), 2, 24) := by kernel_rfl

set_option maxRecDepth 100000 in
set_option maxHeartbeats 2000000 in
theorem members_any (b : Nat) (A : List APg) (F : Nat → Prop) (cart : ByteArray) (w : World) (hK : Book w b A F) :
    Calls Tryd.prog 18 #[.pointer (some ⟨b, 0, none⟩), .string cart] w (MembersPost (membersA A cart) w) := by
  obtain ⟨mr, L, hB, hA, hF, hFs⟩ := hK
  have c0 := cell0 hB.hb 0
  have hl := hB.look cart
  cases hp : pgA L cart with
  | none =>
    have HM : Hid (membersA A cart = []) := Lib.hid (by unfold membersA; rw [hA, aFind_abs, hp]; rfl)
    rw [hp] at hl
    clear hB hA hF hFs hp
    go_enter Tryd.func18, Tryd.ntmps18
    go_wp2
    go_ret
    exact ⟨_, rfl, by rw [HM.out]; exact World.ownsRow_nil _ _ _ _, Below.refl _ _⟩
  | some x =>
    have HM : Hid (membersA A cart = memS x.mem) := Lib.hid (by unfold membersA; rw [hA, aFind_abs, hp]; rfl)
    have hpx := (pgA_mem hp).1
    have hx := hB.hp x hpx
    have hwf := hB.wf x hpx
    rw [hp] at hl
    simp only [Option.map_some, Option.getD_some, PgR.ptr] at hl
    have c1 := cell0 hx.1 1
    have HX := Lib.hid hx
    have HWF := Lib.hid hwf
    have HK := Lib.hid (fun W => keys38 (some x.mb) W)
    have HS := Lib.hid (sorted38 x.mb (memV x.mem) w hx.2 (by
      intro p hp
      obtain ⟨q, hq, rfl⟩ := List.mem_map.1 hp
      have := keyB_size (hwf.2.2.2 q hq).1
      unfold maxLen; simp only; omega) (by rw [memV_len]; have := hwf.2.2.1; omega))
    have hmlt := hx.2.lt
    have hn50 : x.mem.length ≤ 50 := hwf.2.2.1
    clear hB hA hF hFs hp hx hwf
    obtain ⟨i0, hi, hz0, hz1, hz2⟩ := info_parts Tryd_info61
    have HI := Lib.hid (And.intro hi (And.intro hz0 (And.intro hz1 hz2)))
    clear hi hz0 hz1 hz2
    go_enter Tryd.func18, Tryd.ntmps18
    go_wp2_with (first
      | (go_at_call 38; refine (HK.out _).mono ?_; rintro e w1 ⟨rfl, rfl⟩)
      | (go_at_call 35; refine HS.out.mono ?_; rintro e w2 ⟨v, rfl, hrow, hb2⟩; obtain ⟨a, cap, rfl, hcells⟩ := rowForm hrow; have HC := Lib.hid hcells; clear hrow hcells; rw [memV_len]))
    have hsz2 := hb2.size
    rw [alloc_size] at hsz2
    have hbw : Below w.heap.size w w2 := ((Below.refl _ _).alloc (Nat.le_refl _) _).trans (hb2.mono (by simp))
    have HBW := Lib.hid hbw
    have HX2 := Lib.hid (show x.is w2 from ⟨by rw [hbw.block _ (lt_of_heap HX.out.1)]; exact HX.out.1, HX.out.2.of_block (hbw.block _ HX.out.2.lt)⟩)
    have HLS := Lib.hid (show (sortK (memV x.mem)).length = x.mem.length by rw [sortK_len, memV_len])
    clear hbw hb2
    go_loopw [5, 33] (fun v5 i wr => ∃ k : Nat, k ≤ x.mem.length ∧ i = .int .i64 k ∧ wr.ownsRow w2.heap.size 61 2 v5 k (flatM ((memS x.mem).take k)) ∧ Below w2.heap.size w2 wr) (fun _ i _ => x.mem.length - (intOf i).toNat)
    case atStart => exact ⟨0, Nat.zero_le _, rfl, World.ownsRow_nil _ _ _ _, Below.refl _ _⟩
    case round =>
      obtain ⟨k, hk, rfl, hown, hBr⟩ := hrel
      have HB := Lib.hid hBr
      have HO := Lib.hid hown
      have hsz := hBr.size
      clear hBr hown
      by_cases hlt : k < x.mem.length
      · obtain ⟨g, rfl, hg1, hg2, hg3⟩ := HC.out (by rw [memV_len]; omega)
        have hks : k < (sortK (memV x.mem)).length := by rw [HLS.out]; exact hlt
        have e0 : wr.cell? ⟨g, k, none⟩ = some (.string ⟨(sortK (memV x.mem))[k].toArray⟩) := by
          rw [HB.out.cell (p := ⟨_, _, _⟩) hg2, hg3 k (by simpa using hks)]; simp
        have hms : (memS x.mem)[k]? = some (⟨(sortK (memV x.mem))[k].toArray⟩, (lkA x.mem ⟨(sortK (memV x.mem))[k].toArray⟩).getD 0) := by
          unfold memS; rw [List.getElem?_map, List.getElem?_eq_getElem hks]; rfl
        have hlk : (Instr.lookup 78 (.map (some x.mb)) (.string ⟨(sortK (memV x.mem))[k].toArray⟩) false).run Tryd.prog wr = .ok (.int .i64 ((lkA x.mem ⟨(sortK (memV x.mem))[k].toArray⟩).getD 0)) wr := by
          rw [(HX2.out.2.of_block (HB.out.block _ HX2.out.2.lt)).lookup Tryd.underlying78 Tryd.underlying9 (zero27 _), lkA_memV_getD]
        have HT : Hid ((memS x.mem).take (k + 1) = (memS x.mem).take k ++ [(⟨(sortK (memV x.mem))[k].toArray⟩, (lkA x.mem ⟨(sortK (memV x.mem))[k].toArray⟩).getD 0)]) := Lib.hid (by
          rw [List.take_add_one, hms]; rfl)
        clear hg3 hms
        generalize (sortK (memV x.mem))[k].toArray = key at *
        clear hks
        generalize (lkA x.mem ⟨key⟩).getD 0 = r at *
        go_wp2_with (at_builtin; refine wpList_append_own _ rfl _ _ 50 rfl w2.heap.size 61 i0 (.agg #[.string ⟨#[]⟩, .int .i64 0]) 2 24 Tryd.underlying50 HI.out.1 HI.out.2.1 HI.out.2.2.1 HI.out.2.2.2 rfl (by decide) u5 k _ rfl (HO.out.alloc _) ⟨wr.heap.size, 0, none⟩ 1 1 [.string ⟨key⟩, .int .i64 r] rfl rfl (fun j u h => alloc_cells2 wr #[.string ⟨key⟩, .int .i64 r] 61 j u (by simpa using h)) (by simp [Value.oneCell']) (by unfold maxLen; omega) (by omega) (by rw [alloc_size]; omega) ?_; intro v' w' hown' hgr' _)
        go_roundw
        case rel =>
          refine ⟨k + 1, by omega, by go_num, ?_, ?_⟩
          · rw [HT.out, flatM_snoc]; exact hown'
          · exact (HB.out.alloc hsz _).grown hgr' (by rw [alloc_size]; omega) (own_blk HO.out)
        case measure => simp [intOf]; omega
      · have hke : k = x.mem.length := by omega
        subst hke
        go_wp2
        go_ret
        refine ⟨_, rfl, ?_, HBW.out.trans (HB.out.mono (by omega))⟩
        have ho := HO.out
        rw [List.take_of_length_le (by rw [memS_len]; exact Nat.le_refl _)] at ho
        rw [HM.out, memS_len]
        exact ownsRow_base ho (by omega)
end Go.Proofs.YtdeljhehcjknbaaDoor
