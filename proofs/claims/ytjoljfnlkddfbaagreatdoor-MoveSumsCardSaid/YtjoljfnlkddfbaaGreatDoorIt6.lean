/- qty.Compare, greatest, Newest; items.Qty. -/
import Derived.Test.YtjoljfnlkddfbaaGreatDoorDot2
import Derived.Test.YtjoljfnlkddfbaaGreatDoorIt3
import Derived.Test.YtjoljfnlkddfbaaGreatDoorR1b
import Derived.Laws.ResultCell
set_option linter.unusedSimpArgs false
set_option linter.unusedVariables false
set_option maxRecDepth 100000
set_option maxHeartbeats 8000000
namespace Go.Proofs.YtjoljfnlkddfbaaGreatDoor
open Go.RowKit Go.Maps

theorem eqDotIn (n : Nat) (x y : DotD) (w : World) : (Op.equalIn (n + 1 + 1) 39 (.agg #[.int .i64 x.rep, .int .i64 x.ctr]) (.agg #[.int .i64 y.rep, .int .i64 y.ctr])).run Tryz.prog w = .ok (decide (x = y)) w := by
 have u3 := Tryz.underlying3
 have a3 := Tryz.isAgg3
 have z3 := Tryz.sizeOf3
 rw [run_equalIn_agg w (n + 1) 39 _ _ (by kernel_rfl) (by kernel_rfl)]
 simp only [Program.fieldsOf, Tryz.underlying39]
 go_simp
 obtain ⟨a, b⟩ := x
 obtain ⟨c, d⟩ := y
 by_cases h1 : a = c <;> by_cases h2 : b = d <;> simp [h1, h2]
theorem eqMark (x y : MarkD) (w : World) : (binOp .eql 85 (markV x) (markV y)).run Tryz.prog w = .ok (.bool (decide (x = y))) w := by
 have u3 := Tryz.underlying3
 have u4 := Tryz.underlying68
 have a3 := Tryz.isAgg3
 have z3 := Tryz.sizeOf3
 have a4 := Tryz.isAgg68
 have z4 := Tryz.sizeOf68
 have a5 := Tryz.isAgg39
 have z5 := Tryz.sizeOf39
 have hE1 := eqDotIn 9997 x.dot y.dot w
 have hE2 := eqDotIn 9996 x.dot y.dot w
 simp only [Nat.reduceAdd] at hE1 hE2
 unfold markV
 rw [run_eql_struct, show (10000 : Nat) = 9999 + 1 from rfl, run_equalIn_agg w 9999 85 _ _ (by kernel_rfl) (by kernel_rfl)]
 simp only [Program.fieldsOf, Tryz.underlying85]
 go_simp
 obtain ⟨⟨a, b⟩, c, d⟩ := x
 obtain ⟨⟨a', b'⟩, c', d'⟩ := y
 by_cases h1 : a = a' <;> by_cases h2 : b = b' <;> by_cases h3 : c = c' <;> by_cases h4 : d = d' <;> simp [h1, h2, h3, h4]
theorem neqMark (x y : MarkD) (w : World) : (binOp .neq 85 (markV x) (markV y)).run Tryz.prog w = .ok (.bool (!decide (x = y))) w := by
 have h := eqMark x y w
 unfold markV at *
 rw [run_eql_struct] at h
 rw [run_neq_struct]
 generalize (Op.equalIn 10000 85 (.agg #[.int .i64 x.dot.rep, .int .i64 x.dot.ctr, .int .i64 x.qty, .int .u64 x.time]) (.agg #[.int .i64 y.dot.rep, .int .i64 y.dot.ctr, .int .i64 y.qty, .int .u64 y.time])).run Tryz.prog w = r at h ⊢
 cases r with
 | ok b w1 =>
  simp only [Result.andThen_ok] at h ⊢
  injection h with h1 h2
  subst h2
  injection h1 with h1
  rw [h1]
 | _ => all_goals (simp [Result.andThen] at h)
theorem guardMark (op : BinOp) (a b : Operand) (x y : MarkD) (w : World) : (eqGuard op 85 a b (markV x) (markV y)).run Tryz.prog w = .ok () w :=
 run_eqGuard_agg w op 85 a b _ _ (by kernel_rfl)

theorem strDec (a b : ByteArray) : (a.toList == b.toList) = decide (a = b) := by
 rw [str_eq_iff]
 congr 1
 exact propext ⟨fun h => by
  obtain ⟨⟨x⟩⟩ := a
  obtain ⟨⟨y⟩⟩ := b
  simp at h
  subst h
  rfl, fun h => by rw [h]⟩
def IdxPost (b : Bool) (w : World) (e : Ending) (w' : World) : Prop := ∃ i : Int, e = .returned (.int .i64 i) ∧ decide (0 ≤ i) = b ∧ Below w.heap.size w w'
theorem indexDot_any (l : List DotD) (d : DotD) (v : Value) (w : World) (h : Arr DotR 2 w v l) : Calls Tryz.prog 174 #[v, dotV d] w (IdxPost (decide (d ∈ l)) w) := by
 have hn := h.len
 obtain ⟨o, c, rfl, hel⟩ := h.dotAt
 have HEL := Hd hel
 have HEQ := Hd (fun x y wz => eqDot x y wz)
 obtain ⟨W1, hW1⟩ : ∃ W1, W1 = w.alloc (.cells #[.int .i64 d.rep, .int .i64 d.ctr] 39) := ⟨_, rfl⟩
 have hb1 : Below w.heap.size w W1 := by rw [hW1]; exact bal
 have hg1 : W1.heap[w.heap.size]? = some (.cells #[.int .i64 d.rep, .int .i64 d.ctr] 39) := by rw [hW1]; exact alloc_new _ _
 have hgl1 := lt_of_heap hg1
 have HD0 : Hid (W1.cell? ⟨w.heap.size, 0, none⟩ = some (.int .i64 d.rep) ∧ W1.cell? ⟨w.heap.size, 1, none⟩ = some (.int .i64 d.ctr)) := Hd ⟨cl0 hg1 0 rfl, cl0 hg1 1 rfl⟩
 have HB1 := Hd hb1
 have HW := Hd hW1
 clear hel h hg1 hb1 hW1
 unfold dotV
 go_enter Tryz.func174, Tryz.ntmps174
 go_wp2_with fail
 rw [← HW.out]
 go_loopw [8] (fun i wr => ∃ k : Nat, k ≤ l.length ∧ i = .int .i64 k ∧ d ∉ l.take k ∧ Below W1.heap.size W1 wr) (fun i _ => l.length - (intOf i).toNat)
 case atStart => exact ⟨0, Nat.zero_le _, rfl, by simp, Below.refl _ _⟩
 case round =>
  obtain ⟨k, hk, rfl, hnot, hB⟩ := hrel
  have HNOT := Hd hnot
  have HB := Hd hB
  clear hnot hB
  by_cases hlt : k < l.length
  ·obtain ⟨b, off, rfl, hbl, e0, e1⟩ := HEL.out k hlt
   have hbl1 : b < W1.heap.size := Nat.lt_of_lt_of_le hbl HB1.out.size
   have d0 : wr.cell? ⟨w.heap.size, 0, none⟩ = some (.int .i64 d.rep) := by rw [HB.out.cell (p := ⟨w.heap.size, 0, none⟩) hgl1]; exact HD0.out.1
   have d1 : wr.cell? ⟨w.heap.size, 1, none⟩ = some (.int .i64 d.ctr) := by rw [HB.out.cell (p := ⟨w.heap.size, 1, none⟩) hgl1]; exact HD0.out.2
   have HTK : Hid (l.take (k + 1) = l.take k ++ [l[k]]) := Hd (List.take_succ_eq_append_getElem hlt)
   have HMEM : Hid (l[k] ∈ l) := Hd (List.getElem_mem hlt)
   have c0 : wr.cell? ⟨b, off + k * 2, none⟩ = some (.int .i64 l[k].rep) := by rw [HB.out.cell (p := ⟨_, _, _⟩) hbl1, HB1.out.cell (p := ⟨_, _, _⟩) hbl]; exact e0
   have c1 : wr.cell? ⟨b, off + k * 2 + 1, none⟩ = some (.int .i64 l[k].ctr) := by rw [HB.out.cell (p := ⟨_, _, _⟩) hbl1, HB1.out.cell (p := ⟨_, _, _⟩) hbl]; exact e1
   generalize l[k] = x at *
   have heq : ∀ wz : World, Sem.run Tryz.prog (binOp .eql 39 (.agg #[.int .i64 d.rep, .int .i64 d.ctr]) (.agg #[.int .i64 x.rep, .int .i64 x.ctr])) wz = .ok (.bool (decide (d = x))) wz := fun wz => HEQ.out d x wz
   have hgd : ∀ (op : BinOp) (a b : Operand) (wz : World), Sem.run Tryz.prog (eqGuard op 39 a b (.agg #[.int .i64 d.rep, .int .i64 d.ctr]) (.agg #[.int .i64 x.rep, .int .i64 x.ctr])) wz = .ok () wz := fun op a b wz => guardDot op a b d x wz
   have a0 : (0 : Int) ≤ k := by omega
   have a1 : (k : Int) < l.length := by omega
   have hkw := wr1 k (by omega)
   clear e0 e1 HEQ HW
   by_cases hxy : d = x
   ·have hd : decide (d = x) = true := decide_eq_true hxy
    rw [hd] at heq
    have HF : Hid (decide (d ∈ l) = true) := Hd (decide_eq_true (hxy.symm ▸ HMEM.out))
    clear HMEM HTK HNOT hxy hd
    go_upto_region 4 with fail
    go_quiet (fail)
    go_wp2_with fail
    go_ret
    exact ⟨(k : Int), rfl, by rw [HF.out]; exact decide_eq_true (by omega), below_drewN _ (HB1.out.trans (HB.out.mono HB1.out.size))⟩
   ·have hd : decide (d = x) = false := decide_eq_false hxy
    rw [hd] at heq
    have HF : Hid (d ∉ l.take (k + 1)) := Hd (by rw [HTK.out, List.mem_append, List.mem_singleton]; exact fun h => h.elim HNOT.out (fun e => hxy e))
    clear HMEM HTK HNOT hxy hd
    go_upto_region 4 with fail
    go_quiet (fail)
    go_wp2_with fail
    go_roundw
    case rel => exact ⟨k + 1, by omega, by go_num, HF.out, below_drewN _ HB.out⟩
    case measure => simp [intOf]; omega
  ·have hke : k = l.length := by omega
   have HF : Hid (decide (d ∈ l) = false) := Hd (decide_eq_false (by have := HNOT.out; rw [hke, List.take_length] at this; exact this))
   clear HNOT
   go_wp2_with fail
   go_ret
   exact ⟨-1, rfl, by rw [HF.out]; rfl, HB1.out.trans (HB.out.mono HB1.out.size)⟩
theorem containsDot_any (l : List DotD) (d : DotD) (v : Value) (w : World) (h : Arr DotR 2 w v l) : Calls Tryz.prog 128 #[v, dotV d] w fun e w' => e = .returned (.bool (decide (d ∈ l))) ∧ Below w.heap.size w w' := by
 obtain ⟨W1, hW1⟩ : ∃ W1, W1 = w.alloc (.cells #[.int .i64 d.rep, .int .i64 d.ctr] 39) := ⟨_, rfl⟩
 have hb1 : Below w.heap.size w W1 := by rw [hW1]; exact bal
 have hg1 : W1.heap[w.heap.size]? = some (.cells #[.int .i64 d.rep, .int .i64 d.ctr] 39) := by rw [hW1]; exact alloc_new _ _
 have hgl1 := lt_of_heap hg1
 have HD0 : Hid (W1.cell? ⟨w.heap.size, 0, none⟩ = some (.int .i64 d.rep) ∧ W1.cell? ⟨w.heap.size, 1, none⟩ = some (.int .i64 d.ctr)) := Hd ⟨cl0 hg1 0 rfl, cl0 hg1 1 rfl⟩
 have HB1 := Hd hb1
 have HW := Hd hW1
 have HI := Hd (indexDot_any l d v W1 (h.dots hb1))
 have d0 := HD0.out.1
 have d1 := HD0.out.2
 clear hg1 hb1 hW1 h
 unfold dotV at *
 go_enter Tryz.func128, Tryz.ntmps128
 go_wp2_with fail
 rw [← HW.out]
 go_wp2_with fail
 refine HI.out.mono ?_
 rintro e w2 ⟨i, rfl, hi, hb2⟩
 have HF := Hd hi
 clear hi
 go_wp2_with fail
 go_ret
 exact ⟨by rw [← HF.out]; rfl, btr HB1.out hb2⟩
theorem dotHas_any (l : List DotD) (d : DotD) (v : Value) (w : World) (h : Arr DotR 2 w v l) : Calls Tryz.prog 88 #[v, dotV d] w fun e w' => e = .returned (.bool (decide (d ∈ l))) ∧ Below w.heap.size w w' := by
 obtain ⟨W1, hW1⟩ : ∃ W1, W1 = w.alloc (.cells #[.int .i64 d.rep, .int .i64 d.ctr] 39) := ⟨_, rfl⟩
 have hb1 : Below w.heap.size w W1 := by rw [hW1]; exact bal
 have hg1 : W1.heap[w.heap.size]? = some (.cells #[.int .i64 d.rep, .int .i64 d.ctr] 39) := by rw [hW1]; exact alloc_new _ _
 have hgl1 := lt_of_heap hg1
 have HD0 : Hid (W1.cell? ⟨w.heap.size, 0, none⟩ = some (.int .i64 d.rep) ∧ W1.cell? ⟨w.heap.size, 1, none⟩ = some (.int .i64 d.ctr)) := Hd ⟨cl0 hg1 0 rfl, cl0 hg1 1 rfl⟩
 have HB1 := Hd hb1
 have HW := Hd hW1
 have HI := Hd (containsDot_any l d v W1 (h.dots hb1))
 have d0 := HD0.out.1
 have d1 := HD0.out.2
 clear hg1 hb1 hW1 h
 unfold dotV at *
 go_enter Tryz.func88, Tryz.ntmps88
 go_wp2_with fail
 rw [← HW.out]
 go_wp2_with fail
 refine HI.out.mono ?_
 rintro e w2 ⟨rfl, hb2⟩
 go_wp2_with fail
 go_ret
 exact ⟨rfl, btr HB1.out hb2⟩
end Go.Proofs.YtjoljfnlkddfbaaGreatDoor
namespace Go.Proofs.YtjoljfnlkddfbaaGreatDoor
open Go.RowKit Go.Maps

def IdxIs {α : Type} (p : α → Bool) (l : List α) (i : Int) : Prop := (i = -1 ∧ l.any p = false) ∨ ∃ k, ∃ h : k < l.length, i = (k : Int) ∧ p l[k] = true ∧ (l.take k).any p = false
def IdxAt {α : Type} (p : α → Bool) (l : List α) (w : World) (e : Ending) (w' : World) : Prop := ∃ i : Int, e = .returned (.int .i64 i) ∧ IdxIs p l i ∧ Below w.heap.size w w'
theorem indexFuncItems_any (p : ItemD → Bool) (g q : Nat) (eg : ∀ args w, (callFunc g args).run Tryz.prog w = .ok (.enter g args) w)
  (l : List ItemD) (v : Value) (w : World) (hp : ∀ (x : ItemD) (mo : Option Addr) (mc : Nat) W, Below w.heap.size w W → Calls Tryz.prog g #[.agg #[.string x.name, .slice mo x.marks.length mc], .pointer (some ⟨q, 0, none⟩)] W fun e w' => e = .returned (.bool (p x)) ∧ Below W.heap.size W w')
  (h : Arr ItemR 2 w v l) : Calls Tryz.prog 170 #[v, .func (.func g) #[] #[.pointer (some ⟨q, 0, none⟩)]] w (IdxAt p l w) := by
 have hn := h.len
 obtain ⟨o, c, rfl, hel⟩ := h.itemAt
 have HEL := Hd hel
 have HP := Hd hp
 clear hel h hp
 go_enter Tryz.func170, Tryz.ntmps170
 go_wp2_with fail
 go_loopw [8] (fun i wr => ∃ k : Nat, k ≤ l.length ∧ i = .int .i64 k ∧ (l.take k).any p = false ∧ Below w.heap.size w wr) (fun i _ => l.length - (intOf i).toNat)
 case atStart => exact ⟨0, Nat.zero_le _, rfl, rfl, Below.refl _ _⟩
 case round =>
  obtain ⟨k, hk, rfl, hall, hB⟩ := hrel
  have HALL := Hd hall
  have HB := Hd hB
  clear hall hB
  by_cases hlt : k < l.length
  ·obtain ⟨b, off, mv, rfl, hbl, e0, e1, -, hm⟩ := HEL.out k hlt
   obtain ⟨o3, k3, rfl, -⟩ := id hm
   have c0 : wr.cell? ⟨b, off + k * 2, none⟩ = some (.string l[k].name) := by rw [HB.out.cell (p := ⟨_, _, _⟩) hbl]; exact e0
   have c1 : wr.cell? ⟨b, off + k * 2 + 1, none⟩ = some (.slice o3 l[k].marks.length k3) := by rw [HB.out.cell (p := ⟨_, _, _⟩) hbl]; exact e1
   have HS := Hd (any_take_snoc p l k hlt)
   have HIX : Hid (p l[k] = true → IdxIs p l (k : Int)) := Hd (fun h => Or.inr ⟨k, hlt, rfl, h, HALL.out⟩)
   have HPX := Hd (HP.out l[k] o3 k3 wr HB.out)
   generalize l[k] = x at *
   have a0 : (0 : Int) ≤ k := by omega
   have a1 : (k : Int) < l.length := by omega
   have hkw := wr1 k (by omega)
   clear e0 e1 hm
   obtain ⟨r, hr⟩ : ∃ r, r = p x := ⟨_, rfl⟩
   rw [← hr] at HPX HS HIX
   clear hr
   cases r with
   | true =>
    have HF := Hd (HIX.out rfl)
    go_wp2_with (go_at_fn g; refine HPX.out.mono ?_; rintro e w2 ⟨rfl, hb2⟩)
    go_ret
    exact ⟨k, rfl, HF.out, btr HB.out hb2⟩
   | false =>
    have HF : Hid ((l.take (k + 1)).any p = false) := Hd (by rw [HS.out, HALL.out]; rfl)
    go_wp2_with (go_at_fn g; refine HPX.out.mono ?_; rintro e w2 ⟨rfl, hb2⟩)
    have hbf := btr HB.out hb2
    go_roundw
    case rel => exact ⟨k + 1, by omega, by go_num, HF.out, hbf⟩
    case measure => simp [intOf]; omega
  ·have hke : k = l.length := by omega
   have HF : Hid (IdxIs p l (-1)) := Hd (Or.inl ⟨rfl, by have := HALL.out; rw [hke, List.take_length] at this; exact this⟩)
   clear HALL
   go_wp2_with fail
   go_ret
   exact ⟨-1, rfl, HF.out, HB.out⟩
theorem itemsIndex1_any (nm : ByteArray) (q : Nat) (x : ItemD) (mo : Option Addr) (mc : Nat) (w : World) (hq : w.cell? ⟨q, 0, none⟩ = some (.string nm)) : Calls Tryz.prog 171 #[.agg #[.string x.name, .slice mo x.marks.length mc], .pointer (some ⟨q, 0, none⟩)] w fun e w' => e = .returned (.bool (decide (x.name = nm))) ∧ Below w.heap.size w w' := by
 have HF := Hd (strDec x.name nm)
 have hql : q < w.heap.size := by
  obtain ⟨b, off, he, hlt⟩ := addr_plain hq
  cases he
  exact hlt
 have hqn : ¬ q = w.heap.size := by omega
 go_enter Tryz.func171, Tryz.ntmps171
 go_wp2_with fail
 go_ret
 exact ⟨by rw [← HF.out]; rfl, bal⟩
theorem itemsIndex_any (nm : ByteArray) (l : List ItemD) (v : Value) (w : World) (h : Arr ItemR 2 w v l) : Calls Tryz.prog 126 #[v, .string nm] w (IdxAt (fun x => decide (x.name = nm)) l w) := by
 have eg : ∀ args w, (callFunc 171 args).run Tryz.prog w = .ok (.enter 171 args) w := enters_of Tryz.func171 (by kernel_rfl) rfl
 have hb1 : Below w.heap.size w (w.alloc (.cells #[.string nm] 9)) := bal
 have HB1 := Hd hb1
 have HI := Hd (indexFuncItems_any (fun x => decide (x.name = nm)) 171 w.heap.size eg l v (w.alloc (.cells #[.string nm] 9)) (fun x mo mc W hW => itemsIndex1_any nm w.heap.size x mo mc W (by rw [hW.cell (p := ⟨w.heap.size, 0, none⟩) (by simp), cell0 (alloc_new w _) 0]; rfl)) (h.items hb1))
 clear h hb1
 go_enter Tryz.func126, Tryz.ntmps126
 go_wp2_with fail
 refine HI.out.mono ?_
 rintro e w2 ⟨i, rfl, hi, hb2⟩
 have HF := Hd hi
 clear hi
 go_wp2_with fail
 go_ret
 exact ⟨i, rfl, HF.out, btr HB1.out hb2⟩

/-- A part of a slice. -/
theorem Arr.part {α : Type} {R : World → α → List Value → Prop} {sz : Nat} {w : World} {b off n c : Nat} {l : List α} (h : Arr R sz w (.slice (some ⟨b, off, none⟩) n c) l) (i j : Nat) (hij : i ≤ j) (hj : j ≤ l.length) : Arr R sz w (.slice (some ⟨b, off + i * sz, none⟩) (j - i) (c - i)) ((l.take j).drop i) := by
 obtain ⟨o, cap, hv, h2, h3, hel⟩ := h
 cases hv
 have hl : ((l.take j).drop i).length = j - i := by simp; omega
 refine ⟨_, c - i, by rw [hl], by rw [hl]; omega, by omega, fun t ht => ?_⟩
 rw [hl] at ht
 obtain ⟨b', off', cs, he, h5, h6, h7, h8⟩ := hel (i + t) (by omega)
 cases he
 refine ⟨b, off + i * sz, cs, rfl, h5, h6, ?_, fun k hk => ?_⟩
 ·simp only [List.getElem_drop, List.getElem_take]; exact h7
 ·rw [show off + i * sz + t * sz + k = off + (i + t) * sz + k by rw [Nat.add_mul]; omega]
  exact h8 k hk
theorem results_cell_one {fn : Func} {p : Tmp} {ty : TypeId} (h : fn.results = #[.cell p ty]) (tmps : Array Value) (P : Program) (w : World) :
  (results fn tmps).run P w = ((asAddr (tmps.getD p undef)).run P w).andThen fun a w₁ => (loadVar ty a).run P w₁ := by
 simp only [results, h]
 simp [Sem.run_bind, Result.andThen]
/-- What Find answers. -/
def FindPost (nm : ByteArray) (l : List ItemD) (w : World) (e : Ending) (w' : World) : Prop :=
 Below w.heap.size w w' ∧ ((l.any (fun x => decide (x.name = nm)) = false ∧ e = .returned (.tuple #[.agg #[.string ⟨#[]⟩, .slice none 0 0], .int .i64 9])) ∨
  ∃ k, ∃ h : k < l.length, l[k].name = nm ∧ (l.take k).any (fun x => decide (x.name = nm)) = false ∧ ∃ mo mc, e = .returned (.tuple #[.agg #[.string l[k].name, .slice mo l[k].marks.length mc], .int .i64 0]) ∧ EMark.Row w.heap.size w' (.slice mo l[k].marks.length mc) l[k].marks)
theorem itemsFind_any (nm : ByteArray) (l : List ItemD) (v : Value) (w : World) (h : Arr ItemR 2 w v l) (hl : Lt l) : Calls Tryz.prog 85 #[v, .string nm] w (FindPost nm l w) := by
 have hn := h.len
 obtain ⟨W1, hW1⟩ : ∃ W1, W1 = w.alloc (.cells #[.string ⟨#[]⟩, .slice none 0 0] 55) := ⟨_, rfl⟩
 have hb1 : Below w.heap.size w W1 := by rw [hW1]; exact bal
 have hg1 : W1.heap[w.heap.size]? = some (.cells #[.string ⟨#[]⟩, .slice none 0 0] 55) := by rw [hW1]; exact alloc_new _ _
 have hgl1 := lt_of_heap hg1
 have HI := Hd (itemsIndex_any nm l v W1 (h.items hb1))
 have HA := Hd h
 have HLT := Hd hl
 have HG1 := Hd hg1
 have HB1 := Hd hb1
 have HW := Hd hW1
 obtain ⟨o, c, rfl, -⟩ := id h
 clear hg1 hb1 hW1 h hl
 go_enter Tryz.func85, Tryz.ntmps85
 go_wp2_with fail
 rw [← HW.out]
 refine HI.out.mono ?_
 rintro e w2 ⟨i, rfl, hi, hb2⟩
 have hg2 : w2.heap[w.heap.size]? = some (.cells #[.string ⟨#[]⟩, .slice none 0 0] 55) := by rw [hb2.block _ hgl1]; exact HG1.out
 have d0 : w2.cell? ⟨w.heap.size, 0, none⟩ = some (.string ⟨#[]⟩) := cl0 hg2 0 rfl
 have d1 : w2.cell? ⟨w.heap.size, 1, none⟩ = some (.slice none 0 0) := cl0 hg2 1 rfl
 have f0 : w2.frozen? ⟨w.heap.size, 0, none⟩ = false := froz0 hg2 0
 have f1 : w2.frozen? ⟨w.heap.size, 1, none⟩ = false := froz0 hg2 1
 have hgl2 : w.heap.size < w2.heap.size := lt_of_heap hg2
 have HB2 := Hd (btr HB1.out hb2)
 rcases hi with ⟨rfl, hany⟩ | ⟨k, hk, rfl, hp, ht⟩
 ·have HF := Hd hany
  clear hany hg2 hb2 HI
  go_wp2_with fail
  (try simp only [Exit.inBlock, Exit.then])
  refine bodyPost_ret (v := .tuple #[.agg #[.string ⟨#[]⟩, .slice none 0 0], .int .i64 9]) ?_ rfl ⟨(HB2.out.setCell (Nat.le_refl _) _).setCell (Nat.le_refl _) _, Or.inl ⟨HF.out, rfl⟩⟩
  rw [results_cell_tmp rfl]
  go_simp
 ·obtain ⟨b, off, rfl⟩ : ∃ b off, o = some ⟨b, off, none⟩ := by
   obtain ⟨o', c', hv, hel⟩ := HA.out.itemAt
   obtain ⟨b, off, _, he, _⟩ := hel k hk
   cases hv
   exact ⟨b, off, he⟩
  have harr := (HA.out.items HB2.out).part k (k + 1) (by omega) (by omega)
  have hpart : (l.take (k + 1)).drop k = [l[k]] := by
   rw [List.take_succ_eq_append_getElem hk, List.drop_append_of_le_length (by simp; omega)]; simp
  rw [hpart, show k + 1 - k = 1 by omega] at harr
  have hcap : l.length ≤ c := by obtain ⟨_, _, hv, h2, _⟩ := HA.out; cases hv; exact h2
  have HCP := Hd (itemsCopy_any [l[k]] _ w2 harr ⟨by simp, fun x hx => by simp at hx; subst hx; exact HLT.out.2 _ (List.getElem_mem hk)⟩)
  have HP1 : Hid (l[k].name = nm) := Hd (by simpa using hp)
  have HT := Hd ht
  have a0 : (0 : Int) ≤ k := by omega
  have a1 : ¬ (k : Int) < 0 := by omega
  have a2 : (k : Int) < l.length := by omega
  have a3 : (k : Int) + 1 ≤ l.length := by omega
  have a4 : (k : Int) + 1 ≤ c := by omega
  have a5 : (k : Int) ≤ (k : Int) + 1 := by omega
  have a6 : ((k : Int) + 1).toNat = k + 1 := by omega
  have a7 : k + 1 - k = 1 := by omega
  have t1 : decide ((k : Int) < 0) = false := decide_eq_false a1
  have hkw := wr1 k (by omega)
  clear harr hpart ht hp HI
  obtain ⟨x, hx⟩ : ∃ x, x = l[k] := ⟨_, rfl⟩
  rw [← hx] at HCP
  have HG2 := Hd hg2
  clear hg2 d0 d1 f0 f1
  go_wp2_with fail
  refine HCP.out.mono ?_
  rintro e w3 ⟨v3, ps, rfl, hps, hfr, hb3⟩
  obtain ⟨p, rfl⟩ : ∃ p, ps = [p] := by
   match ps, hps with
   | [p], _ => exact ⟨p, rfl⟩
  have hpx : p.x = x := by simpa using hps
  obtain ⟨hrow, hok, -⟩ := hfr
  obtain ⟨⟨-, hmrow, -⟩, -⟩ := hok p (by simp)
  obtain ⟨g, cap, rfl, hin, hgb⟩ := hrow.some (by simp)
  have k0 : w3.cell? ⟨g, 0, none⟩ = some (.string x.name) := by
   have := hin.cell 0 (by simp) 0 (by decide)
   rw [← hpx]
   exact this
  have k1 : w3.cell? ⟨g, 1, none⟩ = some (.slice p.mo x.marks.length p.mc) := by
   have := hin.cell 0 (by simp) 1 (by decide)
   rw [← hpx]
   exact this
  have hg3 : w3.heap[w.heap.size]? = some (.cells #[.string ⟨#[]⟩, .slice none 0 0] 55) := by rw [hb3.block _ hgl2]; exact HG2.out
  have d0 : w3.cell? ⟨w.heap.size, 0, none⟩ = some (.string ⟨#[]⟩) := cl0 hg3 0 rfl
  have d1 : w3.cell? ⟨w.heap.size, 1, none⟩ = some (.slice none 0 0) := cl0 hg3 1 rfl
  have f0 : w3.frozen? ⟨w.heap.size, 0, none⟩ = false := froz0 hg3 0
  have f1 : w3.frozen? ⟨w.heap.size, 1, none⟩ = false := froz0 hg3 1
  have HB3 := Hd (btr HB2.out hb3)
  have HMR : Hid (EMark.Row w.heap.size ((w3.setCell ⟨w.heap.size, 0, none⟩ (.string x.name)).setCell ⟨w.heap.size, 1, none⟩ (.slice p.mo x.marks.length p.mc)) (.slice p.mo x.marks.length p.mc) x.marks) := Hd (by
   rw [← hpx]
   refine ((show EMark.Row w2.heap.size w3 (.slice p.mo p.x.marks.length p.mc) p.x.marks from hmrow).mono (Nat.le_of_lt hgl2)).stay (fun j hj => ?_)
   have hj2 := (hmrow.lt j hj).1
   rw [setCell_other (by omega), setCell_other (by omega)])
  clear hb3 hrow hok hmrow hin hg3 hps hpx
  go_wp2_with fail
  (try simp only [Exit.inBlock, Exit.then])
  refine bodyPost_ret (v := .tuple #[.agg #[.string x.name, .slice p.mo x.marks.length p.mc], .int .i64 0]) ?_ rfl ⟨(HB3.out.setCell (Nat.le_refl _) _).setCell (Nat.le_refl _) _, Or.inr ⟨k, hk, HP1.out, HT.out, p.mo, p.mc, by rw [← hx], by rw [← hx]; exact HMR.out⟩⟩
  rw [results_cell_tmp rfl]
  go_simp
end Go.Proofs.YtjoljfnlkddfbaaGreatDoor
namespace Go.Proofs.YtjoljfnlkddfbaaGreatDoor
open Go.RowKit Go.Maps

theorem isNaNU64_any (x : Int) (w : World) : Calls Tryz.prog 206 #[.int .u64 x] w fun e w' => e = .returned (.bool false) ∧ w' = w := by
 go_enter Tryz.func206, Tryz.ntmps206
 go_wp2
 go_ret
 exact ⟨rfl, rfl⟩
theorem cmpU64_any (x y : Int) (w : World) : Calls Tryz.prog 175 #[.int .u64 x, .int .u64 y] w fun e w' => e = .returned (.int .i64 (cmpI x y)) ∧ w' = w := by
 have HN := Hd (fun z wz => isNaNU64_any z wz)
 by_cases h1 : x < y
 ·have hc : Hid (cmpI x y = -1) := Hd (by unfold cmpI; rw [if_pos h1])
  have t1 : decide (x < y) = true := decide_eq_true h1
  go_enter Tryz.func175, Tryz.ntmps175
  go_wp2_with fail
  refine (HN.out _ _).mono ?_
  rintro e w1 ⟨rfl, rfl⟩
  go_wp2_with fail
  refine (HN.out _ _).mono ?_
  rintro e w2 ⟨rfl, rfl⟩
  go_wp2_with fail
  go_ret
  exact ⟨by rw [hc.out]; rfl, rfl⟩
 ·have t1 : decide (x < y) = false := decide_eq_false h1
  by_cases h2 : y < x
  ·have hc : Hid (cmpI x y = 1) := Hd (by unfold cmpI; rw [if_neg h1, if_pos h2])
   have t2 : decide (y < x) = true := decide_eq_true h2
   go_enter Tryz.func175, Tryz.ntmps175
   go_wp2_with fail
   refine (HN.out _ _).mono ?_
   rintro e w1 ⟨rfl, rfl⟩
   go_wp2_with fail
   refine (HN.out _ _).mono ?_
   rintro e w2 ⟨rfl, rfl⟩
   go_wp2_with fail
   go_ret
   exact ⟨by rw [hc.out]; rfl, rfl⟩
  ·have hc : Hid (cmpI x y = 0) := Hd (by unfold cmpI; rw [if_neg h1, if_neg h2])
   have t2 : decide (y < x) = false := decide_eq_false h2
   go_enter Tryz.func175, Tryz.ntmps175
   go_wp2_with fail
   refine (HN.out _ _).mono ?_
   rintro e w1 ⟨rfl, rfl⟩
   go_wp2_with fail
   refine (HN.out _ _).mono ?_
   rintro e w2 ⟨rfl, rfl⟩
   go_wp2_with fail
   go_ret
   exact ⟨by rw [hc.out]; rfl, rfl⟩


theorem qtyCompare_any (a b : MarkD) (w : World) : Calls Tryz.prog 131 #[markV a, markV b] w fun e w' => e = .returned (.int .i64 (mcmp a b)) ∧ Below w.heap.size w w' := by
 have HEQ := Hd (fun wz => eqMark a b wz)
 have HGD := Hd (fun op x y wz => guardMark op x y a b wz)
 obtain ⟨W1, hW1⟩ : ∃ W1, W1 = ((w.alloc (.cells #[.int .i64 a.dot.rep, .int .i64 a.dot.ctr, .int .i64 a.qty, .int .u64 a.time] 85)).alloc (.cells #[.int .i64 b.dot.rep, .int .i64 b.dot.ctr, .int .i64 b.qty, .int .u64 b.time] 85)) := ⟨_, rfl⟩
 have hb1 : Below w.heap.size w W1 := by rw [hW1]; exact (bal).alloc (by simp) _
 have hg0 : W1.heap[w.heap.size]? = some (.cells #[.int .i64 a.dot.rep, .int .i64 a.dot.ctr, .int .i64 a.qty, .int .u64 a.time] 85) := by rw [hW1, alloc_old _ _ (by simp)]; exact alloc_new _ _
 have hg1 : W1.heap[w.heap.size + 1]? = some (.cells #[.int .i64 b.dot.rep, .int .i64 b.dot.ctr, .int .i64 b.qty, .int .u64 b.time] 85) := by
  rw [hW1]
  have := alloc_new (w.alloc (.cells #[.int .i64 a.dot.rep, .int .i64 a.dot.ctr, .int .i64 a.qty, .int .u64 a.time] 85)) (.cells #[.int .i64 b.dot.rep, .int .i64 b.dot.ctr, .int .i64 b.qty, .int .u64 b.time] 85)
  simpa only [alloc_size] using this
 have c0 : W1.cell? ⟨w.heap.size, 0, none⟩ = some (.int .i64 a.dot.rep) := cl0 hg0 0 rfl
 have c1 : W1.cell? ⟨w.heap.size, 1, none⟩ = some (.int .i64 a.dot.ctr) := cl0 hg0 1 rfl
 have c2 : W1.cell? ⟨w.heap.size, 2, none⟩ = some (.int .i64 a.qty) := cl0 hg0 2 rfl
 have c3 : W1.cell? ⟨w.heap.size, 3, none⟩ = some (.int .u64 a.time) := cl0 hg0 3 rfl
 have d0 : W1.cell? ⟨w.heap.size + 1, 0, none⟩ = some (.int .i64 b.dot.rep) := cl0 hg1 0 rfl
 have d1 : W1.cell? ⟨w.heap.size + 1, 1, none⟩ = some (.int .i64 b.dot.ctr) := cl0 hg1 1 rfl
 have d2 : W1.cell? ⟨w.heap.size + 1, 2, none⟩ = some (.int .i64 b.qty) := cl0 hg1 2 rfl
 have d3 : W1.cell? ⟨w.heap.size + 1, 3, none⟩ = some (.int .u64 b.time) := cl0 hg1 3 rfl
 have HW := Hd hW1
 have HB1 := Hd hb1
 clear hW1 hb1 hg0 hg1
 unfold markV at *
 have heq : ∀ wz : World, Sem.run Tryz.prog (binOp .eql 85 (.agg #[.int .i64 a.dot.rep, .int .i64 a.dot.ctr, .int .i64 a.qty, .int .u64 a.time]) (.agg #[.int .i64 b.dot.rep, .int .i64 b.dot.ctr, .int .i64 b.qty, .int .u64 b.time])) wz = .ok (.bool (decide (a = b))) wz := fun wz => HEQ.out wz
 have hgd : ∀ (op : BinOp) (x y : Operand) (wz : World), Sem.run Tryz.prog (eqGuard op 85 x y (.agg #[.int .i64 a.dot.rep, .int .i64 a.dot.ctr, .int .i64 a.qty, .int .u64 a.time]) (.agg #[.int .i64 b.dot.rep, .int .i64 b.dot.ctr, .int .i64 b.qty, .int .u64 b.time])) wz = .ok () wz := fun op x y wz => HGD.out op x y wz
 by_cases hab : a = b
 ·have HF : Hid (mcmp a b = 0) := Hd (by unfold mcmp; rw [if_pos hab])
  have hd : decide (a = b) = true := decide_eq_true hab
  rw [hd] at heq
  clear hab hd
  go_enter Tryz.func131, Tryz.ntmps131
  clear c0 c1 c2 c3 d0 d1 d2 d3
  go_wp2_with fail
  go_ret
  exact ⟨by rw [HF.out]; rfl, (bal).alloc (by simp) _⟩
 ·have hd : decide (a = b) = false := decide_eq_false hab
  rw [hd] at heq
  have HF : Hid (mcmp a b = orI [cmpI a.time b.time, cmpI a.dot.rep b.dot.rep, cmpI a.dot.ctr b.dot.ctr, cmpI a.qty b.qty]) := Hd (by unfold mcmp; rw [if_neg hab])
  clear hab hd
  go_enter Tryz.func131, Tryz.ntmps131
  go_upto_region 3 with fail
  rw [← HW.out]
  clear HW heq hgd HEQ HGD
  obtain ⟨x1, hx1⟩ : ∃ x, x = cmpI a.time b.time := ⟨_, rfl⟩
  obtain ⟨x2, hx2⟩ : ∃ x, x = cmpI a.dot.rep b.dot.rep := ⟨_, rfl⟩
  obtain ⟨x3, hx3⟩ : ∃ x, x = cmpI a.dot.ctr b.dot.ctr := ⟨_, rfl⟩
  obtain ⟨x4, hx4⟩ : ∃ x, x = cmpI a.qty b.qty := ⟨_, rfl⟩
  rw [← hx1, ← hx2, ← hx3, ← hx4] at HF
  have HC1 : Hid (∀ wz, Calls Tryz.prog 175 #[.int .u64 a.time, .int .u64 b.time] wz fun e w' => e = .returned (.int .i64 x1) ∧ w' = wz) := Hd (fun wz => by rw [hx1]; exact cmpU64_any _ _ wz)
  have HC2 : Hid (∀ wz, Calls Tryz.prog 152 #[.int .i64 a.dot.rep, .int .i64 b.dot.rep] wz fun e w' => e = .returned (.int .i64 x2) ∧ w' = wz) := Hd (fun wz => by rw [hx2]; exact cmpInt_any _ _ wz)
  have HC3 : Hid (∀ wz, Calls Tryz.prog 152 #[.int .i64 a.dot.ctr, .int .i64 b.dot.ctr] wz fun e w' => e = .returned (.int .i64 x3) ∧ w' = wz) := Hd (fun wz => by rw [hx3]; exact cmpInt_any _ _ wz)
  have HC4 : Hid (∀ wz, Calls Tryz.prog 152 #[.int .i64 a.qty, .int .i64 b.qty] wz fun e w' => e = .returned (.int .i64 x4) ∧ w' = wz) := Hd (fun wz => by rw [hx4]; exact cmpInt_any _ _ wz)
  clear hx1 hx2 hx3 hx4
  have HO2 : Hid (Calls Tryz.prog 151 #[.slice (some ⟨W1.heap.size, 0, none⟩) 4 4] (W1.drew.alloc (.cells #[.int .i64 x1, .int .i64 x2, .int .i64 x3, .int .i64 x4] 3)) fun e w' => e = .returned (.int .i64 (orI [x1, x2, x3, x4])) ∧ w' = W1.drew.alloc (.cells #[.int .i64 x1, .int .i64 x2, .int .i64 x3, .int .i64 x4] 3)) := Hd (by
   have h0 : (W1.drew.alloc (.cells #[.int .i64 x1, .int .i64 x2, .int .i64 x3, .int .i64 x4] 3)).heap[W1.heap.size]? = some (.cells #[.int .i64 x1, .int .i64 x2, .int .i64 x3, .int .i64 x4] 3) := alloc_new W1.drew _
   exact cmpOr_any [x1, x2, x3, x4] W1.heap.size 4 _ (by simp) (fun i hi => by
    match i, hi with
    | 0, _ => rw [cell0 h0 0]; rfl
    | 1, _ => rw [cell0 h0 1]; rfl
    | 2, _ => rw [cell0 h0 2]; rfl
    | 3, _ => rw [cell0 h0 3]; rfl))
  refine NQ.to ?_
  go_region_held3 (fun w' => w'.cell? ⟨w.heap.size, 0, none⟩ = some (.int .i64 a.dot.rep) ∧ w'.cell? ⟨w.heap.size, 1, none⟩ = some (.int .i64 a.dot.ctr) ∧ w'.cell? ⟨w.heap.size, 2, none⟩ = some (.int .i64 a.qty) ∧ w'.cell? ⟨w.heap.size, 3, none⟩ = some (.int .u64 a.time) ∧ w'.cell? ⟨w.heap.size + 1, 0, none⟩ = some (.int .i64 b.dot.rep) ∧ w'.cell? ⟨w.heap.size + 1, 1, none⟩ = some (.int .i64 b.dot.ctr) ∧ w'.cell? ⟨w.heap.size + 1, 2, none⟩ = some (.int .i64 b.qty) ∧ w'.cell? ⟨w.heap.size + 1, 3, none⟩ = some (.int .u64 b.time)) (first | go_keep | go_simp) (first | (go_at_call 175; refine (HC1.out _).mono ?_; rintro e w1 ⟨rfl, rfl⟩) | (go_at_call 152; first | (with_reducible show Calls _ _ #[.int .i64 a.dot.rep, _] _ _; refine (HC2.out _).mono ?_; rintro e w1 ⟨rfl, rfl⟩) | (with_reducible show Calls _ _ #[.int .i64 a.dot.ctr, _] _ _; refine (HC3.out _).mono ?_; rintro e w1 ⟨rfl, rfl⟩) | (refine (HC4.out _).mono ?_; rintro e w1 ⟨rfl, rfl⟩)) | (go_at_call 151; refine HO2.out.mono ?_; rintro e w1 ⟨rfl, rfl⟩))
  all_goals
   simp only [NQ]
   go_wp2
   go_ret
   exact ⟨by rw [HF.out]; rfl, below_drew1 (HB1.out.alloc (by have := HB1.out.size; omega) _)⟩
end Go.Proofs.YtjoljfnlkddfbaaGreatDoor

