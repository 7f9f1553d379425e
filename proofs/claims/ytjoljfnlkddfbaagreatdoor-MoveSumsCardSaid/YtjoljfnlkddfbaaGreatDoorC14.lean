/- join.marks, join.stay walked. -/
import Derived.Test.YtjoljfnlkddfbaaGreatDoorC13
import Derived.Test.YtjoljfnlkddfbaaGreatDoorCm
import Derived.Test.YtjoljfnlkddfbaaGreatDoorIt6
import Derived.Test.YtjoljfnlkddfbaaGreatDoorX3
set_option linter.unusedSimpArgs false
set_option linter.unusedVariables false
set_option maxRecDepth 100000
set_option maxHeartbeats 8000000
namespace Go.Proofs.YtjoljfnlkddfbaaGreatDoor
open Go.RowKit Go.Maps Go.Sort Go.Shelf

theorem find_marks {nm : ByteArray} {l : List ItemD} {k : Nat} (h : k < l.length) (hn : l[k].name = nm) (ht : (l.take k).any (fun x => decide (x.name = nm)) = false) : marksOf l nm = l[k].marks := by
 unfold marksOf findX
 rw [find_at _ l k h ht (by simp [hn])]; rfl
theorem joinMarks_any (c : CartD) (nm : ByteArray) (v1 v2 v3 : Value) (w : World) (h : CartA w v1 v2 v3 c) (hl : Lt c.items) : Calls Tryz.prog 96 #[.agg #[v1, v2, v3], .string nm] w fun e w' => ∃ v', e = .returned v' ∧ EMark.Row w.heap.size w' v' (marksOf c.items nm) ∧ Below w.heap.size w w' := by
 obtain ⟨o1, k1, rfl⟩ := h.1.slice
 obtain ⟨o2, k2, rfl⟩ := h.2.1.slice
 obtain ⟨o3, k3, rfl⟩ := h.2.2.slice
 obtain ⟨W1, hW1⟩ : ∃ W1, W1 = w.alloc (.cells #[.slice o1 c.vec.length k1, .slice o2 c.cloud.length k2, .slice o3 c.items.length k3] 28) := ⟨_, rfl⟩
 have hb1 : Below w.heap.size w W1 := by rw [hW1]; exact bal
 have HB1 := Hd hb1
 have HW := Hd hW1
 have HF := Hd (itemsFind_any nm c.items _ W1 (h.2.2.items hb1) hl)
 have HMN : Hid (∀ k (hk : k < c.items.length), c.items[k].name = nm → (c.items.take k).any (fun x => decide (x.name = nm)) = false → marksOf c.items nm = c.items[k].marks) := Hd (fun k hk => find_marks hk)
 have HM0 : Hid (c.items.any (fun x => decide (x.name = nm)) = false → marksOf c.items nm = []) := Hd (fun h => marksOf_none (fun x hx e => by
  have := List.any_eq_false.1 h x hx
  simp [e] at this))
 clear h hb1 hW1
 go_enter Tryz.func96, Tryz.ntmps96
 go_wp2_with fail
 rw [← HW.out]
 refine HF.out.mono ?_
 rintro e w2 ⟨hb2, ⟨hno, rfl⟩ | ⟨k, hk, hkn, hkt, mo, mc, rfl, hrow⟩⟩
 ·have HFF := Hd (HM0.out hno)
  have HB2 := Hd ((btr HB1.out hb2).alloc (btr HB1.out hb2).size (.cells #[.string ⟨#[]⟩, .slice none 0 0] 55))
  clear hb2 hno HF
  go_wp2_with fail
  go_ret
  exact ⟨_, rfl, by rw [HFF.out]; exact Enc.Row.nil _ _, HB2.out⟩
 ·have HFF := Hd (HMN.out k hk hkn hkt)
  have hbx := btr HB1.out hb2
  have HB2 := Hd (hbx.alloc hbx.size (.cells #[.string c.items[k].name, .slice mo c.items[k].marks.length mc] 55))
  have HR := Hd ((hrow.mono HB1.out.size).below ((brf.alloc (Nat.le_refl _) (.cells #[.string c.items[k].name, .slice mo c.items[k].marks.length mc] 55))))
  clear hb2 hkn hkt HF hrow hbx HMN HM0
  generalize c.items[k] = x at *
  go_wp2_with fail
  go_ret
  exact ⟨_, rfl, by rw [HFF.out]; exact HR.out, HB2.out⟩

theorem indexMarkQ_any (p : MarkD → Bool) (g q0 : Nat) (eg : ∀ args w, (callFunc g args).run Tryz.prog w = .ok (.enter g args) w)
  (l : List MarkD) (v : Value) (w : World) (hp : ∀ (d : MarkD) W, d ∈ l → Below w.heap.size w W → Calls Tryz.prog g #[markV d, .pointer (some ⟨q0, 0, none⟩)] W fun e w' => e = .returned (.bool (p d)) ∧ Below W.heap.size W w')
  (h : Arr MarkR 4 w v l) : Calls Tryz.prog 148 #[v, .func (.func g) #[] #[.pointer (some ⟨q0, 0, none⟩)]] w (IdxAt p l w) := by
 have hn := h.len
 obtain ⟨o, c, rfl, hel⟩ := h.markAt
 have HEL := Hd hel
 have HP := Hd hp
 clear hel h hp
 go_enter Tryz.func148, Tryz.ntmps148
 go_wp2_with fail
 go_loopw [8] (fun i wr => ∃ k : Nat, k ≤ l.length ∧ i = .int .i64 k ∧ (l.take k).any p = false ∧ Below w.heap.size w wr) (fun i _ => l.length - (intOf i).toNat)
 case atStart => exact ⟨0, Nat.zero_le _, rfl, rfl, Below.refl _ _⟩
 case round =>
  obtain ⟨k, hk, rfl, hall, hB⟩ := hrel
  have HALL := Hd hall
  have HB := Hd hB
  clear hall hB
  by_cases hlt : k < l.length
  ·obtain ⟨b, off, rfl, hbl, e0, e1, e2, e3, -⟩ := HEL.out k hlt
   have c0 : wr.cell? ⟨b, off + k * 4, none⟩ = some (.int .i64 l[k].dot.rep) := by rw [HB.out.cell (p := ⟨_, _, _⟩) hbl]; exact e0
   have c1 : wr.cell? ⟨b, off + k * 4 + 1, none⟩ = some (.int .i64 l[k].dot.ctr) := by rw [HB.out.cell (p := ⟨_, _, _⟩) hbl]; exact e1
   have c2 : wr.cell? ⟨b, off + k * 4 + 2, none⟩ = some (.int .i64 l[k].qty) := by rw [HB.out.cell (p := ⟨_, _, _⟩) hbl]; exact e2
   have c3 : wr.cell? ⟨b, off + k * 4 + 3, none⟩ = some (.int .u64 l[k].time) := by rw [HB.out.cell (p := ⟨_, _, _⟩) hbl]; exact e3
   have HS := Hd (any_take_snoc p l k hlt)
   have HIX : Hid (p l[k] = true → IdxIs p l (k : Int)) := Hd (fun h => Or.inr ⟨k, hlt, rfl, h, HALL.out⟩)
   have HPX := Hd (HP.out l[k] wr (List.getElem_mem hlt) HB.out)
   unfold markV at HPX
   generalize l[k] = x at *
   have a0 : (0 : Int) ≤ k := by omega
   have a1 : (k : Int) < l.length := by omega
   have hkw := wr1 k (by omega)
   clear e0 e1 e2 e3
   obtain ⟨r, hr⟩ : ∃ r, r = p x := ⟨_, rfl⟩
   rw [← hr] at HPX HS HIX
   clear hr
   cases r with
   | true =>
    have HF := Hd (HIX.out rfl)
    go_wp2_with (go_at_fn g; refine HPX.out.mono ?_; rintro e w2 ⟨rfl, hb2⟩)
    go_ret
    exact ⟨k, rfl, HF.out, btr HB.out hb2⟩
   | false =>
    have HF : Hid ((l.take (k + 1)).any p = false) := Hd (by rw [HS.out, HALL.out]; rfl)
    go_wp2_with (go_at_fn g; refine HPX.out.mono ?_; rintro e w2 ⟨rfl, hb2⟩)
    have hbf := btr HB.out hb2
    go_roundw
    case rel => exact ⟨k + 1, by omega, by go_num, HF.out, hbf⟩
    case measure => simp [intOf]; omega
  ·have hke : k = l.length := by omega
   have HF : Hid (IdxIs p l (-1)) := Hd (Or.inl ⟨rfl, by have := HALL.out; rw [hke, List.take_length] at this; exact this⟩)
   clear HALL
   go_wp2_with fail
   go_ret
   exact ⟨-1, rfl, HF.out, HB.out⟩

theorem joinStay1_any (o m : MarkD) (q : Nat) (w : World) (h0 : w.cell? ⟨q, 0, none⟩ = some (.int .i64 m.dot.rep)) (h1 : w.cell? ⟨q, 1, none⟩ = some (.int .i64 m.dot.ctr)) : Calls Tryz.prog 149 #[markV o, .pointer (some ⟨q, 0, none⟩)] w fun e w' => e = .returned (.bool (decide (o.dot = m.dot))) ∧ Below w.heap.size w w' := by
 have heq : ∀ wz : World, Sem.run Tryz.prog (binOp .eql 39 (.agg #[.int .i64 o.dot.rep, .int .i64 o.dot.ctr]) (.agg #[.int .i64 m.dot.rep, .int .i64 m.dot.ctr])) wz = .ok (.bool (decide (o.dot = m.dot))) wz := fun wz => eqDot o.dot m.dot wz
 have hgd : ∀ (op : BinOp) (a b : Operand) (wz : World), Sem.run Tryz.prog (eqGuard op 39 a b (.agg #[.int .i64 o.dot.rep, .int .i64 o.dot.ctr]) (.agg #[.int .i64 m.dot.rep, .int .i64 m.dot.ctr])) wz = .ok () wz := fun op a b wz => guardDot op a b o.dot m.dot wz
 have hql : q < w.heap.size := by
  obtain ⟨b, off, e, hlt⟩ := addr_plain h0
  cases e
  exact hlt
 have hb : Below w.heap.size w (w.alloc (.cells #[.int .i64 o.dot.rep, .int .i64 o.dot.ctr, .int .i64 o.qty, .int .u64 o.time] 85)) := bal
 have HB := Hd hb
 clear hb
 unfold markV
 go_enter Tryz.func149, Tryz.ntmps149
 go_wp2_with fail
 go_ret
 exact ⟨rfl, HB.out⟩
theorem staysM_none {other : List MarkD} {c : CartD} {m : MarkD} (h : other.any (fun o => decide (o.dot = m.dot)) = false) : staysM other c m = !hasC c m.dot := by
 unfold staysM markD
 rw [find_none _ _ h]
theorem staysM_some {other : List MarkD} {c : CartD} {m : MarkD} {n : Nat} (hn : n < other.length) (h : decide (other[n].dot = m.dot) = true) (ht : (other.take n).any (fun o => decide (o.dot = m.dot)) = false) : staysM other c m = decide (0 ≤ mcmp m other[n]) := by
 unfold staysM markD
 rw [find_at _ other n hn ht h]
theorem joinStay_any (l other : List MarkD) (c : CartD) (v u v1 v2 : Value) (w : World) (h : Arr MarkR 4 w v l) (h2 : Arr MarkR 4 w u other) (g1 : Arr DotR 2 w v1 c.vec) (g2 : Arr DotR 2 w v2 c.cloud) (hl : l.length ≤ 1000000) : Calls Tryz.prog 97 #[v, u, .agg #[v1, v2]] w fun e w' => ∃ v', e = .returned v' ∧ EMark.Row w.heap.size w' v' (stayM l other c) ∧ Below w.heap.size w w' := by
 have hn := h.len
 have hno := h2.len
 obtain ⟨o, cc, rfl, hel⟩ := h.markAt
 have h2' := h2
 obtain ⟨o2, c2, rfl, hel2⟩ := h2'.markAt
 obtain ⟨o3, k3, rfl⟩ := g1.slice
 obtain ⟨o4, k4, rfl⟩ := g2.slice
 obtain ⟨W1, hW1⟩ : ∃ W1, W1 = w.alloc (.cells #[.slice o3 c.vec.length k3, .slice o4 c.cloud.length k4] 25) := ⟨_, rfl⟩
 have hb1 : Below w.heap.size w W1 := by rw [hW1]; exact bal
 have hx1 : W1.heap[w.heap.size]? = some (.cells #[.slice o3 c.vec.length k3, .slice o4 c.cloud.length k4] 25) := by rw [hW1]; exact alloc_new _ _
 have HBX1 := Hd hx1
 have HB1 := Hd hb1
 have HW := Hd hW1
 have HEL := Hd hel
 have HEL2 := Hd hel2
 have eg : ∀ args w, (callFunc 149 args).run Tryz.prog w = .ok (.enter 149 args) w := enters_of Tryz.func149 (by kernel_rfl) rfl
 have HIX : Hid (∀ (m : MarkD) (wz : World) (q : Nat), Below w.heap.size w wz → wz.cell? ⟨q, 0, none⟩ = some (.int .i64 m.dot.rep) → wz.cell? ⟨q, 1, none⟩ = some (.int .i64 m.dot.ctr) → Calls Tryz.prog 148 #[.slice o2 other.length c2, .func (.func 149) #[] #[.pointer (some ⟨q, 0, none⟩)]] wz (IdxAt (fun o => decide (o.dot = m.dot)) other wz)) := Hd (fun m wz q hz q0 q1 => by
  have hql : q < wz.heap.size := by
   obtain ⟨b, off, e, hlt⟩ := addr_plain q0
   cases e
   exact hlt
  exact indexMarkQ_any _ 149 q eg other _ wz (fun d W _ hW => joinStay1_any d m q W (by rw [hW.cell (p := ⟨_, _, _⟩) hql]; exact q0) (by rw [hW.cell (p := ⟨_, _, _⟩) hql]; exact q1)) (h2.marks hz))
 have HHX : Hid (∀ (d : DotD) (wz : World), Below w.heap.size w wz → Calls Tryz.prog 53 #[.agg #[.slice o3 c.vec.length k3, .slice o4 c.cloud.length k4], .agg #[.int .i64 d.rep, .int .i64 d.ctr]] wz fun e w' => e = .returned (.bool (hasC c d)) ∧ Below wz.heap.size wz w') := Hd (fun d wz hz => ctxHas_any c.vec c.cloud d _ _ wz (g1.dots hz) (g2.dots hz))
 have HQX : Hid (∀ (a b : MarkD) (wz : World), Calls Tryz.prog 131 #[(.agg #[.int .i64 a.dot.rep, .int .i64 a.dot.ctr, .int .i64 a.qty, .int .u64 a.time]), (.agg #[.int .i64 b.dot.rep, .int .i64 b.dot.ctr, .int .i64 b.qty, .int .u64 b.time])] wz fun e w' => e = .returned (.int .i64 (mcmp a b)) ∧ Below wz.heap.size wz w') := Hd (fun a b wz => qtyCompare_any a b wz)
 have HSN : Hid (∀ m, other.any (fun o => decide (o.dot = m.dot)) = false → staysM other c m = !hasC c m.dot) := Hd (fun m h => staysM_none h)
 have HSS : Hid (∀ m n (hn : n < other.length), decide (other[n].dot = m.dot) = true → (other.take n).any (fun o => decide (o.dot = m.dot)) = false → staysM other c m = decide (0 ≤ mcmp m other[n])) := Hd (fun m n hn h ht => staysM_some hn h ht)
 have HSM : Hid (stayM l other c = l.filter (staysM other c)) := Hd rfl
 rw [HSM.out]
 have hol := h2.len
 clear h h2 h2' g1 g2 hel hel2 hb1 hx1 hW1 HSM
 generalize staysM other c = P at *
 obtain ⟨n3, hn3⟩ : ∃ n, n = c.vec.length := ⟨_, rfl⟩
 obtain ⟨n4, hn4⟩ : ∃ n, n = c.cloud.length := ⟨_, rfl⟩
 rw [← hn3] at HBX1 HHX HW ⊢
 rw [← hn4] at HBX1 HHX HW ⊢
 clear hn3 hn4
 go_enter Tryz.func97, Tryz.ntmps97
 go_wp2_with fail
 rw [← HW.out]
 go_wp2_with fail
 go_loopw [7, 13] (fun v i wr => ∃ k : Nat, k ≤ l.length ∧ i = .int .i64 k ∧ EMark.Row W1.heap.size wr v ((l.take k).filter P) ∧ Below W1.heap.size W1 wr) (fun _ i _ => l.length - (intOf i).toNat)
 case atStart => exact ⟨0, Nat.zero_le _, rfl, Enc.Row.nil _ _, Below.refl _ _⟩
 case round =>
  obtain ⟨k, hk, rfl, hrow, hB0⟩ := hrel
  obtain ⟨av, cv, rfl⟩ := hrow.slice
  have hB := btr HB1.out hB0
  have HB := Hd hB
  have hfl : ((l.take k).filter P).length ≤ k := by
   have h1 := List.length_filter_le P (l.take k)
   have h2 : (l.take k).length ≤ k := by rw [List.length_take]; omega
   omega
  by_cases hlt : k < l.length
  ·obtain ⟨b, off, rfl, hbl, e0, e1, e2, e3, -⟩ := HEL.out k hlt
   have HFT0 := Hd (filter_snoc P l k hlt)
   have c0 : wr.cell? ⟨b, off + k * 4, none⟩ = some (.int .i64 l[k].dot.rep) := by rw [hB.cell (p := ⟨_, _, _⟩) hbl]; exact e0
   have c1 : wr.cell? ⟨b, off + k * 4 + 1, none⟩ = some (.int .i64 l[k].dot.ctr) := by rw [hB.cell (p := ⟨_, _, _⟩) hbl]; exact e1
   have c2' : wr.cell? ⟨b, off + k * 4 + 2, none⟩ = some (.int .i64 l[k].qty) := by rw [hB.cell (p := ⟨_, _, _⟩) hbl]; exact e2
   have c3 : wr.cell? ⟨b, off + k * 4 + 3, none⟩ = some (.int .u64 l[k].time) := by rw [hB.cell (p := ⟨_, _, _⟩) hbl]; exact e3
   have HROW0 := Hd hrow
   have HB00 := Hd hB0
   generalize l[k] = x at *
   generalize (l.take k).filter P = F at *
   have a0 : (0 : Int) ≤ k := by omega
   have a1 : (k : Int) < l.length := by omega
   have hkw := wr1 k (by omega)
   obtain ⟨W2, hW2⟩ : ∃ W2, W2 = wr.alloc (.cells #[.int .i64 x.dot.rep, .int .i64 x.dot.ctr, .int .i64 x.qty, .int .u64 x.time] 85) := ⟨_, rfl⟩
   have hb2 : Below wr.heap.size wr W2 := by rw [hW2]; exact bal
   have hx2 : W2.heap[wr.heap.size]? = some (.cells #[.int .i64 x.dot.rep, .int .i64 x.dot.ctr, .int .i64 x.qty, .int .u64 x.time] 85) := by rw [hW2]; exact alloc_new _ _
   have HI := Hd (HIX.out x W2 wr.heap.size (btr hB hb2) (cl0 hx2 0 rfl) (cl0 hx2 1 rfl))
   have HW2 := Hd hW2
   have HX2 := Hd hx2
   have HB2 := Hd hb2
   have HROW := Hd hrow
   have hctx : wr.heap[w.heap.size]? = some (.cells #[.slice o3 n3 k3, .slice o4 n4 k4] 25) := by rw [hB0.block _ (lt_of_heap HBX1.out)]; exact HBX1.out
   have HCTX := Hd hctx
   clear hrow hB hB0 e0 e1 e2 e3 hb2 hW2 hx2 hctx
   go_wp2_with (go_loud (rw [← HW2.out]))
   refine HI.out.mono ?_
   rintro e w5 ⟨i, rfl, hix, hb5⟩
   have hb5w : Below wr.heap.size wr w5 := btr HB2.out hb5
   have hx5 : w5.heap[wr.heap.size]? = some (.cells #[.int .i64 x.dot.rep, .int .i64 x.dot.ctr, .int .i64 x.qty, .int .u64 x.time] 85) := by rw [hb5.block _ (lt_of_heap HX2.out)]; exact HX2.out
   have HX5 := Hd hx5
   clear hb5 hx5 HI c0 c1 c2' c3
   rcases hix with ⟨rfl, hany⟩ | ⟨n, hn', rfl, hp, ht⟩
   ·have HH := Hd (HHX.out x.dot w5.drew (HB.out.trans ((below_drew1 hb5w).mono HB.out.size)))
    have hPx := HSN.out x hany
    have HC : Hid (∀ wz, Below w5.heap.size w5 wz → (wz.cell? ⟨wr.heap.size, 0, none⟩ = some (.int .i64 x.dot.rep) ∧ wz.cell? ⟨wr.heap.size, 1, none⟩ = some (.int .i64 x.dot.ctr) ∧ wz.cell? ⟨wr.heap.size, 2, none⟩ = some (.int .i64 x.qty) ∧ wz.cell? ⟨wr.heap.size, 3, none⟩ = some (.int .u64 x.time)) ∧ wz.cell? ⟨w.heap.size, 0, none⟩ = some (.slice o3 n3 k3) ∧ wz.cell? ⟨w.heap.size, 1, none⟩ = some (.slice o4 n4 k4)) := Hd (fun wz hz => by
     have z0 := (hz.block _ (lt_of_heap HX5.out)).trans HX5.out
     have z1 := (hz.block _ (Nat.lt_of_lt_of_le (lt_of_heap HCTX.out) hb5w.size)).trans ((hb5w.block _ (lt_of_heap HCTX.out)).trans HCTX.out)
     exact ⟨⟨cl0 z0 0 rfl, cl0 z0 1 rfl, cl0 z0 2 rfl, cl0 z0 3 rfl⟩, cl0 z1 0 rfl, cl0 z1 1 rfl⟩)
    obtain ⟨r, hr⟩ : ∃ r, r = hasC c x.dot := ⟨_, rfl⟩
    rw [← hr] at HH hPx
    clear hr hany
    cases r with
    | false =>
     have HFT : Hid ((l.take (k + 1)).filter P = F ++ [x]) := Hd (by rw [HFT0.out, hPx]; rfl)
     clear hPx
     go_upto_region 6 with fail
     refine NQ.to ?_
     refine wp_region_held_drew (S := (fun wz => (wz.cell? ⟨wr.heap.size, 0, none⟩ = some (.int .i64 x.dot.rep) ∧ wz.cell? ⟨wr.heap.size, 1, none⟩ = some (.int .i64 x.dot.ctr) ∧ wz.cell? ⟨wr.heap.size, 2, none⟩ = some (.int .i64 x.qty) ∧ wz.cell? ⟨wr.heap.size, 3, none⟩ = some (.int .u64 x.time)) ∧ wz.cell? ⟨w.heap.size, 0, none⟩ = some (.slice o3 n3 k3) ∧ wz.cell? ⟨w.heap.size, 1, none⟩ = some (.slice o4 n4 k4))) (by kernel_rfl) (HC.out _ bdr) (fun hS => ?_)
     refine tkR (n := 6) [0, 1, 2, 3, 4, 5] rfl (by decide +kernel) hS ?_
     iterate 6 ((try simp only [Act.put, s1, s2, s3, s4, s5, s6]); refine ⟨_, ?_, rfl, Or.inl ⟨by kernel_rfl, fun w hSw => ok_of fun z hz => ?_⟩, ?_⟩; rotate_left; · (obtain ⟨⟨g0, g1, g2, g3⟩, g4, g5⟩ := hSw; go_simp; exact hz))
     refine RunOK.done ?_
     try simp only [Act.put, s1, s2, s3, s4, s5, s6]
     refine rd1 6 (by decide +kernel) rfl (fun K hK => ?_)
     go_simp
     go_at_call 53
     refine HH.out.mono ?_
     rintro e w6 ⟨rfl, hb6⟩
     go_simp
     refine Shut.out hK _ _ (HC.out w6 (below_drew1 brf |>.trans hb6)) (fun hS2 => ?_); clear hK K hS; have hS := hS2; clear hS2
     refine tkR (n := 15) [7, 8, 9, 10, 11, 12, 13, 14, 15, 16, 17, 18, 19, 20, 21] rfl (by decide +kernel) hS ?_
     iterate 3 ((try simp only [Act.put, s1, s2, s3, s4, s5, s6]); refine ⟨_, ?_, rfl, Or.inl ⟨by kernel_rfl, fun w hSw => ok_of fun z hz => ?_⟩, ?_⟩; rotate_left; · (go_simp; exact hz))
     iterate 11 ((try simp only [Act.put, s1, s2, s3, s4, s5, s6]); refine ⟨_, undef, rfl, Or.inr ⟨by kernel_rfl, rfl⟩, ?_⟩)
     ((try simp only [Act.put, s1, s2, s3, s4, s5, s6]); refine ⟨_, ?_, rfl, Or.inl ⟨by kernel_rfl, fun w hSw => ok_of fun z hz => ?_⟩, ?_⟩; rotate_left; · (go_simp; exact hz))
     refine RunOK.done ?_
     try simp only [Act.put, s1, s2, s3, s4, s5, s6]
     refine wpAnyH_done (by kernel_rfl) ?_ _
     try simp only [Act.put, s1, s2, s3, s4, s5, s6]
     simp only [NQ]
     clear HH
     have hb6' : Below wr.heap.size wr w6 := hb5w.trans ((bdr.trans hb6).mono hb5w.size)
     obtain ⟨⟨g0, g1, g2, g3⟩, -⟩ := hS
     obtain ⟨W7, hW7⟩ : ∃ W7, W7 = w6.alloc (.cells #[.int .i64 x.dot.rep, .int .i64 x.dot.ctr, .int .i64 x.qty, .int .u64 x.time] 85) := ⟨_, rfl⟩
     have hb67 : Below w6.heap.size w6 W7 := by rw [hW7]; exact bal
     have hb7 := hb6'.trans (hb67.mono hb6'.size)
     have HROW7 := Hd (HROW.out.below hb7)
     have HSRC : Hid (Enc.Src EMark W7 (.slice (some ⟨w6.heap.size, 0, none⟩) 1 1) [x]) := Hd (by rw [hW7]; exact Enc.Src.one_lit w6 85 x)
     have HB7 := Hd (btr HB00.out hb7)
     have HW7 := Hd hW7
     clear hb6 hb6' hb67 hb7 hW7
     go_wp2_with (at_builtin; go_loud (rw [← HW7.out]); go_loud (refine wpList_append_row rfl _ _ 53 rfl EMark W1.heap.size (.agg #[.int .i64 0, .int .i64 0, .int .i64 0, .int .u64 0]) 32 Tryz.underlying53 infoMark (by decide) (by decide) _ _ rfl HROW7.out _ _ rfl HSRC.out (by first | omega | (simp; omega)) HB7.out.size ?_); intro v8 w8 hown8 hgr8)
     have hbf := HB7.out.grown hgr8 HB7.out.size (fun j hj => (HROW7.out.lt _ hj).1)
     go_roundw
     case rel => exact ⟨k + 1, by omega, by go_num, by rw [HFT.out]; exact hown8, hbf⟩
     case measure => simp [intOf]; omega
    | true =>
     have HFT : Hid ((l.take (k + 1)).filter P = F) := Hd (by rw [HFT0.out, hPx]; simp)
     clear hPx
     go_upto_region 6 with fail
     refine NQ.to ?_
     refine wp_region_held_drew (S := (fun wz => (wz.cell? ⟨wr.heap.size, 0, none⟩ = some (.int .i64 x.dot.rep) ∧ wz.cell? ⟨wr.heap.size, 1, none⟩ = some (.int .i64 x.dot.ctr) ∧ wz.cell? ⟨wr.heap.size, 2, none⟩ = some (.int .i64 x.qty) ∧ wz.cell? ⟨wr.heap.size, 3, none⟩ = some (.int .u64 x.time)) ∧ wz.cell? ⟨w.heap.size, 0, none⟩ = some (.slice o3 n3 k3) ∧ wz.cell? ⟨w.heap.size, 1, none⟩ = some (.slice o4 n4 k4))) (by kernel_rfl) (HC.out _ bdr) (fun hS => ?_)
     refine tkR (n := 6) [0, 1, 2, 3, 4, 5] rfl (by decide +kernel) hS ?_
     iterate 6 ((try simp only [Act.put, s1, s2, s3, s4, s5, s6]); refine ⟨_, ?_, rfl, Or.inl ⟨by kernel_rfl, fun w hSw => ok_of fun z hz => ?_⟩, ?_⟩; rotate_left; · (obtain ⟨⟨g0, g1, g2, g3⟩, g4, g5⟩ := hSw; go_simp; exact hz))
     refine RunOK.done ?_
     try simp only [Act.put, s1, s2, s3, s4, s5, s6]
     refine rd1 6 (by decide +kernel) rfl (fun K hK => ?_)
     go_simp
     go_at_call 53
     refine HH.out.mono ?_
     rintro e w6 ⟨rfl, hb6⟩
     go_simp
     refine Shut.out hK _ _ (HC.out w6 (below_drew1 brf |>.trans hb6)) (fun hS2 => ?_); clear hK K hS; have hS := hS2; clear hS2
     refine tkR (n := 15) [7, 8, 9, 10, 11, 12, 13, 14, 15, 16, 17, 18, 19, 20, 21] rfl (by decide +kernel) hS ?_
     iterate 6 ((try simp only [Act.put, s1, s2, s3, s4, s5, s6]); refine ⟨_, ?_, rfl, Or.inl ⟨by kernel_rfl, fun w hSw => ok_of fun z hz => ?_⟩, ?_⟩; rotate_left; · (go_simp; exact hz))
     iterate 7 ((try simp only [Act.put, s1, s2, s3, s4, s5, s6]); refine ⟨_, undef, rfl, Or.inr ⟨by kernel_rfl, rfl⟩, ?_⟩)
     iterate 2 ((try simp only [Act.put, s1, s2, s3, s4, s5, s6]); refine ⟨_, ?_, rfl, Or.inl ⟨by kernel_rfl, fun w hSw => ok_of fun z hz => ?_⟩, ?_⟩; rotate_left; · (go_simp; exact hz))
     refine RunOK.done ?_
     try simp only [Act.put, s1, s2, s3, s4, s5, s6]
     refine wpAnyH_done (by kernel_rfl) ?_ _
     try simp only [Act.put, s1, s2, s3, s4, s5, s6]
     simp only [NQ]
     clear HH
     have hbf := HB00.out.trans ((hb5w.trans ((bdr.trans hb6).mono hb5w.size)).mono HB00.out.size)
     have hrowf := HROW.out.below (hb5w.trans ((bdr.trans hb6).mono hb5w.size))
     go_wp2_with fail
     go_roundw
     case rel => exact ⟨k + 1, by omega, by go_num, by rw [HFT.out]; exact hrowf, hbf⟩
     case measure => simp [intOf]; omega
   ·obtain ⟨bo, offo, rfl, hbol, z0, z1, z2, z3, -⟩ := HEL2.out n hn'
    have hPx := HSS.out x n hn' hp ht
    have hbow : bo < w5.heap.size := Nat.lt_of_lt_of_le hbol (Nat.le_trans HB.out.size hb5w.size)
    have hB5 := btr HB.out hb5w
    generalize hyy : other[n] = y at *
    have HC : Hid (∀ wz, Below w5.heap.size w5 wz → (wz.cell? ⟨wr.heap.size, 0, none⟩ = some (.int .i64 x.dot.rep) ∧ wz.cell? ⟨wr.heap.size, 1, none⟩ = some (.int .i64 x.dot.ctr) ∧ wz.cell? ⟨wr.heap.size, 2, none⟩ = some (.int .i64 x.qty) ∧ wz.cell? ⟨wr.heap.size, 3, none⟩ = some (.int .u64 x.time)) ∧ wz.cell? ⟨bo, offo + n * 4, none⟩ = some (.int .i64 y.dot.rep) ∧ wz.cell? ⟨bo, offo + n * 4 + 1, none⟩ = some (.int .i64 y.dot.ctr) ∧ wz.cell? ⟨bo, offo + n * 4 + 2, none⟩ = some (.int .i64 y.qty) ∧ wz.cell? ⟨bo, offo + n * 4 + 3, none⟩ = some (.int .u64 y.time)) := Hd (fun wz hz => by
     have y0 := (hz.block _ (lt_of_heap HX5.out)).trans HX5.out
     have hz5 := btr hB5 hz
     exact ⟨⟨cl0 y0 0 rfl, cl0 y0 1 rfl, cl0 y0 2 rfl, cl0 y0 3 rfl⟩, by rw [hz5.cell (p := ⟨_, _, _⟩) hbol]; exact z0, by rw [hz5.cell (p := ⟨_, _, _⟩) hbol]; exact z1, by rw [hz5.cell (p := ⟨_, _, _⟩) hbol]; exact z2, by rw [hz5.cell (p := ⟨_, _, _⟩) hbol]; exact z3⟩)
    have HQ := Hd (HQX.out x y w5.drew)
    have i0 : ¬ (n : Int) < 0 := by omega
    have i1 : decide ((n : Int) < 0) = false := decide_eq_false (by omega)
    have i2 : (0 : Int) ≤ n := by omega
    have i3 : (n : Int) < other.length := by omega
    have i4 : decide ((0 : Int) ≤ n) = true := decide_eq_true (by omega)
    clear hyy z0 z1 z2 z3 hp ht hB5
    generalize mcmp x y = q at *
    by_cases hq : 0 ≤ q
    ·have HFT : Hid ((l.take (k + 1)).filter P = F ++ [x]) := Hd (by rw [HFT0.out, hPx, decide_eq_true hq]; rfl)
     have hq2 : decide (0 ≤ q) = true := decide_eq_true hq
     clear hPx
     go_upto_region 6 with fail
     refine NQ.to ?_
     refine wp_region_held_drew (S := (fun wz => (wz.cell? ⟨wr.heap.size, 0, none⟩ = some (.int .i64 x.dot.rep) ∧ wz.cell? ⟨wr.heap.size, 1, none⟩ = some (.int .i64 x.dot.ctr) ∧ wz.cell? ⟨wr.heap.size, 2, none⟩ = some (.int .i64 x.qty) ∧ wz.cell? ⟨wr.heap.size, 3, none⟩ = some (.int .u64 x.time)) ∧ wz.cell? ⟨bo, offo + n * 4, none⟩ = some (.int .i64 y.dot.rep) ∧ wz.cell? ⟨bo, offo + n * 4 + 1, none⟩ = some (.int .i64 y.dot.ctr) ∧ wz.cell? ⟨bo, offo + n * 4 + 2, none⟩ = some (.int .i64 y.qty) ∧ wz.cell? ⟨bo, offo + n * 4 + 3, none⟩ = some (.int .u64 y.time))) (by kernel_rfl) (HC.out _ bdr) (fun hS => ?_)
     refine tkR (n := 18) [0, 1, 2, 3, 4, 5, 6, 7, 8, 9, 10, 11, 12, 13, 14, 15, 16, 17] rfl (by decide +kernel) hS ?_
     iterate 3 ((try simp only [Act.put, s1, s2, s3, s4, s5, s6]); refine ⟨_, ?_, rfl, Or.inl ⟨by kernel_rfl, fun w hSw => ok_of fun z hz => ?_⟩, ?_⟩; rotate_left; · (go_simp; exact hz))
     iterate 5 ((try simp only [Act.put, s1, s2, s3, s4, s5, s6]); refine ⟨_, undef, rfl, Or.inr ⟨by kernel_rfl, rfl⟩, ?_⟩)
     iterate 10 ((try simp only [Act.put, s1, s2, s3, s4, s5, s6]); refine ⟨_, ?_, rfl, Or.inl ⟨by kernel_rfl, fun w hSw => ok_of fun z hz => ?_⟩, ?_⟩; rotate_left; · (obtain ⟨⟨g0, g1, g2, g3⟩, g4, g5, g6, g7⟩ := hSw; go_simp; exact hz))
     refine RunOK.done ?_
     try simp only [Act.put, s1, s2, s3, s4, s5, s6]
     refine rd1 18 (by decide +kernel) rfl (fun K hK => ?_)
     go_simp
     go_at_call 131
     refine HQ.out.mono ?_
     rintro e w6 ⟨rfl, hb6⟩
     go_simp
     refine Shut.out hK _ _ (HC.out w6 (below_drew1 brf |>.trans hb6)) (fun hS2 => ?_); clear hK K hS; have hS := hS2; clear hS2
     refine tkR (n := 3) [19, 20, 21] rfl (by decide +kernel) hS ?_
     iterate 3 ((try simp only [Act.put, s1, s2, s3, s4, s5, s6]); refine ⟨_, ?_, rfl, Or.inl ⟨by kernel_rfl, fun w hSw => ok_of fun z hz => ?_⟩, ?_⟩; rotate_left; · (go_simp; exact hz))
     refine RunOK.done ?_
     try simp only [Act.put, s1, s2, s3, s4, s5, s6]
     refine wpAnyH_done (by kernel_rfl) ?_ _
     try simp only [Act.put, s1, s2, s3, s4, s5, s6]
     simp only [NQ]
     clear HQ
     have hb6' : Below wr.heap.size wr w6 := hb5w.trans ((bdr.trans hb6).mono hb5w.size)
     obtain ⟨⟨g0, g1, g2, g3⟩, -⟩ := hS
     obtain ⟨W7, hW7⟩ : ∃ W7, W7 = w6.alloc (.cells #[.int .i64 x.dot.rep, .int .i64 x.dot.ctr, .int .i64 x.qty, .int .u64 x.time] 85) := ⟨_, rfl⟩
     have hb67 : Below w6.heap.size w6 W7 := by rw [hW7]; exact bal
     have hb7 := hb6'.trans (hb67.mono hb6'.size)
     have HROW7 := Hd (HROW.out.below hb7)
     have HSRC : Hid (Enc.Src EMark W7 (.slice (some ⟨w6.heap.size, 0, none⟩) 1 1) [x]) := Hd (by rw [hW7]; exact Enc.Src.one_lit w6 85 x)
     have HB7 := Hd (btr HB00.out hb7)
     have HW7 := Hd hW7
     clear hb6 hb6' hb67 hb7 hW7
     go_wp2_with (at_builtin; go_loud (rw [← HW7.out]); go_loud (refine wpList_append_row rfl _ _ 53 rfl EMark W1.heap.size (.agg #[.int .i64 0, .int .i64 0, .int .i64 0, .int .u64 0]) 32 Tryz.underlying53 infoMark (by decide) (by decide) _ _ rfl HROW7.out _ _ rfl HSRC.out (by first | omega | (simp; omega)) HB7.out.size ?_); intro v8 w8 hown8 hgr8)
     have hbf := HB7.out.grown hgr8 HB7.out.size (fun j hj => (HROW7.out.lt _ hj).1)
     go_roundw
     case rel => exact ⟨k + 1, by omega, by go_num, by rw [HFT.out]; exact hown8, hbf⟩
     case measure => simp [intOf]; omega
    ·have HFT : Hid ((l.take (k + 1)).filter P = F) := Hd (by rw [HFT0.out, hPx, decide_eq_false hq]; simp)
     have hq2 : decide (0 ≤ q) = false := decide_eq_false hq
     clear hPx
     go_upto_region 6 with fail
     refine NQ.to ?_
     refine wp_region_held_drew (S := (fun wz => (wz.cell? ⟨wr.heap.size, 0, none⟩ = some (.int .i64 x.dot.rep) ∧ wz.cell? ⟨wr.heap.size, 1, none⟩ = some (.int .i64 x.dot.ctr) ∧ wz.cell? ⟨wr.heap.size, 2, none⟩ = some (.int .i64 x.qty) ∧ wz.cell? ⟨wr.heap.size, 3, none⟩ = some (.int .u64 x.time)) ∧ wz.cell? ⟨bo, offo + n * 4, none⟩ = some (.int .i64 y.dot.rep) ∧ wz.cell? ⟨bo, offo + n * 4 + 1, none⟩ = some (.int .i64 y.dot.ctr) ∧ wz.cell? ⟨bo, offo + n * 4 + 2, none⟩ = some (.int .i64 y.qty) ∧ wz.cell? ⟨bo, offo + n * 4 + 3, none⟩ = some (.int .u64 y.time))) (by kernel_rfl) (HC.out _ bdr) (fun hS => ?_)
     refine tkR (n := 18) [0, 1, 2, 3, 4, 5, 6, 7, 8, 9, 10, 11, 12, 13, 14, 15, 16, 17] rfl (by decide +kernel) hS ?_
     iterate 3 ((try simp only [Act.put, s1, s2, s3, s4, s5, s6]); refine ⟨_, ?_, rfl, Or.inl ⟨by kernel_rfl, fun w hSw => ok_of fun z hz => ?_⟩, ?_⟩; rotate_left; · (go_simp; exact hz))
     iterate 5 ((try simp only [Act.put, s1, s2, s3, s4, s5, s6]); refine ⟨_, undef, rfl, Or.inr ⟨by kernel_rfl, rfl⟩, ?_⟩)
     iterate 10 ((try simp only [Act.put, s1, s2, s3, s4, s5, s6]); refine ⟨_, ?_, rfl, Or.inl ⟨by kernel_rfl, fun w hSw => ok_of fun z hz => ?_⟩, ?_⟩; rotate_left; · (obtain ⟨⟨g0, g1, g2, g3⟩, g4, g5, g6, g7⟩ := hSw; go_simp; exact hz))
     refine RunOK.done ?_
     try simp only [Act.put, s1, s2, s3, s4, s5, s6]
     refine rd1 18 (by decide +kernel) rfl (fun K hK => ?_)
     go_simp
     go_at_call 131
     refine HQ.out.mono ?_
     rintro e w6 ⟨rfl, hb6⟩
     go_simp
     refine Shut.out hK _ _ (HC.out w6 (below_drew1 brf |>.trans hb6)) (fun hS2 => ?_); clear hK K hS; have hS := hS2; clear hS2
     refine tkR (n := 3) [19, 20, 21] rfl (by decide +kernel) hS ?_
     iterate 3 ((try simp only [Act.put, s1, s2, s3, s4, s5, s6]); refine ⟨_, ?_, rfl, Or.inl ⟨by kernel_rfl, fun w hSw => ok_of fun z hz => ?_⟩, ?_⟩; rotate_left; · (go_simp; exact hz))
     refine RunOK.done ?_
     try simp only [Act.put, s1, s2, s3, s4, s5, s6]
     refine wpAnyH_done (by kernel_rfl) ?_ _
     try simp only [Act.put, s1, s2, s3, s4, s5, s6]
     simp only [NQ]
     clear HQ
     have hbf := HB00.out.trans ((hb5w.trans ((bdr.trans hb6).mono hb5w.size)).mono HB00.out.size)
     have hrowf := HROW.out.below (hb5w.trans ((bdr.trans hb6).mono hb5w.size))
     go_wp2_with fail
     go_roundw
     case rel => exact ⟨k + 1, by omega, by go_num, by rw [HFT.out]; exact hrowf, hbf⟩
     case measure => simp [intOf]; omega
  ·have hke : k = l.length := by omega
   subst hke
   have HROW : Hid (EMark.Row W1.heap.size wr (.slice av (l.filter P).length cv) (l.filter P)) := Hd (by rw [List.take_length] at hrow; exact hrow)
   rw [List.take_length]
   obtain ⟨F, hF⟩ : ∃ F, F = l.filter P := ⟨_, rfl⟩
   rw [← hF] at HROW
   try rw [← hF]
   have HFE := Hd hF
   clear hrow hB hB0 hF
   go_wp2_with fail
   go_ret
   exact ⟨_, rfl, by rw [← HFE.out]; exact HROW.out.mono HB1.out.size, HB.out⟩
end Go.Proofs.YtjoljfnlkddfbaaGreatDoor

