/- move.Login's closure. -/
import Derived.Test.YtjoljfnlkddfbaaGreatDoorC21
import Derived.Test.YtjoljfnlkddfbaaGreatDoorM5
namespace Go.Proofs.YtjoljfnlkddfbaaGreatDoor
open Go.RowKit Go.Maps

/-- A cart and where its parts lie. -/
structure CtW where
 c : CartD
 o1 : Option Addr
 k1 : Nat
 o2 : Option Addr
 k2 : Nat
 o3 : Option Addr
 k3 : Nat
def CtW.v1 (p : CtW) : Value := .slice p.o1 p.c.vec.length p.k1
def CtW.v2 (p : CtW) : Value := .slice p.o2 p.c.cloud.length p.k2
def CtW.v3 (p : CtW) : Value := .slice p.o3 p.c.items.length p.k3
def encCt (p : CtW) : List Value := [p.v1, p.v2, p.v3]
def ECart : Enc CtW := ⟨encCt, 3, 28, by decide, fun _ => rfl, fun x u hu => by
 simp [encCt, CtW.v1, CtW.v2, CtW.v3] at hu
 rcases hu with rfl | rfl | rfl <;> rfl⟩
def CtR (w : World) (p : CtW) (cs : List Value) : Prop := cs = encCt p ∧ CartA w p.v1 p.v2 p.v3 p.c
theorem infoCart : (Tryz.prog.info? 28).map (fun i => (i.zero, i.size, i.bytes)) = some (some (.agg #[.slice none 0 0, .slice none 0 0, .slice none 0 0]), 3, 72) := by kernel_rfl
theorem Arr.of_ctw {w : World} {v : Value} {ps : List CtW} (h : Arr CtR 3 w v ps) : Arr CartR 3 w v (ps.map (·.c)) := by
 obtain ⟨o, c, rfl, h2, h3, hel⟩ := h
 refine ⟨o, c, by rw [List.length_map], by rw [List.length_map]; exact h2, h3, fun i hi => ?_⟩
 rw [List.length_map] at hi
 obtain ⟨b, off, cs, e1, e2, e3, ⟨e4, e5⟩, e7⟩ := hel i hi
 exact ⟨b, off, cs, e1, e2, e3, ⟨_, _, _, e4, by rw [List.getElem_map]; exact e5.1, by rw [List.getElem_map]; exact e5.2.1, by rw [List.getElem_map]; exact e5.2.2⟩, e7⟩
theorem CtR.below {w w' : World} {p : CtW} {cs : List Value} (h : CtR w p cs) (hb : Below w.heap.size w w') : CtR w' p cs := ⟨h.1, h.2.below hb⟩
end Go.Proofs.YtjoljfnlkddfbaaGreatDoor
set_option linter.unusedSimpArgs false
set_option linter.unusedVariables false
set_option maxRecDepth 100000
set_option maxHeartbeats 16000000
namespace Go.Proofs.YtjoljfnlkddfbaaGreatDoor
open Go.RowKit Go.Maps Go.Sort Go.Shelf

/-- All blocks but those of carts and of lists of carts stay. -/
def KeepT (w w' : World) : Prop := w.heap.size ≤ w'.heap.size ∧ ∀ (b : Nat) (C : Array Value) (T : TypeId), w.heap[b]? = some (.cells C T) → T ≠ 28 → T ≠ 64 → w'.heap[b]? = w.heap[b]?
theorem KeepT.refl (w : World) : KeepT w w := ⟨Nat.le_refl _, fun _ _ _ _ _ _ => rfl⟩
theorem KeepT.trans {a b c : World} (h : KeepT a b) (g : KeepT b c) : KeepT a c := ⟨Nat.le_trans h.1 g.1, fun k C T hk h1 h2 => by
 have e := h.2 k C T hk h1 h2
 rw [g.2 k C T (e.trans hk) h1 h2, e]⟩
theorem KeepT.below {w w' : World} (h : Below w.heap.size w w') : KeepT w w' := ⟨h.size, fun b C T hk _ _ => h.block _ (lt_of_heap hk)⟩
theorem KeepT.setCell {w : World} {b k : Nat} {C : Array Value} {T : TypeId} {v : Value} (hb : w.heap[b]? = some (.cells C T)) (hT : T = 28 ∨ T = 64) : KeepT w (w.setCell ⟨b, k, none⟩ v) := by
 refine ⟨by rw [setCell_size]; exact Nat.le_refl _, fun c D U hk h1 h2 => setCell_other (fun e => ?_)⟩
 subst e
 rw [hb] at hk
 injection hk with e1
 injection e1 with _ e2 _
 subst e2
 rcases hT with h | h
 ·exact h1 h
 ·exact h2 h
theorem KeepT.set3c {w : World} {b : Nat} {C : Array Value} {x y z : Value} (hb : w.heap[b]? = some (.cells C 28)) : KeepT w (set3c w b x y z) := by
 refine ⟨by unfold Go.Proofs.YtjoljfnlkddfbaaGreatDoor.set3c; rw [setCell_size, setCell_size, setCell_size]; exact Nat.le_refl _, fun c D U hk h1 h2 => set3c_other (fun e => ?_)⟩
 subst e
 rw [hb] at hk
 injection hk with e1
 injection e1 with _ e2 _
 exact h1 e2.symm
theorem row_type {α : Type} {E : Enc α} {base : Nat} {w : World} {v : Value} {l : List α} (h : E.Row base w v l) {k : Nat} (hk : v.ownBlock = some k) : ∃ C, w.heap[k]? = some (.cells C E.T) := by
 obtain ⟨_, ⟨h1, _⟩ | ⟨g, cap, cur, h1, _, hg, _⟩⟩ := h
 ·rw [h1] at hk; simp [Value.ownBlock] at hk
 ·rw [h1] at hk
  have e1 : g = k := by simpa [Value.ownBlock] using hk
  subst e1
  exact ⟨_, hg⟩
theorem KeepT.grown {base : Nat} {w w' : World} {v : Value} {l : List CtW} (h : ECart.Row base w v l) (hg : w.grownBy w' v.ownBlock) : KeepT w w' := by
 refine ⟨hg.size, fun b C T hk h1 h2 => hg.block b (lt_of_heap hk) (fun e => ?_)⟩
 obtain ⟨D, hD⟩ := row_type h e.symm
 rw [hk] at hD
 injection hD with e1
 injection e1 with _ e2 _
 exact h1 e2
theorem OwnC.keep {base : Nat} {w w' : World} {x1 x2 x3 : Value} {c : CartD} (h : OwnC base w x1 x2 x3 c) (hk : KeepT w w') : OwnC base w' x1 x2 x3 c := by
 obtain ⟨h1, h2, ps, h3, h4⟩ := h
 refine ⟨h1.stay (fun k hq => ?_), h2.stay (fun k hq => ?_), ps, h3, h4.stayF (fun k _ _ hq => ?_)⟩
 ·obtain ⟨C, hC⟩ := row_type h1 hq
  exact hk.2 k C _ hC (by decide) (by decide)
 ·obtain ⟨C, hC⟩ := row_type h2 hq
  exact hk.2 k C _ hC (by decide) (by decide)
 ·rcases hq with hq | ⟨p, hp, hq⟩
  ·obtain ⟨C, hC⟩ := row_type h4.1 hq
   exact hk.2 k C _ hC (by decide) (by decide)
  ·obtain ⟨C, hC⟩ := row_type (h4.2.1 p hp).1.2.1 hq
   exact hk.2 k C _ hC (by decide) (by decide)
/-- A cart that is the caller's, or of one's own. -/
def ToIs (w0 w : World) (x1 x2 x3 : Value) (c : CartD) : Prop := (CartA w0 x1 x2 x3 c ∧ Below w0.heap.size w0 w) ∨ (OwnC w0.heap.size w x1 x2 x3 c ∧ validC c = true)
theorem ToIs.cart {w0 w : World} {x1 x2 x3 : Value} {c : CartD} (h : ToIs w0 w x1 x2 x3 c) : CartA w x1 x2 x3 c := by
 rcases h with ⟨h, hb⟩ | ⟨h, hv⟩
 ·exact h.below hb
 ·exact h.cart hv
theorem ToIs.keep {w0 w w' : World} {x1 x2 x3 : Value} {c : CartD} (h : ToIs w0 w x1 x2 x3 c) (hb : Below w0.heap.size w0 w') (hk : KeepT w w') : ToIs w0 w' x1 x2 x3 c := by
 rcases h with ⟨h, _⟩ | ⟨h, hv⟩
 ·exact Or.inl ⟨h, hb⟩
 ·exact Or.inr ⟨h.keep hk, hv⟩
/-- The state of Login's loop in memory: w0 the caller's world, B2 behind the boxes; boxes of the first cart (bF), of the other one (bT), of the results (r6, r7) and of the deltas (bD). -/
structure LG (w0 w : World) (B2 bF bT r6 r7 bD : Nat) (F : Array Value) (t : CartD) (ds : List CartD) : Prop where
 below : Below w0.heap.size w0 w
 size : B2 ≤ w.heap.size
 hF : w.heap[bF]? = some (.cells F 28)
 h6 : w.heap[r6]? = some (.cells #[.slice none 0 0, .slice none 0 0, .slice none 0 0] 28)
 h7 : w.heap[r7]? = some (.cells #[.slice none 0 0, .slice none 0 0, .slice none 0 0] 28)
 hT : ∃ x1 x2 x3, w.heap[bT]? = some (.cells #[x1, x2, x3] 28) ∧ ToIs w0 w x1 x2 x3 t
 hD : ∃ dv qs, w.heap[bD]? = some (.cells #[dv] 64) ∧ ECart.Row B2 w dv qs ∧ qs.map (·.c) = ds ∧ ∀ q ∈ qs, OwnC w0.heap.size w q.v1 q.v2 q.v3 q.c ∧ validC q.c = true
theorem LG.move {w0 w w' : World} {B2 bF bT r6 r7 bD : Nat} {F : Array Value} {t : CartD} {ds : List CartD} (h : LG w0 w B2 bF bT r6 r7 bD F t ds) (hb : Below w.heap.size w w') : LG w0 w' B2 bF bT r6 r7 bD F t ds := by
 obtain ⟨a1, a2, a3, a4, a5, ⟨x1, x2, x3, a6, a7⟩, dv, qs, a8, a9, a10, a11⟩ := h
 have hb0 : Below w0.heap.size w0 w' := a1.trans (hb.mono a1.size)
 exact ⟨hb0, Nat.le_trans a2 hb.size, (hb.block _ (lt_of_heap a3)).trans a3, (hb.block _ (lt_of_heap a4)).trans a4, (hb.block _ (lt_of_heap a5)).trans a5, ⟨x1, x2, x3, (hb.block _ (lt_of_heap a6)).trans a6, a7.keep hb0 (KeepT.below hb)⟩, dv, qs, (hb.block _ (lt_of_heap a8)).trans a8, a9.below hb, a10, fun q hq => ⟨(a11 q hq).1.below hb, (a11 q hq).2⟩⟩
/-- A delta more: what append and the store into the box of the deltas do. -/
theorem LG.addD {w0 w w1 : World} {B2 bF bT r6 r7 bD : Nat} {F : Array Value} {t : CartD} {dv v : Value} {qs : List CtW} {q : CtW}
 (a1 : Below w0.heap.size w0 w) (a2 : B2 ≤ w.heap.size) (a3 : w.heap[bF]? = some (.cells F 28)) (a4 : w.heap[r6]? = some (.cells #[.slice none 0 0, .slice none 0 0, .slice none 0 0] 28)) (a5 : w.heap[r7]? = some (.cells #[.slice none 0 0, .slice none 0 0, .slice none 0 0] 28))
 {x1 x2 x3 : Value} (a6 : w.heap[bT]? = some (.cells #[x1, x2, x3] 28)) (a7 : ToIs w0 w x1 x2 x3 t) (a8 : w.heap[bD]? = some (.cells #[dv] 64)) (a9 : ECart.Row B2 w dv qs) (a11 : ∀ q ∈ qs, OwnC w0.heap.size w q.v1 q.v2 q.v3 q.c ∧ validC q.c = true)
 (hq : OwnC w0.heap.size w q.v1 q.v2 q.v3 q.c ∧ validC q.c = true) (hr : ECart.Row B2 w1 v (qs ++ [q])) (hg : w.grownBy w1 dv.ownBlock)
 (c0 : w0.heap.size ≤ bF) (c1 : bF < B2) (c2 : r6 < B2) (c3 : r7 < B2) (c4 : bT < B2) (c5 : bD < B2) (c6 : w0.heap.size ≤ B2) (c7 : w0.heap.size ≤ bD) (n1 : bF ≠ bD) (n2 : r6 ≠ bD) (n3 : r7 ≠ bD) (n4 : bT ≠ bD) :
 LG w0 (w1.setCell ⟨bD, 0, none⟩ v) B2 bF bT r6 r7 bD F t (qs.map (·.c) ++ [q.c]) := by
 have hold : ∀ b, b < B2 → b < w.heap.size → w1.heap[b]? = w.heap[b]? := fun b hb hb2 => hg.block b hb2 (fun e => by have := (a9.lt b e.symm).1; omega)
 have hb1 : Below w0.heap.size w0 w1 := a1.grown hg a1.size (fun j hj => by have := (a9.lt j hj).1; omega)
 have hb2 : Below w0.heap.size w0 (w1.setCell ⟨bD, 0, none⟩ v) := hb1.setCell (p := ⟨bD, 0, none⟩) c7 _
 have hD1 : w1.heap[bD]? = some (.cells #[dv] 64) := (hold bD c5 (lt_of_heap a8)).trans a8
 have hk1 : KeepT w w1 := KeepT.grown a9 hg
 have hk2 : KeepT w1 (w1.setCell ⟨bD, 0, none⟩ v) := KeepT.setCell hD1 (Or.inr rfl)
 have hk := hk1.trans hk2
 have hst : ∀ b C, b < B2 → b ≠ bD → w.heap[b]? = some C → (w1.setCell ⟨bD, 0, none⟩ v).heap[b]? = some C := fun b C hb hne hc => by
  rw [setCell_other hne, hold b hb (lt_of_heap hc)]
  exact hc
 refine ⟨hb2, by rw [setCell_size]; exact Nat.le_trans a2 hg.size, hst _ _ c1 n1 a3, hst _ _ c2 n2 a4, hst _ _ c3 n3 a5, ⟨x1, x2, x3, hst _ _ c4 n4 a6, a7.keep hb2 hk⟩, v, qs ++ [q], by rw [setCell_same hD1 0 v]; rfl, hr.stay (fun k hk => setCell_other (erow_ne hr hD1 (by decide) k hk)), by rw [List.map_append]; rfl, fun y hy => ?_⟩
 rcases List.mem_append.1 hy with hy | hy
 ·exact ⟨(a11 y hy).1.keep hk, (a11 y hy).2⟩
 ·rw [List.mem_singleton.1 hy]
  exact ⟨hq.1.keep hk, hq.2⟩
/-- The other cart is joined. -/
theorem LG.setT {w0 w : World} {B2 bF bT r6 r7 bD : Nat} {F : Array Value} {t j : CartD} {ds : List CartD} {p1 p2 p3 : Value} (h : LG w0 w B2 bF bT r6 r7 bD F t ds) (ho : OwnC w0.heap.size w p1 p2 p3 j) (hv : validC j = true)
 (c0 : w0.heap.size ≤ bT) (c4 : bT < B2) (n1 : bF ≠ bT) (n2 : r6 ≠ bT) (n3 : r7 ≠ bT) (n4 : bD ≠ bT) : LG w0 (set3c w bT p1 p2 p3) B2 bF bT r6 r7 bD F j ds := by
 obtain ⟨a1, a2, a3, a4, a5, ⟨x1, x2, x3, a6, a7⟩, dv, qs, a8, a9, a10, a11⟩ := h
 have hb : Below w0.heap.size w0 (set3c w bT p1 p2 p3) := set3c_below _ _ _ a1 c0
 have hsz : (set3c w bT p1 p2 p3).heap.size = w.heap.size := by unfold set3c; rw [setCell_size, setCell_size, setCell_size]
 have hk : KeepT w (set3c w bT p1 p2 p3) := ⟨by rw [hsz]; exact Nat.le_refl _, fun c D U hk h1 h2 => set3c_other (fun e => by
  subst e
  rw [a6] at hk
  injection hk with e1
  injection e1 with _ e2 _
  exact h1 e2.symm)⟩
 refine ⟨hb, by rw [hsz]; exact a2, (set3c_other n1).trans a3, (set3c_other n2).trans a4, (set3c_other n3).trans a5, ⟨p1, p2, p3, set3c_same _ _ _ a6, Or.inr ⟨ho.keep hk, hv⟩⟩, dv, qs, (set3c_other n4).trans a8, a9.stay (fun k hq => set3c_other (fun e => ?_)), a10, fun q hq => ⟨(a11 q hq).1.keep hk, (a11 q hq).2⟩⟩
 have := (a9.lt k hq).1
 omega
/-- Where the boxes lie. -/
structure BX (w0 : World) (B2 bF bT r6 r7 bD : Nat) : Prop where
 c0 : w0.heap.size ≤ bF
 c1 : bF < B2
 c2 : r6 < B2
 c3 : r7 < B2
 c4 : bT < B2
 c5 : bD < B2
 c6 : w0.heap.size ≤ B2
 c7 : w0.heap.size ≤ bD
 c8 : w0.heap.size ≤ bT
 n1 : bF ≠ bD
 n2 : r6 ≠ bD
 n3 : r7 ≠ bD
 n4 : bT ≠ bD
 n5 : bF ≠ bT
 n6 : r6 ≠ bT
 n7 : r7 ≠ bT
theorem moveLogin1_any (f t : CartD) (ds : List CartD) (nm : ByteArray) (d : DotD) (w0 w : World) (B2 bF bT r6 r7 bD : Nat) (v1 v2 v3 : Value) (hX : BX w0 B2 bF bT r6 r7 bD) (hL : LG w0 w B2 bF bT r6 r7 bD #[v1, v2, v3] t ds) (hf : CartA w0 v1 v2 v3 f) (hlf : Lt f.items) (hlt : Lt t.items) (hnt : (allDots t.items).length ≤ 9000) (hvt : t.vec.length + t.cloud.length ≤ 9900) (hxs : SzC (comeX t d nm (qtyC f nm))) (hnd : ds.length ≤ 1000) (hs : nm.size ≤ maxLen) (hG : GlobIs w0) :
  Calls Tryz.prog 50 #[.string nm, dotV d, .pointer (some ⟨bF, 0, none⟩), .pointer (some ⟨bT, 0, none⟩), .pointer (some ⟨bD, 0, none⟩)] w fun e w' => e = .returned (.int .i64 (comeE t d nm (qtyC f nm))) ∧
   (comeE t d nm (qtyC f nm) ≠ 0 → LG w0 w' B2 bF bT r6 r7 bD #[v1, v2, v3] t ds) ∧ (comeE t d nm (qtyC f nm) = 0 → LG w0 w' B2 bF bT r6 r7 bD #[v1, v2, v3] (refJoin t (comeX t d nm (qtyC f nm))) (ds ++ [comeX t d nm (qtyC f nm)])) ∧ KeepT w w' := by
 obtain ⟨o1, n1, k1, o2, n2, k2, o3, n3, k3, rfl, rfl, rfl, hn1, hn2, hn3⟩ := opn4 hf
 obtain ⟨W1, HW, HB, HS, HK0⟩ := box1 w #[.int .i64 d.rep, .int .i64 d.ctr] 39
 have HL1 := Hd (hL.move HB.out)
 have HBW := Hd HB.out
 have HX := Hd hX
 have HQ := Hd (cartQty_any f nm _ _ _ W1 (hf.below HL1.out.below) hlf (hG.below HL1.out.below))
 have HCO : Hid (∀ wz x1 x2 x3, Below W1.heap.size W1 wz → CartA wz x1 x2 x3 t → Calls Tryz.prog 45 #[.agg #[x1, x2, x3], dotV d, .string nm, .int .i64 (qtyC f nm)] wz (Own3 (comeX t d nm (qtyC f nm)) (comeQ t d nm (qtyC f nm)) (comeE t d nm (qtyC f nm)) wz)) := Hd (fun wz x1 x2 x3 hz hc => moveCome_any t d nm _ _ _ _ wz hc hlt hnt hs (hG.below (HL1.out.move hz).below))
 have HOK : Hid (comeE t d nm (qtyC f nm) = 0 → validC t = true ∧ validC (comeX t d nm (qtyC f nm)) = true) := Hd (fun e => ⟨(come_ok e).2.2.1, (come_ok e).2.2.2.1⟩)
 have HJ : Hid (∀ wz x1 x2 x3 y1 y2 y3, Below w0.heap.size w0 wz → CartA wz x1 x2 x3 t → CartA wz y1 y2 y3 (comeX t d nm (qtyC f nm)) → Calls Tryz.prog 30 #[.agg #[x1, x2, x3], .agg #[y1, y2, y3]] wz (CartPost (joinR t (comeX t d nm (qtyC f nm))) (joinE t (comeX t d nm (qtyC f nm))) wz)) := Hd (fun wz x1 x2 x3 y1 y2 y3 hz h1 h2 => joinJoin_any t _ _ _ _ _ _ _ wz h1 h2 ⟨hlt, by omega⟩ hxs (hG.below hz))
 have HND : Hid (ds.length ≤ 1000) := Hd hnd
 have hsz := HS.out
 have hl8 := hL.size
 have HLW := Hd hL
 clear hX hL hf hlf hlt hnt hvt hxs hnd hs hG hn1 hn2 hn3 HB HS
 generalize comeX t d nm (qtyC f nm) = X at *
 generalize comeQ t d nm (qtyC f nm) = CQ at *
 generalize comeE t d nm (qtyC f nm) = E at *
 generalize qtyC f nm = Q at *
 generalize qtyCE f nm = QE at *
 unfold dotV at HCO ⊢
 obtain ⟨c0, c1, c2⟩ := cel3 HL1.out.hF
 go_enter Tryz.func50, Tryz.ntmps50
 go_upto_region 1 with fail
 rw [← HW.out]
 go_wp2_with fail
 refine HQ.out.mono ?_
 rintro e w2 ⟨rfl, hb2⟩
 have HB2 := Hd hb2
 have HL2 := Hd (HL1.out.move hb2)
 clear hb2 HQ c0 c1 c2 HLW
 obtain ⟨x1, x2, x3, hbt, hto⟩ := HL2.out.hT
 obtain ⟨p1, m1, l1, p2, m2, l2, p3, m3, l3, rfl, rfl, rfl, -, -, -⟩ := opn4 hto.cart
 have HC2 := Hd (HCO.out w2 _ _ _ HB2.out hto.cart)
 obtain ⟨c0, c1, c2⟩ := cel3 hbt
 obtain ⟨z0, z1⟩ := cel2 (HK0.out w2 HB2.out)
 clear hto hbt HCO
 go_wp2_with fail
 refine HC2.out.mono ?_
 rintro e w3 ⟨x1, x2, x3, rfl, hown, hb3⟩
 obtain ⟨q1, h1, j1, q2, h2, j2, q3, h3, j3, rfl, rfl, rfl, hm1, hm2, hm3⟩ := hown.opn
 subst hm1 hm2 hm3
 obtain ⟨W4, HW4, HB4, HS4, HK4⟩ := box1 w3 #[.slice q1 X.vec.length j1, .slice q2 X.cloud.length j2, .slice q3 X.items.length j3] 28
 have HL3 := Hd (HL2.out.move hb3)
 have HL4 := Hd (HL2.out.move (btr hb3 HB4.out))
 have HO4 := Hd ((hown.below HB4.out).mono HL2.out.below.size)
 have HX4 := Hd (HK4.out W4 brf)
 have HBX4 := Hd (btr hb3 HB4.out)
 clear hown hb3 HC2 c0 c1 c2 z0 z1
 go_upto_region 3 with fail
 rw [← HW4.out]
 clear HW4
 by_cases he : E = 0
 rotate_left
 ·have he1 : (E == 0) = false := by simpa using he
  have HF : Hid (E ≠ 0 → LG w0 W4 B2 bF bT r6 r7 bD #[.slice o1 n1 k1, .slice o2 n2 k2, .slice o3 n3 k3] t ds) := Hd (fun _ => HL4.out)
  have HKT : Hid (KeepT w W4) := Hd (KeepT.below (btr HBW.out (btr HB2.out HBX4.out)))
  have HF2 : Hid (E = 0 → LG w0 W4 B2 bF bT r6 r7 bD #[.slice o1 n1 k1, .slice o2 n2 k2, .slice o3 n3 k3] (refJoin t X) (ds ++ [X])) := Hd (fun h => absurd h he)
  clear he HOK HJ
  go_wp2_with fail
  go_ret
  exact ⟨rfl, HF.out, HF2.out, HKT.out⟩
 have he1 : (E == 0) = true := by simpa using he
 obtain ⟨hvt, hvx⟩ := HOK.out he
 have HVT := Hd hvt
 have HVX := Hd hvx
 obtain ⟨b1, b2, b3, b4, b5, ⟨x1, x2, x3, b6, b7⟩, dv, qs, b8, b9, b10, b11⟩ := HL3.out
 obtain ⟨od, kd, rfl⟩ := b9.slice
 have hql : qs.length = ds.length := by rw [← b10, List.length_map]
 have HJR : Hid (joinR t X = refJoin t X ∧ joinE t X = 0) := Hd (by unfold joinR joinE; rw [HVT.out, HVX.out]; exact ⟨rfl, rfl⟩)
 obtain ⟨W5, hW5⟩ : ∃ x, x = W4.alloc (.cells #[.slice q1 X.vec.length j1, .slice q2 X.cloud.length j2, .slice q3 X.items.length j3] 28) := ⟨_, rfl⟩
 have hb45 : Below W4.heap.size W4 W5 := by rw [hW5]; exact bal
 have hb35 : Below w3.heap.size w3 W5 := btr HB4.out hb45
 have HSRC : Hid (ECart.Src W5 (.slice (some ⟨W4.heap.size, 0, none⟩) 1 1) [⟨X, q1, j1, q2, j2, q3, j3⟩]) := Hd (by rw [hW5]; exact Enc.Src.one_lit (E := ECart) W4 28 ⟨X, q1, j1, q2, j2, q3, j3⟩)
 have HR5 := Hd (b9.below hb35)
 have hs5 : B2 ≤ W5.heap.size := Nat.le_trans b2 hb35.size
 have hx5 : W5.heap[w3.heap.size]? = some (.cells #[.slice q1 X.vec.length j1, .slice q2 X.cloud.length j2, .slice q3 X.items.length j3] 28) := (hb45.block _ (lt_of_heap HX4.out)).trans HX4.out
 have hD5 := (hb35.block _ (lt_of_heap b8)).trans b8
 have hlD := lt_of_heap b8
 have HG := Hd (fun w1 v (hr : ECart.Row B2 w1 v (qs ++ [⟨X, q1, j1, q2, j2, q3, j3⟩])) (hg : W5.grownBy w1 (Value.slice od qs.length kd).ownBlock) => LG.addD (q := ⟨X, q1, j1, q2, j2, q3, j3⟩) (b1.trans (hb35.mono b1.size)) hs5 ((hb35.block _ (lt_of_heap b3)).trans b3) ((hb35.block _ (lt_of_heap b4)).trans b4) ((hb35.block _ (lt_of_heap b5)).trans b5) ((hb35.block _ (lt_of_heap b6)).trans b6) (b7.keep (b1.trans (hb35.mono b1.size)) (KeepT.below hb35)) hD5 HR5.out (fun q hq => ⟨(b11 q hq).1.below hb35, (b11 q hq).2⟩) ⟨HO4.out.below hb45, HVX.out⟩ hr hg HX.out.c0 HX.out.c1 HX.out.c2 HX.out.c3 HX.out.c4 HX.out.c5 HX.out.c6 HX.out.c7 HX.out.n1 HX.out.n2 HX.out.n3 HX.out.n4)
 have HKX : Hid (∀ w1, W5.grownBy w1 (Value.slice od qs.length kd).ownBlock → w1.heap[w3.heap.size]? = some (.cells #[.slice q1 X.vec.length j1, .slice q2 X.cloud.length j2, .slice q3 X.items.length j3] 28) ∧ w1.heap[bD]? = some (.cells #[.slice od qs.length kd] 64) ∧ KeepT W5 w1) := Hd (fun w1 hg => by
  refine ⟨(hg.block _ (lt_of_heap hx5) (fun e => ?_)).trans hx5, (hg.block _ (lt_of_heap hD5) (fun e => ?_)).trans hD5, KeepT.grown HR5.out hg⟩
  ·have := (b9.lt _ e.symm).2
   omega
  ·have := (b9.lt _ e.symm).1
   have := HX.out.c5
   omega)
 have HK05 : Hid (KeepT w W5) := Hd (KeepT.below (btr HBW.out (btr HB2.out (btr HBX4.out hb45))))
 have HOX : Hid (OwnC w0.heap.size W5 (.slice q1 X.vec.length j1) (.slice q2 X.cloud.length j2) (.slice q3 X.items.length j3) X) := Hd (HO4.out.below hb45)
 have HNE : Hid (w3.heap.size ≠ bD ∧ w3.heap.size ≠ bT) := Hd ⟨by omega, by have := lt_of_heap b6; omega⟩
 have HDS : Hid (qs.map (·.c) ++ [X] = ds ++ [X]) := Hd (by rw [b10])
 have hd4 := (HB4.out.block _ (lt_of_heap b8)).trans b8
 have d0 := cel1 hd4
 obtain ⟨c0, c1, c2⟩ := cel3 HX4.out
 have hlD4 : bD < W4.heap.size := lt_of_heap hd4
 have hlx4 : w3.heap.size < W4.heap.size := lt_of_heap HX4.out
 have HND2 : Hid (qs.length + 1 ≤ 10000) := Hd (by have := HND.out; omega)
 clear hql b1 b2 b3 b4 b5 b6 b7 b8 b9 b10 b11 hb45 hb35 hx5 hD5 hd4 HL3 HL4 HL2 HO4 HX4 hlD
 go_upto_region 5 with (at_builtin; go_loud (rw [← hW5]); go_loud (refine wpList_append_row rfl _ _ 64 rfl ECart B2 (.agg #[.slice none 0 0, .slice none 0 0, .slice none 0 0]) 72 Tryz.underlying64 infoCart (by decide) (by decide) _ _ rfl HR5.out _ [⟨X, q1, j1, q2, j2, q3, j3⟩] rfl HSRC.out (by have := HND2.out; simp; omega) hs5 ?_); intro v6 w6 hrow hgr; have hk6 := HKX.out w6 hgr; obtain ⟨a6, cc6, hv6⟩ := hrow.slice; rw [List.length_append, List.length_singleton] at hv6; subst hv6; have hz0 := froz0 hk6.2.1 0; have hz1 := cel1 hk6.2.1)
 have HG6 := Hd (HG.out w6 _ hrow hgr)
 rw [HDS.out] at HG6
 obtain ⟨W7, hW7⟩ : ∃ x, x = w6.setCell ⟨bD, 0, none⟩ (.slice a6 (qs.length + 1) cc6) := ⟨_, rfl⟩
 have hk7 : KeepT W5 W7 := hk6.2.2.trans (by rw [hW7]; exact KeepT.setCell hk6.2.1 (Or.inr rfl))
 have hx7 : W7.heap[w3.heap.size]? = some (.cells #[.slice q1 X.vec.length j1, .slice q2 X.cloud.length j2, .slice q3 X.items.length j3] 28) := by rw [hW7, setCell_other HNE.out.1]; exact hk6.1
 rw [← hW7] at HG6
 have HOX7 := Hd (HOX.out.keep hk7)
 have HK07 := Hd (HK05.out.trans hk7)
 have HK7 := Hd (fun wz (hz : Below W7.heap.size W7 wz) => (hz.block _ (lt_of_heap hx7)).trans hx7)
 obtain ⟨c0, c1, c2⟩ := cel3 hx7
 obtain ⟨y1, y2, y3, hbt, hto⟩ := HG6.out.hT
 obtain ⟨p4, m4, l4, p5, m5, l5, p6, m6, l6, rfl, rfl, rfl, -, -, -⟩ := opn4 hto.cart
 obtain ⟨d0, d1, d2⟩ := cel3 hbt
 have HJ7 := Hd (HJ.out W7 _ _ _ _ _ _ HG6.out.below hto.cart (HOX7.out.cart HVX.out))
 have HTF := Hd (fun wz (hz : Below W7.heap.size W7 wz) => (hz.block _ (lt_of_heap hbt)).trans hbt)
 rw [← hW7]
 clear hW7 hrow hgr hk6 hz0 hz1 hk7 hx7 hbt hto HG HKX HSRC HR5 HOX hs5 hW5 HJ
 rw [HJR.out.1, HJR.out.2] at HJ7
 go_wp2_with fail
 refine HJ7.out.mono ?_
 rintro e w8 ⟨x1, x2, x3, rfl, hown, hb8⟩
 obtain ⟨f1, g1, i1, f2, g2, i2, f3, g3, i3, rfl, rfl, rfl, hm1, hm2, hm3⟩ := hown.opn
 have hx8 := HTF.out w8 hb8
 have HK09 : Hid (KeepT w (set3c w8 bT (.slice f1 g1 i1) (.slice f2 g2 i2) (.slice f3 g3 i3))) := Hd ((HK07.out.trans (KeepT.below hb8)).trans (KeepT.set3c hx8))
 have HG8 := Hd ((HG6.out.move hb8).setT (hown.mono HG6.out.below.size) (join_valid HVT.out HVX.out) HX.out.c8 HX.out.c4 HX.out.n5 HX.out.n6 HX.out.n7 HX.out.n4.symm)
 obtain ⟨y0, y1, y2⟩ := cel3 hx8
 have z0 := froz0 hx8 0
 have z1 := froz0 hx8 1
 have z2 := froz0 hx8 2
 have HF2 : Hid (E ≠ 0 → LG w0 (set3c w8 bT (.slice f1 g1 i1) (.slice f2 g2 i2) (.slice f3 g3 i3)) B2 bF bT r6 r7 bD #[.slice o1 n1 k1, .slice o2 n2 k2, .slice o3 n3 k3] t ds) := Hd (fun h => absurd he h)
 have HF : Hid (E = 0) := Hd he
 clear hown hb8 hx8 c0 c1 c2 d0 d1 d2 he hm1 hm2 hm3 HJ7
 go_wp2_with fail
 go_ret
 exact ⟨by rw [HF.out]; rfl, HF2.out, fun _ => HG8.out, HK09.out⟩
end Go.Proofs.YtjoljfnlkddfbaaGreatDoor
