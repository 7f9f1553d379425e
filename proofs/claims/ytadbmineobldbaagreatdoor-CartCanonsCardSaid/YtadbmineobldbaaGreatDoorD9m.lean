/- Law 10's known. -/
import Derived.Test.YtadbmineobldbaaGreatDoorD7
import Derived.Test.YtadbmineobldbaaGreatDoorDeltaK
import Derived.Test.YtadbmineobldbaaGreatDoorRegC
import Derived.Test.YtadbmineobldbaaGreatDoorR10c
import Derived.Test.YtadbmineobldbaaGreatDoorD10
set_option linter.unusedSimpArgs false
set_option linter.unusedVariables false
set_option maxRecDepth 100000
set_option maxHeartbeats 16000000
namespace Go.Proofs.YtadbmineobldbaaGreatDoor
open Go.RowKit Go.Maps Go.Sort Go.Shelf

inductive Ke where
 | pairs (l : List DotD)
 | val (v : Value)
 | row (l : List MarkD)
 | item (x : ItemD)
 | items (l : List ItemD)
 | dots (l : List DotD)
 | ctx (a b : List DotD)
 | cart (c : CartD)
 | box
 | free
def Ke.holds (B : Nat) : Ke → Value → World → Prop
 | .pairs l, v, w => PairsIs w v l
 | .val x, v, _ => v = x
 | .row l, v, w => Arr MarkR 4 w v l
 | .item x, v, w => ∃ o n k, v = .agg #[.string x.name, .slice o n k] ∧ x.name.size ≤ maxLen ∧ Arr MarkR 4 w (.slice o n k) x.marks
 | .items l, v, w => Arr ItemR 2 w v l
 | .dots l, v, w => Arr DotR 2 w v l
 | .ctx a b, v, w => ∃ o1 n1 k1 o2 n2 k2, v = .agg #[.slice o1 n1 k1, .slice o2 n2 k2] ∧ Arr DotR 2 w (.slice o1 n1 k1) a ∧ Arr DotR 2 w (.slice o2 n2 k2) b
 | .cart c, v, w => ∃ o1 n1 k1 o2 n2 k2 o3 n3 k3, v = .agg #[.slice o1 n1 k1, .slice o2 n2 k2, .slice o3 n3 k3] ∧ CartA w (.slice o1 n1 k1) (.slice o2 n2 k2) (.slice o3 n3 k3) c
 | .free, _, _ => True
 | .box, v, w => ∃ b, v = .pointer (some ⟨b, 0, none⟩) ∧ B ≤ b ∧ w.heap[b]? = some (.cells #[.slice none 0 0, .slice none 0 0, .slice none 0 0] 28)
theorem Ke.below {B : Nat} {w w' : World} (hb : Below w.heap.size w w') : ∀ (k : Ke) (v : Value), k.holds B v w → k.holds B v w'
 | .pairs _, _, h => PairsIs.below h hb
 | .val _, _, h => h
 | .row _, _, h => Arr.marks h hb
 | .item _, _, ⟨o, n, k, e, h1, h2⟩ => ⟨o, n, k, e, h1, h2.marks hb⟩
 | .items _, _, h => Arr.items h hb
 | .dots _, _, h => Arr.dots h hb
 | .ctx _ _, _, ⟨_, _, _, _, _, _, e, h1, h2⟩ => ⟨_, _, _, _, _, _, e, h1.dots hb, h2.dots hb⟩
 | .cart _, _, ⟨_, _, _, _, _, _, _, _, _, e, h⟩ => ⟨_, _, _, _, _, _, _, _, _, e, h.below hb⟩
 | .free, _, _ => trivial
 | .box, _, ⟨b, e, h1, h2⟩ => ⟨b, e, h1, (hb.block _ (lt_of_heap h2)).trans h2⟩
theorem Ke.dots_open {B : Nat} {l : List DotD} {v : Value} {w : World} (h : Ke.holds B (.dots l) v w) : ∃ o n k, v = .slice o n k ∧ Arr DotR 2 w (.slice o n k) l := by
 obtain ⟨o, k, e⟩ := Arr.slice (show Arr DotR 2 w v l from h)
 exact ⟨o, _, k, e, e ▸ h⟩
theorem Ke.items_open {B : Nat} {l : List ItemD} {v : Value} {w : World} (h : Ke.holds B (.items l) v w) : ∃ o n k, v = .slice o n k ∧ Arr ItemR 2 w (.slice o n k) l := by
 obtain ⟨o, k, e⟩ := Arr.slice (show Arr ItemR 2 w v l from h)
 exact ⟨o, _, k, e, e ▸ h⟩
def ItemB (w : World) (b : Nat) (x : ItemD) : Prop := ∃ o n k, w.heap[b]? = some (.cells #[.string x.name, .slice o n k] 56) ∧ x.name.size ≤ maxLen ∧ Arr MarkR 4 w (.slice o n k) x.marks
def CartC (w : World) (b : Nat) (c : CartD) : Prop := ∃ o1 n1 k1 o2 n2 k2 o3 n3 k3, w.heap[b]? = some (.cells #[.slice o1 n1 k1, .slice o2 n2 k2, .slice o3 n3 k3] 28) ∧ CartA w (.slice o1 n1 k1) (.slice o2 n2 k2) (.slice o3 n3 k3) c
theorem ItemB.below {w w' : World} {b : Nat} {x : ItemD} (h : ItemB w b x) (hb : Below w.heap.size w w') : ItemB w' b x := by
 obtain ⟨o, n, k, e, h1, h2⟩ := h;exact ⟨o, n, k, (hb.block _ (lt_of_heap e)).trans e, h1, h2.marks hb⟩
theorem CartC.below {w w' : World} {b : Nat} {c : CartD} (h : CartC w b c) (hb : Below w.heap.size w w') : CartC w' b c := by
 obtain ⟨_, _, _, _, _, _, _, _, _, e, h⟩ := h;exact ⟨_, _, _, _, _, _, _, _, _, (hb.block _ (lt_of_heap e)).trans e, h.below hb⟩
theorem cf3 {w : World} {g : Nat} {x y z : Value} {T : TypeId} (h : w.heap[g]? = some (.cells #[x, y, z] T)) : (w.cell? ⟨g, 0, none⟩ = some x ∧ w.cell? ⟨g, 1, none⟩ = some y ∧ w.cell? ⟨g, 2, none⟩ = some z) ∧ w.frozen? ⟨g, 0, none⟩ = false ∧ w.frozen? ⟨g, 1, none⟩ = false ∧ w.frozen? ⟨g, 2, none⟩ = false := ⟨cel3 h, froz0 h 0, froz0 h 1, froz0 h 2⟩
theorem pairs_lit1 (w : World) (a b : Int) (T : TypeId) : PairsIs (w.alloc (.cells #[.int .i64 a, .int .i64 b] T)) (.slice (some ⟨w.heap.size, 0, none⟩) 2 2) [⟨a, b⟩] := by
 refine ⟨_, _, rfl, fun k hk => ⟨w.heap.size, rfl, by rw [alloc_size]; omega, ?_⟩⟩
 have e : k = 0 := by simpa using hk
 subst e;exact ⟨by rw [cell0 (alloc_new _ _)]; rfl, by rw [cell0 (alloc_new _ _)]; rfl⟩
theorem pairs_lit2 (w : World) (a b c d : Int) (T : TypeId) : PairsIs (w.alloc (.cells #[.int .i64 a, .int .i64 b, .int .i64 c, .int .i64 d] T)) (.slice (some ⟨w.heap.size, 0, none⟩) 4 4) [⟨a, b⟩, ⟨c, d⟩] := by
 refine ⟨_, _, rfl, fun k hk => ⟨w.heap.size, rfl, by rw [alloc_size]; omega, ?_⟩⟩
 have hk : k < 2 := by simpa using hk
 match k, hk with
 | 0, _ => exact ⟨by rw [cell0 (alloc_new _ _)]; rfl, by rw [cell0 (alloc_new _ _)]; rfl⟩
 | 1, _ => exact ⟨by rw [cell0 (alloc_new _ _)]; rfl, by rw [cell0 (alloc_new _ _)]; rfl⟩
theorem items_lit2 (w : World) (T : TypeId) {m1 m2 : Value} {x y : ItemD} (hx : x.name.size ≤ maxLen ∧ Arr MarkR 4 w m1 x.marks) (hy : y.name.size ≤ maxLen ∧ Arr MarkR 4 w m2 y.marks) :
  Arr ItemR 2 (w.alloc (.cells #[.string x.name, m1, .string y.name, m2] T)) (.slice (some ⟨w.heap.size, 0, none⟩) 2 2) [x, y] := by
 have hbb : Below w.heap.size w (w.alloc (.cells #[.string x.name, m1, .string y.name, m2] T)) := bal;refine ⟨_, _, rfl, Nat.le_refl _, by unfold maxLen; omega, fun i hi => ?_⟩
 have hi : i < 2 := by simpa using hi
 have hlt : w.heap.size < (w.alloc (.cells #[.string x.name, m1, .string y.name, m2] T)).heap.size := by rw [alloc_size]; omega
 match i, hi with
 | 0, _ => exact ⟨_, 0, [.string x.name, m1], rfl, hlt, rfl, ⟨_, rfl, hx.1, hx.2.marks hbb⟩, fun j hj => by rw [cell0 (alloc_new _ _)]; match j, hj with | 0, _ => rfl | 1, _ => rfl⟩
 | 1, _ => exact ⟨_, 0, [.string y.name, m2], rfl, hlt, rfl, ⟨_, rfl, hy.1, hy.2.marks hbb⟩, fun j hj => by rw [cell0 (alloc_new _ _)]; match j, hj with | 0, _ => rfl | 1, _ => rfl⟩
theorem mi_all {l : List MarkD} (h : l.all (fun m => decide ((-9223372036854775808 ≤ m.dot.rep ∧ m.dot.rep ≤ 9223372036854775807) ∧ (-9223372036854775808 ≤ m.dot.ctr ∧ m.dot.ctr ≤ 9223372036854775807) ∧ (-9223372036854775808 ≤ m.qty ∧ m.qty ≤ 9223372036854775807) ∧ (0 ≤ m.time ∧ m.time ≤ 18446744073709551615))) = true) : ∀ m ∈ l, MI m := fun m hm => by
  have h2 := List.all_eq_true.1 h m hm;simp only [decide_eq_true_eq] at h2;exact h2
theorem di_all {l : List DotD} (h : l.all (fun d => decide ((-9223372036854775808 ≤ d.rep ∧ d.rep ≤ 9223372036854775807) ∧ (-9223372036854775808 ≤ d.ctr ∧ d.ctr ≤ 9223372036854775807))) = true) : ∀ d ∈ l, DI d := fun d hd => by
  have h2 := List.all_eq_true.1 h d hd;simp only [decide_eq_true_eq] at h2;exact h2
def store3 (w : World) (b : Nat) (x y z : Value) : World := ((w.setCell ⟨b, 0, none⟩ x).setCell ⟨b, 1, none⟩ y).setCell ⟨b, 2, none⟩ z
theorem store3_same {w : World} {b : Nat} {x y z x1 x2 x3 : Value} {T : TypeId} (h : w.heap[b]? = some (.cells #[x, y, z] T)) : (store3 w b x1 x2 x3).heap[b]? = some (.cells #[x1, x2, x3] T) := set3c_same _ _ _ h
theorem store3_below {w0 w : World} {n b : Nat} (x1 x2 x3 : Value) (h : Below n w0 w) (hb : n ≤ b) : Below n w0 (store3 w b x1 x2 x3) := set3c_below _ _ _ h hb
theorem store3_cart {w : World} {b : Nat} {o1 o2 o3 p1 p2 p3 q1 q2 q3 : Option Addr} {n1 k1 n2 k2 n3 k3 i1 j1 i2 j2 i3 j3 e1 f1 e2 f2 e3 f3 : Nat} {T : TypeId} {c : CartD} (hb : w.heap[b]? = some (.cells #[.slice p1 i1 j1, .slice p2 i2 j2, .slice p3 i3 j3] T)) (h : CartA w (.slice o1 n1 k1) (.slice o2 n2 k2) (.slice o3 n3 k3) c) : CartA (store3 w b (.slice q1 e1 f1) (.slice q2 e2 f2) (.slice q3 e3 f3)) (.slice o1 n1 k1) (.slice o2 n2 k2) (.slice o3 n3 k3) c := ⟨set3c_dots h.1 hb, set3c_dots h.2.1 hb, set3c_items h.2.2 hb⟩
def iNut : ItemD := ⟨tNut, [k2]⟩
def iTea : ItemD := ⟨tTea, [k1]⟩
def iTeaY : ItemD := ⟨tTea, [k3, k1]⟩
def iTeaZ : ItemD := ⟨tTea, [k1, k3]⟩
theorem kcan : (decide (canonC cY = cZ) && (canonE cY == 0)) = true := by
 unfold canonC canonE;rw [kc.1, kc.2]
 decide
theorem ksz10 : ∀ c ∈ [cX, cY, cZ, cP, cQ, zeroC], SzC c := by
 intro c hc;simp only [List.mem_cons, List.not_mem_nil, or_false] at hc
 rcases hc with rfl | rfl | rfl | rfl | rfl | rfl <;> exact ⟨⟨by decide, by decide⟩, by decide⟩
theorem kItemV {B : Nat} {ms : List MarkD} {mv : Value} {w : World} (x : ItemD) (h : Ke.holds B (.row ms) mv w) (hm : ms = x.marks) (hs : x.name.size ≤ maxLen) :
  Calls Tryz.prog 34 #[.string x.name, mv] w fun e w' => ∃ v, e = .returned v ∧ Ke.holds B (.item x) v w' ∧ Below w.heap.size w w' := by
 subst hm;obtain ⟨o, k, e⟩ := Arr.slice (show Arr MarkR 4 w mv x.marks from h)
 subst e;refine (l10item_any x.name o _ k w).mono ?_;rintro e w1 ⟨rfl, hb⟩;exact ⟨_, rfl, ⟨_, _, _, rfl, hs, Arr.marks h hb⟩, hb⟩
theorem kDotsV {B : Nat} {ps : List DotD} {pv : Value} {w : World} (h : Ke.holds B (.pairs ps) pv w) (hl : ps.length ≤ 1000) (hd : ∀ d ∈ ps, DI d) :
  Calls Tryz.prog 36 #[pv] w fun e w' => ∃ v, e = .returned v ∧ Ke.holds B (.dots ps) v w' ∧ Below w.heap.size w w' := by
 refine (l10dots_any ps pv w h hl).mono ?_;rintro e w1 ⟨v, rfl, hr, hb⟩;exact ⟨_, rfl, hr.dots hd, hb⟩
theorem kValidV {B : Nat} {c : CartD} {v : Value} {w : World} {b : Bool} (h : Ke.holds B (.cart c) v w) (hl : Lt c.items) (hG : GlobIs w) (k : validC c = b) :
  Calls Tryz.prog 29 #[v] w fun e w' => e = .returned (.bool b) ∧ Below w.heap.size w w' := by
 obtain ⟨o1, n1, k1, o2, n2, k2, o3, n3, k3, rfl, hc⟩ := h;have := cartValid_any c _ _ _ w hc hl hG;rw [k] at this;exact this
theorem kCanonV {B : Nat} {a c : CartD} {v u : Value} {w : World} (h : Ke.holds B (.cart a) v w) (g : Ke.holds B (.cart c) u w) (hl : SzC a) (hd : (allDots a.items).length ≤ 9000) (hG : GlobIs w) (k : (decide (canonC a = c) && (canonE a == 0)) = true) :
  Calls Tryz.prog 11 #[v, u, .int .i64 0] w fun e w' => e = .returned (.bool true) ∧ Below w.heap.size w w' := by
 obtain ⟨o1, n1, k1, o2, n2, k2, o3, n3, k3, rfl, hc⟩ := h;obtain ⟨_, _, _, _, _, _, _, _, _, rfl, hc2⟩ := g;have := l10canon_any a c 0 _ _ _ _ _ _ w hc hc2 hl hd hG;rw [k] at this;exact this
theorem RegI.start {n m : Nat} {fr : (Nat → Value) → Act} {S : World → Prop} {V : Nat → Value → World → Prop} {al : Nat → Bool} {a : Act} {w : World} (u : Nat → Value) (ha : a = fr u) (hS : S w) : RegI n fr S V al (Array.replicate m false) a w := by
 have e : ∀ j, (Array.replicate m false).getD j false = false := fun j => by
  rw [Array.getD_eq_getD_getElem?]
  cases h : (Array.replicate m false)[j]? with
  | none => rfl
  | some b =>
   have := Array.mem_of_getElem? h
   simp at this
   simp [this]
 exact ⟨u, ha, hS, fun j _ h => (by rw [e] at h; cases h), fun i j _ _ _ _ _ h _ => (by rw [e] at h; cases h)⟩
theorem kRow1 {w : World} (a : MarkD) (h : ∀ m ∈ [a], MI m) : Arr MarkR 4 (w.alloc (.cells (EMark.flat [a]).toArray 65)) (.slice (some ⟨w.heap.size, 0, none⟩) 1 1) [a] := lit_marks [a] (by unfold maxLen; simp) h
theorem kRow2 {w : World} (a b : MarkD) (h : ∀ m ∈ [a, b], MI m) : Arr MarkR 4 (w.alloc (.cells (EMark.flat [a, b]).toArray 65)) (.slice (some ⟨w.heap.size, 0, none⟩) 2 2) [a, b] := lit_marks [a, b] (by unfold maxLen; simp) h
def ke2 (j : Nat) : Ke := [.pairs [⟨1, 1⟩, ⟨2, 1⟩], .dots [⟨1, 1⟩, ⟨2, 1⟩], .ctx [⟨1, 1⟩, ⟨2, 1⟩] [], .item iNut, .item iTea, .items [iNut, iTea], .cart cX, .box].getD j .free
theorem kd_boxke2 {j B : Nat} {x : Value} {w : World} (hj : decide (j = 7) = true) (hx : (ke2 j).holds B x w) : ∃ b, x = .pointer (some ⟨b, 0, none⟩) ∧ B ≤ b ∧ w.heap[b]? = some (.cells #[.slice none 0 0, .slice none 0 0, .slice none 0 0] 28) := by
  have h := of_decide_eq_true hj;subst h;exact hx
set_option linter.unusedSimpArgs false in
set_option linter.unusedVariables false in
set_option maxRecDepth 100000 in
set_option maxHeartbeats 16000000 in
theorem lknown2 (WL : World) (b1 b2 : Nat) (z7 z8 z9 z10 z11 z12 : Value) (hG : GlobIs WL) (h1 : ItemB WL b1 iNut) (h2 : ItemB WL b2 iTea) (R : Act → World → Prop) (hQ : ∀ (u : Nat → Value) (b3 : Nat) (w : World), Below WL.heap.size WL w → CartC w b3 cX → R { tmps := #[.bool false, .pointer (some ⟨b1, 0, none⟩), .pointer (some ⟨b2, 0, none⟩), .pointer (some ⟨b3, 0, none⟩), undef, undef, undef, z7, z8, z9, z10, z11, z12, u 0, u 1, u 2, u 3, u 4, u 5, u 6, undef, undef, undef, undef, undef, undef, undef, undef, undef, undef, undef, undef, undef, undef, undef, undef, undef, undef, undef, undef, undef, undef, undef, undef, undef, undef, undef, undef, undef, undef, undef, undef, undef, undef, undef, undef, undef, undef, undef, undef, undef, undef, undef, undef, undef, undef, undef, undef, undef, undef, undef, undef, undef, undef, undef, undef, undef, undef, undef, undef, undef, undef, undef, undef, undef, undef, undef, undef, undef, undef, undef, undef, undef, undef, undef, undef, undef, undef, undef, undef, undef, undef, undef, undef, undef, undef, undef, undef, undef, undef, undef, undef, undef, undef, undef, undef, undef, undef, undef, undef, undef, undef, undef, undef, undef, undef, undef, undef, undef, undef, undef, undef, undef, undef, undef, undef, undef], defers := [] } w) :
    (codeAt [1, 1, 0] (Tryz.f9.body.getD .skip)).wp Tryz.prog (NQ R) { tmps := #[.bool false, .pointer (some ⟨b1, 0, none⟩), .pointer (some ⟨b2, 0, none⟩), undef, undef, undef, undef, z7, z8, z9, z10, z11, z12, undef, undef, undef, undef, undef, undef, undef, undef, undef, undef, undef, undef, undef, undef, undef, undef, undef, undef, undef, undef, undef, undef, undef, undef, undef, undef, undef, undef, undef, undef, undef, undef, undef, undef, undef, undef, undef, undef, undef, undef, undef, undef, undef, undef, undef, undef, undef, undef, undef, undef, undef, undef, undef, undef, undef, undef, undef, undef, undef, undef, undef, undef, undef, undef, undef, undef, undef, undef, undef, undef, undef, undef, undef, undef, undef, undef, undef, undef, undef, undef, undef, undef, undef, undef, undef, undef, undef, undef, undef, undef, undef, undef, undef, undef, undef, undef, undef, undef, undef, undef, undef, undef, undef, undef, undef, undef, undef, undef, undef, undef, undef, undef, undef, undef, undef, undef, undef, undef, undef, undef, undef, undef, undef, undef], defers := [] } WL := by
  obtain ⟨o1, n1, c1, q1, v1⟩ := h1;have HB1 : Hid (∀ wz, Below WL.heap.size WL wz → wz.cell? ⟨b1, 0, none⟩ = some (.string iNut.name) ∧ wz.cell? ⟨b1, 1, none⟩ = some (.slice o1 n1 c1)) := Hd (fun wz hz => cel2 ((hz.block _ (lt_of_heap q1)).trans q1))
  have HV1 : Hid (∀ wz, Below WL.heap.size WL wz → Ke.holds 0 (.item iNut) (.agg #[.string iNut.name, .slice o1 n1 c1]) wz) := Hd (fun wz hz => ⟨_, _, _, rfl, v1.1, v1.2.marks (Below.refl _ _ |>.trans hz)⟩)
  clear q1 v1;obtain ⟨o2, n2, c2, q2, v2⟩ := h2;have HB2 : Hid (∀ wz, Below WL.heap.size WL wz → wz.cell? ⟨b2, 0, none⟩ = some (.string iTea.name) ∧ wz.cell? ⟨b2, 1, none⟩ = some (.slice o2 n2 c2)) := Hd (fun wz hz => cel2 ((hz.block _ (lt_of_heap q2)).trans q2))
  have HV2 : Hid (∀ wz, Below WL.heap.size WL wz → Ke.holds 0 (.item iTea) (.agg #[.string iTea.name, .slice o2 n2 c2]) wz) := Hd (fun wz hz => ⟨_, _, _, rfl, v2.1, v2.2.marks (Below.refl _ _ |>.trans hz)⟩)
  clear q2 v2;have HGL := Hd hG;clear hG;simp only [codeAt, codeL, codeR, Tryz.f9, Option.getD_some];refine wp_region_any (by kernel_rfl) ?_
  try (change wpAny _ _ _ _ _ _ _ (World.drew _))
  refine wpAny_invB 8 #[true, true, true, true, true, true, true, true, false] (RegI 8 (fun u => { tmps := #[.bool false, .pointer (some ⟨b1, 0, none⟩), .pointer (some ⟨b2, 0, none⟩), u 7, undef, undef, undef, z7, z8, z9, z10, z11, z12, u 0, u 1, u 2, u 3, u 4, u 5, u 6, undef, undef, undef, undef, undef, undef, undef, undef, undef, undef, undef, undef, undef, undef, undef, undef, undef, undef, undef, undef, undef, undef, undef, undef, undef, undef, undef, undef, undef, undef, undef, undef, undef, undef, undef, undef, undef, undef, undef, undef, undef, undef, undef, undef, undef, undef, undef, undef, undef, undef, undef, undef, undef, undef, undef, undef, undef, undef, undef, undef, undef, undef, undef, undef, undef, undef, undef, undef, undef, undef, undef, undef, undef, undef, undef, undef, undef, undef, undef, undef, undef, undef, undef, undef, undef, undef, undef, undef, undef, undef, undef, undef, undef, undef, undef, undef, undef, undef, undef, undef, undef, undef, undef, undef, undef, undef, undef, undef, undef, undef, undef, undef, undef, undef, undef, undef, undef], defers := [] }) (fun w => Below WL.heap.size WL w) (fun j => (ke2 j).holds WL.heap.size) (fun j => decide (j = 7))) (by decide +kernel) (by decide +kernel) (by decide +kernel) (by decide +kernel) (by decide +kernel) ?_ ?_ _ _ (RegI.start (fun _ => undef) rfl (below_drew1 (Below.refl _ _)))
  · intro i hi listed a w hl hI K hK
    obtain ⟨u, rfl, hS, hP, hD⟩ := hI;have hcase : i = 0 ∨ i = 1 ∨ i = 2 ∨ i = 3 ∨ i = 4 ∨ i = 5 ∨ i = 6 ∨ i = 7 := by omega
    clear hi
    rcases hcase with rfl | rfl | rfl | rfl | rfl | rfl | rfl | rfl
    · clear hl
      refine wpOp_of rfl ?_;go_simp;refine hK _ _ ?_;refine RegI.keep 0 _ hP hD (fun j v h => Ke.below ((Below.refl _ _).alloc (Nat.le_refl _) _) (ke2 j) v h) (hS.alloc hS.size _) (pairs_lit2 w 1 1 2 1 _) (fun h => by simp at h) ?_
      simp only [Act.put, s1, s2, s3, upd, Nat.reduceEqDiff, reduceIte]
    · have h0 : Ke.holds WL.heap.size (.pairs [⟨1, 1⟩, ⟨2, 1⟩]) (u 0) w := hP 0 (by omega) (hl 0 (by decide +kernel))
      clear hl;refine wpOp_of rfl ?_;go_simp
      go_at_call 36
      refine (kDotsV h0 (by decide) (di_all (by decide))).mono ?_
      rintro e w1 ⟨v1, rfl, hv1, hb1⟩;go_simp;refine hK _ _ ?_;refine RegI.keep 1 _ hP hD (fun j v h => Ke.below hb1 (ke2 j) v h) (hS.trans (hb1.mono hS.size)) (hv1) (fun h => by simp at h) ?_
      simp only [Act.put, s1, s2, s3, upd, Nat.reduceEqDiff, reduceIte]
    · have h1 : Ke.holds WL.heap.size (.dots [⟨1, 1⟩, ⟨2, 1⟩]) (u 1) w := hP 1 (by omega) (hl 1 (by decide +kernel))
      clear hl;refine wpOp_of rfl ?_;obtain ⟨o1, n1, l1, e1, g1⟩ := Ke.dots_open h1;simp only [e1];go_simp;refine hK _ _ ?_;refine RegI.keep 2 _ hP hD (fun _ _ h => h) hS (⟨_, _, _, _, _, _, rfl, g1, arr_nil⟩) (fun h => by simp at h) ?_
      simp only [Act.put, s1, s2, s3, upd, Nat.reduceEqDiff, reduceIte, e1]
    · clear hl
      refine wpOp_of rfl ?_;obtain ⟨f0, f1⟩ := HB1.out w hS;go_simp;refine hK _ _ ?_;refine RegI.keep 3 _ hP hD (fun _ _ h => h) hS (HV1.out w hS) (fun h => by simp at h) ?_
      simp only [Act.put, s1, s2, s3, upd, Nat.reduceEqDiff, reduceIte]
    · clear hl
      refine wpOp_of rfl ?_;obtain ⟨f0, f1⟩ := HB2.out w hS;go_simp;refine hK _ _ ?_;refine RegI.keep 4 _ hP hD (fun _ _ h => h) hS (HV2.out w hS) (fun h => by simp at h) ?_
      simp only [Act.put, s1, s2, s3, upd, Nat.reduceEqDiff, reduceIte]
    · have h3 : Ke.holds WL.heap.size (.item iNut) (u 3) w := hP 3 (by omega) (hl 3 (by decide +kernel))
      have h4 : Ke.holds WL.heap.size (.item iTea) (u 4) w := hP 4 (by omega) (hl 4 (by decide +kernel))
      clear hl;refine wpOp_of rfl ?_;obtain ⟨o3, n3, l3, e3, g3⟩ := h3;obtain ⟨o4, n4, l4, e4, g4⟩ := h4;simp only [e3, e4];go_simp;refine hK _ _ ?_;refine RegI.keep 5 _ hP hD (fun j v h => Ke.below ((Below.refl _ _).alloc (Nat.le_refl _) _) (ke2 j) v h) (hS.alloc hS.size _) (items_lit2 w _ g3 g4) (fun h => by simp at h) ?_
      simp only [Act.put, s1, s2, s3, upd, Nat.reduceEqDiff, reduceIte, e3, e4]
    · have h2 : Ke.holds WL.heap.size (.ctx [⟨1, 1⟩, ⟨2, 1⟩] []) (u 2) w := hP 2 (by omega) (hl 2 (by decide +kernel))
      have h5 : Ke.holds WL.heap.size (.items [iNut, iTea]) (u 5) w := hP 5 (by omega) (hl 5 (by decide +kernel))
      clear hl;refine wpOp_of rfl ?_;obtain ⟨o2, n2, l2, p2, q2, r2, e2, g2, x2⟩ := h2;obtain ⟨o5, n5, l5, e5, g5⟩ := Ke.items_open h5;simp only [e2, e5];go_simp;refine hK _ _ ?_;refine RegI.keep 6 _ hP hD (fun _ _ h => h) hS (⟨_, _, _, _, _, _, _, _, _, rfl, g2, x2, g5⟩) (fun h => by simp at h) ?_
      simp only [Act.put, s1, s2, s3, upd, Nat.reduceEqDiff, reduceIte, e2, e5]
    · clear hl
      refine wpOp_of rfl ?_;go_simp;refine hK _ _ ?_;refine RegI.keep 7 _ hP hD (fun j v h => Ke.below ((Below.refl _ _).alloc (Nat.le_refl _) _) (ke2 j) v h) (hS.alloc hS.size _) (⟨w.heap.size, rfl, hS.size, alloc_new _ _⟩) ?_ ?_
      · intro _ j hj x hx e
        obtain ⟨b, rfl, -, hb⟩ := kd_boxke2 hj hx;have := lt_of_heap hb;injection e with e; injection e with e; injection e with e
        omega
      simp only [Act.put, s1, s2, s3, upd, Nat.reduceEqDiff, reduceIte]
  · intro a w hI
    obtain ⟨u, rfl, hS, hP, hD⟩ := hI;obtain ⟨g, eg, hg, hx⟩ := (hP 7 (by omega) (by decide +kernel) : Ke.holds WL.heap.size .box (u 7) w)
    obtain ⟨o1, n1, l1, o2, n2, l2, o3, n3, l3, ec, hc⟩ := (hP 6 (by omega) (by decide +kernel) : Ke.holds WL.heap.size (.cart cX) (u 6) w)
    have hqq := hQ u g (store3 w g (.slice o1 n1 l1) (.slice o2 n2 l2) (.slice o3 n3 l3)) (store3_below _ _ _ hS hg) ⟨_, _, _, _, _, _, _, _, _, store3_same hx, store3_cart hx hc⟩;simp only [ec] at hqq
    show wpAny _ _ _ _ 1 _ _ _
    simp only [eg, ec];refine wpAny_ready (rs := [8]) (by decide +kernel) (by simp) ?_
    refine (AllReady.cons rfl (fun K hK => ?_) AllReady.nil)
    obtain ⟨⟨t0, t1, t2⟩, f0, f1, f2⟩ := cf3 hx;go_simp;refine hK _ _ ?_;clear hK K f0 f1 f2 t0 t1 t2
    try simp only [Act.put, s1, s2, s3, List.getElem_toArray, List.getElem_cons_succ, List.getElem_cons_zero]
    refine wpAny_done (by kernel_rfl) ?_ _
    simp only [NQ]
    try simp only [Act.put, s1, s2, s3, List.getElem_toArray, List.getElem_cons_succ, List.getElem_cons_zero]
    exact hqq
def ke3 (j : Nat) : Ke := [.val (.agg #[.int .i64 1, .int .i64 2, .int .i64 2, .int .u64 9]), .val (.agg #[.int .i64 1, .int .i64 1, .int .i64 5, .int .u64 3]), .row [k3, k1], .item iTeaY, .item iNut, .items [iTeaY, iNut], .cart cY, .box].getD j .free
theorem kd_boxke3 {j B : Nat} {x : Value} {w : World} (hj : decide (j = 7) = true) (hx : (ke3 j).holds B x w) : ∃ b, x = .pointer (some ⟨b, 0, none⟩) ∧ B ≤ b ∧ w.heap[b]? = some (.cells #[.slice none 0 0, .slice none 0 0, .slice none 0 0] 28) := by
  have h := of_decide_eq_true hj;subst h;exact hx
set_option linter.unusedSimpArgs false in
set_option linter.unusedVariables false in
set_option maxRecDepth 100000 in
set_option maxHeartbeats 16000000 in
theorem lknown3 (WL : World) (b1 b2 b3 : Nat) (z7 z8 z9 z10 z11 z12 z13 z14 z15 z16 z17 z18 z19 : Value) (hG : GlobIs WL) (h1 : ItemB WL b1 iNut) (h2 : ItemB WL b2 iTea) (h3 : CartC WL b3 cX) (R : Act → World → Prop) (hQ : ∀ (u : Nat → Value) (b4 : Nat) (w : World), Below WL.heap.size WL w → CartC w b4 cY → R { tmps := #[.bool false, .pointer (some ⟨b1, 0, none⟩), .pointer (some ⟨b2, 0, none⟩), .pointer (some ⟨b3, 0, none⟩), .pointer (some ⟨b4, 0, none⟩), undef, undef, z7, z8, z9, z10, z11, z12, z13, z14, z15, z16, z17, z18, z19, u 0, u 1, u 2, u 3, u 4, u 5, u 6, undef, undef, undef, undef, undef, undef, undef, undef, undef, undef, undef, undef, undef, undef, undef, undef, undef, undef, undef, undef, undef, undef, undef, undef, undef, undef, undef, undef, undef, undef, undef, undef, undef, undef, undef, undef, undef, undef, undef, undef, undef, undef, undef, undef, undef, undef, undef, undef, undef, undef, undef, undef, undef, undef, undef, undef, undef, undef, undef, undef, undef, undef, undef, undef, undef, undef, undef, undef, undef, undef, undef, undef, undef, undef, undef, undef, undef, undef, undef, undef, undef, undef, undef, undef, undef, undef, undef, undef, undef, undef, undef, undef, undef, undef, undef, undef, undef, undef, undef, undef, undef, undef, undef, undef, undef, undef, undef, undef, undef, undef], defers := [] } w) :
    (codeAt [1, 1, 1, 0] (Tryz.f9.body.getD .skip)).wp Tryz.prog (NQ R) { tmps := #[.bool false, .pointer (some ⟨b1, 0, none⟩), .pointer (some ⟨b2, 0, none⟩), .pointer (some ⟨b3, 0, none⟩), undef, undef, undef, z7, z8, z9, z10, z11, z12, z13, z14, z15, z16, z17, z18, z19, undef, undef, undef, undef, undef, undef, undef, undef, undef, undef, undef, undef, undef, undef, undef, undef, undef, undef, undef, undef, undef, undef, undef, undef, undef, undef, undef, undef, undef, undef, undef, undef, undef, undef, undef, undef, undef, undef, undef, undef, undef, undef, undef, undef, undef, undef, undef, undef, undef, undef, undef, undef, undef, undef, undef, undef, undef, undef, undef, undef, undef, undef, undef, undef, undef, undef, undef, undef, undef, undef, undef, undef, undef, undef, undef, undef, undef, undef, undef, undef, undef, undef, undef, undef, undef, undef, undef, undef, undef, undef, undef, undef, undef, undef, undef, undef, undef, undef, undef, undef, undef, undef, undef, undef, undef, undef, undef, undef, undef, undef, undef, undef, undef, undef, undef, undef, undef], defers := [] } WL := by
  obtain ⟨o1, n1, c1, q1, v1⟩ := h1;have HB1 : Hid (∀ wz, Below WL.heap.size WL wz → wz.cell? ⟨b1, 0, none⟩ = some (.string iNut.name) ∧ wz.cell? ⟨b1, 1, none⟩ = some (.slice o1 n1 c1)) := Hd (fun wz hz => cel2 ((hz.block _ (lt_of_heap q1)).trans q1))
  have HV1 : Hid (∀ wz, Below WL.heap.size WL wz → Ke.holds 0 (.item iNut) (.agg #[.string iNut.name, .slice o1 n1 c1]) wz) := Hd (fun wz hz => ⟨_, _, _, rfl, v1.1, v1.2.marks (Below.refl _ _ |>.trans hz)⟩)
  clear q1 v1;obtain ⟨o2, n2, c2, q2, v2⟩ := h2;have HB2 : Hid (∀ wz, Below WL.heap.size WL wz → wz.cell? ⟨b2, 0, none⟩ = some (.string iTea.name) ∧ wz.cell? ⟨b2, 1, none⟩ = some (.slice o2 n2 c2)) := Hd (fun wz hz => cel2 ((hz.block _ (lt_of_heap q2)).trans q2))
  have HV2 : Hid (∀ wz, Below WL.heap.size WL wz → Ke.holds 0 (.item iTea) (.agg #[.string iTea.name, .slice o2 n2 c2]) wz) := Hd (fun wz hz => ⟨_, _, _, rfl, v2.1, v2.2.marks (Below.refl _ _ |>.trans hz)⟩)
  clear q2 v2;obtain ⟨o31, n31, k31, o32, n32, k32, o33, n33, k33, q3, v3⟩ := h3;have HB3 : Hid (∀ wz, Below WL.heap.size WL wz → wz.cell? ⟨b3, 0, none⟩ = some (.slice o31 n31 k31) ∧ wz.cell? ⟨b3, 1, none⟩ = some (.slice o32 n32 k32) ∧ wz.cell? ⟨b3, 2, none⟩ = some (.slice o33 n33 k33)) := Hd (fun wz hz => cel3 ((hz.block _ (lt_of_heap q3)).trans q3))
  have HV3 : Hid (∀ wz, Below WL.heap.size WL wz → Ke.holds 0 (.cart cX) (.agg #[.slice o31 n31 k31, .slice o32 n32 k32, .slice o33 n33 k33]) wz) := Hd (fun wz hz => ⟨_, _, _, _, _, _, _, _, _, rfl, v3.below hz⟩)
  have HI3 : Hid (∀ wz, Below WL.heap.size WL wz → Ke.holds 0 (.items cX.items) (.slice o33 n33 k33) wz) := Hd (fun wz hz => (v3.below hz).2.2)
  clear q3 v3;have HGL := Hd hG;clear hG;simp only [codeAt, codeL, codeR, Tryz.f9, Option.getD_some];refine wp_region_any (by kernel_rfl) ?_
  try (change wpAny _ _ _ _ _ _ _ (World.drew _))
  refine wpAny_invB 8 #[true, true, true, true, true, true, true, true, false] (RegI 8 (fun u => { tmps := #[.bool false, .pointer (some ⟨b1, 0, none⟩), .pointer (some ⟨b2, 0, none⟩), .pointer (some ⟨b3, 0, none⟩), u 7, undef, undef, z7, z8, z9, z10, z11, z12, z13, z14, z15, z16, z17, z18, z19, u 0, u 1, u 2, u 3, u 4, u 5, u 6, undef, undef, undef, undef, undef, undef, undef, undef, undef, undef, undef, undef, undef, undef, undef, undef, undef, undef, undef, undef, undef, undef, undef, undef, undef, undef, undef, undef, undef, undef, undef, undef, undef, undef, undef, undef, undef, undef, undef, undef, undef, undef, undef, undef, undef, undef, undef, undef, undef, undef, undef, undef, undef, undef, undef, undef, undef, undef, undef, undef, undef, undef, undef, undef, undef, undef, undef, undef, undef, undef, undef, undef, undef, undef, undef, undef, undef, undef, undef, undef, undef, undef, undef, undef, undef, undef, undef, undef, undef, undef, undef, undef, undef, undef, undef, undef, undef, undef, undef, undef, undef, undef, undef, undef, undef, undef, undef, undef, undef, undef], defers := [] }) (fun w => Below WL.heap.size WL w) (fun j => (ke3 j).holds WL.heap.size) (fun j => decide (j = 7))) (by decide +kernel) (by decide +kernel) (by decide +kernel) (by decide +kernel) (by decide +kernel) ?_ ?_ _ _ (RegI.start (fun _ => undef) rfl (below_drew1 (Below.refl _ _)))
  · intro i hi listed a w hl hI K hK
    obtain ⟨u, rfl, hS, hP, hD⟩ := hI;have hcase : i = 0 ∨ i = 1 ∨ i = 2 ∨ i = 3 ∨ i = 4 ∨ i = 5 ∨ i = 6 ∨ i = 7 := by omega
    clear hi
    rcases hcase with rfl | rfl | rfl | rfl | rfl | rfl | rfl | rfl
    · clear hl
      refine wpOp_of rfl ?_;go_simp
      go_at_call 35
      refine (l10mark_any 1 2 2 9 w).mono ?_;rintro e w1 ⟨rfl, hb1⟩;go_simp;refine hK _ _ ?_;refine RegI.keep 0 _ hP hD (fun j v h => Ke.below hb1 (ke3 j) v h) (hS.trans (hb1.mono hS.size)) (rfl) (fun h => by simp at h) ?_
      simp only [Act.put, s1, s2, s3, upd, Nat.reduceEqDiff, reduceIte]
    · clear hl
      refine wpOp_of rfl ?_;go_simp
      go_at_call 35
      refine (l10mark_any 1 1 5 3 w).mono ?_;rintro e w1 ⟨rfl, hb1⟩;go_simp;refine hK _ _ ?_;refine RegI.keep 1 _ hP hD (fun j v h => Ke.below hb1 (ke3 j) v h) (hS.trans (hb1.mono hS.size)) (rfl) (fun h => by simp at h) ?_
      simp only [Act.put, s1, s2, s3, upd, Nat.reduceEqDiff, reduceIte]
    · have e0 : u 0 = .agg #[.int .i64 1, .int .i64 2, .int .i64 2, .int .u64 9] := hP 0 (by omega) (hl 0 (by decide +kernel))
      have e1 : u 1 = .agg #[.int .i64 1, .int .i64 1, .int .i64 5, .int .u64 3] := hP 1 (by omega) (hl 1 (by decide +kernel))
      clear hl;simp only [e0, e1];refine wpOp_of rfl ?_;go_simp;refine hK _ _ ?_;refine RegI.keep 2 _ hP hD (fun j v h => Ke.below ((Below.refl _ _).alloc (Nat.le_refl _) _) (ke3 j) v h) (hS.alloc hS.size _) (kRow2 k3 k1 (mi_all (by decide))) (fun h => by simp at h) ?_
      simp only [Act.put, s1, s2, s3, upd, Nat.reduceEqDiff, reduceIte, e0, e1]
    · have h2 : Ke.holds WL.heap.size (.row [k3, k1]) (u 2) w := hP 2 (by omega) (hl 2 (by decide +kernel))
      clear hl;refine wpOp_of rfl ?_;go_simp
      go_at_call 34
      refine (kItemV iTeaY h2 rfl (by decide)).mono ?_
      rintro e w1 ⟨v1, rfl, hv1, hb1⟩;go_simp;refine hK _ _ ?_;refine RegI.keep 3 _ hP hD (fun j v h => Ke.below hb1 (ke3 j) v h) (hS.trans (hb1.mono hS.size)) (hv1) (fun h => by simp at h) ?_
      simp only [Act.put, s1, s2, s3, upd, Nat.reduceEqDiff, reduceIte]
    · clear hl
      refine wpOp_of rfl ?_;obtain ⟨f0, f1⟩ := HB1.out w hS;go_simp;refine hK _ _ ?_;refine RegI.keep 4 _ hP hD (fun _ _ h => h) hS (HV1.out w hS) (fun h => by simp at h) ?_
      simp only [Act.put, s1, s2, s3, upd, Nat.reduceEqDiff, reduceIte]
    · have h3 : Ke.holds WL.heap.size (.item iTeaY) (u 3) w := hP 3 (by omega) (hl 3 (by decide +kernel))
      have h4 : Ke.holds WL.heap.size (.item iNut) (u 4) w := hP 4 (by omega) (hl 4 (by decide +kernel))
      clear hl;refine wpOp_of rfl ?_;obtain ⟨o3, n3, l3, e3, g3⟩ := h3;obtain ⟨o4, n4, l4, e4, g4⟩ := h4;simp only [e3, e4];go_simp;refine hK _ _ ?_;refine RegI.keep 5 _ hP hD (fun j v h => Ke.below ((Below.refl _ _).alloc (Nat.le_refl _) _) (ke3 j) v h) (hS.alloc hS.size _) (items_lit2 w _ g3 g4) (fun h => by simp at h) ?_
      simp only [Act.put, s1, s2, s3, upd, Nat.reduceEqDiff, reduceIte, e3, e4]
    · have h5 : Ke.holds WL.heap.size (.items [iTeaY, iNut]) (u 5) w := hP 5 (by omega) (hl 5 (by decide +kernel))
      clear hl;refine wpOp_of rfl ?_;obtain ⟨o5, n5, l5, e5, g5⟩ := Ke.items_open h5;simp only [e5];go_simp;refine hK _ _ ?_;refine RegI.keep 6 _ hP hD (fun _ _ h => h) hS (⟨_, _, _, _, _, _, _, _, _, rfl, arr_nil, arr_nil, g5⟩) (fun h => by simp at h) ?_
      simp only [Act.put, s1, s2, s3, upd, Nat.reduceEqDiff, reduceIte, e5]
    · clear hl
      refine wpOp_of rfl ?_;go_simp;refine hK _ _ ?_;refine RegI.keep 7 _ hP hD (fun j v h => Ke.below ((Below.refl _ _).alloc (Nat.le_refl _) _) (ke3 j) v h) (hS.alloc hS.size _) (⟨w.heap.size, rfl, hS.size, alloc_new _ _⟩) ?_ ?_
      · intro _ j hj x hx e
        obtain ⟨b, rfl, -, hb⟩ := kd_boxke3 hj hx;have := lt_of_heap hb;injection e with e; injection e with e; injection e with e
        omega
      simp only [Act.put, s1, s2, s3, upd, Nat.reduceEqDiff, reduceIte]
  · intro a w hI
    obtain ⟨u, rfl, hS, hP, hD⟩ := hI;obtain ⟨g, eg, hg, hx⟩ := (hP 7 (by omega) (by decide +kernel) : Ke.holds WL.heap.size .box (u 7) w)
    obtain ⟨o1, n1, l1, o2, n2, l2, o3, n3, l3, ec, hc⟩ := (hP 6 (by omega) (by decide +kernel) : Ke.holds WL.heap.size (.cart cY) (u 6) w)
    have hqq := hQ u g (store3 w g (.slice o1 n1 l1) (.slice o2 n2 l2) (.slice o3 n3 l3)) (store3_below _ _ _ hS hg) ⟨_, _, _, _, _, _, _, _, _, store3_same hx, store3_cart hx hc⟩;simp only [ec] at hqq
    show wpAny _ _ _ _ 1 _ _ _
    simp only [eg, ec];refine wpAny_ready (rs := [8]) (by decide +kernel) (by simp) ?_
    refine (AllReady.cons rfl (fun K hK => ?_) AllReady.nil)
    obtain ⟨⟨t0, t1, t2⟩, f0, f1, f2⟩ := cf3 hx;go_simp;refine hK _ _ ?_;clear hK K f0 f1 f2 t0 t1 t2
    try simp only [Act.put, s1, s2, s3, List.getElem_toArray, List.getElem_cons_succ, List.getElem_cons_zero]
    refine wpAny_done (by kernel_rfl) ?_ _
    simp only [NQ]
    try simp only [Act.put, s1, s2, s3, List.getElem_toArray, List.getElem_cons_succ, List.getElem_cons_zero]
    exact hqq
def ke4 (j : Nat) : Ke := [.pairs [⟨1, 2⟩, ⟨2, 1⟩], .dots [⟨1, 2⟩, ⟨2, 1⟩], .ctx [⟨1, 2⟩, ⟨2, 1⟩] [], .item iNut, .val (.agg #[.int .i64 1, .int .i64 1, .int .i64 5, .int .u64 3]), .val (.agg #[.int .i64 1, .int .i64 2, .int .i64 2, .int .u64 9]), .row [k1, k3], .item iTeaZ, .items [iNut, iTeaZ], .cart cZ, .box].getD j .free
theorem kd_boxke4 {j B : Nat} {x : Value} {w : World} (hj : decide (j = 10) = true) (hx : (ke4 j).holds B x w) : ∃ b, x = .pointer (some ⟨b, 0, none⟩) ∧ B ≤ b ∧ w.heap[b]? = some (.cells #[.slice none 0 0, .slice none 0 0, .slice none 0 0] 28) := by
  have h := of_decide_eq_true hj;subst h;exact hx
set_option linter.unusedSimpArgs false in
set_option linter.unusedVariables false in
set_option maxRecDepth 100000 in
set_option maxHeartbeats 16000000 in
theorem lknown4 (WL : World) (b1 b2 b3 b4 : Nat) (z7 z8 z9 z10 z11 z12 z13 z14 z15 z16 z17 z18 z19 z20 z21 z22 z23 z24 z25 z26 : Value) (hG : GlobIs WL) (h1 : ItemB WL b1 iNut) (h2 : ItemB WL b2 iTea) (h3 : CartC WL b3 cX) (h4 : CartC WL b4 cY) (R : Act → World → Prop) (hQ : ∀ (u : Nat → Value) (b5 : Nat) (w : World), Below WL.heap.size WL w → CartC w b5 cZ → R { tmps := #[.bool false, .pointer (some ⟨b1, 0, none⟩), .pointer (some ⟨b2, 0, none⟩), .pointer (some ⟨b3, 0, none⟩), .pointer (some ⟨b4, 0, none⟩), .pointer (some ⟨b5, 0, none⟩), undef, z7, z8, z9, z10, z11, z12, z13, z14, z15, z16, z17, z18, z19, z20, z21, z22, z23, z24, z25, z26, u 0, u 1, u 2, u 3, u 4, u 5, u 6, u 7, u 8, u 9, undef, undef, undef, undef, undef, undef, undef, undef, undef, undef, undef, undef, undef, undef, undef, undef, undef, undef, undef, undef, undef, undef, undef, undef, undef, undef, undef, undef, undef, undef, undef, undef, undef, undef, undef, undef, undef, undef, undef, undef, undef, undef, undef, undef, undef, undef, undef, undef, undef, undef, undef, undef, undef, undef, undef, undef, undef, undef, undef, undef, undef, undef, undef, undef, undef, undef, undef, undef, undef, undef, undef, undef, undef, undef, undef, undef, undef, undef, undef, undef, undef, undef, undef, undef, undef, undef, undef, undef, undef, undef, undef, undef, undef, undef, undef, undef, undef, undef, undef, undef], defers := [] } w) :
    (codeAt [1, 1, 1, 1, 0] (Tryz.f9.body.getD .skip)).wp Tryz.prog (NQ R) { tmps := #[.bool false, .pointer (some ⟨b1, 0, none⟩), .pointer (some ⟨b2, 0, none⟩), .pointer (some ⟨b3, 0, none⟩), .pointer (some ⟨b4, 0, none⟩), undef, undef, z7, z8, z9, z10, z11, z12, z13, z14, z15, z16, z17, z18, z19, z20, z21, z22, z23, z24, z25, z26, undef, undef, undef, undef, undef, undef, undef, undef, undef, undef, undef, undef, undef, undef, undef, undef, undef, undef, undef, undef, undef, undef, undef, undef, undef, undef, undef, undef, undef, undef, undef, undef, undef, undef, undef, undef, undef, undef, undef, undef, undef, undef, undef, undef, undef, undef, undef, undef, undef, undef, undef, undef, undef, undef, undef, undef, undef, undef, undef, undef, undef, undef, undef, undef, undef, undef, undef, undef, undef, undef, undef, undef, undef, undef, undef, undef, undef, undef, undef, undef, undef, undef, undef, undef, undef, undef, undef, undef, undef, undef, undef, undef, undef, undef, undef, undef, undef, undef, undef, undef, undef, undef, undef, undef, undef, undef, undef, undef, undef, undef], defers := [] } WL := by
  obtain ⟨o1, n1, c1, q1, v1⟩ := h1;have HB1 : Hid (∀ wz, Below WL.heap.size WL wz → wz.cell? ⟨b1, 0, none⟩ = some (.string iNut.name) ∧ wz.cell? ⟨b1, 1, none⟩ = some (.slice o1 n1 c1)) := Hd (fun wz hz => cel2 ((hz.block _ (lt_of_heap q1)).trans q1))
  have HV1 : Hid (∀ wz, Below WL.heap.size WL wz → Ke.holds 0 (.item iNut) (.agg #[.string iNut.name, .slice o1 n1 c1]) wz) := Hd (fun wz hz => ⟨_, _, _, rfl, v1.1, v1.2.marks (Below.refl _ _ |>.trans hz)⟩)
  clear q1 v1;obtain ⟨o2, n2, c2, q2, v2⟩ := h2;have HB2 : Hid (∀ wz, Below WL.heap.size WL wz → wz.cell? ⟨b2, 0, none⟩ = some (.string iTea.name) ∧ wz.cell? ⟨b2, 1, none⟩ = some (.slice o2 n2 c2)) := Hd (fun wz hz => cel2 ((hz.block _ (lt_of_heap q2)).trans q2))
  have HV2 : Hid (∀ wz, Below WL.heap.size WL wz → Ke.holds 0 (.item iTea) (.agg #[.string iTea.name, .slice o2 n2 c2]) wz) := Hd (fun wz hz => ⟨_, _, _, rfl, v2.1, v2.2.marks (Below.refl _ _ |>.trans hz)⟩)
  clear q2 v2;obtain ⟨o31, n31, k31, o32, n32, k32, o33, n33, k33, q3, v3⟩ := h3;have HB3 : Hid (∀ wz, Below WL.heap.size WL wz → wz.cell? ⟨b3, 0, none⟩ = some (.slice o31 n31 k31) ∧ wz.cell? ⟨b3, 1, none⟩ = some (.slice o32 n32 k32) ∧ wz.cell? ⟨b3, 2, none⟩ = some (.slice o33 n33 k33)) := Hd (fun wz hz => cel3 ((hz.block _ (lt_of_heap q3)).trans q3))
  have HV3 : Hid (∀ wz, Below WL.heap.size WL wz → Ke.holds 0 (.cart cX) (.agg #[.slice o31 n31 k31, .slice o32 n32 k32, .slice o33 n33 k33]) wz) := Hd (fun wz hz => ⟨_, _, _, _, _, _, _, _, _, rfl, v3.below hz⟩)
  have HI3 : Hid (∀ wz, Below WL.heap.size WL wz → Ke.holds 0 (.items cX.items) (.slice o33 n33 k33) wz) := Hd (fun wz hz => (v3.below hz).2.2)
  clear q3 v3;obtain ⟨o41, n41, k41, o42, n42, k42, o43, n43, k43, q4, v4⟩ := h4;have HB4 : Hid (∀ wz, Below WL.heap.size WL wz → wz.cell? ⟨b4, 0, none⟩ = some (.slice o41 n41 k41) ∧ wz.cell? ⟨b4, 1, none⟩ = some (.slice o42 n42 k42) ∧ wz.cell? ⟨b4, 2, none⟩ = some (.slice o43 n43 k43)) := Hd (fun wz hz => cel3 ((hz.block _ (lt_of_heap q4)).trans q4))
  have HV4 : Hid (∀ wz, Below WL.heap.size WL wz → Ke.holds 0 (.cart cY) (.agg #[.slice o41 n41 k41, .slice o42 n42 k42, .slice o43 n43 k43]) wz) := Hd (fun wz hz => ⟨_, _, _, _, _, _, _, _, _, rfl, v4.below hz⟩)
  clear q4 v4;have HGL := Hd hG;clear hG;simp only [codeAt, codeL, codeR, Tryz.f9, Option.getD_some];refine wp_region_any (by kernel_rfl) ?_
  try (change wpAny _ _ _ _ _ _ _ (World.drew _))
  refine wpAny_invB 11 #[true, true, true, true, true, true, true, true, true, true, true, false] (RegI 11 (fun u => { tmps := #[.bool false, .pointer (some ⟨b1, 0, none⟩), .pointer (some ⟨b2, 0, none⟩), .pointer (some ⟨b3, 0, none⟩), .pointer (some ⟨b4, 0, none⟩), u 10, undef, z7, z8, z9, z10, z11, z12, z13, z14, z15, z16, z17, z18, z19, z20, z21, z22, z23, z24, z25, z26, u 0, u 1, u 2, u 3, u 4, u 5, u 6, u 7, u 8, u 9, undef, undef, undef, undef, undef, undef, undef, undef, undef, undef, undef, undef, undef, undef, undef, undef, undef, undef, undef, undef, undef, undef, undef, undef, undef, undef, undef, undef, undef, undef, undef, undef, undef, undef, undef, undef, undef, undef, undef, undef, undef, undef, undef, undef, undef, undef, undef, undef, undef, undef, undef, undef, undef, undef, undef, undef, undef, undef, undef, undef, undef, undef, undef, undef, undef, undef, undef, undef, undef, undef, undef, undef, undef, undef, undef, undef, undef, undef, undef, undef, undef, undef, undef, undef, undef, undef, undef, undef, undef, undef, undef, undef, undef, undef, undef, undef, undef, undef, undef, undef], defers := [] }) (fun w => Below WL.heap.size WL w) (fun j => (ke4 j).holds WL.heap.size) (fun j => decide (j = 10))) (by decide +kernel) (by decide +kernel) (by decide +kernel) (by decide +kernel) (by decide +kernel) ?_ ?_ _ _ (RegI.start (fun _ => undef) rfl (below_drew1 (Below.refl _ _)))
  · intro i hi listed a w hl hI K hK
    obtain ⟨u, rfl, hS, hP, hD⟩ := hI;have hcase : i = 0 ∨ i = 1 ∨ i = 2 ∨ i = 3 ∨ i = 4 ∨ i = 5 ∨ i = 6 ∨ i = 7 ∨ i = 8 ∨ i = 9 ∨ i = 10 := by omega
    clear hi
    rcases hcase with rfl | rfl | rfl | rfl | rfl | rfl | rfl | rfl | rfl | rfl | rfl
    · clear hl
      refine wpOp_of rfl ?_;go_simp;refine hK _ _ ?_;refine RegI.keep 0 _ hP hD (fun j v h => Ke.below ((Below.refl _ _).alloc (Nat.le_refl _) _) (ke4 j) v h) (hS.alloc hS.size _) (pairs_lit2 w 1 2 2 1 _) (fun h => by simp at h) ?_
      simp only [Act.put, s1, s2, s3, upd, Nat.reduceEqDiff, reduceIte]
    · have h0 : Ke.holds WL.heap.size (.pairs [⟨1, 2⟩, ⟨2, 1⟩]) (u 0) w := hP 0 (by omega) (hl 0 (by decide +kernel))
      clear hl;refine wpOp_of rfl ?_;go_simp
      go_at_call 36
      refine (kDotsV h0 (by decide) (di_all (by decide))).mono ?_
      rintro e w1 ⟨v1, rfl, hv1, hb1⟩;go_simp;refine hK _ _ ?_;refine RegI.keep 1 _ hP hD (fun j v h => Ke.below hb1 (ke4 j) v h) (hS.trans (hb1.mono hS.size)) (hv1) (fun h => by simp at h) ?_
      simp only [Act.put, s1, s2, s3, upd, Nat.reduceEqDiff, reduceIte]
    · have h1 : Ke.holds WL.heap.size (.dots [⟨1, 2⟩, ⟨2, 1⟩]) (u 1) w := hP 1 (by omega) (hl 1 (by decide +kernel))
      clear hl;refine wpOp_of rfl ?_;obtain ⟨o1, n1, l1, e1, g1⟩ := Ke.dots_open h1;simp only [e1];go_simp;refine hK _ _ ?_;refine RegI.keep 2 _ hP hD (fun _ _ h => h) hS (⟨_, _, _, _, _, _, rfl, g1, arr_nil⟩) (fun h => by simp at h) ?_
      simp only [Act.put, s1, s2, s3, upd, Nat.reduceEqDiff, reduceIte, e1]
    · clear hl
      refine wpOp_of rfl ?_;obtain ⟨f0, f1⟩ := HB1.out w hS;go_simp;refine hK _ _ ?_;refine RegI.keep 3 _ hP hD (fun _ _ h => h) hS (HV1.out w hS) (fun h => by simp at h) ?_
      simp only [Act.put, s1, s2, s3, upd, Nat.reduceEqDiff, reduceIte]
    · clear hl
      refine wpOp_of rfl ?_;go_simp
      go_at_call 35
      refine (l10mark_any 1 1 5 3 w).mono ?_;rintro e w1 ⟨rfl, hb1⟩;go_simp;refine hK _ _ ?_;refine RegI.keep 4 _ hP hD (fun j v h => Ke.below hb1 (ke4 j) v h) (hS.trans (hb1.mono hS.size)) (rfl) (fun h => by simp at h) ?_
      simp only [Act.put, s1, s2, s3, upd, Nat.reduceEqDiff, reduceIte]
    · clear hl
      refine wpOp_of rfl ?_;go_simp
      go_at_call 35
      refine (l10mark_any 1 2 2 9 w).mono ?_;rintro e w1 ⟨rfl, hb1⟩;go_simp;refine hK _ _ ?_;refine RegI.keep 5 _ hP hD (fun j v h => Ke.below hb1 (ke4 j) v h) (hS.trans (hb1.mono hS.size)) (rfl) (fun h => by simp at h) ?_
      simp only [Act.put, s1, s2, s3, upd, Nat.reduceEqDiff, reduceIte]
    · have e4 : u 4 = .agg #[.int .i64 1, .int .i64 1, .int .i64 5, .int .u64 3] := hP 4 (by omega) (hl 4 (by decide +kernel))
      have e5 : u 5 = .agg #[.int .i64 1, .int .i64 2, .int .i64 2, .int .u64 9] := hP 5 (by omega) (hl 5 (by decide +kernel))
      clear hl;simp only [e4, e5];refine wpOp_of rfl ?_;go_simp;refine hK _ _ ?_;refine RegI.keep 6 _ hP hD (fun j v h => Ke.below ((Below.refl _ _).alloc (Nat.le_refl _) _) (ke4 j) v h) (hS.alloc hS.size _) (kRow2 k1 k3 (mi_all (by decide))) (fun h => by simp at h) ?_
      simp only [Act.put, s1, s2, s3, upd, Nat.reduceEqDiff, reduceIte, e4, e5]
    · have h6 : Ke.holds WL.heap.size (.row [k1, k3]) (u 6) w := hP 6 (by omega) (hl 6 (by decide +kernel))
      clear hl;refine wpOp_of rfl ?_;go_simp
      go_at_call 34
      refine (kItemV iTeaZ h6 rfl (by decide)).mono ?_
      rintro e w1 ⟨v1, rfl, hv1, hb1⟩;go_simp;refine hK _ _ ?_;refine RegI.keep 7 _ hP hD (fun j v h => Ke.below hb1 (ke4 j) v h) (hS.trans (hb1.mono hS.size)) (hv1) (fun h => by simp at h) ?_
      simp only [Act.put, s1, s2, s3, upd, Nat.reduceEqDiff, reduceIte]
    · have h3 : Ke.holds WL.heap.size (.item iNut) (u 3) w := hP 3 (by omega) (hl 3 (by decide +kernel))
      have h7 : Ke.holds WL.heap.size (.item iTeaZ) (u 7) w := hP 7 (by omega) (hl 7 (by decide +kernel))
      clear hl;refine wpOp_of rfl ?_;obtain ⟨o3, n3, l3, e3, g3⟩ := h3;obtain ⟨o7, n7, l7, e7, g7⟩ := h7;simp only [e3, e7];go_simp;refine hK _ _ ?_;refine RegI.keep 8 _ hP hD (fun j v h => Ke.below ((Below.refl _ _).alloc (Nat.le_refl _) _) (ke4 j) v h) (hS.alloc hS.size _) (items_lit2 w _ g3 g7) (fun h => by simp at h) ?_
      simp only [Act.put, s1, s2, s3, upd, Nat.reduceEqDiff, reduceIte, e3, e7]
    · have h2 : Ke.holds WL.heap.size (.ctx [⟨1, 2⟩, ⟨2, 1⟩] []) (u 2) w := hP 2 (by omega) (hl 2 (by decide +kernel))
      have h8 : Ke.holds WL.heap.size (.items [iNut, iTeaZ]) (u 8) w := hP 8 (by omega) (hl 8 (by decide +kernel))
      clear hl;refine wpOp_of rfl ?_;obtain ⟨o2, n2, l2, p2, q2, r2, e2, g2, x2⟩ := h2;obtain ⟨o8, n8, l8, e8, g8⟩ := Ke.items_open h8;simp only [e2, e8];go_simp;refine hK _ _ ?_;refine RegI.keep 9 _ hP hD (fun _ _ h => h) hS (⟨_, _, _, _, _, _, _, _, _, rfl, g2, x2, g8⟩) (fun h => by simp at h) ?_
      simp only [Act.put, s1, s2, s3, upd, Nat.reduceEqDiff, reduceIte, e2, e8]
    · clear hl
      refine wpOp_of rfl ?_;go_simp;refine hK _ _ ?_;refine RegI.keep 10 _ hP hD (fun j v h => Ke.below ((Below.refl _ _).alloc (Nat.le_refl _) _) (ke4 j) v h) (hS.alloc hS.size _) (⟨w.heap.size, rfl, hS.size, alloc_new _ _⟩) ?_ ?_
      · intro _ j hj x hx e
        obtain ⟨b, rfl, -, hb⟩ := kd_boxke4 hj hx;have := lt_of_heap hb;injection e with e; injection e with e; injection e with e
        omega
      simp only [Act.put, s1, s2, s3, upd, Nat.reduceEqDiff, reduceIte]
  · intro a w hI
    obtain ⟨u, rfl, hS, hP, hD⟩ := hI;obtain ⟨g, eg, hg, hx⟩ := (hP 10 (by omega) (by decide +kernel) : Ke.holds WL.heap.size .box (u 10) w)
    obtain ⟨o1, n1, l1, o2, n2, l2, o3, n3, l3, ec, hc⟩ := (hP 9 (by omega) (by decide +kernel) : Ke.holds WL.heap.size (.cart cZ) (u 9) w)
    have hqq := hQ u g (store3 w g (.slice o1 n1 l1) (.slice o2 n2 l2) (.slice o3 n3 l3)) (store3_below _ _ _ hS hg) ⟨_, _, _, _, _, _, _, _, _, store3_same hx, store3_cart hx hc⟩;simp only [ec] at hqq
    show wpAny _ _ _ _ 1 _ _ _
    simp only [eg, ec];refine wpAny_ready (rs := [11]) (by decide +kernel) (by simp) ?_
    refine (AllReady.cons rfl (fun K hK => ?_) AllReady.nil)
    obtain ⟨⟨t0, t1, t2⟩, f0, f1, f2⟩ := cf3 hx;go_simp;refine hK _ _ ?_;clear hK K f0 f1 f2 t0 t1 t2
    try simp only [Act.put, s1, s2, s3, List.getElem_toArray, List.getElem_cons_succ, List.getElem_cons_zero]
    refine wpAny_done (by kernel_rfl) ?_ _
    simp only [NQ]
    try simp only [Act.put, s1, s2, s3, List.getElem_toArray, List.getElem_cons_succ, List.getElem_cons_zero]
    exact hqq
def ke6 (b3 : Nat) (j : Nat) : Ke := [.cart cX, .val (.bool true), .val (.bool false), .val (.bool false), .cart cY, .val (.bool false), .val (.bool false), .val (.bool false), .cart zeroC, .val (.bool true), .val (.bool false), .val (.bool false), .val (.bool false), .pairs [⟨1, 1⟩], .dots [⟨1, 1⟩], .ctx [⟨1, 1⟩] [], .val (.pointer (some ⟨b3, 2, none⟩)), .items cX.items, .cart cP, .val (.bool false), .val (.bool false), .val (.bool false), .pairs [⟨1, 1⟩], .dots [⟨1, 1⟩], .pairs [⟨2, 1⟩], .dots [⟨2, 1⟩], .ctx [⟨1, 1⟩] [⟨2, 1⟩], .val (.pointer (some ⟨b3, 2, none⟩)), .items cX.items, .cart cQ, .val (.bool false), .val (.bool false), .val (.bool false), .cart cY, .cart cZ, .val (.bool true), .val (.bool false), .val (.bool false)].getD j .free
set_option linter.unusedSimpArgs false in
set_option linter.unusedVariables false in
set_option maxRecDepth 100000 in
set_option maxHeartbeats 16000000 in
theorem lknown6 (WL : World) (b1 b2 b3 b4 b5 b6 : Nat) (z7 z8 z9 z10 z11 z12 z13 z14 z15 z16 z17 z18 z19 z20 z21 z22 z23 z24 z25 z26 z27 z28 z29 z30 z31 z32 z33 z34 z35 z36 z37 : Value) (hG : GlobIs WL) (h1 : ItemB WL b1 iNut) (h2 : ItemB WL b2 iTea) (h3 : CartC WL b3 cX) (h4 : CartC WL b4 cY) (h5 : CartC WL b5 cZ) (h6 : CartC WL b6 zeroC) (R : Act → World → Prop) (hQ : ∀ (u : Nat → Value) (w : World), u 37 = .bool false → Below WL.heap.size WL w → R { tmps := #[.bool false, .pointer (some ⟨b1, 0, none⟩), .pointer (some ⟨b2, 0, none⟩), .pointer (some ⟨b3, 0, none⟩), .pointer (some ⟨b4, 0, none⟩), .pointer (some ⟨b5, 0, none⟩), .pointer (some ⟨b6, 0, none⟩), z7, z8, z9, z10, z11, z12, z13, z14, z15, z16, z17, z18, z19, z20, z21, z22, z23, z24, z25, z26, z27, z28, z29, z30, z31, z32, z33, z34, z35, z36, z37, u 0, u 1, u 2, u 3, u 4, u 5, u 6, u 7, u 8, u 9, u 10, u 11, u 12, u 13, u 14, u 15, u 16, u 17, u 18, u 19, u 20, u 21, u 22, u 23, u 24, u 25, u 26, u 27, u 28, u 29, u 30, u 31, u 32, u 33, u 34, u 35, u 36, u 37, undef, undef, undef, undef, undef, undef, undef, undef, undef, undef, undef, undef, undef, undef, undef, undef, undef, undef, undef, undef, undef, undef, undef, undef, undef, undef, undef, undef, undef, undef, undef, undef, undef, undef, undef, undef, undef, undef, undef, undef, undef, undef, undef, undef, undef, undef, undef, undef, undef, undef, undef, undef, undef, undef, undef, undef, undef, undef, undef, undef, undef], defers := [] } w) :
    (codeAt [1, 1, 1, 1, 1, 1, 0, 0] (Tryz.f9.body.getD .skip)).wp Tryz.prog (NQ R) { tmps := #[.bool false, .pointer (some ⟨b1, 0, none⟩), .pointer (some ⟨b2, 0, none⟩), .pointer (some ⟨b3, 0, none⟩), .pointer (some ⟨b4, 0, none⟩), .pointer (some ⟨b5, 0, none⟩), .pointer (some ⟨b6, 0, none⟩), z7, z8, z9, z10, z11, z12, z13, z14, z15, z16, z17, z18, z19, z20, z21, z22, z23, z24, z25, z26, z27, z28, z29, z30, z31, z32, z33, z34, z35, z36, z37, undef, undef, undef, undef, undef, undef, undef, undef, undef, undef, undef, undef, undef, undef, undef, undef, undef, undef, undef, undef, undef, undef, undef, undef, undef, undef, undef, undef, undef, undef, undef, undef, undef, undef, undef, undef, undef, undef, undef, undef, undef, undef, undef, undef, undef, undef, undef, undef, undef, undef, undef, undef, undef, undef, undef, undef, undef, undef, undef, undef, undef, undef, undef, undef, undef, undef, undef, undef, undef, undef, undef, undef, undef, undef, undef, undef, undef, undef, undef, undef, undef, undef, undef, undef, undef, undef, undef, undef, undef, undef, undef, undef, undef, undef, undef, undef, undef, undef, undef], defers := [] } WL := by
  obtain ⟨o1, n1, c1, q1, v1⟩ := h1;have HB1 : Hid (∀ wz, Below WL.heap.size WL wz → wz.cell? ⟨b1, 0, none⟩ = some (.string iNut.name) ∧ wz.cell? ⟨b1, 1, none⟩ = some (.slice o1 n1 c1)) := Hd (fun wz hz => cel2 ((hz.block _ (lt_of_heap q1)).trans q1))
  have HV1 : Hid (∀ wz, Below WL.heap.size WL wz → Ke.holds 0 (.item iNut) (.agg #[.string iNut.name, .slice o1 n1 c1]) wz) := Hd (fun wz hz => ⟨_, _, _, rfl, v1.1, v1.2.marks (Below.refl _ _ |>.trans hz)⟩)
  clear q1 v1;obtain ⟨o2, n2, c2, q2, v2⟩ := h2;have HB2 : Hid (∀ wz, Below WL.heap.size WL wz → wz.cell? ⟨b2, 0, none⟩ = some (.string iTea.name) ∧ wz.cell? ⟨b2, 1, none⟩ = some (.slice o2 n2 c2)) := Hd (fun wz hz => cel2 ((hz.block _ (lt_of_heap q2)).trans q2))
  have HV2 : Hid (∀ wz, Below WL.heap.size WL wz → Ke.holds 0 (.item iTea) (.agg #[.string iTea.name, .slice o2 n2 c2]) wz) := Hd (fun wz hz => ⟨_, _, _, rfl, v2.1, v2.2.marks (Below.refl _ _ |>.trans hz)⟩)
  clear q2 v2;obtain ⟨o31, n31, k31, o32, n32, k32, o33, n33, k33, q3, v3⟩ := h3;have HB3 : Hid (∀ wz, Below WL.heap.size WL wz → wz.cell? ⟨b3, 0, none⟩ = some (.slice o31 n31 k31) ∧ wz.cell? ⟨b3, 1, none⟩ = some (.slice o32 n32 k32) ∧ wz.cell? ⟨b3, 2, none⟩ = some (.slice o33 n33 k33)) := Hd (fun wz hz => cel3 ((hz.block _ (lt_of_heap q3)).trans q3))
  have HV3 : Hid (∀ wz, Below WL.heap.size WL wz → Ke.holds 0 (.cart cX) (.agg #[.slice o31 n31 k31, .slice o32 n32 k32, .slice o33 n33 k33]) wz) := Hd (fun wz hz => ⟨_, _, _, _, _, _, _, _, _, rfl, v3.below hz⟩)
  have HI3 : Hid (∀ wz, Below WL.heap.size WL wz → Ke.holds 0 (.items cX.items) (.slice o33 n33 k33) wz) := Hd (fun wz hz => (v3.below hz).2.2)
  clear q3 v3;obtain ⟨o41, n41, k41, o42, n42, k42, o43, n43, k43, q4, v4⟩ := h4;have HB4 : Hid (∀ wz, Below WL.heap.size WL wz → wz.cell? ⟨b4, 0, none⟩ = some (.slice o41 n41 k41) ∧ wz.cell? ⟨b4, 1, none⟩ = some (.slice o42 n42 k42) ∧ wz.cell? ⟨b4, 2, none⟩ = some (.slice o43 n43 k43)) := Hd (fun wz hz => cel3 ((hz.block _ (lt_of_heap q4)).trans q4))
  have HV4 : Hid (∀ wz, Below WL.heap.size WL wz → Ke.holds 0 (.cart cY) (.agg #[.slice o41 n41 k41, .slice o42 n42 k42, .slice o43 n43 k43]) wz) := Hd (fun wz hz => ⟨_, _, _, _, _, _, _, _, _, rfl, v4.below hz⟩)
  clear q4 v4;obtain ⟨o51, n51, k51, o52, n52, k52, o53, n53, k53, q5, v5⟩ := h5;have HB5 : Hid (∀ wz, Below WL.heap.size WL wz → wz.cell? ⟨b5, 0, none⟩ = some (.slice o51 n51 k51) ∧ wz.cell? ⟨b5, 1, none⟩ = some (.slice o52 n52 k52) ∧ wz.cell? ⟨b5, 2, none⟩ = some (.slice o53 n53 k53)) := Hd (fun wz hz => cel3 ((hz.block _ (lt_of_heap q5)).trans q5))
  have HV5 : Hid (∀ wz, Below WL.heap.size WL wz → Ke.holds 0 (.cart cZ) (.agg #[.slice o51 n51 k51, .slice o52 n52 k52, .slice o53 n53 k53]) wz) := Hd (fun wz hz => ⟨_, _, _, _, _, _, _, _, _, rfl, v5.below hz⟩)
  clear q5 v5;obtain ⟨o61, n61, k61, o62, n62, k62, o63, n63, k63, q6, v6⟩ := h6;have HB6 : Hid (∀ wz, Below WL.heap.size WL wz → wz.cell? ⟨b6, 0, none⟩ = some (.slice o61 n61 k61) ∧ wz.cell? ⟨b6, 1, none⟩ = some (.slice o62 n62 k62) ∧ wz.cell? ⟨b6, 2, none⟩ = some (.slice o63 n63 k63)) := Hd (fun wz hz => cel3 ((hz.block _ (lt_of_heap q6)).trans q6))
  have HV6 : Hid (∀ wz, Below WL.heap.size WL wz → Ke.holds 0 (.cart zeroC) (.agg #[.slice o61 n61 k61, .slice o62 n62 k62, .slice o63 n63 k63]) wz) := Hd (fun wz hz => ⟨_, _, _, _, _, _, _, _, _, rfl, v6.below hz⟩)
  clear q6 v6;have HGL := Hd hG;clear hG;simp only [codeAt, codeL, codeR, Tryz.f9, Option.getD_some];refine wp_region_any (by kernel_rfl) ?_
  try (change wpAny _ _ _ _ _ _ _ (World.drew _))
  refine wpAny_invB 38 #[true, true, true, true, true, true, true, true, true, true, true, true, true, true, true, true, true, true, true, true, true, true, true, true, true, true, true, true, true, true, true, true, true, true, true, true, true, true] (RegI 38 (fun u => { tmps := #[.bool false, .pointer (some ⟨b1, 0, none⟩), .pointer (some ⟨b2, 0, none⟩), .pointer (some ⟨b3, 0, none⟩), .pointer (some ⟨b4, 0, none⟩), .pointer (some ⟨b5, 0, none⟩), .pointer (some ⟨b6, 0, none⟩), z7, z8, z9, z10, z11, z12, z13, z14, z15, z16, z17, z18, z19, z20, z21, z22, z23, z24, z25, z26, z27, z28, z29, z30, z31, z32, z33, z34, z35, z36, z37, u 0, u 1, u 2, u 3, u 4, u 5, u 6, u 7, u 8, u 9, u 10, u 11, u 12, u 13, u 14, u 15, u 16, u 17, u 18, u 19, u 20, u 21, u 22, u 23, u 24, u 25, u 26, u 27, u 28, u 29, u 30, u 31, u 32, u 33, u 34, u 35, u 36, u 37, undef, undef, undef, undef, undef, undef, undef, undef, undef, undef, undef, undef, undef, undef, undef, undef, undef, undef, undef, undef, undef, undef, undef, undef, undef, undef, undef, undef, undef, undef, undef, undef, undef, undef, undef, undef, undef, undef, undef, undef, undef, undef, undef, undef, undef, undef, undef, undef, undef, undef, undef, undef, undef, undef, undef, undef, undef, undef, undef, undef, undef], defers := [] }) (fun w => Below WL.heap.size WL w) (fun j => ((ke6 b3) j).holds 0) (fun _ => false)) (by decide +kernel) (by decide +kernel) (by decide +kernel) (by decide +kernel) (by decide +kernel) ?_ ?_ _ _ (RegI.start (fun _ => undef) rfl (below_drew1 (Below.refl _ _)))
  · intro i hi listed a w hl hI K hK
    obtain ⟨u, rfl, hS, hP, hD⟩ := hI;have hcase : i = 0 ∨ i = 1 ∨ i = 2 ∨ i = 3 ∨ i = 4 ∨ i = 5 ∨ i = 6 ∨ i = 7 ∨ i = 8 ∨ i = 9 ∨ i = 10 ∨ i = 11 ∨ i = 12 ∨ i = 13 ∨ i = 14 ∨ i = 15 ∨ i = 16 ∨ i = 17 ∨ i = 18 ∨ i = 19 ∨ i = 20 ∨ i = 21 ∨ i = 22 ∨ i = 23 ∨ i = 24 ∨ i = 25 ∨ i = 26 ∨ i = 27 ∨ i = 28 ∨ i = 29 ∨ i = 30 ∨ i = 31 ∨ i = 32 ∨ i = 33 ∨ i = 34 ∨ i = 35 ∨ i = 36 ∨ i = 37 := by omega
    clear hi
    rcases hcase with rfl | rfl | rfl | rfl | rfl | rfl | rfl | rfl | rfl | rfl | rfl | rfl | rfl | rfl | rfl | rfl | rfl | rfl | rfl | rfl | rfl | rfl | rfl | rfl | rfl | rfl | rfl | rfl | rfl | rfl | rfl | rfl | rfl | rfl | rfl | rfl | rfl | rfl
    · clear hl
      refine wpOp_of rfl ?_;obtain ⟨f0, f1, f2⟩ := HB3.out w hS;go_simp;refine hK _ _ ?_;refine RegI.keep 0 _ hP hD (fun _ _ h => h) hS (HV3.out w hS) (fun h => by simp at h) ?_
      simp only [Act.put, s1, s2, s3, upd, Nat.reduceEqDiff, reduceIte]
    · have h0 : Ke.holds 0 (.cart cX) (u 0) w := hP 0 (by omega) (hl 0 (by decide +kernel))
      clear hl;refine wpOp_of rfl ?_;go_simp
      go_at_call 29
      refine (kValidV h0 (ksz10 _ (by simp)).1 (HGL.out.below hS) kv.1).mono ?_
      rintro e w1 ⟨rfl, hb1⟩;go_simp;refine hK _ _ ?_;refine RegI.keep 1 _ hP hD (fun j v h => Ke.below hb1 ((ke6 b3) j) v h) (hS.trans (hb1.mono hS.size)) (rfl) (fun h => by simp at h) ?_
      simp only [Act.put, s1, s2, s3, upd, Nat.reduceEqDiff, reduceIte]
    · have e1 : u 1 = .bool true := hP 1 (by omega) (hl 1 (by decide +kernel))
      clear hl;simp only [e1];refine wpOp_of rfl ?_;go_simp;refine hK _ _ ?_;refine RegI.keep 2 _ hP hD (fun _ _ h => h) hS (rfl) (fun h => by simp at h) ?_
      simp only [Act.put, s1, s2, s3, upd, Nat.reduceEqDiff, reduceIte, e1]
    · have e2 : u 2 = .bool false := hP 2 (by omega) (hl 2 (by decide +kernel))
      clear hl;simp only [e2];refine wpOp_of rfl ?_;go_simp;refine hK _ _ ?_;refine RegI.keep 3 _ hP hD (fun _ _ h => h) hS (rfl) (fun h => by simp at h) ?_
      simp only [Act.put, s1, s2, s3, upd, Nat.reduceEqDiff, reduceIte, e2]
    · have e3 : u 3 = .bool false := hP 3 (by omega) (hl 3 (by decide +kernel))
      clear hl;simp only [e3];refine wpOp_of rfl ?_;obtain ⟨f0, f1, f2⟩ := HB4.out w hS;go_simp;refine hK _ _ ?_;refine RegI.keep 4 _ hP hD (fun _ _ h => h) hS (HV4.out w hS) (fun h => by simp at h) ?_
      simp only [Act.put, s1, s2, s3, upd, Nat.reduceEqDiff, reduceIte, e3]
    · have h4 : Ke.holds 0 (.cart cY) (u 4) w := hP 4 (by omega) (hl 4 (by decide +kernel))
      have e3 : u 3 = .bool false := hP 3 (by omega) (hl 3 (by decide +kernel))
      clear hl;simp only [e3];refine wpOp_of rfl ?_;go_simp
      go_at_call 29
      refine (kValidV h4 (ksz10 _ (by simp)).1 (HGL.out.below hS) kv.2.1).mono ?_
      rintro e w1 ⟨rfl, hb1⟩;go_simp;refine hK _ _ ?_;refine RegI.keep 5 _ hP hD (fun j v h => Ke.below hb1 ((ke6 b3) j) v h) (hS.trans (hb1.mono hS.size)) (rfl) (fun h => by simp at h) ?_
      simp only [Act.put, s1, s2, s3, upd, Nat.reduceEqDiff, reduceIte, e3]
    · have e3 : u 3 = .bool false := hP 3 (by omega) (hl 3 (by decide +kernel))
      have e5 : u 5 = .bool false := hP 5 (by omega) (hl 5 (by decide +kernel))
      clear hl;simp only [e3, e5];refine wpOp_of rfl ?_;go_simp;refine hK _ _ ?_;refine RegI.keep 6 _ hP hD (fun _ _ h => h) hS (rfl) (fun h => by simp at h) ?_
      simp only [Act.put, s1, s2, s3, upd, Nat.reduceEqDiff, reduceIte, e3, e5]
    · have e6 : u 6 = .bool false := hP 6 (by omega) (hl 6 (by decide +kernel))
      clear hl;simp only [e6];refine wpOp_of rfl ?_;go_simp;refine hK _ _ ?_;refine RegI.keep 7 _ hP hD (fun _ _ h => h) hS (rfl) (fun h => by simp at h) ?_
      simp only [Act.put, s1, s2, s3, upd, Nat.reduceEqDiff, reduceIte, e6]
    · have e7 : u 7 = .bool false := hP 7 (by omega) (hl 7 (by decide +kernel))
      clear hl;simp only [e7];refine wpOp_of rfl ?_;obtain ⟨f0, f1, f2⟩ := HB6.out w hS;go_simp;refine hK _ _ ?_;refine RegI.keep 8 _ hP hD (fun _ _ h => h) hS (HV6.out w hS) (fun h => by simp at h) ?_
      simp only [Act.put, s1, s2, s3, upd, Nat.reduceEqDiff, reduceIte, e7]
    · have h8 : Ke.holds 0 (.cart zeroC) (u 8) w := hP 8 (by omega) (hl 8 (by decide +kernel))
      have e7 : u 7 = .bool false := hP 7 (by omega) (hl 7 (by decide +kernel))
      clear hl;simp only [e7];refine wpOp_of rfl ?_;go_simp
      go_at_call 29
      refine (kValidV h8 (ksz10 _ (by simp)).1 (HGL.out.below hS) kv.2.2.1).mono ?_
      rintro e w1 ⟨rfl, hb1⟩;go_simp;refine hK _ _ ?_;refine RegI.keep 9 _ hP hD (fun j v h => Ke.below hb1 ((ke6 b3) j) v h) (hS.trans (hb1.mono hS.size)) (rfl) (fun h => by simp at h) ?_
      simp only [Act.put, s1, s2, s3, upd, Nat.reduceEqDiff, reduceIte, e7]
    · have e9 : u 9 = .bool true := hP 9 (by omega) (hl 9 (by decide +kernel))
      have e7 : u 7 = .bool false := hP 7 (by omega) (hl 7 (by decide +kernel))
      clear hl;simp only [e9, e7];refine wpOp_of rfl ?_;go_simp;refine hK _ _ ?_;refine RegI.keep 10 _ hP hD (fun _ _ h => h) hS (rfl) (fun h => by simp at h) ?_
      simp only [Act.put, s1, s2, s3, upd, Nat.reduceEqDiff, reduceIte, e9, e7]
    · have e7 : u 7 = .bool false := hP 7 (by omega) (hl 7 (by decide +kernel))
      have e10 : u 10 = .bool false := hP 10 (by omega) (hl 10 (by decide +kernel))
      clear hl;simp only [e7, e10];refine wpOp_of rfl ?_;go_simp;refine hK _ _ ?_;refine RegI.keep 11 _ hP hD (fun _ _ h => h) hS (rfl) (fun h => by simp at h) ?_
      simp only [Act.put, s1, s2, s3, upd, Nat.reduceEqDiff, reduceIte, e7, e10]
    · have e11 : u 11 = .bool false := hP 11 (by omega) (hl 11 (by decide +kernel))
      clear hl;simp only [e11];refine wpOp_of rfl ?_;go_simp;refine hK _ _ ?_;refine RegI.keep 12 _ hP hD (fun _ _ h => h) hS (rfl) (fun h => by simp at h) ?_
      simp only [Act.put, s1, s2, s3, upd, Nat.reduceEqDiff, reduceIte, e11]
    · have e12 : u 12 = .bool false := hP 12 (by omega) (hl 12 (by decide +kernel))
      clear hl;simp only [e12];refine wpOp_of rfl ?_;go_simp;refine hK _ _ ?_;refine RegI.keep 13 _ hP hD (fun j v h => Ke.below ((Below.refl _ _).alloc (Nat.le_refl _) _) ((ke6 b3) j) v h) (hS.alloc hS.size _) (pairs_lit1 w 1 1 _) (fun h => by simp at h) ?_
      simp only [Act.put, s1, s2, s3, upd, Nat.reduceEqDiff, reduceIte, e12]
    · have h13 : Ke.holds 0 (.pairs [⟨1, 1⟩]) (u 13) w := hP 13 (by omega) (hl 13 (by decide +kernel))
      have e12 : u 12 = .bool false := hP 12 (by omega) (hl 12 (by decide +kernel))
      clear hl;simp only [e12];refine wpOp_of rfl ?_;go_simp
      go_at_call 36
      refine (kDotsV h13 (by decide) (di_all (by decide))).mono ?_
      rintro e w1 ⟨v1, rfl, hv1, hb1⟩;go_simp;refine hK _ _ ?_;refine RegI.keep 14 _ hP hD (fun j v h => Ke.below hb1 ((ke6 b3) j) v h) (hS.trans (hb1.mono hS.size)) (hv1) (fun h => by simp at h) ?_
      simp only [Act.put, s1, s2, s3, upd, Nat.reduceEqDiff, reduceIte, e12]
    · have h14 : Ke.holds 0 (.dots [⟨1, 1⟩]) (u 14) w := hP 14 (by omega) (hl 14 (by decide +kernel))
      have e12 : u 12 = .bool false := hP 12 (by omega) (hl 12 (by decide +kernel))
      clear hl;simp only [e12];refine wpOp_of rfl ?_;obtain ⟨o14, n14, l14, e14, g14⟩ := Ke.dots_open h14;simp only [e14];go_simp;refine hK _ _ ?_;refine RegI.keep 15 _ hP hD (fun _ _ h => h) hS (⟨_, _, _, _, _, _, rfl, g14, arr_nil⟩) (fun h => by simp at h) ?_
      simp only [Act.put, s1, s2, s3, upd, Nat.reduceEqDiff, reduceIte, e12, e14]
    · have e12 : u 12 = .bool false := hP 12 (by omega) (hl 12 (by decide +kernel))
      clear hl;simp only [e12];refine wpOp_of rfl ?_;go_simp;refine hK _ _ ?_;refine RegI.keep 16 _ hP hD (fun _ _ h => h) hS (rfl) (fun h => by simp at h) ?_
      simp only [Act.put, s1, s2, s3, upd, Nat.reduceEqDiff, reduceIte, e12]
    · have e16 : u 16 = .pointer (some ⟨b3, 2, none⟩) := hP 16 (by omega) (hl 16 (by decide +kernel))
      have e12 : u 12 = .bool false := hP 12 (by omega) (hl 12 (by decide +kernel))
      clear hl;simp only [e16, e12];refine wpOp_of rfl ?_;obtain ⟨f0, f1, f2⟩ := HB3.out w hS;go_simp;refine hK _ _ ?_;refine RegI.keep 17 _ hP hD (fun _ _ h => h) hS (HI3.out w hS) (fun h => by simp at h) ?_
      simp only [Act.put, s1, s2, s3, upd, Nat.reduceEqDiff, reduceIte, e16, e12]
    · have h15 : Ke.holds 0 (.ctx [⟨1, 1⟩] []) (u 15) w := hP 15 (by omega) (hl 15 (by decide +kernel))
      have h17 : Ke.holds 0 (.items cX.items) (u 17) w := hP 17 (by omega) (hl 17 (by decide +kernel))
      have e12 : u 12 = .bool false := hP 12 (by omega) (hl 12 (by decide +kernel))
      clear hl;simp only [e12];refine wpOp_of rfl ?_;obtain ⟨o15, n15, l15, p15, q15, r15, e15, g15, x15⟩ := h15;obtain ⟨o17, n17, l17, e17, g17⟩ := Ke.items_open h17;simp only [e15, e17];go_simp;refine hK _ _ ?_;refine RegI.keep 18 _ hP hD (fun _ _ h => h) hS (⟨_, _, _, _, _, _, _, _, _, rfl, g15, x15, g17⟩) (fun h => by simp at h) ?_
      simp only [Act.put, s1, s2, s3, upd, Nat.reduceEqDiff, reduceIte, e12, e15, e17]
    · have h18 : Ke.holds 0 (.cart cP) (u 18) w := hP 18 (by omega) (hl 18 (by decide +kernel))
      have e12 : u 12 = .bool false := hP 12 (by omega) (hl 12 (by decide +kernel))
      clear hl;simp only [e12];refine wpOp_of rfl ?_;go_simp
      go_at_call 29
      refine (kValidV h18 (ksz10 _ (by simp)).1 (HGL.out.below hS) kv.2.2.2.1).mono ?_
      rintro e w1 ⟨rfl, hb1⟩;go_simp;refine hK _ _ ?_;refine RegI.keep 19 _ hP hD (fun j v h => Ke.below hb1 ((ke6 b3) j) v h) (hS.trans (hb1.mono hS.size)) (rfl) (fun h => by simp at h) ?_
      simp only [Act.put, s1, s2, s3, upd, Nat.reduceEqDiff, reduceIte, e12]
    · have e12 : u 12 = .bool false := hP 12 (by omega) (hl 12 (by decide +kernel))
      have e19 : u 19 = .bool false := hP 19 (by omega) (hl 19 (by decide +kernel))
      clear hl;simp only [e12, e19];refine wpOp_of rfl ?_;go_simp;refine hK _ _ ?_;refine RegI.keep 20 _ hP hD (fun _ _ h => h) hS (rfl) (fun h => by simp at h) ?_
      simp only [Act.put, s1, s2, s3, upd, Nat.reduceEqDiff, reduceIte, e12, e19]
    · have e20 : u 20 = .bool false := hP 20 (by omega) (hl 20 (by decide +kernel))
      clear hl;simp only [e20];refine wpOp_of rfl ?_;go_simp;refine hK _ _ ?_;refine RegI.keep 21 _ hP hD (fun _ _ h => h) hS (rfl) (fun h => by simp at h) ?_
      simp only [Act.put, s1, s2, s3, upd, Nat.reduceEqDiff, reduceIte, e20]
    · have e21 : u 21 = .bool false := hP 21 (by omega) (hl 21 (by decide +kernel))
      clear hl;simp only [e21];refine wpOp_of rfl ?_;go_simp;refine hK _ _ ?_;refine RegI.keep 22 _ hP hD (fun j v h => Ke.below ((Below.refl _ _).alloc (Nat.le_refl _) _) ((ke6 b3) j) v h) (hS.alloc hS.size _) (pairs_lit1 w 1 1 _) (fun h => by simp at h) ?_
      simp only [Act.put, s1, s2, s3, upd, Nat.reduceEqDiff, reduceIte, e21]
    · have h22 : Ke.holds 0 (.pairs [⟨1, 1⟩]) (u 22) w := hP 22 (by omega) (hl 22 (by decide +kernel))
      have e21 : u 21 = .bool false := hP 21 (by omega) (hl 21 (by decide +kernel))
      clear hl;simp only [e21];refine wpOp_of rfl ?_;go_simp
      go_at_call 36
      refine (kDotsV h22 (by decide) (di_all (by decide))).mono ?_
      rintro e w1 ⟨v1, rfl, hv1, hb1⟩;go_simp;refine hK _ _ ?_;refine RegI.keep 23 _ hP hD (fun j v h => Ke.below hb1 ((ke6 b3) j) v h) (hS.trans (hb1.mono hS.size)) (hv1) (fun h => by simp at h) ?_
      simp only [Act.put, s1, s2, s3, upd, Nat.reduceEqDiff, reduceIte, e21]
    · have e21 : u 21 = .bool false := hP 21 (by omega) (hl 21 (by decide +kernel))
      clear hl;simp only [e21];refine wpOp_of rfl ?_;go_simp;refine hK _ _ ?_;refine RegI.keep 24 _ hP hD (fun j v h => Ke.below ((Below.refl _ _).alloc (Nat.le_refl _) _) ((ke6 b3) j) v h) (hS.alloc hS.size _) (pairs_lit1 w 2 1 _) (fun h => by simp at h) ?_
      simp only [Act.put, s1, s2, s3, upd, Nat.reduceEqDiff, reduceIte, e21]
    · have h24 : Ke.holds 0 (.pairs [⟨2, 1⟩]) (u 24) w := hP 24 (by omega) (hl 24 (by decide +kernel))
      have e21 : u 21 = .bool false := hP 21 (by omega) (hl 21 (by decide +kernel))
      clear hl;simp only [e21];refine wpOp_of rfl ?_;go_simp
      go_at_call 36
      refine (kDotsV h24 (by decide) (di_all (by decide))).mono ?_
      rintro e w1 ⟨v1, rfl, hv1, hb1⟩;go_simp;refine hK _ _ ?_;refine RegI.keep 25 _ hP hD (fun j v h => Ke.below hb1 ((ke6 b3) j) v h) (hS.trans (hb1.mono hS.size)) (hv1) (fun h => by simp at h) ?_
      simp only [Act.put, s1, s2, s3, upd, Nat.reduceEqDiff, reduceIte, e21]
    · have h23 : Ke.holds 0 (.dots [⟨1, 1⟩]) (u 23) w := hP 23 (by omega) (hl 23 (by decide +kernel))
      have h25 : Ke.holds 0 (.dots [⟨2, 1⟩]) (u 25) w := hP 25 (by omega) (hl 25 (by decide +kernel))
      have e21 : u 21 = .bool false := hP 21 (by omega) (hl 21 (by decide +kernel))
      clear hl;simp only [e21];refine wpOp_of rfl ?_;obtain ⟨o23, n23, l23, e23, g23⟩ := Ke.dots_open h23;obtain ⟨o25, n25, l25, e25, g25⟩ := Ke.dots_open h25;simp only [e23, e25];go_simp;refine hK _ _ ?_;refine RegI.keep 26 _ hP hD (fun _ _ h => h) hS (⟨_, _, _, _, _, _, rfl, g23, g25⟩) (fun h => by simp at h) ?_
      simp only [Act.put, s1, s2, s3, upd, Nat.reduceEqDiff, reduceIte, e21, e23, e25]
    · have e21 : u 21 = .bool false := hP 21 (by omega) (hl 21 (by decide +kernel))
      clear hl;simp only [e21];refine wpOp_of rfl ?_;go_simp;refine hK _ _ ?_;refine RegI.keep 27 _ hP hD (fun _ _ h => h) hS (rfl) (fun h => by simp at h) ?_
      simp only [Act.put, s1, s2, s3, upd, Nat.reduceEqDiff, reduceIte, e21]
    · have e27 : u 27 = .pointer (some ⟨b3, 2, none⟩) := hP 27 (by omega) (hl 27 (by decide +kernel))
      have e21 : u 21 = .bool false := hP 21 (by omega) (hl 21 (by decide +kernel))
      clear hl;simp only [e27, e21];refine wpOp_of rfl ?_;obtain ⟨f0, f1, f2⟩ := HB3.out w hS;go_simp;refine hK _ _ ?_;refine RegI.keep 28 _ hP hD (fun _ _ h => h) hS (HI3.out w hS) (fun h => by simp at h) ?_
      simp only [Act.put, s1, s2, s3, upd, Nat.reduceEqDiff, reduceIte, e27, e21]
    · have h26 : Ke.holds 0 (.ctx [⟨1, 1⟩] [⟨2, 1⟩]) (u 26) w := hP 26 (by omega) (hl 26 (by decide +kernel))
      have h28 : Ke.holds 0 (.items cX.items) (u 28) w := hP 28 (by omega) (hl 28 (by decide +kernel))
      have e21 : u 21 = .bool false := hP 21 (by omega) (hl 21 (by decide +kernel))
      clear hl;simp only [e21];refine wpOp_of rfl ?_;obtain ⟨o26, n26, l26, p26, q26, r26, e26, g26, x26⟩ := h26;obtain ⟨o28, n28, l28, e28, g28⟩ := Ke.items_open h28;simp only [e26, e28];go_simp;refine hK _ _ ?_;refine RegI.keep 29 _ hP hD (fun _ _ h => h) hS (⟨_, _, _, _, _, _, _, _, _, rfl, g26, x26, g28⟩) (fun h => by simp at h) ?_
      simp only [Act.put, s1, s2, s3, upd, Nat.reduceEqDiff, reduceIte, e21, e26, e28]
    · have h29 : Ke.holds 0 (.cart cQ) (u 29) w := hP 29 (by omega) (hl 29 (by decide +kernel))
      have e21 : u 21 = .bool false := hP 21 (by omega) (hl 21 (by decide +kernel))
      clear hl;simp only [e21];refine wpOp_of rfl ?_;go_simp
      go_at_call 29
      refine (kValidV h29 (ksz10 _ (by simp)).1 (HGL.out.below hS) kv.2.2.2.2.1).mono ?_
      rintro e w1 ⟨rfl, hb1⟩;go_simp;refine hK _ _ ?_;refine RegI.keep 30 _ hP hD (fun j v h => Ke.below hb1 ((ke6 b3) j) v h) (hS.trans (hb1.mono hS.size)) (rfl) (fun h => by simp at h) ?_
      simp only [Act.put, s1, s2, s3, upd, Nat.reduceEqDiff, reduceIte, e21]
    · have e21 : u 21 = .bool false := hP 21 (by omega) (hl 21 (by decide +kernel))
      have e30 : u 30 = .bool false := hP 30 (by omega) (hl 30 (by decide +kernel))
      clear hl;simp only [e21, e30];refine wpOp_of rfl ?_;go_simp;refine hK _ _ ?_;refine RegI.keep 31 _ hP hD (fun _ _ h => h) hS (rfl) (fun h => by simp at h) ?_
      simp only [Act.put, s1, s2, s3, upd, Nat.reduceEqDiff, reduceIte, e21, e30]
    · have e31 : u 31 = .bool false := hP 31 (by omega) (hl 31 (by decide +kernel))
      clear hl;simp only [e31];refine wpOp_of rfl ?_;go_simp;refine hK _ _ ?_;refine RegI.keep 32 _ hP hD (fun _ _ h => h) hS (rfl) (fun h => by simp at h) ?_
      simp only [Act.put, s1, s2, s3, upd, Nat.reduceEqDiff, reduceIte, e31]
    · have e32 : u 32 = .bool false := hP 32 (by omega) (hl 32 (by decide +kernel))
      clear hl;simp only [e32];refine wpOp_of rfl ?_;obtain ⟨f0, f1, f2⟩ := HB4.out w hS;go_simp;refine hK _ _ ?_;refine RegI.keep 33 _ hP hD (fun _ _ h => h) hS (HV4.out w hS) (fun h => by simp at h) ?_
      simp only [Act.put, s1, s2, s3, upd, Nat.reduceEqDiff, reduceIte, e32]
    · have e32 : u 32 = .bool false := hP 32 (by omega) (hl 32 (by decide +kernel))
      clear hl;simp only [e32];refine wpOp_of rfl ?_;obtain ⟨f0, f1, f2⟩ := HB5.out w hS;go_simp;refine hK _ _ ?_;refine RegI.keep 34 _ hP hD (fun _ _ h => h) hS (HV5.out w hS) (fun h => by simp at h) ?_
      simp only [Act.put, s1, s2, s3, upd, Nat.reduceEqDiff, reduceIte, e32]
    · have h33 : Ke.holds 0 (.cart cY) (u 33) w := hP 33 (by omega) (hl 33 (by decide +kernel))
      have h34 : Ke.holds 0 (.cart cZ) (u 34) w := hP 34 (by omega) (hl 34 (by decide +kernel))
      have e32 : u 32 = .bool false := hP 32 (by omega) (hl 32 (by decide +kernel))
      clear hl;simp only [e32];refine wpOp_of rfl ?_;go_simp
      go_at_call 11
      refine (kCanonV h33 h34 (ksz10 _ (by simp)) (by decide) (HGL.out.below hS) kcan).mono ?_
      rintro e w1 ⟨rfl, hb1⟩;go_simp;refine hK _ _ ?_;refine RegI.keep 35 _ hP hD (fun j v h => Ke.below hb1 ((ke6 b3) j) v h) (hS.trans (hb1.mono hS.size)) (rfl) (fun h => by simp at h) ?_
      simp only [Act.put, s1, s2, s3, upd, Nat.reduceEqDiff, reduceIte, e32]
    · have e35 : u 35 = .bool true := hP 35 (by omega) (hl 35 (by decide +kernel))
      have e32 : u 32 = .bool false := hP 32 (by omega) (hl 32 (by decide +kernel))
      clear hl;simp only [e35, e32];refine wpOp_of rfl ?_;go_simp;refine hK _ _ ?_;refine RegI.keep 36 _ hP hD (fun _ _ h => h) hS (rfl) (fun h => by simp at h) ?_
      simp only [Act.put, s1, s2, s3, upd, Nat.reduceEqDiff, reduceIte, e35, e32]
    · have e32 : u 32 = .bool false := hP 32 (by omega) (hl 32 (by decide +kernel))
      have e36 : u 36 = .bool false := hP 36 (by omega) (hl 36 (by decide +kernel))
      clear hl;simp only [e32, e36];refine wpOp_of rfl ?_;go_simp;refine hK _ _ ?_;refine RegI.keep 37 _ hP hD (fun _ _ h => h) hS (rfl) (fun h => by simp at h) ?_
      simp only [Act.put, s1, s2, s3, upd, Nat.reduceEqDiff, reduceIte, e32, e36]
  · intro a w hI
    obtain ⟨u, rfl, hS, hP, hD⟩ := hI;refine wpAny_done (by kernel_rfl) ?_ _
    simp only [NQ];exact hQ u w (hP 37 (by decide) (by decide +kernel)) hS
end Go.Proofs.YtadbmineobldbaaGreatDoor
set_option linter.unusedSimpArgs false
set_option linter.unusedVariables false
set_option maxRecDepth 100000
set_option maxHeartbeats 16000000
namespace Go.Proofs.YtadbmineobldbaaGreatDoor
open Go.RowKit Go.Maps Go.Sort Go.Shelf

theorem kHas (c : CartD) (nm : ByteArray) (q no : Int) (v1 v2 v3 : Value) (w : World) (h : CartA w v1 v2 v3 c) (hl : Lt c.items) (hG : GlobIs w) (k : qtyC c nm = q ∧ qtyCE c nm = no) :
  Calls Tryz.prog 17 #[.agg #[v1, v2, v3], .string nm, .int .i64 q, .int .i64 no] w fun e w' => e = .returned (.bool true) ∧ Below w.heap.size w w' := by
 have := l10has_any c nm q no v1 v2 v3 w h hl hG;rw [k.1, k.2] at this
 simpa using this
theorem kTime (c : CartD) (q no : Int) (v1 v2 v3 : Value) (w : World) (h : CartA w v1 v2 v3 c) (hl : Lt c.items) (hG : GlobIs w) (k : timeC c = q ∧ timeCE c = no) :
  Calls Tryz.prog 21 #[.agg #[v1, v2, v3], .int .u64 q, .int .i64 no] w fun e w' => e = .returned (.bool true) ∧ Below w.heap.size w w' := by
 have := l10time_any c q no v1 v2 v3 w h hl hG;rw [k.1, k.2] at this
 simpa using this
theorem strs_lit2 (w : World) (T : TypeId) (a b : ByteArray) : StrS (w.alloc (.cells #[.string a, .string b] T)) (.slice (some ⟨w.heap.size, 0, none⟩) 2 2) [a, b] := by
 refine ⟨_, _, rfl, by unfold maxLen; simp, fun k hk => ⟨w.heap.size, 0, rfl, by rw [alloc_size]; omega, ?_⟩⟩
 have hk : k < 2 := by simpa using hk
 match k, hk with
 | 0, _ => rw [cell0 (alloc_new _ _)]; rfl
 | 1, _ => rw [cell0 (alloc_new _ _)]; rfl
set_option linter.unusedSimpArgs false in
theorem l10known_any (w : World) (hG : GlobIs w) : Calls Tryz.prog 9 #[] w fun e w' => e = .returned (.bool true) ∧ Below w.heap.size w w' := by
  have HGL := Hd hG;clear hG
  go_enter Tryz.func9, Tryz.ntmps9
  go_wp2_with fail
  refine (l10mark_any 2 1 7 4 w).mono ?_;rintro e w1 ⟨rfl, hb1⟩;obtain ⟨WA, hWA⟩ : ∃ x, x = w1.alloc (.cells #[.int .i64 2, .int .i64 1, .int .i64 7, .int .u64 4] 65) := ⟨_, rfl⟩;have hbA : Below w.heap.size w WA := btr hb1 (by rw [hWA]; exact bal)
  have hmA : Arr MarkR 4 WA (.slice (some ⟨w1.heap.size, 0, none⟩) 1 1) [k2] := by rw [hWA]; exact kRow1 k2 (mi_all (by decide))
  have HWA := Hd hWA;clear hWA hb1
  go_wp2_with (go_loud (rw [← HWA.out]))
  refine (l10item_any ⟨#[78, 117, 116]⟩ _ _ _ WA).mono ?_;rintro e w2 ⟨rfl, hb2⟩;have hbB := btr hbA hb2;have hmB := hmA.marks hb2
  go_wp2_with fail
  refine (l10mark_any 1 1 5 3 w2).mono ?_;rintro e w3 ⟨rfl, hb3⟩;obtain ⟨WC, hWC⟩ : ∃ x, x = w3.alloc (.cells #[.int .i64 1, .int .i64 1, .int .i64 5, .int .u64 3] 65) := ⟨_, rfl⟩;have hbC0 : Below w2.heap.size w2 WC := btr hb3 (by rw [hWC]; exact bal)
  have hmC : Arr MarkR 4 WC (.slice (some ⟨w3.heap.size, 0, none⟩) 1 1) [k1] := by rw [hWC]; exact kRow1 k1 (mi_all (by decide))
  have HWC := Hd hWC;clear hWC
  go_wp2_with (go_loud (rw [← HWC.out]))
  refine (l10item_any ⟨#[84, 101, 97]⟩ _ _ _ WC).mono ?_;rintro e w4 ⟨rfl, hb4⟩;have hbD := btr hbC0 hb4;have HM1 := Hd (hmB.marks hbD);have HM2 := Hd (hmC.marks hb4);have HB4 := Hd (btr hbB hbD);clear hbD hmB hmC hb4 hb3 hb2 hbA hmA hbC0 hbB;obtain ⟨WL, HWL, HBL, HSL, HK1, HK2⟩ := box2 w4 #[.string ⟨#[78, 117, 116]⟩, .slice (some ⟨w1.heap.size, 0, none⟩) 1 1] 56 #[.string ⟨#[84, 101, 97]⟩, .slice (some ⟨w3.heap.size, 0, none⟩) 1 1] 56;have i1 : ItemB WL w4.heap.size iNut := ⟨_, _, _, HK1.out WL brf, by decide, HM1.out.marks HBL.out⟩
  have i2 : ItemB WL (w4.heap.size + 1) iTea := ⟨_, _, _, HK2.out WL brf, by decide, HM2.out.marks HBL.out⟩
  have HBW := Hd (btr HB4.out HBL.out)
  go_upto_region 2 with fail
  rw [← HWL.out];generalize w4.heap.size + 1 = b2 at *
  generalize w4.heap.size = b1 at *
  refine NQ.to (lknown2 WL b1 b2 _ _ _ _ _ _ (HGL.out.below HBW.out) i1 i2 _ ?_);intro u b3 wa hba h3;have hG2 := HGL.out.below (btr HBW.out hba)
  go_upto_region 3 with fail
  refine NQ.to (lknown3 wa b1 b2 b3 _ _ _ _ _ _ _ _ _ _ _ _ _ hG2 (i1.below hba) (i2.below hba) h3 _ ?_);intro u' b4 wb hbb h4;have hb2 := btr hba hbb
  go_upto_region 4 with fail
  refine NQ.to (lknown4 wb b1 b2 b3 b4 _ _ _ _ _ _ _ _ _ _ _ _ _ _ _ _ _ _ _ _ (HGL.out.below (btr HBW.out hb2)) (i1.below hb2) (i2.below hb2) (h3.below hbb) h4 _ ?_);intro u2 b5 wc hbc h5;have hb3 := btr hb2 hbc;obtain ⟨WD, HWD, HBD, HSD, HK6⟩ := box1 wc #[.slice none 0 0, .slice none 0 0, .slice none 0 0] 28;have h6 : CartC WD wc.heap.size zeroC := ⟨_, _, _, _, _, _, _, _, _, HK6.out WD brf, ⟨arr_nil, arr_nil, arr_nil⟩⟩;have hb4 := btr hb3 HBD.out
  go_upto_region 6 with fail
  rw [← HWD.out];refine NQ.to (lknown6 WD b1 b2 b3 b4 b5 wc.heap.size _ _ _ _ _ _ _ _ _ _ _ _ _ _ _ _ _ _ _ _ _ _ _ _ _ _ _ _ _ _ _ (HGL.out.below (btr HBW.out hb4)) (i1.below hb4) (i2.below hb4) (h3.below (btr (btr hbb hbc) HBD.out)) (h4.below (btr hbc HBD.out)) (h5.below HBD.out) h6 _ ?_);intro u3 we hfalse hbe;have HBE := Hd (btr HBW.out (btr hb4 hbe));have HGE := Hd (HGL.out.below HBE.out);obtain ⟨ox1, nx1, kx1, ox2, nx2, kx2, ox3, nx3, kx3, gx, ax⟩ := h3.below (btr (btr (btr hbb hbc) HBD.out) hbe);obtain ⟨oy1, ny1, ky1, oy2, ny2, ky2, oy3, ny3, ky3, gy, ay⟩ := h4.below (btr (btr hbc HBD.out) hbe);obtain ⟨oz1, nz1, kz1, oz2, nz2, kz2, oz3, nz3, kz3, gz, az⟩ := h5.below (btr HBD.out hbe);obtain ⟨os1, ns1, ks1, os2, ns2, ks2, os3, ns3, ks3, gs, av⟩ := h6.below hbe;have HCC := Hd (fun wz (hz : Below we.heap.size we wz) => And.intro (cel3 ((hz.block _ (lt_of_heap gx)).trans gx)) (And.intro (cel3 ((hz.block _ (lt_of_heap gy)).trans gy)) (And.intro (cel3 ((hz.block _ (lt_of_heap gz)).trans gz)) (cel3 ((hz.block _ (lt_of_heap gs)).trans gs)))))
  have HA3 := Hd (fun wz (hz : Below we.heap.size we wz) => ax.below hz)
  have HA4 := Hd (fun wz (hz : Below we.heap.size we wz) => ay.below hz)
  have HA5 := Hd (fun wz (hz : Below we.heap.size we wz) => az.below hz)
  have HA6 := Hd (fun wz (hz : Below we.heap.size we wz) => av.below hz)
  clear gx gy gz gs ax ay az av h3 h4 h5 h6 i1 i2 hba hbb hbc hb2 hb3 hb4 hbe hG2 HWL HBL HSL HK1 HK2 HWD HBD HSD HK6 HM1 HM2 HB4 HWA HWC;simp only [hfalse];obtain ⟨⟨x0, x1, x2⟩, ⟨y0, y1, y2⟩, ⟨z0, z1, z2⟩, ⟨s0, s1, s2⟩⟩ := HCC.out we brf;have HX := Hd (kHas cX ⟨#[84, 101, 97]⟩ 5 0 _ _ _ we (HA3.out we brf) (ksz10 _ (by simp)).1 (HGE.out.below brf) kq.1)
  go_wp2_with fail
  refine HX.out.mono ?_;rintro e q1 ⟨rfl, hb⟩;have hq1 : Below we.heap.size we q1 := hb;clear HX hb x0 x1 x2 y0 y1 y2 z0 z1 z2 s0 s1 s2;obtain ⟨⟨x0, x1, x2⟩, ⟨y0, y1, y2⟩, ⟨z0, z1, z2⟩, ⟨s0, s1, s2⟩⟩ := HCC.out q1 hq1;have HX := Hd (kHas cZ ⟨#[84, 101, 97]⟩ 2 0 _ _ _ q1 (HA5.out q1 hq1) (ksz10 _ (by simp)).1 (HGE.out.below hq1) kq.2.1)
  go_wp2_with fail
  refine HX.out.mono ?_;rintro e q2 ⟨rfl, hb⟩;have hq2 : Below we.heap.size we q2 := btr hq1 hb;clear HX hb x0 x1 x2 y0 y1 y2 z0 z1 z2 s0 s1 s2;obtain ⟨⟨x0, x1, x2⟩, ⟨y0, y1, y2⟩, ⟨z0, z1, z2⟩, ⟨s0, s1, s2⟩⟩ := HCC.out q2 hq2;have HX := Hd (kHas cX ⟨#[79, 105, 108]⟩ 0 9 _ _ _ q2 (HA3.out q2 hq2) (ksz10 _ (by simp)).1 (HGE.out.below hq2) kq.2.2.1)
  go_wp2_with fail
  refine HX.out.mono ?_;rintro e q3 ⟨rfl, hb⟩;have hq3 : Below we.heap.size we q3 := btr hq2 hb;clear HX hb x0 x1 x2 y0 y1 y2 z0 z1 z2 s0 s1 s2;obtain ⟨⟨x0, x1, x2⟩, ⟨y0, y1, y2⟩, ⟨z0, z1, z2⟩, ⟨s0, s1, s2⟩⟩ := HCC.out q3 hq3;have HX := Hd (kHas cY ⟨#[84, 101, 97]⟩ 0 2 _ _ _ q3 (HA4.out q3 hq3) (ksz10 _ (by simp)).1 (HGE.out.below hq3) kq.2.2.2)
  go_wp2_with fail
  refine HX.out.mono ?_;rintro e q4 ⟨rfl, hb⟩;have hq4 : Below we.heap.size we q4 := btr hq3 hb;clear HX hb x0 x1 x2 y0 y1 y2 z0 z1 z2 s0 s1 s2;obtain ⟨⟨x0, x1, x2⟩, ⟨y0, y1, y2⟩, ⟨z0, z1, z2⟩, ⟨s0, s1, s2⟩⟩ := HCC.out q4 hq4;have HX := Hd (cartNames_any cX _ _ _ q4 (HA3.out q4 hq4) (ksz10 _ (by simp)).1 (HGE.out.below hq4))
  go_wp2_with fail
  refine HX.out.mono ?_;rintro e q5 ⟨vn, rfl, hrow, hb⟩;have hq5 : Below we.heap.size we q5 := btr hq4 hb;clear HX hb x0 x1 x2 y0 y1 y2 z0 z1 z2 s0 s1 s2;have hst := StrS.of_row hrow;rw [show namesV cX = [⟨#[78, 117, 116]⟩, ⟨#[84, 101, 97]⟩] by unfold namesV; rw [kv.1]; rfl] at hst
  obtain ⟨on, cn, rfl, hs1, hs2⟩ := id hst;clear hs1 hs2 hrow;obtain ⟨⟨x0, x1, x2⟩, ⟨y0, y1, y2⟩, ⟨z0, z1, z2⟩, ⟨s0, s1, s2⟩⟩ := HCC.out q5 hq5;obtain ⟨WS, hWS⟩ : ∃ x, x = q5.alloc (.cells #[.string ⟨#[78, 117, 116]⟩, .string ⟨#[84, 101, 97]⟩] 9) := ⟨_, rfl⟩;have hbs : Below q5.heap.size q5 WS := by rw [hWS]; exact bal
  have hst2 : StrS WS (.slice (some ⟨q5.heap.size, 0, none⟩) 2 2) [⟨#[78, 117, 116]⟩, ⟨#[84, 101, 97]⟩] := by rw [hWS]; exact strs_lit2 _ _ _ _
  have HWS := Hd hWS;have HX := r7Same_any _ _ _ _ WS (hst.below hbs) hst2;rw [decide_eq_true rfl] at HX;have HX := Hd HX;clear hWS hst hst2
  go_wp2_with (go_loud (rw [← HWS.out]))
  refine HX.out.mono ?_;rintro e q6 ⟨rfl, hb⟩;have hq6 : Below we.heap.size we q6 := btr hq5 (btr hbs hb);clear HX hb hbs HWS x0 x1 x2 y0 y1 y2 z0 z1 z2 s0 s1 s2;obtain ⟨⟨x0, x1, x2⟩, ⟨y0, y1, y2⟩, ⟨z0, z1, z2⟩, ⟨s0, s1, s2⟩⟩ := HCC.out q6 hq6;have HU := cartUnits_any cX _ _ _ q6 (HA3.out q6 hq6) (ksz10 _ (by simp)).1 (HGE.out.below hq6)
  rw [ku.1] at HU;have HX := Hd (HU)
  go_wp2_with fail
  refine HX.out.mono ?_;rintro e q7 ⟨rfl, hb⟩;have hq7 : Below we.heap.size we q7 := btr hq6 hb;clear HX hb x0 x1 x2 y0 y1 y2 z0 z1 z2 s0 s1 s2;obtain ⟨⟨x0, x1, x2⟩, ⟨y0, y1, y2⟩, ⟨z0, z1, z2⟩, ⟨s0, s1, s2⟩⟩ := HCC.out q7 hq7;clear HU;have HU := cartUnits_any cZ _ _ _ q7 (HA5.out q7 hq7) (ksz10 _ (by simp)).1 (HGE.out.below hq7)
  rw [ku.2] at HU;have HX := Hd (HU)
  go_wp2_with fail
  refine HX.out.mono ?_;rintro e q8 ⟨rfl, hb⟩;have hq8 : Below we.heap.size we q8 := btr hq7 hb;clear HX hb x0 x1 x2 y0 y1 y2 z0 z1 z2 s0 s1 s2;obtain ⟨⟨x0, x1, x2⟩, ⟨y0, y1, y2⟩, ⟨z0, z1, z2⟩, ⟨s0, s1, s2⟩⟩ := HCC.out q8 hq8;clear HU;have HD := cartDots_any cX ⟨#[84, 101, 97]⟩ _ _ _ q8 (HA3.out q8 hq8) (ksz10 _ (by simp)).1 (HGE.out.below hq8)
  rw [show dotsC cX ⟨#[84, 101, 97]⟩ = [⟨1, 1⟩] from kd.1] at HD
  have HX := Hd (HD)
  go_wp2_with fail
  refine HX.out.mono ?_;rintro e q9 ⟨vd, rfl, hrow, hb⟩;have hq9 : Below we.heap.size we q9 := btr hq8 hb;clear HX hb x0 x1 x2 y0 y1 y2 z0 z1 z2 s0 s1 s2;clear HD;obtain ⟨⟨x0, x1, x2⟩, ⟨y0, y1, y2⟩, ⟨z0, z1, z2⟩, ⟨s0, s1, s2⟩⟩ := HCC.out q9 hq9;have hA := hrow.dots (di_all (l := [⟨1, 1⟩]) (by decide))
  obtain ⟨od, cd, rfl⟩ := id hrow.slice;clear hrow;obtain ⟨WP, hWP⟩ : ∃ x, x = q9.alloc (.cells #[.int .i64 1, .int .i64 1] 3) := ⟨_, rfl⟩;have hbp : Below q9.heap.size q9 WP := by rw [hWP]; exact bal
  have hpp : PairsIs WP (.slice (some ⟨q9.heap.size, 0, none⟩) 2 2) [⟨1, 1⟩] := by rw [hWP]; exact pairs_lit1 _ 1 1 _
  have HWP := Hd hWP;have HX := Hd (l10dots_any [⟨1, 1⟩] _ WP hpp (by decide))
  clear hWP hpp
  go_wp2_with (go_loud (rw [← HWP.out]))
  refine HX.out.mono ?_;rintro e q10 ⟨ve, rfl, hre, hb⟩;have hbq := btr hbp hb;have hq10 : Below we.heap.size we q10 := btr hq9 hbq;have hA1 := hA.dots hbq;have hA2 := hre.dots (di_all (l := [⟨1, 1⟩]) (by decide))
  obtain ⟨oe, ce, rfl⟩ := id hre.slice;clear HX hb hbp hbq HWP hA hre x0 x1 x2 y0 y1 y2 z0 z1 z2 s0 s1 s2;obtain ⟨⟨x0, x1, x2⟩, ⟨y0, y1, y2⟩, ⟨z0, z1, z2⟩, ⟨s0, s1, s2⟩⟩ := HCC.out q10 hq10;have HS := r1Same_any _ _ _ _ q10 hA1 hA2;rw [decide_eq_true rfl] at HS;have HX := Hd (HS)
  go_wp2_with fail
  refine HX.out.mono ?_;rintro e q11 ⟨rfl, hb⟩;have hq11 : Below we.heap.size we q11 := btr hq10 hb;clear HX hb x0 x1 x2 y0 y1 y2 z0 z1 z2 s0 s1 s2;obtain ⟨⟨x0, x1, x2⟩, ⟨y0, y1, y2⟩, ⟨z0, z1, z2⟩, ⟨s0, s1, s2⟩⟩ := HCC.out q11 hq11;clear HS hA1 hA2;have HD := cartDots_any cX ⟨#[79, 105, 108]⟩ _ _ _ q11 (HA3.out q11 hq11) (ksz10 _ (by simp)).1 (HGE.out.below hq11)
  rw [show dotsC cX ⟨#[79, 105, 108]⟩ = [] from kd.2.1] at HD
  have HX := Hd (HD)
  go_wp2_with fail
  refine HX.out.mono ?_;rintro e q12 ⟨vd, rfl, hrow, hb⟩;have hq12 : Below we.heap.size we q12 := btr hq11 hb;clear HX hb x0 x1 x2 y0 y1 y2 z0 z1 z2 s0 s1 s2;clear HD;obtain ⟨⟨x0, x1, x2⟩, ⟨y0, y1, y2⟩, ⟨z0, z1, z2⟩, ⟨s0, s1, s2⟩⟩ := HCC.out q12 hq12;obtain ⟨od, cd, rfl⟩ := hrow.slice;clear hrow;have HD := cartDots_any cX ⟨#[]⟩ _ _ _ q12 (HA3.out q12 hq12) (ksz10 _ (by simp)).1 (HGE.out.below hq12)
  rw [show dotsC cX ⟨#[]⟩ = [⟨1, 1⟩, ⟨2, 1⟩] from kd.2.2] at HD
  have HX := Hd (HD)
  go_wp2_with fail
  refine HX.out.mono ?_;rintro e q13 ⟨vd, rfl, hrow, hb⟩;have hq13 : Below we.heap.size we q13 := btr hq12 hb;clear HX hb x0 x1 x2 y0 y1 y2 z0 z1 z2 s0 s1 s2;clear HD;obtain ⟨⟨x0, x1, x2⟩, ⟨y0, y1, y2⟩, ⟨z0, z1, z2⟩, ⟨s0, s1, s2⟩⟩ := HCC.out q13 hq13;have hA := hrow.dots (di_all (l := [⟨1, 1⟩, ⟨2, 1⟩]) (by decide))
  obtain ⟨od, cd, rfl⟩ := id hrow.slice;clear hrow;obtain ⟨WP, hWP⟩ : ∃ x, x = q13.alloc (.cells #[.int .i64 1, .int .i64 1, .int .i64 2, .int .i64 1] 3) := ⟨_, rfl⟩;have hbp : Below q13.heap.size q13 WP := by rw [hWP]; exact bal
  have hpp : PairsIs WP (.slice (some ⟨q13.heap.size, 0, none⟩) 4 4) [⟨1, 1⟩, ⟨2, 1⟩] := by rw [hWP]; exact pairs_lit2 _ 1 1 2 1 _
  have HWP := Hd hWP;have HX := Hd (l10dots_any [⟨1, 1⟩, ⟨2, 1⟩] _ WP hpp (by decide))
  clear hWP hpp
  go_wp2_with (go_loud (rw [← HWP.out]))
  refine HX.out.mono ?_;rintro e q14 ⟨ve, rfl, hre, hb⟩;have hbq := btr hbp hb;have hq14 : Below we.heap.size we q14 := btr hq13 hbq;have hA1 := hA.dots hbq;have hA2 := hre.dots (di_all (l := [⟨1, 1⟩, ⟨2, 1⟩]) (by decide))
  obtain ⟨oe, ce, rfl⟩ := id hre.slice;clear HX hb hbp hbq HWP hA hre x0 x1 x2 y0 y1 y2 z0 z1 z2 s0 s1 s2;obtain ⟨⟨x0, x1, x2⟩, ⟨y0, y1, y2⟩, ⟨z0, z1, z2⟩, ⟨s0, s1, s2⟩⟩ := HCC.out q14 hq14;have HS := r1Same_any _ _ _ _ q14 hA1 hA2;rw [decide_eq_true rfl] at HS;have HX := Hd (HS)
  go_wp2_with fail
  refine HX.out.mono ?_;rintro e q15 ⟨rfl, hb⟩;have hq15 : Below we.heap.size we q15 := btr hq14 hb;clear HX hb x0 x1 x2 y0 y1 y2 z0 z1 z2 s0 s1 s2;obtain ⟨⟨x0, x1, x2⟩, ⟨y0, y1, y2⟩, ⟨z0, z1, z2⟩, ⟨s0, s1, s2⟩⟩ := HCC.out q15 hq15;clear HS hA1 hA2;have HX := Hd (kTime cX 5 0 _ _ _ q15 (HA3.out q15 hq15) (ksz10 _ (by simp)).1 (HGE.out.below hq15) kt.1)
  go_wp2_with fail
  refine HX.out.mono ?_;rintro e q16 ⟨rfl, hb⟩;have hq16 : Below we.heap.size we q16 := btr hq15 hb;clear HX hb x0 x1 x2 y0 y1 y2 z0 z1 z2 s0 s1 s2;obtain ⟨⟨x0, x1, x2⟩, ⟨y0, y1, y2⟩, ⟨z0, z1, z2⟩, ⟨s0, s1, s2⟩⟩ := HCC.out q16 hq16;have HX := Hd (kTime zeroC 1 0 _ _ _ q16 (HA6.out q16 hq16) (ksz10 _ (by simp)).1 (HGE.out.below hq16) kt.2)
  go_wp2_with fail
  refine HX.out.mono ?_;rintro e q17 ⟨rfl, hb⟩;have hq17 : Below we.heap.size we q17 := btr hq16 hb;clear HX hb x0 x1 x2 y0 y1 y2 z0 z1 z2 s0 s1 s2;obtain ⟨⟨x0, x1, x2⟩, ⟨y0, y1, y2⟩, ⟨z0, z1, z2⟩, ⟨s0, s1, s2⟩⟩ := HCC.out q17 hq17;have HFI := Hd (btr HBE.out hq17);clear x0 x1 x2 y0 y1 y2 z0 z1 z2 s0 s1 s2
  go_wp2_with fail
  go_ret
  exact ⟨rfl, HFI.out⟩
end Go.Proofs.YtadbmineobldbaaGreatDoor
