/- join.Join walked. -/
import Derived.Test.YtjoljfnlkddfbaaGreatDoorC16
set_option linter.unusedSimpArgs false
set_option linter.unusedVariables false
set_option maxRecDepth 100000
set_option maxHeartbeats 16000000
namespace Go.Proofs.YtjoljfnlkddfbaaGreatDoor
open Go.RowKit Go.Maps Go.Sort Go.Shelf

/-- What names lead to is the join. -/
theorem join_names {a b : CartD} (ha : validC a = true) (hb : validC b = true) {NL : List ByteArray} (hr : NL.Pairwise ltK) (hm : ∀ nm, nm ∈ NL ↔ nm ∈ namesC a ∨ nm ∈ namesC b) :
  (NL.map (itemR a b)).filter (fun x => decide (0 < x.marks.length)) = (refJoin a b).items := by
 have hv : ∀ nm ∈ NL, nameB nm = true := fun nm h => by
  have key : ∀ {c : CartD}, validC c = true → nm ∈ namesC c → nameB nm = true := fun {c} hc h => by
   obtain ⟨x, hx, rfl⟩ := List.mem_map.1 h
   have := (validI_parts (validC_parts hc).2.1).1 x hx
   unfold oneI at this
   simp only [Bool.and_eq_true] at this
   exact this.1.1.1
  rcases (hm nm).1 h with h | h
  ·exact key ha h
  ·exact key hb h
 have key : ∀ {c : CartD} {nm : ByteArray} {m : MarkD}, m ∈ marksOf c.items nm → nm ∈ namesC c := fun {c nm m} h => by
  apply Classical.byContradiction
  intro hno
  rw [marksOf_none (fun x hx e => hno (List.mem_map.2 ⟨x, hx, e⟩))] at h
  simp at h
 have hJ : JoinIs a b ⟨(unionX (ctxC a) (ctxC b)).1, (unionX (ctxC a) (ctxC b)).2, (NL.map (itemR a b)).filter (fun x => decide (0 < x.marks.length))⟩ := by
  refine join_spec ha hb rfl ?_ (fun z hz => ?_) (fun nm m h => ?_)
  ·rw [risB_iff]
   refine List.Pairwise.sublist List.filter_sublist ?_
   rw [List.pairwise_map]
   exact hr
  ·obtain ⟨hz1, hz2⟩ := List.mem_filter.1 hz
   obtain ⟨nm, hnm, rfl⟩ := List.mem_map.1 hz1
   refine ⟨hv nm hnm, fun e => ?_, itemR_ss a b nm, fun m => itemR_mem ha hb nm m⟩
   rw [e] at hz2
   simp at hz2
  ·refine ⟨itemR a b nm, List.mem_filter.2 ⟨List.mem_map.2 ⟨nm, (hm nm).2 ?_, rfl⟩, decide_eq_true (List.length_pos_of_mem ((itemR_mem ha hb nm m).2 h))⟩, rfl⟩
   rcases h with h | h
   ·exact Or.inl (key (List.mem_filter.1 h).1)
   ·exact Or.inr (key (List.mem_filter.1 h).1)
 exact congrArg CartD.items (hJ.unique (refJoin_is ha hb))
theorem names_sorted {NA NB qs : List ByteArray} (hp : qs.Perm (NA ++ NB)) (hs : qs.Pairwise (fun a b => ¬ ltK b a)) : (compactL qs).Pairwise ltK ∧ ∀ nm, nm ∈ compactL qs ↔ nm ∈ NA ∨ nm ∈ NB := by
 refine ⟨compactL_rising (r := ltK) (fun _ _ _ h k => ltK_trans h k) qs (hs.imp (fun {a b} h => ?_)), fun nm => by rw [compactL_mem, hp.mem_iff, List.mem_append]⟩
 by_cases h2 : ltK a b
 ·exact Or.inr h2
 ·exact Or.inl (ltK_total h2 h)
/-- A cart in memory of its own. -/
def OwnC (base : Nat) (w : World) (x1 x2 x3 : Value) (c : CartD) : Prop := EDot.Row base w x1 c.vec ∧ EDot.Row base w x2 c.cloud ∧ ∃ ps, ps.map (·.x) = c.items ∧ FreshI base w x3 ps
theorem OwnC.below {base : Nat} {w w' : World} {x1 x2 x3 : Value} {c : CartD} (h : OwnC base w x1 x2 x3 c) (hb : Below w.heap.size w w') : OwnC base w' x1 x2 x3 c := by
 obtain ⟨h1, h2, ps, h3, h4⟩ := h
 exact ⟨h1.below hb, h2.below hb, ps, h3, h4.below hb⟩
theorem OwnC.mono {base base' : Nat} {w : World} {x1 x2 x3 : Value} {c : CartD} (h : OwnC base w x1 x2 x3 c) (hb : base' ≤ base) : OwnC base' w x1 x2 x3 c := by
 obtain ⟨h1, h2, ps, h3, h4⟩ := h
 exact ⟨h1.mono hb, h2.mono hb, ps, h3, h4.mono hb⟩
theorem validC_DI {c : CartD} (h : validC c = true) : (∀ d ∈ c.vec, DI d) ∧ ∀ d ∈ c.cloud, DI d := by
 obtain ⟨h1, h2, h3⟩ := validX_parts (compactB_parts (validC_parts h).1).1
 exact ⟨fun d hd => DI_valid (List.all_eq_true.1 (validV_parts h1).1 d hd), fun d hd => DI_valid (List.all_eq_true.1 h3 d hd)⟩
theorem OwnC.cart {base : Nat} {w : World} {x1 x2 x3 : Value} {c : CartD} (h : OwnC base w x1 x2 x3 c) (hv : validC c = true) : CartA w x1 x2 x3 c := by
 obtain ⟨h1, h2, ps, h3, h4⟩ := h
 exact ⟨h1.dots (validC_DI hv).1, h2.dots (validC_DI hv).2, by rw [← h3]; exact h4.arr⟩
theorem OwnC.zero (base : Nat) (w : World) : OwnC base w (.slice none 0 0) (.slice none 0 0) (.slice none 0 0) zeroC := ⟨Enc.Row.nil _ _, Enc.Row.nil _ _, [], rfl, Enc.Row.nil _ _, fun p hp => by simp at hp, List.Pairwise.nil⟩
/-- A cart under way: in a block, its parts of its own. -/
def JOut (B bo : Nat) (w : World) (U : List DotD × List DotD) (I : List ItemD) : Prop :=
 ∃ y1 y2 y3 ps, w.heap[bo]? = some (.cells #[y1, y2, y3] 28) ∧ EDot.Row B w y1 U.1 ∧ EDot.Row B w y2 U.2 ∧ FreshI B w y3 ps ∧ ps.map (·.x) = I
theorem JOut.below {B bo : Nat} {w w' : World} {U : List DotD × List DotD} {I : List ItemD} (h : JOut B bo w U I) (hb : Below w.heap.size w w') : JOut B bo w' U I := by
 obtain ⟨y1, y2, y3, ps, h1, h2, h3, h4, h5⟩ := h
 exact ⟨y1, y2, y3, ps, by rw [hb.block _ (lt_of_heap h1)]; exact h1, h2.below hb, h3.below hb, h4.below hb, h5⟩
theorem erow_ne {α : Type} {E : Enc α} {base b : Nat} {w : World} {v : Value} {l : List α} {C : Array Value} {T : TypeId} (h : E.Row base w v l) (hb : w.heap[b]? = some (.cells C T)) (hT : T ≠ E.T) : ∀ k, v.ownBlock = some k → k ≠ b := by
 intro k hk e
 subst e
 obtain ⟨_, ⟨h1, _⟩ | ⟨g, cap, cur, h1, _, hg, _⟩⟩ := h
 ·rw [h1] at hk; simp [Value.ownBlock] at hk
 ·rw [h1] at hk
  have e1 : g = k := by simpa [Value.ownBlock] using hk
  subst e1
  rw [hg] at hb
  injection hb with e
  injection e with _ e _
  exact hT e.symm
theorem rows_apart {α β : Type} {E : Enc α} {F : Enc β} {base base' : Nat} {w : World} {v u : Value} {l : List α} {m : List β} (h : E.Row base w v l) (g : F.Row base' w u m) (hT : E.T ≠ F.T) : Apart v u := by
 intro k hk hk2
 obtain ⟨_, ⟨h3, _⟩ | ⟨g', cap', cur', h3, _, hg', _⟩⟩ := g
 ·rw [h3] at hk2; simp [Value.ownBlock] at hk2
 ·rw [h3] at hk2
  have e2 : g' = k := by simpa [Value.ownBlock] using hk2
  subst e2
  exact erow_ne h hg' (fun e => hT e.symm) _ hk rfl
theorem FreshI.stayF {base : Nat} {w w' : World} {v : Value} {ps : List ItW} (h : FreshI base w v ps) (hb : ∀ k, base ≤ k → k < w.heap.size → (v.ownBlock = some k ∨ ∃ p ∈ ps, p.v.ownBlock = some k) → w'.heap[k]? = w.heap[k]?) : FreshI base w' v ps := by
 obtain ⟨h1, h2, h3⟩ := h
 refine ⟨h1.stay (fun k hk => hb k (h1.lt k hk).1 (h1.lt k hk).2 (Or.inl hk)), fun p hp => ⟨(h2 p hp).1.stay (fun k hk => ?_), (h2 p hp).2⟩, h3⟩
 have := (h2 p hp).1.2.1.lt k hk
 exact hb k this.1 this.2 (Or.inr ⟨p, hp, hk⟩)
/-- One more item. -/
theorem JOut.add {B bo : Nat} {wr w6 w8 : World} {U : List DotD × List DotD} {y1 y2 y3 v8 : Value} {ps : List ItW} {q : ItW} (h1 : wr.heap[bo]? = some (.cells #[y1, y2, y3] 28)) (h2 : EDot.Row B wr y1 U.1) (h3 : EDot.Row B wr y2 U.2) (h4 : FreshI B wr y3 ps) (hB : B ≤ wr.heap.size) (hbo : bo < B)
  (hb : Below wr.heap.size wr (w6.alloc (.cells #[.string q.x.name, q.v] 55))) (hw6 : wr.heap.size < w6.heap.size) (hs : q.x.name.size ≤ maxLen) (hmi : ∀ m ∈ q.x.marks, MI m) (hrow : EMark.Row wr.heap.size (w6.alloc (.cells #[.string q.x.name, q.v] 55)) q.v q.x.marks)
  (h8 : EItem.Row B w8 v8 (ps ++ [q])) (hgr : (w6.alloc (.cells #[.string q.x.name, q.v] 55)).grownBy w8 y3.ownBlock) : JOut B bo (w8.setCell ⟨bo, 2, none⟩ v8) U ((ps ++ [q]).map (·.x)) := by
 have h6 : FreshI wr.heap.size (w6.alloc (.cells #[.string q.x.name, q.v] 55)) (.slice (some ⟨w6.heap.size, 0, none⟩) 1 1) [q] := by
  have hr1 : EItem.Row wr.heap.size (w6.alloc (.cells #[.string q.x.name, q.v] 55)) (.slice (some ⟨w6.heap.size, 0, none⟩) 1 1) [q] := (row_lit EItem [q] w6 (by unfold maxLen; simp)).mono (Nat.le_of_lt hw6)
  refine ⟨hr1, fun p hp => ?_, List.pairwise_singleton _ _⟩
  rw [List.mem_singleton.1 hp]
  exact ⟨⟨hs, hrow, hmi⟩, apart_types hr1 hrow⟩
 have hF := fresh_append (h4.below hb) h6 hB (fun p hp k hk => ((h4.2.1 p hp).1.2.1.lt k hk).2) (fun k hk => (h4.1.lt k hk).2) h8 hgr
 have hbl := lt_of_heap h1
 have hne : ∀ k, y3.ownBlock = some k → k ≠ bo := fun k hk e => by have := (h4.1.lt k hk).1; omega
 have hb8 : w8.heap[bo]? = some (.cells #[y1, y2, y3] 28) := by
  rw [hgr.block bo (by have := hb.size; omega) (fun e => hne bo e.symm rfl), hb.block bo hbl]; exact h1
 have hst : ∀ {y : Value} {l : List DotD}, EDot.Row B wr y l → EDot.Row B (w8.setCell ⟨bo, 2, none⟩ v8) y l := fun {y l} hy => by
  have hy6 := hy.below hb
  refine (hy6.stay (w' := w8) (fun k hk => hgr.block k (hy6.lt k hk).2 (fun e => rows_apart hy6 (h4.below hb).1 (by decide) k hk e.symm))).stay (fun k hk => setCell_other (fun e => by have := (hy.lt k hk).1; omega))
 exact ⟨y1, y2, v8, ps ++ [q], setCell_same hb8 2 v8, hst h2, hst h3, hF.stayF (fun k hk _ _ => setCell_other (by omega)), rfl⟩
def joinR (a b : CartD) : CartD := if validC a && validC b then refJoin a b else zeroC
def joinE (a b : CartD) : Int := if validC a && validC b then 0 else 2
def CartPost (R : CartD) (E : Int) (w : World) (e : Ending) (w' : World) : Prop :=
 ∃ x1 x2 x3, e = .returned (.tuple #[.agg #[x1, x2, x3], .int .i64 E]) ∧ OwnC w.heap.size w' x1 x2 x3 R ∧ Below w.heap.size w w'
def SzC (c : CartD) : Prop := Lt c.items ∧ c.vec.length + c.cloud.length ≤ 10000
def itemsN (a b : CartD) (l : List ByteArray) : List ItemD := (l.map (itemR a b)).filter (fun x => decide (0 < x.marks.length))
theorem itemsN_snoc (a b : CartD) (l : List ByteArray) (k : Nat) (h : k < l.length) : itemsN a b (l.take (k + 1)) = itemsN a b (l.take k) ++ (if 0 < (itemR a b l[k]).marks.length then [itemR a b l[k]] else []) := by
 unfold itemsN
 rw [List.take_succ_eq_append_getElem h, List.map_append, List.filter_append]
 congr 1
 by_cases hp : 0 < (itemR a b l[k]).marks.length
 ·simp [hp]
 ·simp [hp]
theorem itemR_name (a b : CartD) (nm : ByteArray) : (itemR a b nm).name = nm := rfl
theorem itemR_MI {a b : CartD} (ha : validC a = true) (hb : validC b = true) {w : World} {v u : Value} (h : Arr ItemR 2 w v a.items) (g : Arr ItemR 2 w u b.items) (nm : ByteArray) : ∀ m ∈ (itemR a b nm).marks, MI m := by
 intro m hm
 rcases (itemR_mem ha hb nm m).1 hm with h1 | h1
 ·exact marksOf_MI h nm m (List.mem_filter.1 h1).1
 ·exact marksOf_MI g nm m (List.mem_filter.1 h1).1
theorem joinJoin_any (a b : CartD) (v1 v2 v3 u1 u2 u3 : Value) (w : World) (h : CartA w v1 v2 v3 a) (g : CartA w u1 u2 u3 b) (hsa : SzC a) (hsb : SzC b) (hG : GlobIs w) :
  Calls Tryz.prog 30 #[.agg #[v1, v2, v3], .agg #[u1, u2, u3]] w (CartPost (joinR a b) (joinE a b) w) := by
 obtain ⟨o1, k1, rfl⟩ := h.1.slice
 obtain ⟨o2, k2, rfl⟩ := h.2.1.slice
 obtain ⟨o3, k3, rfl⟩ := h.2.2.slice
 obtain ⟨o4, k4, rfl⟩ := g.1.slice
 obtain ⟨o5, k5, rfl⟩ := g.2.1.slice
 obtain ⟨o6, k6, rfl⟩ := g.2.2.slice
 obtain ⟨hla, hna⟩ := hsa
 obtain ⟨hlb, hnb⟩ := hsb
 obtain ⟨n1, hn1⟩ : ∃ n, n = a.vec.length := ⟨_, rfl⟩
 obtain ⟨n2, hn2⟩ : ∃ n, n = a.cloud.length := ⟨_, rfl⟩
 obtain ⟨n3, hn3⟩ : ∃ n, n = a.items.length := ⟨_, rfl⟩
 obtain ⟨n4, hn4⟩ : ∃ n, n = b.vec.length := ⟨_, rfl⟩
 obtain ⟨n5, hn5⟩ : ∃ n, n = b.cloud.length := ⟨_, rfl⟩
 obtain ⟨n6, hn6⟩ : ∃ n, n = b.items.length := ⟨_, rfl⟩
 rw [← hn1, ← hn2, ← hn3] at h ⊢
 rw [← hn4, ← hn5, ← hn6] at g ⊢
 obtain ⟨W0, hW0⟩ : ∃ W0, W0 = w.alloc (.cells #[.slice o1 n1 k1, .slice o2 n2 k2, .slice o3 n3 k3] 28) := ⟨_, rfl⟩
 have hb0 : Below w.heap.size w W0 := by rw [hW0]; exact bal
 have hx0 : W0.heap[w.heap.size]? = some (.cells #[.slice o1 n1 k1, .slice o2 n2 k2, .slice o3 n3 k3] 28) := by rw [hW0]; exact alloc_new _ _
 have hs0 : W0.heap.size = w.heap.size + 1 := by rw [hW0]; simp
 obtain ⟨W1, hW1⟩ : ∃ W1, W1 = W0.alloc (.cells #[.slice o4 n4 k4, .slice o5 n5 k5, .slice o6 n6 k6] 28) := ⟨_, rfl⟩
 have hb01 : Below W0.heap.size W0 W1 := by rw [hW1]; exact bal
 have hb1 := btr hb0 hb01
 have hx1 : W1.heap[w.heap.size + 1]? = some (.cells #[.slice o4 n4 k4, .slice o5 n5 k5, .slice o6 n6 k6] 28) := by rw [hW1, ← hs0]; exact alloc_new _ _
 have hs1 : W1.heap.size = w.heap.size + 2 := by rw [hW1, alloc_size, hs0]
 obtain ⟨W2, hW2⟩ : ∃ W2, W2 = W1.alloc (.cells #[.slice none 0 0, .slice none 0 0, .slice none 0 0] 28) := ⟨_, rfl⟩
 have hb12 : Below W1.heap.size W1 W2 := by rw [hW2]; exact bal
 have hb2 := btr hb1 hb12
 have hx2 : W2.heap[w.heap.size + 1 + 1]? = some (.cells #[.slice none 0 0, .slice none 0 0, .slice none 0 0] 28) := by rw [hW2, show w.heap.size + 1 + 1 = W1.heap.size from hs1.symm]; exact alloc_new _ _
 have hx02 : W2.heap[w.heap.size]? = some (.cells #[.slice o1 n1 k1, .slice o2 n2 k2, .slice o3 n3 k3] 28) := by rw [hb12.block _ (by omega), hb01.block _ (lt_of_heap hx0)]; exact hx0
 have hx12 : W2.heap[w.heap.size + 1]? = some (.cells #[.slice o4 n4 k4, .slice o5 n5 k5, .slice o6 n6 k6] 28) := by rw [hb12.block _ (lt_of_heap hx1)]; exact hx1
 have HC := Hd (fun wz (hz : Below W2.heap.size W2 wz) => And.intro (cel3 ((hz.block _ (lt_of_heap hx02)).trans hx02)) (cel3 ((hz.block _ (lt_of_heap hx12)).trans hx12)))
 have HRB : Hid (∀ wz, Below W2.heap.size W2 wz → wz.heap[w.heap.size + 1 + 1]? = some (.cells #[.slice none 0 0, .slice none 0 0, .slice none 0 0] 28)) := Hd (fun wz hz => (hz.block _ (lt_of_heap hx2)).trans hx2)
 have HB := Hd hb2
 have HW : Hid (W2 = ((w.alloc (.cells #[.slice o1 n1 k1, .slice o2 n2 k2, .slice o3 n3 k3] 28)).alloc (.cells #[.slice o4 n4 k4, .slice o5 n5 k5, .slice o6 n6 k6] 28)).alloc (.cells #[.slice none 0 0, .slice none 0 0, .slice none 0 0] 28)) := Hd (by rw [hW2, hW1, hW0])
 have HS2 : Hid (W2.heap.size = w.heap.size + 3) := Hd (by rw [hW2, alloc_size, hs1])
 have hA : CartA W2 (.slice o1 n1 k1) (.slice o2 n2 k2) (.slice o3 n3 k3) a := h.below hb2
 have hBB : CartA W2 (.slice o4 n4 k4) (.slice o5 n5 k5) (.slice o6 n6 k6) b := g.below hb2
 have HV1 := Hd (cartValid_any a _ _ _ W2 hA hla (hG.below hb2))
 have HV2 : Hid (∀ wz, Below W2.heap.size W2 wz → Calls Tryz.prog 10 #[ .agg #[.slice o4 n4 k4, .slice o5 n5 k5, .slice o6 n6 k6]] wz fun e w' => e = .returned (.bool (validC b)) ∧ Below wz.heap.size wz w') := Hd (fun wz hz => cartValid_any b _ _ _ wz (hBB.below hz) hlb ((hG.below hb2).below hz))
 have HNA : Hid (∀ wz, Below W2.heap.size W2 wz → Calls Tryz.prog 55 #[ .agg #[.slice o1 n1 k1, .slice o2 n2 k2, .slice o3 n3 k3]] wz fun e w' => ∃ v', e = .returned v' ∧ EStr.Row W2.heap.size w' v' (namesV a) ∧ Below wz.heap.size wz w') := Hd (fun wz hz => (cartNames_any a _ _ _ wz (hA.below hz) hla ((hG.below hb2).below hz)).mono fun e w' ⟨v', q1, q2, q3⟩ => ⟨v', q1, q2.mono hz.size, q3⟩)
 have HNB : Hid (∀ wz, Below W2.heap.size W2 wz → Calls Tryz.prog 55 #[ .agg #[.slice o4 n4 k4, .slice o5 n5 k5, .slice o6 n6 k6]] wz fun e w' => ∃ v', e = .returned v' ∧ EStr.Row W2.heap.size w' v' (namesV b) ∧ Below wz.heap.size wz w') := Hd (fun wz hz => (cartNames_any b _ _ _ wz (hBB.below hz) hlb ((hG.below hb2).below hz)).mono fun e w' ⟨v', q1, q2, q3⟩ => ⟨v', q1, q2.mono hz.size, q3⟩)
 have HUN : Hid (validC a = true → validC b = true → ∀ wz, Below W2.heap.size W2 wz → Calls Tryz.prog 58 #[.agg #[.slice o1 n1 k1, .slice o2 n2 k2], .agg #[.slice o4 n4 k4, .slice o5 n5 k5]] wz (CtxPost (unionX (ctxC a) (ctxC b)) 0 wz)) := Hd (fun ha hb wz hz => by
  have := ctxUnion_any a.vec a.cloud b.vec b.cloud _ _ _ _ wz (hA.1.dots hz) (hA.2.1.dots hz) (hBB.1.dots hz) (hBB.2.1.dots hz) hna hnb
  unfold unionR unionE at this
  rw [show validX a.vec a.cloud = true from (compactB_parts (validC_parts ha).1).1, show validX b.vec b.cloud = true from (compactB_parts (validC_parts hb).1).1] at this
  exact this)
 have HIT : Hid (validC a = true → validC b = true → ∀ nm wz, Below W2.heap.size W2 wz → Calls Tryz.prog 60 #[ .agg #[.slice o1 n1 k1, .slice o2 n2 k2, .slice o3 n3 k3],  .agg #[.slice o4 n4 k4, .slice o5 n5 k5, .slice o6 n6 k6], .string nm] wz fun e w' => ∃ mv, e = .returned (.agg #[.string nm, mv]) ∧ EMark.Row wz.heap.size w' mv (itemR a b nm).marks ∧ Below wz.heap.size wz w') := Hd (fun ha hb nm wz hz => joinItem_any a b nm _ _ _ _ _ _ wz (hA.below hz) (hBB.below hz) ha hb hla hlb)
 have HMI : Hid (validC a = true → validC b = true → ∀ nm, ∀ m ∈ (itemR a b nm).marks, MI m) := Hd (fun ha hb nm => itemR_MI ha hb h.2.2 g.2.2 nm)
 have HNV : Hid (validC a = true → validC b = true → namesV a = namesC a ∧ namesV b = namesC b) := Hd (fun ha hb => by unfold namesV; rw [ha, hb]; exact ⟨rfl, rfl⟩)
 have HJN : Hid (validC a = true → validC b = true → ∀ qs : List ByteArray, qs.Perm (namesC a ++ namesC b) → qs.Pairwise (fun a b => ¬ ltK b a) → itemsN a b (compactL qs) = (refJoin a b).items) := Hd (fun ha hb qs hp hs => join_names ha hb (names_sorted hp hs).1 (names_sorted hp hs).2)
 have HNS : Hid (validC a = true → validC b = true → ∀ nm, (nm ∈ namesC a ∨ nm ∈ namesC b) → nm.size ≤ 64) := Hd (fun ha hb nm hn => by
  have key : ∀ {c : CartD}, validC c = true → nm ∈ namesC c → nm.size ≤ 64 := fun {c} hc h => by
   obtain ⟨x, hx, rfl⟩ := List.mem_map.1 h
   exact oneI_name ((validI_parts (validC_parts hc).2.1).1 x hx)
  rcases hn with h | h
  ·exact key ha h
  ·exact key hb h)
 have HLN : Hid ((namesC a).length + (namesC b).length ≤ 2000) := Hd (by
  unfold namesC
  rw [List.length_map, List.length_map]
  have := hla.1
  have := hlb.1
  omega)
 have HFF : Hid ((validC a && validC b) = false → ∀ w', Below w.heap.size w w' → CartPost (joinR a b) (joinE a b) w (.returned (.tuple #[.agg #[.slice none 0 0, .slice none 0 0, .slice none 0 0], .int .i64 2])) w') := Hd (fun hv w' hb => by
  unfold joinR joinE
  rw [hv]
  exact ⟨_, _, _, rfl, OwnC.zero _ _, hb⟩)
 have HFT : Hid ((validC a && validC b) = true → ∀ w' x y z ps, EDot.Row w.heap.size w' x (unionX (ctxC a) (ctxC b)).1 → EDot.Row w.heap.size w' y (unionX (ctxC a) (ctxC b)).2 → FreshI w.heap.size w' z ps → ps.map (·.x) = (refJoin a b).items → Below w.heap.size w w' → CartPost (joinR a b) (joinE a b) w (.returned (.tuple #[.agg #[x, y, z], .int .i64 0])) w') := Hd (fun hv w' x y z ps r1 r2 r3 hi hb => by
  unfold joinR joinE
  rw [hv]
  exact ⟨_, _, _, rfl, ⟨r1, r2, ps, hi, r3⟩, hb⟩)
 generalize joinR a b = R at *
 generalize joinE a b = E at *
 clear h g hx0 hx02 hx1 hx12 hx2 hb0 hb01 hb1 hb12 hb2 hW0 hW1 hW2 hs0 hs1 hA hBB hla hlb hna hnb hn1 hn2 hn3 hn4 hn5 hn6 hG
 obtain ⟨r1, hr1⟩ : ∃ r, r = validC a := ⟨_, rfl⟩
 obtain ⟨r2, hr2⟩ : ∃ r, r = validC b := ⟨_, rfl⟩
 rw [← hr1] at HV1 HUN HIT HMI HNV HJN HNS HFF HFT
 rw [← hr2] at HV2 HUN HIT HMI HNV HJN HNS HFF HFT
 clear hr1 hr2
 obtain ⟨⟨x0, x1, x2⟩, x3, x4, x5⟩ := HC.out W2 brf
 have FINF : Hid ((r1 && r2) = false → ∀ w3, Below W2.heap.size W2 w3 → CartPost R E w (.returned (.tuple #[.agg #[.slice none 0 0, .slice none 0 0, .slice none 0 0], .int .i64 2])) (((w3.setCell ⟨w.heap.size + 1 + 1, 0, none⟩ (.slice none 0 0)).setCell ⟨w.heap.size + 1 + 1, 1, none⟩ (.slice none 0 0)).setCell ⟨w.heap.size + 1 + 1, 2, none⟩ (.slice none 0 0))) := Hd (fun hv w3 hb3 => by
  have hle : w.heap.size ≤ w.heap.size + 1 + 1 := by omega
  exact HFF.out hv _ ((((btr HB.out hb3).setCell (p := ⟨w.heap.size + 1 + 1, 0, none⟩) hle _).setCell (p := ⟨w.heap.size + 1 + 1, 1, none⟩) hle _).setCell (p := ⟨w.heap.size + 1 + 1, 2, none⟩) hle _))
 clear HFF
 go_enter Tryz.func30, Tryz.ntmps30
 go_wp2_with fail
 rw [← HW.out]
 go_wp2_with fail
 refine HV1.out.mono ?_
 rintro e w3 ⟨rfl, hb3⟩
 have HB3 := Hd hb3
 obtain ⟨⟨y0, y1, y2⟩, y3, y4, y5⟩ := HC.out w3 hb3
 have hrb := HRB.out w3 hb3
 have d0 : w3.cell? ⟨w.heap.size + 1 + 1, 0, none⟩ = some (.slice none 0 0) := cl0 hrb 0 rfl
 have d1 : w3.cell? ⟨w.heap.size + 1 + 1, 1, none⟩ = some (.slice none 0 0) := cl0 hrb 1 rfl
 have d2 : w3.cell? ⟨w.heap.size + 1 + 1, 2, none⟩ = some (.slice none 0 0) := cl0 hrb 2 rfl
 have f0 : w3.frozen? ⟨w.heap.size + 1 + 1, 0, none⟩ = false := froz0 hrb 0
 have f1 : w3.frozen? ⟨w.heap.size + 1 + 1, 1, none⟩ = false := froz0 hrb 1
 have f2 : w3.frozen? ⟨w.heap.size + 1 + 1, 2, none⟩ = false := froz0 hrb 2
 clear x0 x1 x2 x3 x4 x5 hb3 HV1 hrb
 cases r1 with
 | false =>
  have HF0 := Hd (FINF.out rfl w3 HB3.out)
  clear FINF HFT HUN HIT HMI HNV HJN HNS
  go_wp2_with fail
  (try simp only [Exit.inBlock, Exit.then])
  refine bodyPost_ret (v := .tuple #[.agg #[.slice none 0 0, .slice none 0 0, .slice none 0 0], .int .i64 2]) ?_ rfl HF0.out
  rw [results_cell_tmp rfl]
  go_simp
 | true =>
  clear d0 d1 d2 f0 f1 f2
  go_wp2_with fail
  refine (HV2.out w3 HB3.out).mono ?_
  rintro e w4 ⟨rfl, hb4⟩
  have HB4 := Hd (btr HB3.out hb4)
  have hrb := HRB.out w4 HB4.out
  clear y0 y1 y2 y3 y4 y5 hb4 HV2
  cases r2 with
  | false =>
   have d0 : w4.cell? ⟨w.heap.size + 1 + 1, 0, none⟩ = some (.slice none 0 0) := cl0 hrb 0 rfl
   have d1 : w4.cell? ⟨w.heap.size + 1 + 1, 1, none⟩ = some (.slice none 0 0) := cl0 hrb 1 rfl
   have d2 : w4.cell? ⟨w.heap.size + 1 + 1, 2, none⟩ = some (.slice none 0 0) := cl0 hrb 2 rfl
   have f0 : w4.frozen? ⟨w.heap.size + 1 + 1, 0, none⟩ = false := froz0 hrb 0
   have f1 : w4.frozen? ⟨w.heap.size + 1 + 1, 1, none⟩ = false := froz0 hrb 1
   have f2 : w4.frozen? ⟨w.heap.size + 1 + 1, 2, none⟩ = false := froz0 hrb 2
   have HF0 := Hd (FINF.out rfl w4 HB4.out)
   clear FINF HFT HUN HIT HMI HNV HJN HNS hrb
   go_wp2_with fail
   (try simp only [Exit.inBlock, Exit.then])
   refine bodyPost_ret (v := .tuple #[.agg #[.slice none 0 0, .slice none 0 0, .slice none 0 0], .int .i64 2]) ?_ rfl HF0.out
   rw [results_cell_tmp rfl]
   go_simp
  | true =>
   obtain ⟨hnv1, hnv2⟩ := HNV.out trivial rfl
   rw [hnv1] at HNA
   rw [hnv2] at HNB
   have HUN1 := Hd (HUN.out trivial rfl)
   have HIT1 := Hd (HIT.out trivial rfl)
   have HMI1 := Hd (HMI.out trivial rfl)
   have HJN1 := Hd (HJN.out trivial rfl)
   have HNS1 := Hd (HNS.out trivial rfl)
   have HFT1 := Hd (HFT.out rfl)
   clear HUN HIT HMI HJN HNS HFT HNV FINF hnv1 hnv2 hrb
   generalize namesC a = NA at *
   generalize namesC b = NB at *
   go_upto_region 3 with fail
   refine NQ.to ?_
   refine wp_region_held_drew (S := (fun wz => (wz.cell? ⟨w.heap.size, 0, none⟩ = some (.slice o1 n1 k1) ∧ wz.cell? ⟨w.heap.size, 1, none⟩ = some (.slice o2 n2 k2) ∧ wz.cell? ⟨w.heap.size, 2, none⟩ = some (.slice o3 n3 k3)) ∧ wz.cell? ⟨w.heap.size + 1, 0, none⟩ = some (.slice o4 n4 k4) ∧ wz.cell? ⟨w.heap.size + 1, 1, none⟩ = some (.slice o5 n5 k5) ∧ wz.cell? ⟨w.heap.size + 1, 2, none⟩ = some (.slice o6 n6 k6))) (by kernel_rfl) (HC.out _ (below_drew1 HB4.out)) (fun hS => ?_)
   refine tkR (n := 2) [0, 2] rfl (by decide +kernel) hS ?_
   iterate 2 ((try simp only [Act.put, s1, s2, s3, s4, s5, s6]); refine ⟨_, ?_, rfl, Or.inl ⟨by kernel_rfl, fun w hSw => ok_of fun z hz => ?_⟩, ?_⟩; rotate_left; · (obtain ⟨⟨g0, g1, g2⟩, g3, g4, g5⟩ := hSw; go_simp; exact hz))
   refine RunOK.done ?_
   try simp only [Act.put, s1, s2, s3, s4, s5, s6]
   refine rd1 1 (by decide +kernel) rfl (fun K hK => ?_)
   go_simp
   go_at_call 55
   refine (HNA.out _ (below_drew1 HB4.out)).mono ?_
   rintro e w5 ⟨v5, rfl, hr5, hb5⟩
   have hb5w := (below_drew1 HB4.out).trans (hb5.mono (below_drew1 HB4.out).size)
   go_simp
   refine Shut.out hK _ _ (HC.out _ hb5w) (fun hS2 => ?_); clear hK K hS; have hS := hS2; clear hS2
   try simp only [Act.put, s1, s2, s3, s4, s5, s6]
   refine rd1 3 (by decide +kernel) rfl (fun K hK => ?_)
   go_simp
   go_at_call 55
   refine (HNB.out _ hb5w).mono ?_
   rintro e w6 ⟨v6, rfl, hr6, hb6⟩
   have hb6w := btr hb5w hb6
   have hr5b := hr5.below hb6
   go_simp
   refine Shut.out hK _ _ (HC.out _ hb6w) (fun hS2 => ?_); clear hK K hS; have hS := hS2; clear hS2
   try simp only [Act.put, s1, s2, s3, s4, s5, s6]
   refine rd1 4 (by decide +kernel) rfl (fun K hK => ?_)
   refine step_append_row rfl _ _ 96 rfl EStr W2.heap.size (.string ⟨#[]⟩) 16 Tryz.underlying96 infoStr (by decide) (by decide) _ NA rfl (hr5b.mono (Nat.le_refl _)) _ NB rfl hr6.toSrc (by have := HLN.out; omega) hb6w.size ?_
   intro v7 w7 hrow7 hgr7
   have hb7w := hb6w.grown hgr7 hb6w.size (fun j hj => (hr5b.lt _ hj).1)
   refine Shut.out hK _ _ (HC.out _ hb7w) (fun hS2 => ?_); clear hK K hS; have hS := hS2; clear hS2
   refine tkR (n := 1) [5] rfl (by decide +kernel) hS ?_
   ((try simp only [Act.put, s1, s2, s3, s4, s5, s6]); refine ⟨_, ?_, rfl, Or.inl ⟨by kernel_rfl, fun w hSw => ok_of fun z hz => ?_⟩, ?_⟩; rotate_left; · (go_simp; exact hz))
   refine RunOK.done ?_
   try simp only [Act.put, s1, s2, s3, s4, s5, s6]
   refine wpAnyH_done (by kernel_rfl) ?_ _
   try simp only [Act.put, s1, s2, s3, s4, s5, s6]
   simp only [NQ]
   have HB7 := Hd hb7w
   have HSS7 := Hd (sortStrs_row W2.heap.size v7 (NA ++ NB) w7 hrow7 (by rw [List.length_append]; have := HLN.out; omega))
   obtain ⟨a7, c7, rfl⟩ := hrow7.slice
   generalize hLL : (NA ++ NB).length = n7 at *
   clear hS hb5 hb5w hb6 hb6w hb7w hr5 hr5b hr6 hgr7 hrow7 HNA HNB
   go_wp2_with fail
   refine HSS7.out.mono ?_
   rintro e w8 ⟨rfl, qs, hp, hs, hr8, hb8⟩
   have hb8w := hb8 W2.heap.size W2 (Nat.le_refl _) HB7.out
   obtain ⟨⟨y0, y1, y2⟩, y3, y4, y5⟩ := HC.out w8 hb8w
   obtain ⟨W9, hW9⟩ : ∃ W9, W9 = w8.alloc (.cells #[.slice none 0 0, .slice none 0 0, .slice none 0 0] 28) := ⟨_, rfl⟩
   have hb89 : Below w8.heap.size w8 W9 := by rw [hW9]; exact bal
   have hb9 := btr hb8w hb89
   have hx9 : W9.heap[w8.heap.size]? = some (.cells #[.slice none 0 0, .slice none 0 0, .slice none 0 0] 28) := by rw [hW9]; exact alloc_new _ _
   have hz8 : w.heap.size + 3 ≤ w8.heap.size := by rw [← HS2.out]; exact hb8w.size
   have hz9 : W9.heap.size = w8.heap.size + 1 := by rw [hW9]; simp
   have hlt0 : w.heap.size < w8.heap.size := by omega
   have hlt1 : w.heap.size + 1 < w8.heap.size := by omega
   have HU := Hd (HUN1.out W9 hb9)
   have HR9 := Hd (hr8.below hb89)
   have hqn : n7 = qs.length := by rw [← hLL]; exact hp.length_eq.symm
   have HQM := Hd (names_sorted hp hs)
   have HJI := Hd (HJN1.out qs hp hs)
   have hql : qs.length ≤ 2000 := by have := HLN.out; rw [← hqn, ← hLL, List.length_append]; omega
   have HB9 := Hd hb9
   have HX9 := Hd hx9
   have HW9 := Hd hW9
   clear hb8 hb8w hb89 hb9 hx9 hW9 hr8 hp hs HSS7 hLL HJN1 HUN1 hqn
   go_wp2_with fail
   rw [← HW9.out]
   refine HU.out.mono ?_
   rintro e w10 ⟨q1, q2, rfl, hq1, hq2, hb10⟩
   have hx10 := (hb10.block _ (lt_of_heap HX9.out)).trans HX9.out
   have d0 : w10.cell? ⟨w8.heap.size, 0, none⟩ = some (.slice none 0 0) := cl0 hx10 0 rfl
   have d1 : w10.cell? ⟨w8.heap.size, 1, none⟩ = some (.slice none 0 0) := cl0 hx10 1 rfl
   have f0 : w10.frozen? ⟨w8.heap.size, 0, none⟩ = false := froz0 hx10 0
   have f1 : w10.frozen? ⟨w8.heap.size, 1, none⟩ = false := froz0 hx10 1
   obtain ⟨aq1, cq1, rfl⟩ := hq1.slice
   obtain ⟨aq2, cq2, rfl⟩ := hq2.slice
   generalize unionX (ctxC a) (ctxC b) = U at *
   obtain ⟨W11, hW11⟩ : ∃ W11, W11 = (w10.setCell ⟨w8.heap.size, 0, none⟩ (.slice aq1 U.1.length cq1)).setCell ⟨w8.heap.size, 1, none⟩ (.slice aq2 U.2.length cq2) := ⟨_, rfl⟩
   have hoth : ∀ k, k ≠ w8.heap.size → W11.heap[k]? = w10.heap[k]? := fun k hk => by rw [hW11, setCell_other hk, setCell_other hk]
   have hs11 : W11.heap.size = w10.heap.size := by rw [hW11, setCell_size, setCell_size]
   have hx11 : W11.heap[w8.heap.size]? = some (.cells #[.slice aq1 U.1.length cq1, .slice aq2 U.2.length cq2, .slice none 0 0] 28) := by
    rw [hW11]; exact setCell_same (setCell_same hx10 0 _) 1 _
   have hz9' : W9.heap.size ≤ w10.heap.size := hb10.size
   have hq1' : EDot.Row W9.heap.size W11 (.slice aq1 U.1.length cq1) U.1 := hq1.stay (fun k hk => hoth k (by have := (hq1.lt k hk).1; omega))
   have hq2' : EDot.Row W9.heap.size W11 (.slice aq2 U.2.length cq2) U.2 := hq2.stay (fun k hk => hoth k (by have := (hq2.lt k hk).1; omega))
   have hr10 := HR9.out.below hb10
   have hr11 : EStr.Row W2.heap.size W11 (.slice a7 n7 c7) qs := hr10.stay (fun k hk => hoth k (erow_ne hr10 hx10 (by decide) k hk))
   have hb11 : Below W2.heap.size W2 W11 := by
    rw [hW11]
    have hle : W2.heap.size ≤ w8.heap.size := by rw [HS2.out]; exact hz8
    exact ((btr HB9.out hb10).setCell (p := ⟨w8.heap.size, 0, none⟩) hle _).setCell (p := ⟨w8.heap.size, 1, none⟩) hle _
   have HCS := Hd (compactStrs_any qs _ W11 W2.heap.size hr11)
   have HAP1 := Hd (rows_apart hq1' hr11 (by decide))
   have HAP2 := Hd (rows_apart hq2' hr11 (by decide))
   have HNE := Hd (erow_ne hr11 hx11 (by decide))
   have HW11 := Hd hW11
   have HB11 := Hd hb11
   have HX11 := Hd hx11
   have HQ1 := Hd hq1'
   have HQ2 := Hd hq2'
   clear hq1 hq2 hq1' hq2' hb10 hx10 hW11 hoth hx11 hr10 hr11 hb11 HU HR9 y0 y1 y2 y3 y4 y5
   go_wp2_with fail
   rw [← HW11.out]
   refine HCS.out.mono ?_
   rintro e w12 ⟨v12, rfl, hr12, hb12, hsz12, hkeep12⟩
   obtain ⟨av, cv, rfl⟩ := hr12.slice
   have hbo12 : w12.heap[w8.heap.size]? = some (.cells #[.slice aq1 U.1.length cq1, .slice aq2 U.2.length cq2, .slice none 0 0] 28) := (hkeep12 _ (lt_of_heap HX11.out) (fun e => HNE.out _ e rfl)).trans HX11.out
   have hj12 : JOut W9.heap.size w8.heap.size w12 U (itemsN a b ((compactL qs).take 0)) := ⟨_, _, _, [], hbo12, HQ1.out.stay (fun k hk => hkeep12 k (HQ1.out.lt k hk).2 (HAP1.out k hk)), HQ2.out.stay (fun k hk => hkeep12 k (HQ2.out.lt k hk).2 (HAP2.out k hk)), ⟨Enc.Row.nil _ _, fun p hp => by simp at hp, List.Pairwise.nil⟩, by unfold itemsN; simp⟩
   have hb212 := HB11.out.trans hb12
   have hsz912 : W9.heap.size ≤ w12.heap.size := by omega
   have HJ12 := Hd hj12
   have HR12 := Hd hr12
   have HB12 := Hd hb212
   have hcl : (compactL qs).length ≤ 2000 := Nat.le_trans (compactL_len _) hql
   have hISN : ∀ k, (h : k < (compactL qs).length) → itemsN a b ((compactL qs).take (k + 1)) = itemsN a b ((compactL qs).take k) ++ (if 0 < (itemR a b (compactL qs)[k]).marks.length then [itemR a b (compactL qs)[k]] else []) := fun k h => itemsN_snoc a b _ k h
   have hnms : ∀ nm ∈ compactL qs, nm.size ≤ 64 := fun nm h => HNS1.out nm ((HQM.out.2 nm).1 h)
   have HISN := Hd hISN
   have HNMS := Hd hnms
   clear hr12 hb12 hkeep12 hbo12 hj12 hb212 HQM HNE HAP1 HAP2 HQ1 HQ2 HX11 HCS hISN hnms
   generalize compactL qs = NL at *
   go_wp2_with fail
   go_loopw [39] (fun i wr => ∃ k : Nat, k ≤ NL.length ∧ i = .int .i64 k ∧ JOut W9.heap.size w8.heap.size wr U (itemsN a b (NL.take k)) ∧ EStr.Row W2.heap.size wr (.slice av NL.length cv) NL ∧ Below W2.heap.size W2 wr ∧ W9.heap.size ≤ wr.heap.size) (fun i _ => NL.length - (intOf i).toNat)
   case atStart => exact ⟨0, Nat.zero_le _, rfl, HJ12.out, HR12.out, HB12.out, hsz912⟩
   case round =>
    obtain ⟨k, hk, rfl, hj, hnr, hB, hszr⟩ := hrel
    have HJ := Hd hj
    have HNR := Hd hnr
    have HBR := Hd hB
    by_cases hlt : k < NL.length
    ·obtain ⟨g, cap, hgv, hin, -⟩ := hnr.some (by intro e; rw [e] at hlt; simp at hlt)
     injection hgv with e1 e2 e3
     subst e1
     have hgl := hin.gl
     have c0 : wr.cell? ⟨g, k, none⟩ = some (.string NL[k]) := by
      have := hin.cell k hlt 0 (by decide)
      simp only [Nat.add_zero, show EStr.k = 1 from rfl, Nat.mul_one] at this
      exact this
     have HI1 := Hd (HISN.out k hlt)
     have hns := HNMS.out NL[k] (List.getElem_mem hlt)
     have HMIk := Hd (HMI1.out NL[k])
     have HITk := Hd (HIT1.out NL[k] wr hB)
     have hrn := itemR_name a b NL[k]
     generalize hx : itemR a b NL[k] = xi at *
     generalize NL[k] = nm at *
     obtain ⟨⟨y0, y1, y2⟩, y3, y4, y5⟩ := HC.out wr hB
     have hlt0 : w.heap.size < wr.heap.size := by omega
     have hlt1 : w.heap.size + 1 < wr.heap.size := by omega
     have a0 : (0 : Int) ≤ k := by omega
     have a1 : (k : Int) < NL.length := by omega
     have hkw := wr1 k (by omega)
     have HRN := Hd hrn
     clear hj hnr hB hin e2 e3 hx hrn
     go_wp2_with fail
     refine HITk.out.mono ?_
     rintro e w14 ⟨mv, rfl, hmr, hb14⟩
     obtain ⟨am, cm, rfl⟩ := hmr.slice
     obtain ⟨W15, hW15⟩ : ∃ W15, W15 = w14.alloc (.cells #[.string nm, .slice am xi.marks.length cm] 55) := ⟨_, rfl⟩
     have hb1415 : Below w14.heap.size w14 W15 := by rw [hW15]; exact bal
     have hb15 := btr hb14 hb1415
     have hx15 : W15.heap[w14.heap.size]? = some (.cells #[.string nm, .slice am xi.marks.length cm] 55) := by rw [hW15]; exact alloc_new _ _
     have hs15 : W15.heap.size = w14.heap.size + 1 := by rw [hW15]; simp
     have hz14 := hb14.size
     by_cases hm0 : 0 < xi.marks.length
     ·have HI2 : Hid (itemsN a b (NL.take (k + 1)) = itemsN a b (NL.take k) ++ [xi]) := Hd (by rw [HI1.out, if_pos hm0])
      obtain ⟨W16, hW16⟩ : ∃ W16, W16 = W15.alloc (.cells #[.string nm, .slice am xi.marks.length cm] 55) := ⟨_, rfl⟩
      have hb1516 : Below W15.heap.size W15 W16 := by rw [hW16]; exact bal
      have hb16 := btr hb15 hb1516
      obtain ⟨p1, p2, p3, ps, j1, j2, j3, j4, j5⟩ := HJ.out
      obtain ⟨ap3, cp3, rfl⟩ := j4.1.slice
      have hbol := lt_of_heap j1
      have hj14 := (hb14.block _ hbol).trans j1
      have hj16 := (hb16.block _ hbol).trans j1
      have t2 : w14.cell? ⟨w8.heap.size, 2, none⟩ = some (.slice ap3 ps.length cp3) := cl0 hj14 2 rfl
      have hbo14 : w8.heap.size < w14.heap.size := lt_of_heap hj14
      have HIROW := Hd ((j4.below hb16).1)
      have HSRC : Hid (Enc.Src EItem W16 (.slice (some ⟨w14.heap.size + 1, 0, none⟩) 1 1) [⟨xi, am, cm⟩]) := Hd (by
       have := Enc.Src.one_lit (E := EItem) W15 55 ⟨xi, am, cm⟩
       rw [hs15] at this
       rw [hW16]
       have e : (EItem.enc ⟨xi, am, cm⟩).toArray = #[.string nm, .slice am xi.marks.length cm] := by rw [← HRN.out]; rfl
       rw [e] at this
       exact this)
      have HW16 : Hid (W16 = (w14.alloc (.cells #[.string nm, .slice am xi.marks.length cm] 55)).alloc (.cells #[.string nm, .slice am xi.marks.length cm] 55)) := Hd (by rw [hW16, hW15])
      have hpl : ps.length ≤ 2000 := by
       have := congrArg List.length j5
       rw [List.length_map] at this
       rw [this]
       unfold itemsN
       refine Nat.le_trans (List.length_filter_le _ _) ?_
       rw [List.length_map, List.length_take]
       omega
      have hbase16 : W9.heap.size ≤ W16.heap.size := Nat.le_trans hszr hb16.size
      have HADD : Hid (∀ v8 w17, EItem.Row W9.heap.size w17 v8 (ps ++ [⟨xi, am, cm⟩]) → W16.grownBy w17 (Value.slice ap3 ps.length cp3).ownBlock → JOut W9.heap.size w8.heap.size (w17.setCell ⟨w8.heap.size, 2, none⟩ v8) U (itemsN a b (NL.take k) ++ [xi])) := Hd (fun v8 w17 h8 hgr => by
       have e : #[Value.string nm, .slice am xi.marks.length cm] = #[.string xi.name, (ItW.mk xi am cm).v] := by rw [HRN.out]; rfl
       rw [hW16, e] at hgr hb16
       have hmr15 := (hmr.below (hb1415)).below hb1516
       rw [hW16, e] at hmr15
       have := JOut.add (q := ⟨xi, am, cm⟩) j1 j2 j3 j4 hszr (by omega) hb16 (by omega) (by show xi.name.size ≤ maxLen; rw [HRN.out]; unfold maxLen; omega) HMIk.out hmr15 h8 hgr
       rw [List.map_append, j5] at this
       exact this)
      have HNR16 := Hd (HNR.out.below hb16)
      have HB16 := Hd (btr HBR.out hb16)
      have HJ16 := Hd hj16
      have HAPN := Hd (rows_apart (HNR.out.below hb16) ((j4.below hb16).1) (by decide))
      have m0 : (0 : Int) < xi.marks.length := by omega
      clear hmr hb14 hb1415 hb15 hx15 hb1516 hb16 j1 j2 j3 j4 j5 hj14 hj16 hW15 hW16 HITk
      go_wp2_with (at_builtin; go_loud (rw [← HW16.out]); go_loud (refine wpList_append_row rfl _ _ 26 rfl EItem W9.heap.size (.agg #[.string ⟨#[]⟩, .slice none 0 0]) 40 Tryz.underlying26 infoItem (by decide) (by decide) _ _ rfl HIROW.out _ _ rfl HSRC.out (by first | omega | (simp; omega)) hbase16 ?_); intro v17 w17 hown17 hgr17; obtain ⟨a17, c17, rfl⟩ := hown17.slice; have j1 : w17.heap[w8.heap.size]? = some (.cells #[p1, p2, .slice ap3 ps.length cp3] 28) := ((hgr17.block _ (lt_of_heap HJ16.out) (fun e => by have := (HIROW.out.lt _ e.symm).1; omega)).trans HJ16.out); have i1 : w17.cell? ⟨w8.heap.size, 2, none⟩ = some (.slice ap3 ps.length cp3) := (cl0 j1 2 rfl); have i2 : w17.frozen? ⟨w8.heap.size, 2, none⟩ = false := froz0 j1 2; have J17 := Hd j1; clear j1)
      have hjn := HADD.out _ _ hown17 hgr17
      have hnr17 : EStr.Row W2.heap.size w17 (.slice (some ⟨g, 0, none⟩) NL.length cv) NL := HNR16.out.stay (fun j hj => hgr17.block j (HNR16.out.lt j hj).2 (fun e => HAPN.out j hj e.symm))
      have hnrn := hnr17.stay (w' := w17.setCell ⟨w8.heap.size, 2, none⟩ (.slice a17 (ps ++ [ItW.mk xi am cm]).length c17)) (fun j hj => setCell_other (erow_ne hnr17 J17.out (by decide) j hj))
      have hle2 : W2.heap.size ≤ w8.heap.size := by rw [HS2.out]; exact hz8
      have hbf := (HB16.out.grown hgr17 HB16.out.size (fun j hj => by have := (HIROW.out.lt _ hj).1; omega)).setCell (p := ⟨w8.heap.size, 2, none⟩) hle2 (.slice a17 (ps ++ [ItW.mk xi am cm]).length c17)
      have hszf : W9.heap.size ≤ (w17.setCell ⟨w8.heap.size, 2, none⟩ (.slice a17 (ps ++ [ItW.mk xi am cm]).length c17)).heap.size := by rw [setCell_size]; have := hgr17.size; omega
      rw [List.length_append, List.length_singleton] at hjn hnrn hbf hszf
      go_roundw
      case rel => exact ⟨k + 1, by omega, by go_num, by rw [HI2.out]; exact hjn, hnrn, hbf, hszf⟩
      case measure => simp [intOf]; omega
     ·have HI2 : Hid (itemsN a b (NL.take (k + 1)) = itemsN a b (NL.take k)) := Hd (by rw [HI1.out, if_neg hm0, List.append_nil])
      have hmz : xi.marks.length = 0 := by omega
      have HJF := Hd (HJ.out.below hb15)
      have HNF := Hd (HNR.out.below hb15)
      have HBF := Hd (btr HBR.out hb15)
      have hszf : W9.heap.size ≤ W15.heap.size := by omega
      have HW15 := Hd hW15
      rw [hmz] at HW15
      clear hmr hb14 hb1415 hb15 hx15 hW15 HITk hs15
      rw [hmz]
      go_wp2_with fail
      rw [← HW15.out]
      go_roundw
      case rel => exact ⟨k + 1, by omega, by go_num, by rw [HI2.out]; exact HJF.out, HNF.out, HBF.out, hszf⟩
      case measure => simp [intOf]; omega
    ·have hke : k = NL.length := by omega
     subst hke
     obtain ⟨p1, p2, p3, ps, j1, j2, j3, j4, j5⟩ := hj
     rw [List.take_length, HJI.out] at j5
     obtain ⟨ap1, cp1, rfl⟩ := j2.slice
     obtain ⟨ap2, cp2, rfl⟩ := j3.slice
     obtain ⟨ap3, cp3, rfl⟩ := j4.1.slice
     have t0 : wr.cell? ⟨w8.heap.size, 0, none⟩ = some (.slice ap1 U.1.length cp1) := cl0 j1 0 rfl
     have t1 : wr.cell? ⟨w8.heap.size, 1, none⟩ = some (.slice ap2 U.2.length cp2) := cl0 j1 1 rfl
     have t2 : wr.cell? ⟨w8.heap.size, 2, none⟩ = some (.slice ap3 ps.length cp3) := cl0 j1 2 rfl
     have hrb := HRB.out wr hB
     have d0 : wr.cell? ⟨w.heap.size + 1 + 1, 0, none⟩ = some (.slice none 0 0) := cl0 hrb 0 rfl
     have d1 : wr.cell? ⟨w.heap.size + 1 + 1, 1, none⟩ = some (.slice none 0 0) := cl0 hrb 1 rfl
     have d2 : wr.cell? ⟨w.heap.size + 1 + 1, 2, none⟩ = some (.slice none 0 0) := cl0 hrb 2 rfl
     have f0 : wr.frozen? ⟨w.heap.size + 1 + 1, 0, none⟩ = false := froz0 hrb 0
     have f1 : wr.frozen? ⟨w.heap.size + 1 + 1, 1, none⟩ = false := froz0 hrb 1
     have f2 : wr.frozen? ⟨w.heap.size + 1 + 1, 2, none⟩ = false := froz0 hrb 2
     obtain ⟨WF, hWF⟩ : ∃ WF, WF = ((wr.setCell ⟨w.heap.size + 1 + 1, 0, none⟩ (.slice ap1 U.1.length cp1)).setCell ⟨w.heap.size + 1 + 1, 1, none⟩ (.slice ap2 U.2.length cp2)).setCell ⟨w.heap.size + 1 + 1, 2, none⟩ (.slice ap3 ps.length cp3) := ⟨_, rfl⟩
     have hof : ∀ k, k ≠ w.heap.size + 1 + 1 → WF.heap[k]? = wr.heap[k]? := fun k hk => by rw [hWF, setCell_other hk, setCell_other hk, setCell_other hk]
     have hle : w.heap.size ≤ w.heap.size + 1 + 1 := by omega
     have HFIN : Hid (CartPost R E w (.returned (.tuple #[.agg #[.slice ap1 U.1.length cp1, .slice ap2 U.2.length cp2, .slice ap3 ps.length cp3], .int .i64 0])) WF) := Hd (HFT1.out WF _ _ _ ps ((j2.mono (by omega)).stay (fun k hk => hof k (by have := (j2.lt k hk).1; omega))) ((j3.mono (by omega)).stay (fun k hk => hof k (by have := (j3.lt k hk).1; omega))) ((j4.stayF (fun k hk _ _ => hof k (by omega))).mono (by omega)) j5 (by
      rw [hWF]
      exact (((btr HB.out hB).setCell (p := ⟨w.heap.size + 1 + 1, 0, none⟩) hle _).setCell (p := ⟨w.heap.size + 1 + 1, 1, none⟩) hle _).setCell (p := ⟨w.heap.size + 1 + 1, 2, none⟩) hle _))
     rw [hWF] at HFIN
     clear hnr hB j1 j2 j3 j4 j5 hof hWF HFT1 hrb
     go_wp2_with fail
     (try simp only [Exit.inBlock, Exit.then])
     refine bodyPost_ret (v := .tuple #[.agg #[.slice ap1 U.1.length cp1, .slice ap2 U.2.length cp2, .slice ap3 ps.length cp3], .int .i64 0]) ?_ rfl HFIN.out
     rw [results_cell_tmp rfl]
     go_simp
end Go.Proofs.YtjoljfnlkddfbaaGreatDoor

