/- context.Compact walked. -/
import Derived.Test.YtjoljfnlkddfbaaGreatDoorC10
import Derived.Test.YtjoljfnlkddfbaaGreatDoorX3
import Derived.Test.YtjoljfnlkddfbaaGreatDoorCanonP
set_option linter.unusedSimpArgs false
set_option linter.unusedVariables false
set_option maxRecDepth 100000
set_option maxHeartbeats 8000000
namespace Go.Proofs.YtjoljfnlkddfbaaGreatDoor
open Go.RowKit Go.Maps Go.Sort Go.Shelf

theorem stepX_valid {s : List DotD × List DotD} {d : DotD} (h : validV s.1 = true) (hd : validDotD d = true) : validV (stepX s d).1 = true := by
 unfold stepX
 split
 ·exact h
 ·split
  ·exact validV_raise h hd
  ·exact h
theorem foldX_valid : ∀ (c : List DotD) (s : List DotD × List DotD), validV s.1 = true → c.all validDotD = true → validV (c.foldl stepX s).1 = true
 | [], _, h, _ => h
 | d :: c, s, h, hc => by
  rw [List.all_cons, Bool.and_eq_true] at hc
  exact foldX_valid c (stepX s d) (stepX_valid h hc.1) hc.2
theorem foldX_snoc (l : List DotD) (s : List DotD × List DotD) (k : Nat) (h : k < l.length) : (l.take (k + 1)).foldl stepX s = stepX ((l.take k).foldl stepX s) l[k] := by
 rw [List.take_succ_eq_append_getElem h, List.foldl_append]; rfl
theorem row_ne {base b : Nat} {w : World} {v : Value} {l : List DotD} {C : Array Value} {T : TypeId} (h : EDot.Row base w v l) (hb : w.heap[b]? = some (.cells C T)) (hT : T ≠ 39) : ∀ k, v.ownBlock = some k → k ≠ b := by
 intro k hk e
 subst e
 obtain ⟨_, ⟨h1, _⟩ | ⟨g, cap, cur, h1, _, hg, _⟩⟩ := h
 ·rw [h1] at hk; simp [Value.ownBlock] at hk
 ·rw [h1] at hk
  have e1 : g = k := by simpa [Value.ownBlock] using hk
  subst e1
  rw [hg] at hb
  injection hb with e
  injection e with _ e _
  exact hT e.symm
/-- A context under way: two rows of one's own in a block. -/
def CxS (B bo : Nat) (w : World) (s : List DotD × List DotD) : Prop :=
 ∃ vv cv, w.heap[bo]? = some (.cells #[vv, cv] 25) ∧ EDot.Row B w vv s.1 ∧ EDot.Row B w cv s.2 ∧ Apart vv cv
theorem CxS.below {B bo : Nat} {w w' : World} {s : List DotD × List DotD} (h : CxS B bo w s) (hb : Below w.heap.size w w') : CxS B bo w' s := by
 obtain ⟨vv, cv, h1, h2, h3, h4⟩ := h
 exact ⟨vv, cv, by rw [hb.block _ (lt_of_heap h1)]; exact h1, h2.below hb, h3.below hb, h4⟩
theorem CxS.cloud {B bo : Nat} {w w8 : World} {a c : List DotD} {vv cv v8 : Value} (h1 : w.heap[bo]? = some (.cells #[vv, cv] 25)) (h2 : EDot.Row B w vv a) (h3 : EDot.Row B w cv c) (h4 : Apart vv cv) {c' : List DotD}
  (h8 : EDot.Row B w8 v8 c') (hg : w.grownBy w8 cv.ownBlock) (hat : v8.ownBlock = cv.ownBlock ∨ v8.ownBlock = some w.heap.size) : CxS B bo (w8.setCell ⟨bo, 1, none⟩ v8) (a, c') := by
 have hb8 : w8.heap[bo]? = some (.cells #[vv, cv] 25) := by rw [hg.block bo (lt_of_heap h1) (fun e => row_ne h3 h1 (by decide) _ e.symm rfl)]; exact h1
 refine ⟨vv, v8, setCell_same hb8 1 v8, ?_, ?_, ?_⟩
 ·refine (h2.stay (w' := w8) (fun k hk => hg.block k (h2.lt k hk).2 (fun e => h4 k hk e.symm))).stay (fun k hk => ?_)
  exact setCell_other (fun e => row_ne h2 h1 (by decide) k hk e)
 ·refine h8.stay (fun k hk => setCell_other (fun e => row_ne h8 hb8 (by decide) k hk e))
 ·intro k hk hk2
  rcases hat with e | e
  ·rw [e] at hk2; exact h4 k hk hk2
  ·rw [e] at hk2
   cases hk2
   exact absurd (h2.lt _ hk).2 (Nat.lt_irrefl _)
theorem CxS.vec {B bo : Nat} {w w5 : World} {a' c : List DotD} {vv cv v5 : Value} (h1 : w.heap[bo]? = some (.cells #[vv, cv] 25)) (h3 : EDot.Row B w cv c) (hB : B ≤ w.heap.size)
  (h5 : EDot.Row w.heap.size w5 v5 a') (hb : Below w.heap.size w w5) : CxS B bo (w5.setCell ⟨bo, 0, none⟩ v5) (a', c) := by
 have hb5 : w5.heap[bo]? = some (.cells #[vv, cv] 25) := by rw [hb.block bo (lt_of_heap h1)]; exact h1
 refine ⟨v5, cv, setCell_same hb5 0 v5, ?_, ?_, ?_⟩
 ·exact (h5.mono hB).stay (fun k hk => setCell_other (fun e => row_ne h5 hb5 (by decide) k hk e))
 ·exact (h3.below hb).stay (fun k hk => setCell_other (fun e => row_ne h3 h1 (by decide) k hk e))
 ·intro k hk hk2
  have := (h5.lt k hk).1
  have := (h3.lt k hk2).2
  omega
def compactR (vs cl : List DotD) : List DotD × List DotD := if validX vs cl then compactX vs cl else ([], [])
def compactE (vs cl : List DotD) : Int := if validX vs cl then 0 else 2
def CtxPost (R : List DotD × List DotD) (E : Int) (w : World) (e : Ending) (w' : World) : Prop :=
 ∃ u1 u2, e = .returned (.tuple #[.agg #[u1, u2], .int .i64 E]) ∧ EDot.Row w.heap.size w' u1 R.1 ∧ EDot.Row w.heap.size w' u2 R.2 ∧ Below w.heap.size w w'
theorem ctxCompact_any (vs cl : List DotD) (v1 v2 : Value) (w : World) (h1 : Arr DotR 2 w v1 vs) (h2 : Arr DotR 2 w v2 cl) (n1 : vs.length + cl.length ≤ 50000) : Calls Tryz.prog 94 #[.agg #[v1, v2]] w (CtxPost (compactR vs cl) (compactE vs cl) w) := by
 obtain ⟨o1, k1, rfl⟩ := h1.slice
 have hn := h2.len
 have h2' := h2
 obtain ⟨o2, k2, rfl, hel⟩ := h2'.dotAt
 obtain ⟨W0, hW0⟩ : ∃ W0, W0 = w.alloc (.cells #[.slice o1 vs.length k1, .slice o2 cl.length k2] 25) := ⟨_, rfl⟩
 have hb0 : Below w.heap.size w W0 := by rw [hW0]; exact bal
 have hx0 : W0.heap[w.heap.size]? = some (.cells #[.slice o1 vs.length k1, .slice o2 cl.length k2] 25) := by rw [hW0]; exact alloc_new _ _
 have hs0 : W0.heap.size = w.heap.size + 1 := by rw [hW0]; simp
 obtain ⟨W1, hW1⟩ : ∃ W1, W1 = W0.alloc (.cells #[.slice none 0 0, .slice none 0 0] 25) := ⟨_, rfl⟩
 have hb01 : Below W0.heap.size W0 W1 := by rw [hW1]; exact bal
 have hb1 := btr hb0 hb01
 have hx1 : W1.heap[w.heap.size + 1]? = some (.cells #[.slice none 0 0, .slice none 0 0] 25) := by rw [hW1, ← hs0]; exact alloc_new _ _
 have hx01 : W1.heap[w.heap.size]? = some (.cells #[.slice o1 vs.length k1, .slice o2 cl.length k2] 25) := by rw [hb01.block _ (lt_of_heap hx0)]; exact hx0
 have hs1 : W1.heap.size = w.heap.size + 2 := by rw [hW1, alloc_size, hs0]
 have HC : Hid (∀ wz, Below W1.heap.size W1 wz → (wz.cell? ⟨w.heap.size, 0, none⟩ = some (.slice o1 vs.length k1) ∧ wz.cell? ⟨w.heap.size, 1, none⟩ = some (.slice o2 cl.length k2))) := Hd (fun wz hz => ⟨by rw [hz.cell (p := ⟨w.heap.size, 0, none⟩) (lt_of_heap hx01), cell0 hx01 0]; rfl, by rw [hz.cell (p := ⟨w.heap.size, 1, none⟩) (lt_of_heap hx01), cell0 hx01 1]; rfl⟩)
 have HR : Hid (∀ wz, Below W1.heap.size W1 wz → wz.heap[w.heap.size + 1]? = some (.cells #[.slice none 0 0, .slice none 0 0] 25)) := Hd (fun wz hz => by rw [hz.block _ (lt_of_heap hx1)]; exact hx1)
 have HB1 := Hd hb1
 have HS1 := Hd hs1
 have HW : Hid (W1 = (w.alloc (.cells #[.slice o1 vs.length k1, .slice o2 cl.length k2] 25)).alloc (.cells #[.slice none 0 0, .slice none 0 0] 25)) := Hd (by rw [hW1, hW0])
 have HV := Hd (ctxValid_any vs cl _ _ W1 (h1.dots hb1) (h2.dots hb1))
 have HCL : Hid (∀ wz, Below W1.heap.size W1 wz → Calls Tryz.prog 144 #[.slice o1 vs.length k1] wz fun e w' => ∃ v', e = .returned v' ∧ EDot.Row wz.heap.size w' v' vs ∧ Below wz.heap.size wz w') := Hd (fun wz hz => cloneVec_row vs _ wz (h1.dots (btr hb1 hz)) (by omega))
 have HEL := Hd hel
 have HDI := Hd h1.dotsI
 have HVP : Hid (validX vs cl = true → validV vs = true ∧ cl.all validDotD = true) := Hd (fun h => ⟨(validX_parts h).1, (validX_parts h).2.2⟩)
 have HFF : Hid (validX vs cl = false → ∀ w', Below w.heap.size w w' → CtxPost (compactR vs cl) (compactE vs cl) w (.returned (.tuple #[.agg #[.slice none 0 0, .slice none 0 0], .int .i64 2])) w') := Hd (fun hv w' hb => by
  unfold compactR compactE
  rw [hv]
  exact ⟨_, _, rfl, Enc.Row.nil _ _, Enc.Row.nil _ _, hb⟩)
 have HFT : Hid (validX vs cl = true → ∀ w' u1 u2, EDot.Row w.heap.size w' u1 (cl.foldl stepX (vs, [])).1 → EDot.Row w.heap.size w' u2 (cl.foldl stepX (vs, [])).2 → Below w.heap.size w w' → CtxPost (compactR vs cl) (compactE vs cl) w (.returned (.tuple #[.agg #[u1, u2], .int .i64 0])) w') := Hd (fun hv w' u1 u2 hr1 hr2 hb => by
  unfold compactR compactE
  rw [hv]
  exact ⟨_, _, rfl, hr1, hr2, hb⟩)
 generalize compactR vs cl = R at *
 generalize compactE vs cl = E at *
 clear h1 h2 h2' hel hx0 hx01 hx1 hb0 hb01 hb1 hW0 hW1 hs0
 obtain ⟨r1, hr1⟩ : ∃ r, r = validX vs cl := ⟨_, rfl⟩
 rw [← hr1] at HV HVP HFF HFT
 clear hr1
 obtain ⟨x0, x1⟩ := HC.out W1 brf
 go_enter Tryz.func94, Tryz.ntmps94
 go_wp2_with fail
 rw [← HW.out]
 go_wp2_with fail
 refine HV.out.mono ?_
 rintro e w2 ⟨rfl, hb2⟩
 have HB2 := Hd hb2
 obtain ⟨y0, y1⟩ := HC.out w2 hb2
 have hr2 := HR.out w2 hb2
 have d0 : w2.cell? ⟨w.heap.size + 1, 0, none⟩ = some (.slice none 0 0) := cl0 hr2 0 rfl
 have d1 : w2.cell? ⟨w.heap.size + 1, 1, none⟩ = some (.slice none 0 0) := cl0 hr2 1 rfl
 have f0 : w2.frozen? ⟨w.heap.size + 1, 0, none⟩ = false := froz0 hr2 0
 have f1 : w2.frozen? ⟨w.heap.size + 1, 1, none⟩ = false := froz0 hr2 1
 clear x0 x1 hb2 hr2 HV
 cases r1 with
 | false =>
  have HBF := Hd (HB1.out.trans (HB2.out.mono HB1.out.size))
  go_wp2_with fail
  (try simp only [Exit.inBlock, Exit.then])
  refine bodyPost_ret (v := .tuple #[.agg #[.slice none 0 0, .slice none 0 0], .int .i64 2]) ?_ rfl (HFF.out trivial _ ((HBF.out.setCell (p := ⟨w.heap.size + 1, 0, none⟩) (Nat.le_succ _) _).setCell (p := ⟨w.heap.size + 1, 1, none⟩) (Nat.le_succ _) _))
  rw [results_cell_tmp rfl]
  go_simp
 | true =>
  obtain ⟨hvv, hcc⟩ := HVP.out rfl
  have HFIN := Hd (HFT.out rfl)
  clear HFT HFF
  have HVV := Hd hvv
  have HCC := Hd hcc
  clear hvv hcc HVP
  have HC1 := Hd (HCL.out w2 HB2.out)
  clear d0 d1 f0 f1
  go_wp2_with fail
  refine HC1.out.mono ?_
  rintro e w3 ⟨v3, rfl, hrow3, hb3⟩
  have hb23 := btr HB2.out hb3
  obtain ⟨W4, hW4⟩ : ∃ W4, W4 = w3.alloc (.cells #[v3, .slice none 0 0] 25) := ⟨_, rfl⟩
  have hb34 : Below w3.heap.size w3 W4 := by rw [hW4]; exact bal
  have hb4 := btr hb23 hb34
  have hz3 : w.heap.size + 2 ≤ w3.heap.size := by rw [← HS1.out]; exact hb23.size
  have hz2 : w.heap.size + 2 ≤ w2.heap.size := by rw [← HS1.out]; exact HB2.out.size
  have HX4 : Hid (CxS (w.heap.size + 2) w3.heap.size W4 (vs, [])) := Hd ⟨v3, .slice none 0 0, by rw [hW4]; exact alloc_new _ _, (hrow3.mono hz2).below hb34, Enc.Row.nil _ _, fun k _ hk => by simp [Value.ownBlock] at hk⟩
  have HB4 := Hd hb4
  have HW4 := Hd hW4
  obtain ⟨z0, z1⟩ := HC.out W4 hb4
  have hs4 : W4.heap.size = w3.heap.size + 1 := by rw [hW4]; simp
  clear hb3 hb23 hb34 hb4 hW4 hrow3 y0 y1 HCL HC1
  obtain ⟨av3, cv3, rfl⟩ : ∃ a c, v3 = .slice a vs.length c := by
   obtain ⟨vv, cv, q1, q2, -⟩ := HX4.out
   rw [HW4.out, alloc_new] at q1
   injection q1 with q1
   injection q1 with q1
   have q3 : v3 = vv := by injection q1 with q1; injection q1
   rw [q3]
   exact q2.slice
  go_wp2_with (go_loud (rw [← HW4.out]))
  have HBW4 := Hd (HB1.out.trans (HB4.out.mono HB1.out.size))
  have HR4 := Hd (HR.out W4 HB4.out)
  clear z0 z1 HC HR
  go_loopw [19] (fun i wr => ∃ k : Nat, k ≤ cl.length ∧ i = .int .i64 k ∧ CxS (w.heap.size + 2) w3.heap.size wr ((cl.take k).foldl stepX (vs, [])) ∧ Below w.heap.size w wr ∧ w3.heap.size + 1 ≤ wr.heap.size ∧ wr.heap[w.heap.size + 1]? = some (.cells #[.slice none 0 0, .slice none 0 0] 25)) (fun i _ => cl.length - (intOf i).toNat)
  case atStart => exact ⟨0, Nat.zero_le _, rfl, HX4.out, HBW4.out, Nat.le_of_eq hs4.symm, HR4.out⟩
  case round =>
   obtain ⟨k, hk, rfl, hcx, hB, hsz, hres⟩ := hrel
   have HB := Hd hB
   have HRES := Hd hres
   have hrl := lt_of_heap hres
   by_cases hlt : k < cl.length
   ·obtain ⟨b, off, rfl, hbl, e0, e1⟩ := HEL.out k hlt
    have hbr : b < wr.heap.size := Nat.lt_of_lt_of_le hbl hB.size
    have c0 : wr.cell? ⟨b, off + k * 2, none⟩ = some (.int .i64 cl[k].rep) := by rw [hB.cell (p := ⟨_, _, _⟩) hbl]; exact e0
    have c1 : wr.cell? ⟨b, off + k * 2 + 1, none⟩ = some (.int .i64 cl[k].ctr) := by rw [hB.cell (p := ⟨_, _, _⟩) hbl]; exact e1
    have HSN := Hd (foldX_snoc cl (vs, []) k hlt)
    have hdv : validDotD cl[k] = true := List.all_eq_true.1 HCC.out _ (List.getElem_mem hlt)
    have hsv : validV ((cl.take k).foldl stepX (vs, [])).1 = true := foldX_valid _ _ HVV.out (List.all_eq_true.2 (fun d hd => List.all_eq_true.1 HCC.out d (List.mem_of_mem_take hd)))
    have hsl := foldX_len (cl.take k) (vs, [])
    have htk : (cl.take k).length ≤ cl.length := by rw [List.length_take]; omega
    generalize cl[k] = x at *
    generalize (cl.take k).foldl stepX (vs, []) = s at *
    simp only [List.length_nil, Nat.add_zero] at hsl
    have hxp := (validDot_iff x).1 hdv
    have hg0 := getV_nonneg (validV_parts hsv).1 x.rep
    have hg1 := getV_le (validV_parts hsv).1 x.rep
    have HDV := Hd hdv
    have HSV := Hd hsv
    have a0 : (0 : Int) ≤ k := by omega
    have a1 : (k : Int) < cl.length := by omega
    have hkw := wr1 k (by omega)
    have hgw : IntKind.i64.wrap (getV s.1 x.rep + 1) = getV s.1 x.rep + 1 := by rw [IntKind.wrap_i64]; omega
    obtain ⟨W2, hW2⟩ : ∃ W2, W2 = wr.alloc (.cells #[.int .i64 x.rep, .int .i64 x.ctr] 39) := ⟨_, rfl⟩
    have hb2 : Below wr.heap.size wr W2 := by rw [hW2]; exact bal
    have hx2 : W2.heap[wr.heap.size]? = some (.cells #[.int .i64 x.rep, .int .i64 x.ctr] 39) := by rw [hW2]; exact alloc_new _ _
    obtain ⟨vv, cv, q1, q2, q3, q4⟩ := hcx.below hb2
    obtain ⟨a2, k2', rfl⟩ := q2.slice
    obtain ⟨a3, k3, rfl⟩ := q3.slice
    have m0 : W2.cell? ⟨w3.heap.size, 0, none⟩ = some (.slice a2 s.1.length k2') := cl0 q1 0 rfl
    have m2 : W2.cell? ⟨wr.heap.size, 0, none⟩ = some (.int .i64 x.rep) := cl0 hx2 0 rfl
    have hDIs : ∀ d ∈ s.1, DI d := fun d hd => DI_valid (List.all_eq_true.1 (validV_parts hsv).1 d hd)
    have HGET := Hd (vecGet_any s.1 x.rep _ W2 (q2.dots hDIs))
    have HDIS := Hd hDIs
    have HW2 := Hd hW2
    have HBA := Hd (btr hB hb2)
    have HR2 : Hid (W2.heap[w.heap.size + 1]? = some (.cells #[.slice none 0 0, .slice none 0 0] 25)) := Hd (by rw [hb2.block _ hrl]; exact hres)
    have hsz2 : w3.heap.size + 1 ≤ W2.heap.size := Nat.le_trans hsz hb2.size
    have H1 := Hd q1
    have H2 := Hd q2
    have H3 := Hd q3
    have H4 := Hd q4
    have HX2 := Hd hx2
    clear hcx hB hres e0 e1 hb2 hW2 q1 q2 q3 q4 hx2 hDIs hdv hsv
    obtain ⟨n, hnn⟩ : ∃ n, n = getV s.1 x.rep := ⟨_, rfl⟩
    have HN := Hd hnn
    rw [← hnn] at HGET hgw hg0 hg1
    clear hnn
    go_wp2_with (go_loud (rw [← HW2.out]))
    refine HGET.out.mono ?_
    rintro e w5 ⟨rfl, hb5⟩
    have p1 : w5.heap[w3.heap.size]? = some (.cells #[.slice a2 s.1.length k2', .slice a3 s.2.length k3] 25) := by rw [hb5.block _ (lt_of_heap H1.out)]; exact H1.out
    have px : w5.heap[wr.heap.size]? = some (.cells #[.int .i64 x.rep, .int .i64 x.ctr] 39) := by rw [hb5.block _ (lt_of_heap HX2.out)]; exact HX2.out
    have pr : w5.heap[w.heap.size + 1]? = some (.cells #[.slice none 0 0, .slice none 0 0] 25) := by rw [hb5.block _ (lt_of_heap HR2.out)]; exact HR2.out
    have p2 := H2.out.below hb5
    have p3 := H3.out.below hb5
    have u0 : w5.cell? ⟨w3.heap.size, 0, none⟩ = some (.slice a2 s.1.length k2') := cl0 p1 0 rfl
    have u1 : w5.cell? ⟨w3.heap.size, 1, none⟩ = some (.slice a3 s.2.length k3) := cl0 p1 1 rfl
    have u2 : w5.cell? ⟨wr.heap.size, 0, none⟩ = some (.int .i64 x.rep) := cl0 px 0 rfl
    have u3 : w5.cell? ⟨wr.heap.size, 1, none⟩ = some (.int .i64 x.ctr) := cl0 px 1 rfl
    have HBB := Hd (btr HBA.out hb5)
    have hsz5 : w3.heap.size + 1 ≤ w5.heap.size := Nat.le_trans hsz2 hb5.size
    have hbw5 := HBB.out.size
    have P1 := Hd p1
    have PX := Hd px
    have PR := Hd pr
    have P2 := Hd p2
    have P3 := Hd p3
    clear hb5 p1 px pr p2 p3 m0 m2 HGET
    have hz5 : wr.heap.size < w5.heap.size := lt_of_heap PX.out
    have hw35 : w3.heap.size < w5.heap.size := by omega
    by_cases t1 : n + 1 < x.ctr
    ·have HST : Hid ((cl.take (k + 1)).foldl stepX (vs, []) = (s.1, s.2 ++ [x])) := Hd (by rw [HSN.out]; unfold stepX; rw [← HN.out, if_pos t1])
     obtain ⟨W6, hW6⟩ : ∃ W6, W6 = w5.alloc (.cells #[.int .i64 x.rep, .int .i64 x.ctr] 39) := ⟨_, rfl⟩
     have hb6 : Below w5.heap.size w5 W6 := by rw [hW6]; exact bal
     have HROW6 := Hd (P3.out.below hb6)
     have HSRC : Hid (Enc.Src EDot W6 (.slice (some ⟨w5.heap.size, 0, none⟩) 1 1) [x]) := Hd (by rw [hW6]; exact Enc.Src.one_lit w5 39 x)
     have hz6 : w.heap.size + 2 ≤ W6.heap.size := by have := hb6.size; omega
     have g1 : W6.heap[w3.heap.size]? = some (.cells #[.slice a2 s.1.length k2', .slice a3 s.2.length k3] 25) := by rw [hb6.block _ hw35]; exact P1.out
     have G1 := Hd g1
     have G2 := Hd (P2.out.below hb6)
     have GR : Hid (W6.heap[w.heap.size + 1]? = some (.cells #[.slice none 0 0, .slice none 0 0] 25)) := Hd (by rw [hb6.block _ (lt_of_heap PR.out)]; exact PR.out)
     have HB6 := Hd (btr HBB.out hb6)
     have hs6 : w5.heap.size < W6.heap.size := by rw [hW6, alloc_size]; omega
     have HW6 := Hd hW6
     clear hb6 hW6 g1
     go_wp2_with (at_builtin; go_loud (rw [← HW6.out]); go_loud (refine wpList_append_row_at rfl _ _ 22 rfl EDot (w.heap.size + 2) (.agg #[.int .i64 0, .int .i64 0]) 16 Tryz.underlying22 infoDot (by decide) (by decide) _ _ rfl HROW6.out _ _ rfl HSRC.out (by first | omega | (simp; omega)) hz6 ?_); intro v8 w8 hown8 hgr8 hat8; obtain ⟨a8, c8, rfl⟩ := hown8.slice; have j1 : w8.heap[w3.heap.size]? = some (.cells #[.slice a2 s.1.length k2', .slice a3 s.2.length k3] 25) := (by rw [hgr8.block _ (by omega) (fun e => row_ne HROW6.out G1.out (by decide) _ e.symm rfl)]; exact G1.out); have i1 : w8.cell? ⟨w3.heap.size, 1, none⟩ = some (.slice a3 s.2.length k3) := (cl0 j1 1 rfl); have i2 : w8.frozen? ⟨w3.heap.size, 1, none⟩ = false := froz0 j1 1; have hc8 := hgr8.size; clear j1)
     have hcx9 := CxS.cloud G1.out G2.out HROW6.out H4.out hown8 hgr8 hat8
     have hr9 : (w8.setCell ⟨w3.heap.size, 1, none⟩ (.slice a8 (s.2 ++ [x]).length c8)).heap[w.heap.size + 1]? = some (.cells #[.slice none 0 0, .slice none 0 0] 25) := by
      rw [setCell_other (by omega), hgr8.block _ (lt_of_heap GR.out) (fun e => row_ne HROW6.out GR.out (by decide) _ e.symm rfl)]; exact GR.out
     have hbf := (HB6.out.grown hgr8 HB6.out.size (fun j hj => by have := (HROW6.out.lt _ hj).1; omega)).setCell (p := ⟨w3.heap.size, 1, none⟩) (by show w.heap.size ≤ w3.heap.size; omega) (.slice a8 (s.2 ++ [x]).length c8)
     rw [List.length_append, List.length_singleton] at hcx9 hr9 hbf
     go_roundw
     case rel => exact ⟨k + 1, by omega, by go_num, by rw [HST.out]; exact hcx9, hbf, by rw [setCell_size]; have := hgr8.size; omega, hr9⟩
     case measure => simp [intOf]; omega
    ·by_cases t2 : x.ctr = n + 1
     ·have HST : Hid ((cl.take (k + 1)).foldl stepX (vs, []) = (raise1 s.1 x, s.2)) := Hd (by rw [HSN.out]; unfold stepX; rw [← HN.out, if_neg t1, if_pos t2])
      have HRS := Hd (vecRaise_any s.1 x _ w5 (P2.out.dots HDIS.out) (by omega) HSV.out HDV.out)
      unfold dotV at HRS
      have t1' : ¬ x.ctr > n + 1 := t1
      have t2b : (x.ctr == n + 1) = true := by rw [beq_iff_eq]; exact t2
      have T2 := Hd t2
      clear t2
      go_wp2_with fail
      refine HRS.out.mono ?_
      rintro e w6 ⟨v6, rfl, hrow6, hb6⟩
      have j1 : w6.heap[w3.heap.size]? = some (.cells #[.slice a2 s.1.length k2', .slice a3 s.2.length k3] 25) := by rw [hb6.block _ hw35]; exact P1.out
      have i1 : w6.cell? ⟨w3.heap.size, 0, none⟩ = some (.slice a2 s.1.length k2') := cl0 j1 0 rfl
      have i2 : w6.frozen? ⟨w3.heap.size, 0, none⟩ = false := froz0 j1 0
      obtain ⟨a6, c6, rfl⟩ := hrow6.slice
      have HCX9 := Hd (CxS.vec P1.out P3.out (by omega) hrow6 hb6)
      have HR9 : Hid ((w6.setCell ⟨w3.heap.size, 0, none⟩ (.slice a6 (raise1 s.1 x).length c6)).heap[w.heap.size + 1]? = some (.cells #[.slice none 0 0, .slice none 0 0] 25)) := Hd (by
       rw [setCell_other (by omega), hb6.block _ (lt_of_heap PR.out)]; exact PR.out)
      have HBF := Hd ((btr HBB.out hb6).setCell (p := ⟨w3.heap.size, 0, none⟩) (by show w.heap.size ≤ w3.heap.size; omega) (.slice a6 (raise1 s.1 x).length c6))
      have hz6 := hb6.size
      clear j1 hrow6 hb6
      go_wp2_with fail
      go_roundw
      case rel => exact ⟨k + 1, by omega, by go_num, by rw [HST.out]; exact HCX9.out, HBF.out, by rw [setCell_size]; omega, HR9.out⟩
      case measure => simp [intOf]; omega
     ·have HST : Hid ((cl.take (k + 1)).foldl stepX (vs, []) = s) := Hd (by rw [HSN.out]; unfold stepX; rw [← HN.out, if_neg t1, if_neg t2])
      have t1' : ¬ x.ctr > n + 1 := t1
      go_wp2_with fail
      go_roundw
      case rel => exact ⟨k + 1, by omega, by go_num, by rw [HST.out]; exact ⟨_, _, P1.out, P2.out, P3.out, H4.out⟩, HBB.out, hsz5, PR.out⟩
      case measure => simp [intOf]; omega
   ·have hke : k = cl.length := by omega
    subst hke
    obtain ⟨vv, cv, q1, q2, q3, -⟩ := hcx
    rw [List.take_length] at q2 q3
    have m0 : wr.cell? ⟨w3.heap.size, 0, none⟩ = some vv := cl0 q1 0 rfl
    have m1 : wr.cell? ⟨w3.heap.size, 1, none⟩ = some cv := cl0 q1 1 rfl
    have d0 : wr.cell? ⟨w.heap.size + 1, 0, none⟩ = some (.slice none 0 0) := cl0 hres 0 rfl
    have d1 : wr.cell? ⟨w.heap.size + 1, 1, none⟩ = some (.slice none 0 0) := cl0 hres 1 rfl
    have f0 : wr.frozen? ⟨w.heap.size + 1, 0, none⟩ = false := froz0 hres 0
    have f1 : wr.frozen? ⟨w.heap.size + 1, 1, none⟩ = false := froz0 hres 1
    generalize cl.foldl stepX (vs, []) = s at *
    obtain ⟨a2, k2', rfl⟩ := q2.slice
    obtain ⟨a3, k3, rfl⟩ := q3.slice
    have HQ2 : Hid (EDot.Row w.heap.size ((wr.setCell ⟨w.heap.size + 1, 0, none⟩ (.slice a2 s.1.length k2')).setCell ⟨w.heap.size + 1, 1, none⟩ (.slice a3 s.2.length k3)) (.slice a2 s.1.length k2') s.1) := Hd ((q2.mono (by omega)).stay (fun j hj => by
     have := (q2.lt j hj).1
     rw [setCell_other (by omega), setCell_other (by omega)]))
    have HQ3 : Hid (EDot.Row w.heap.size ((wr.setCell ⟨w.heap.size + 1, 0, none⟩ (.slice a2 s.1.length k2')).setCell ⟨w.heap.size + 1, 1, none⟩ (.slice a3 s.2.length k3)) (.slice a3 s.2.length k3) s.2) := Hd ((q3.mono (by omega)).stay (fun j hj => by
     have := (q3.lt j hj).1
     rw [setCell_other (by omega), setCell_other (by omega)]))
    clear q1 q2 q3 hB hres HEL HDI
    go_wp2_with fail
    (try simp only [Exit.inBlock, Exit.then])
    refine bodyPost_ret (v := .tuple #[.agg #[.slice a2 s.1.length k2', .slice a3 s.2.length k3], .int .i64 0]) ?_ rfl (HFIN.out _ _ _ HQ2.out HQ3.out ((HB.out.setCell (p := ⟨w.heap.size + 1, 0, none⟩) (Nat.le_succ _) _).setCell (p := ⟨w.heap.size + 1, 1, none⟩) (Nat.le_succ _) _))
    rw [results_cell_tmp rfl]
    go_simp
end Go.Proofs.YtjoljfnlkddfbaaGreatDoor

