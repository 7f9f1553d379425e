/- dot.Union, context.Union walked. -/
import Derived.Test.YtjoljfnlkddfbaaGreatDoorC11
import Derived.Test.YtjoljfnlkddfbaaGreatDoorRaiseP
set_option linter.unusedSimpArgs false
set_option linter.unusedVariables false
set_option maxRecDepth 100000
set_option maxHeartbeats 8000000
namespace Go.Proofs.YtjoljfnlkddfbaaGreatDoor
open Go.RowKit Go.Maps Go.Sort Go.Shelf

theorem cell_block {w w' : World} {b o : Nat} (h : w'.heap[b]? = w.heap[b]?) : w'.cell? ⟨b, o, none⟩ = w.cell? ⟨b, o, none⟩ := by
 unfold World.cell?
 rw [h]
/-- What the closure of Union does. -/
def KeepPost (B c : Nat) (out : List DotD) (w : World) (e : Ending) (w' : World) : Prop :=
 e = .returned (.tuple #[]) ∧ (∃ ov, w'.heap[c]? = some (.cells #[ov] 22) ∧ EDot.Row B w' ov out) ∧ w.heap.size ≤ w'.heap.size ∧ (∀ b, b < B → b ≠ c → w'.heap[b]? = w.heap[b]?) ∧ Below c w w'
theorem dcmp_tri (a b : DotD) : (dcmp a b < 0 ∧ dlt a b = true) ∨ (0 < dcmp a b ∧ dlt a b = false ∧ dlt b a = true) ∨ (dcmp a b = 0 ∧ a = b) := by
 have h1 := dcmp_lt a b
 by_cases h : dcmp a b < 0
 ·rw [decide_eq_true h] at h1; exact Or.inl ⟨h, h1.symm⟩
 ·rw [decide_eq_false h] at h1
  right
  have h2 : dlt b a = true ↔ b.ctr < a.ctr ∨ (b.ctr = a.ctr ∧ b.rep < a.rep) := dlt_iff b a
  have h3 : ¬ (a.ctr < b.ctr ∨ (a.ctr = b.ctr ∧ a.rep < b.rep)) := by rw [← dlt_iff, ← h1]; decide
  have hd : dcmp a b = if cmpI a.ctr b.ctr = 0 then (if cmpI a.rep b.rep = 0 then 0 else cmpI a.rep b.rep) else cmpI a.ctr b.ctr := rfl
  rw [hd] at h ⊢
  by_cases h4 : cmpI a.ctr b.ctr = 0
  ·rw [if_pos h4] at h ⊢
   have h5 := (cmpI_zero _ _).1 h4
   by_cases h6 : cmpI a.rep b.rep = 0
   ·have h7 := (cmpI_zero _ _).1 h6
    right
    refine ⟨by rw [if_pos h6], ?_⟩
    obtain ⟨x, y⟩ := a
    obtain ⟨z, t⟩ := b
    simp at h5 h7
    rw [h5, h7]
   ·rw [if_neg h6] at h ⊢
    left
    have h7 : ¬ a.rep = b.rep := fun e => h6 ((cmpI_zero _ _).2 e)
    exact ⟨by omega, h1.symm, h2.2 (by omega)⟩
  ·rw [if_neg h4] at h ⊢
   left
   have h7 : ¬ a.ctr = b.ctr := fun e => h4 ((cmpI_zero _ _).2 e)
   exact ⟨by omega, h1.symm, h2.2 (by omega)⟩
theorem dotUnion1_any (d : DotD) (c B : Nat) (out : List DotD) (ov : Value) (w : World) (hc : w.heap[c]? = some (.cells #[ov] 22)) (hr : EDot.Row B w ov out) (hB : B ≤ w.heap.size) (hcB : c < B) (hl : out.length ≤ 1000000) :
  Calls Tryz.prog 146 #[dotV d, .pointer (some ⟨c, 0, none⟩)] w (KeepPost B c (out ++ [d]) w) := by
 obtain ⟨ao, co, rfl⟩ := hr.slice
 have hcl := lt_of_heap hc
 obtain ⟨W1, hW1⟩ : ∃ W1, W1 = w.alloc (.cells #[.int .i64 d.rep, .int .i64 d.ctr] 39) := ⟨_, rfl⟩
 have hb1 : Below w.heap.size w W1 := by rw [hW1]; exact bal
 have hs1 : W1.heap.size = w.heap.size + 1 := by rw [hW1]; simp
 obtain ⟨W2, hW2⟩ : ∃ W2, W2 = W1.alloc (.cells #[.int .i64 d.rep, .int .i64 d.ctr] 39) := ⟨_, rfl⟩
 have hb12 : Below W1.heap.size W1 W2 := by rw [hW2]; exact bal
 have hb2 := btr hb1 hb12
 have HS : Hid (Enc.Src EDot W2 (.slice (some ⟨w.heap.size + 1, 0, none⟩) 1 1) [d]) := Hd (by rw [hW2, ← hs1]; exact Enc.Src.one_lit W1 39 d)
 have HR := Hd (hr.below hb2)
 have hc2 : W2.heap[c]? = some (.cells #[.slice ao out.length co] 22) := by rw [hb2.block _ hcl]; exact hc
 have HC2 := Hd hc2
 have c0 : w.cell? ⟨c, 0, none⟩ = some (.slice ao out.length co) := cl0 hc 0 rfl
 have HB2 := Hd hb2
 have HW : Hid (W2 = (w.alloc (.cells #[.int .i64 d.rep, .int .i64 d.ctr] 39)).alloc (.cells #[.int .i64 d.rep, .int .i64 d.ctr] 39)) := Hd (by rw [hW2, hW1])
 have hB2 : B ≤ W2.heap.size := Nat.le_trans hB hb2.size
 unfold dotV
 clear hW1 hW2 hb1 hb12 hb2 hc hr hs1 hc2
 go_enter Tryz.func146, Tryz.ntmps146
 go_wp2_with (at_builtin; go_loud (rw [← HW.out]); go_loud (refine wpList_append_row rfl _ _ 22 rfl EDot B (.agg #[.int .i64 0, .int .i64 0]) 16 Tryz.underlying22 infoDot (by decide) (by decide) _ _ rfl HR.out _ _ rfl HS.out (by first | omega | (simp; omega)) hB2 ?_); intro v8 w8 hown8 hgr8; obtain ⟨a8, c8, rfl⟩ := hown8.slice; have j1 : w8.heap[c]? = some (.cells #[.slice ao out.length co] 22) := (by rw [hgr8.block _ (lt_of_heap HC2.out) (fun e => row_ne HR.out HC2.out (by decide) _ e.symm rfl)]; exact HC2.out); have i1 : w8.cell? ⟨c, 0, none⟩ = some (.slice ao out.length co) := (cl0 j1 0 rfl); have i2 : w8.frozen? ⟨c, 0, none⟩ = false := froz0 j1 0; have J1 := Hd j1; have hc8 := hgr8.size; clear j1)
 have hz2 := HB2.out.size
 have hbc : Below c w w8 := (HB2.out.mono (Nat.le_of_lt hcl)).grown hgr8 (by omega) (fun j hj => by have := (HR.out.lt _ hj).1; omega)
 have hlen : (out ++ [d]).length = out.length + 1 := by simp
 have hfin : KeepPost B c (out ++ [d]) w (.returned (.tuple #[])) (w8.setCell ⟨c, 0, none⟩ (.slice a8 (out ++ [d]).length c8)) := by
  refine ⟨rfl, ⟨_, setCell_same J1.out 0 _, hown8.stay (fun k hk => setCell_other (fun e => by have := (hown8.lt k hk).1; omega))⟩, by rw [setCell_size]; omega, fun b hb hbc2 => ?_, hbc.setCell (p := ⟨c, 0, none⟩) (Nat.le_refl _) _⟩
  rw [setCell_other hbc2, hgr8.block b (by omega) (fun e => by have := (HR.out.lt _ e.symm).1; omega), HB2.out.block b (by omega)]
 rw [hlen] at hfin
 go_end0
 exact hfin
def sLen : Value → Nat
 | .slice _ n _ => n
 | _ => 0
theorem arr_head {w : World} {o : Option Addr} {n k : Nat} {x : DotD} {l : List DotD} (h : Arr DotR 2 w (.slice o n k) (x :: l)) : ∃ b off, o = some ⟨b, off, none⟩ ∧ b < w.heap.size ∧ w.cell? ⟨b, off, none⟩ = some (.int .i64 x.rep) ∧ w.cell? ⟨b, off + 1, none⟩ = some (.int .i64 x.ctr) ∧ n = l.length + 1 ∧ 1 ≤ k := by
 obtain ⟨o', c', hv, h2, h3, h4⟩ := h
 injection hv with e1 e2 e3
 subst e1 e2 e3
 obtain ⟨b, off, cs, rfl, hb, _, ⟨rfl, _⟩, hc⟩ := h4 0 (by simp)
 have g0 := hc 0 (by decide)
 have g1 := hc 1 (by decide)
 simp only [Nat.zero_mul, Nat.add_zero] at g0 g1
 exact ⟨b, off, rfl, hb, g0, g1, by simp, by simp at h2; omega⟩
theorem arr_tail {w : World} {b off n k : Nat} {x : DotD} {l : List DotD} (h : Arr DotR 2 w (.slice (some ⟨b, off, none⟩) n k) (x :: l)) : Arr DotR 2 w (.slice (some (if k = 1 then ⟨b, off, none⟩ else ⟨b, off + 2, none⟩)) (n - 1) (k - 1)) l := by
 obtain ⟨o', c', hv, h2, h3, h4⟩ := h
 injection hv with e1 e2 e3
 subst e1 e2 e3
 simp only [List.length_cons] at h2
 refine ⟨some (if k = 1 then ⟨b, off, none⟩ else ⟨b, off + 2, none⟩), k - 1, by simp, by omega, by omega, fun i hi => ?_⟩
 obtain ⟨b', off', cs, he, hb, hl, hr, hc⟩ := h4 (i + 1) (by simpa using hi)
 cases he
 have hk : ¬ k = 1 := by omega
 refine ⟨b, off + 2, cs, by rw [if_neg hk], hb, hl, by simpa using hr, fun j hj => ?_⟩
 rw [← hc j hj]
 congr 2
 omega
/-- The rounds of parts: what is left of both sets, and what has been kept. -/
def PU (c : Nat) (wS : World) (M : List DotD) (v0 v1 : Value) (wr : World) (ra rb out : List DotD) (o0 o1 : Option Addr) (k0 k1 : Nat) : Prop :=
 v0 = .slice o0 ra.length k0 ∧ v1 = .slice o1 rb.length k1 ∧ Arr DotR 2 wS (.slice o0 ra.length k0) ra ∧ Arr DotR 2 wS (.slice o1 rb.length k1) rb ∧ out ++ mergeD ra rb = M ∧ (∃ ov, wr.heap[c]? = some (.cells #[ov] 22) ∧ EDot.Row wS.heap.size wr ov out) ∧ wS.heap.size ≤ wr.heap.size ∧ (∀ b, b < wS.heap.size → b ≠ c → wr.heap[b]? = wS.heap[b]?) ∧ Below c wS wr
theorem PU.drew {c : Nat} {wS : World} {M : List DotD} {v0 v1 : Value} {wr : World} {ra rb out : List DotD} {o0 o1 : Option Addr} {k0 k1 : Nat} (h : PU c wS M v0 v1 wr ra rb out o0 o1 k0 k1) : PU c wS M v0 v1 wr.drew ra rb out o0 o1 k0 k1 := by
 obtain ⟨h1, h2, h3, h4, h5, ⟨ov, h6, h7⟩, h8, h9, h10⟩ := h
 exact ⟨h1, h2, h3, h4, h5, ⟨ov, h6, h7.stay (fun _ _ => rfl)⟩, h8, h9, below_drew1 h10⟩
theorem not_c {w : World} {c b off : Nat} {ov : Value} {n : Int} {T : TypeId} (hc : w.heap[c]? = some (.cells #[ov] T)) (hs : ∃ o n k, ov = .slice o n k) (h : w.cell? ⟨b, off, none⟩ = some (.int .i64 n)) : b ≠ c := by
 intro e
 subst e
 obtain ⟨o, n', k, rfl⟩ := hs
 rw [cell0 hc] at h
 rcases off with _ | off
 ·simp at h
 ·simp at h
theorem dotPartsU_any (a b : List DotD) (v1 v2 : Value) (c : Nat) (w : World) (h1 : Arr DotR 2 w v1 a) (h2 : Arr DotR 2 w v2 b) (hc : w.heap[c]? = some (.cells #[.slice none 0 0] 22)) (n1 : a.length + b.length ≤ 500000) :
  Calls Tryz.prog 147 #[v1, v2, .func (.func 146) #[] #[.pointer (some ⟨c, 0, none⟩)], .func (.func 146) #[] #[.pointer (some ⟨c, 0, none⟩)], .func (.func 146) #[] #[.pointer (some ⟨c, 0, none⟩)]] w fun e w' => e = .returned (.tuple #[]) ∧ (∃ ov, w'.heap[c]? = some (.cells #[ov] 22) ∧ EDot.Row (c + 1) w' ov (setD (a ++ b))) ∧ Below c w w' := by
 have hcl := lt_of_heap hc
 have hDa := h1.dotsI
 have hDb := h2.dotsI
 have HS1 := Hd (dotSet_any a v1 w h1 (by omega))
 have HS2 : Hid (∀ wz, Below w.heap.size w wz → Calls Tryz.prog 68 #[v2] wz fun e w' => ∃ v', e = .returned v' ∧ w'.ownsRow wz.heap.size 39 2 v' (setD b).length (flatD (setD b)) ∧ Below wz.heap.size wz w') := Hd (fun wz hz => dotSet_any b v2 wz (h2.dots hz) (by omega))
 have HDa : Hid (∀ d ∈ setD a, DI d) := Hd (fun d hd => hDa d ((setD_mem a d).1 hd))
 have HDb : Hid (∀ d ∈ setD b, DI d) := Hd (fun d hd => hDb d ((setD_mem b d).1 hd))
 have HMG : Hid (mergeD (setD a) (setD b) = setD (a ++ b)) := Hd (mergeD_setD a b)
 have hla := setD_leL a
 have hlb := setD_leL b
 have HC0 := Hd hc
 obtain ⟨o1, k1, rfl⟩ := h1.slice
 obtain ⟨o2, k2, rfl⟩ := h2.slice
 rw [← HMG.out]
 generalize setD a = SA at *
 generalize setD b = SB at *
 have HLM := Hd (mergeD_len SA SB)
 have eg : ∀ args w, (callFunc 146 args).run Tryz.prog w = .ok (.enter 146 args) w := enters_of Tryz.func146 (by kernel_rfl) rfl
 clear h1 h2 hDa hDb hc HMG
 go_enter Tryz.func147, Tryz.ntmps147
 go_wp2_with fail
 refine HS1.out.mono ?_
 rintro e w2 ⟨v3, rfl, hr2, hb2⟩
 have HB2 := Hd hb2
 have HA2 := Hd (Arr.of_dots hr2 HDa.out)
 clear hb2 hr2 HS1
 go_wp2_with fail
 refine (HS2.out w2 HB2.out).mono ?_
 rintro e wS ⟨v4, rfl, hr3, hb3⟩
 have HA := Hd (HA2.out.dots hb3)
 have HB := Hd (Arr.of_dots hr3 HDb.out)
 have HBS := Hd (btr HB2.out hb3)
 have hcS : wS.heap[c]? = some (.cells #[.slice none 0 0] 22) := by rw [HBS.out.block _ hcl]; exact HC0.out
 have HCS := Hd hcS
 have hNc : c < wS.heap.size := lt_of_heap hcS
 obtain ⟨oa, ka, rfl⟩ := HA.out.slice
 obtain ⟨ob, kb, rfl⟩ := HB.out.slice
 have HPU : Hid (PU c wS (mergeD SA SB) (.slice oa SA.length ka) (.slice ob SB.length kb) wS SA SB [] oa ob ka kb) := Hd ⟨rfl, rfl, HA.out, HB.out, rfl, ⟨_, hcS, Enc.Row.nil _ _⟩, Nat.le_refl _, fun _ _ _ => rfl, brf.mono (Nat.le_of_lt hNc)⟩
 clear hb3 hr3 HS2 HA2 HA HB hcS HB2
 obtain ⟨M, hM0⟩ : ∃ M, M = mergeD SA SB := ⟨_, rfl⟩
 rw [← hM0] at HPU HLM
 have HM0 := Hd hM0
 clear hM0
 go_wp2_with fail
 go_loopw [0, 1] (fun v0 v1 wr => ∃ ra rb out o0 o1 k0 k1, PU c wS M v0 v1 wr ra rb out o0 o1 k0 k1) (fun v0 v1 _ => sLen v0 + sLen v1)
 case atStart => exact ⟨SA, SB, [], oa, ob, ka, kb, HPU.out⟩
 case round =>
  obtain ⟨ra, rb, out, o0, o1', k0, k1', rfl, rfl, hA, hB, hM, ⟨ov, hcr, hrow⟩, hsz, hsame, hbc⟩ := hrel
  have hML : out.length ≤ 500000 := by
   have e1 := congrArg List.length hM
   rw [List.length_append] at e1
   have := HLM.out
   omega
  have HUN : Hid (∀ (d : DotD) (wz : World), Below wr.heap.size wr wz → Calls Tryz.prog 146 #[dotV d, .pointer (some ⟨c, 0, none⟩)] wz (KeepPost wS.heap.size c (out ++ [d]) wz)) := Hd (fun d wz hz => dotUnion1_any d c wS.heap.size out ov wz (by rw [hz.block _ (lt_of_heap hcr)]; exact hcr) (hrow.below hz) (Nat.le_trans hsz hz.size) hNc (by omega))
  unfold dotV at HUN
  have HNX : Hid (∀ (d : DotD) (ra' rb' : List DotD) (o0 o1 : Option Addr) (k0 k1 : Nat) (wz wy : World), Below wr.heap.size wr wz → KeepPost wS.heap.size c (out ++ [d]) wz (.returned (.tuple #[])) wy → Arr DotR 2 wS (.slice o0 ra'.length k0) ra' → Arr DotR 2 wS (.slice o1 rb'.length k1) rb' → d :: mergeD ra' rb' = mergeD ra rb → PU c wS M (.slice o0 ra'.length k0) (.slice o1 rb'.length k1) wy ra' rb' (out ++ [d]) o0 o1 k0 k1) := Hd (fun d ra' rb' o0 o1 k0 k1 wz wy hz hk hA' hB' hm => by
   obtain ⟨-, x1, x2, x3, x4⟩ := hk
   have hzc : Below c wr wz := hz.mono (Nat.le_of_lt (lt_of_heap hcr))
   refine ⟨rfl, rfl, hA', hB', by rw [List.append_assoc, List.singleton_append, hm]; exact hM, x1, by have := hz.size; omega, fun b hb hbc2 => ?_, hbc.trans (hzc.trans x4)⟩
   rw [x3 b hb hbc2, hz.block b (by omega), hsame b hb hbc2])
  have HEND : Hid (mergeD ra rb = [] → (∃ ov, wr.heap[c]? = some (.cells #[ov] 22) ∧ EDot.Row (c + 1) wr ov M) ∧ Below c w wr) := Hd (fun hm => ⟨⟨ov, hcr, by rw [hm, List.append_nil] at hM; rw [← hM]; exact hrow.mono (by omega)⟩, (HBS.out.mono (Nat.le_of_lt hcl)).trans hbc⟩)
  have HSM := Hd hsame
  clear hcr hrow hsame hbc hM HPU
  rcases ra with _ | ⟨x, ra⟩
  ·rcases rb with _ | ⟨y, rb⟩
   ·obtain ⟨f1, f2⟩ := HEND.out (by unfold mergeD; rfl)
    have F1 := Hd f1
    have F2 := Hd f2
    clear f1 f2
    go_wp2_with fail
    go_end0
    rw [← HM0.out]
    exact ⟨rfl, F1.out, F2.out⟩
   ·obtain ⟨b1, f1, rfl, hbl1, e10, e11, hn1, hk1⟩ := arr_head hB
    have htl := arr_tail hB
    rw [show (y :: rb).length - 1 = rb.length by simp] at htl
    have y0 : wr.cell? ⟨b1, f1, none⟩ = some (.int .i64 y.rep) := by rw [cell_block (HSM.out b1 hbl1 (not_c HCS.out ⟨_, _, _, rfl⟩ e10))]; exact e10
    have y1 : wr.cell? ⟨b1, f1 + 1, none⟩ = some (.int .i64 y.ctr) := by rw [cell_block (HSM.out b1 hbl1 (not_c HCS.out ⟨_, _, _, rfl⟩ e10))]; exact e11
    have hmg : y :: mergeD [] rb = mergeD [] (y :: rb) := by unfold mergeD; rfl
    have HMG := Hd hmg
    have HTB1 : Hid (k1' = 1 → Arr DotR 2 wS (.slice (some ⟨b1, f1, none⟩) rb.length 0) rb) := Hd (fun h => by rw [h] at htl; exact htl)
    have HTB2 : Hid (¬ k1' = 1 → Arr DotR 2 wS (.slice (some ⟨b1, f1 + 2, none⟩) rb.length (k1' - 1)) rb) := Hd (fun h => by rw [if_neg h] at htl; exact htl)
    have HB0 := Hd hB
    have HAN := Hd hA
    clear hA hB htl hmg e10 e11
    obtain ⟨n1', hn1'⟩ : ∃ n, n = (y :: rb).length := ⟨_, rfl⟩
    rw [← hn1'] at hn1 ⊢
    have q1 : (0 : Int) < n1' := by omega
    have q1n : 0 < n1' := by omega
    have q2 : ((n1' : Int) == 0) = false := by rw [Bool.eq_false_iff]; simp; omega
    have q3 : (1 : Int) ≤ n1' := by omega
    have q4 : (1 : Int) ≤ k1' := by omega
    have q5 : n1' - 1 = rb.length := by omega
    have q6 : n1' ≤ k1' := by
     obtain ⟨_, _, hv, z, _⟩ := id HB0.out
     injection hv with _ _ z3
     simp only [List.length_cons] at z
     omega
    have hlenE : ([] : List DotD).length = 0 := rfl
    rw [hlenE] at HAN ⊢
    clear hn1' hn1
    go_upto_region 4 with fail
    refine NQ.to ?_
    refine wp_region_held_drew (S := (fun _ => True)) (by kernel_rfl) (trivial) (fun hS => ?_)
    refine tkR (n := 19) [0, 1, 2, 3, 4, 5, 6, 7, 8, 9, 10, 11, 12, 13, 14, 15, 16, 17, 18] rfl (by decide +kernel) hS ?_
    iterate 8 ((try simp only [Act.put, s1, s2, s3, s4, s5, s6]); refine ⟨_, ?_, rfl, Or.inl ⟨by kernel_rfl, fun w hSw => ok_of fun z hz => ?_⟩, ?_⟩; rotate_left; · (go_simp; exact hz))
    iterate 8 ((try simp only [Act.put, s1, s2, s3, s4, s5, s6]); refine ⟨_, undef, rfl, Or.inr ⟨by kernel_rfl, rfl⟩, ?_⟩)
    iterate 3 ((try simp only [Act.put, s1, s2, s3, s4, s5, s6]); refine ⟨_, ?_, rfl, Or.inl ⟨by kernel_rfl, fun w hSw => ok_of fun z hz => ?_⟩, ?_⟩; rotate_left; · (go_simp; exact hz))
    refine RunOK.done ?_
    try simp only [Act.put, s1, s2, s3, s4, s5, s6]
    refine wpAnyH_done (by kernel_rfl) ?_ _
    try simp only [Act.put, s1, s2, s3, s4, s5, s6]
    simp only [NQ]
    go_upto_region 7 with fail
    refine NQ.to ?_
    refine wp_region_held_drew (S := (fun _ => True)) (by kernel_rfl) (trivial) (fun hS => ?_)
    refine tkR (n := 14) [0, 1, 2, 3, 4, 5, 6, 7, 8, 9, 10, 11, 12, 13] rfl (by decide +kernel) hS ?_
    iterate 4 ((try simp only [Act.put, s1, s2, s3, s4, s5, s6]); refine ⟨_, ?_, rfl, Or.inl ⟨by kernel_rfl, fun w hSw => ok_of fun z hz => ?_⟩, ?_⟩; rotate_left; · (go_simp; exact hz))
    iterate 8 ((try simp only [Act.put, s1, s2, s3, s4, s5, s6]); refine ⟨_, undef, rfl, Or.inr ⟨by kernel_rfl, rfl⟩, ?_⟩)
    iterate 2 ((try simp only [Act.put, s1, s2, s3, s4, s5, s6]); refine ⟨_, ?_, rfl, Or.inl ⟨by kernel_rfl, fun w hSw => ok_of fun z hz => ?_⟩, ?_⟩; rotate_left; · (go_simp; exact hz))
    refine RunOK.done ?_
    try simp only [Act.put, s1, s2, s3, s4, s5, s6]
    refine wpAnyH_done (by kernel_rfl) ?_ _
    try simp only [Act.put, s1, s2, s3, s4, s5, s6]
    simp only [NQ]
    by_cases hkbc : k1' = 1
    ·have hT := HTB1.out hkbc
     have HTb := Hd hT
     clear hT
     subst hkbc
     go_wp2_with (go_at_fn 146; refine (HUN.out y _ (below_drew1 bdr)).mono ?_; rintro e w5 ⟨rfl, hk5⟩)
     have hPU := HNX.out y [] rb _ _ _ _ _ _ (below_drew1 bdr) ⟨rfl, hk5⟩ HAN.out HTb.out HMG.out
     skip
     exact ⟨⟨_, _, _, _, _, _, _, hPU⟩, by simp [sLen]; omega⟩
    ·have HTb := Hd (HTB2.out hkbc)
     go_wp2_with (go_at_fn 146; refine (HUN.out y _ (below_drew1 bdr)).mono ?_; rintro e w5 ⟨rfl, hk5⟩)
     have hPU := HNX.out y [] rb _ _ _ _ _ _ (below_drew1 bdr) ⟨rfl, hk5⟩ HAN.out HTb.out HMG.out
     skip
     exact ⟨⟨_, _, _, _, _, _, _, hPU⟩, by simp [sLen]; omega⟩
  ·obtain ⟨b0, f0, rfl, hbl0, e00, e01, hn0, hk0⟩ := arr_head hA
   have htl0 := arr_tail hA
   rw [show (x :: ra).length - 1 = ra.length by simp] at htl0
   have x0 : wr.cell? ⟨b0, f0, none⟩ = some (.int .i64 x.rep) := by rw [cell_block (HSM.out b0 hbl0 (not_c HCS.out ⟨_, _, _, rfl⟩ e00))]; exact e00
   have x1 : wr.cell? ⟨b0, f0 + 1, none⟩ = some (.int .i64 x.ctr) := by rw [cell_block (HSM.out b0 hbl0 (not_c HCS.out ⟨_, _, _, rfl⟩ e00))]; exact e01
   have hx0r : b0 < wr.heap.size := Nat.lt_of_lt_of_le hbl0 hsz
   have HTA1 : Hid (k0 = 1 → Arr DotR 2 wS (.slice (some ⟨b0, f0, none⟩) ra.length 0) ra) := Hd (fun h => by rw [h] at htl0; exact htl0)
   have HTA2 : Hid (¬ k0 = 1 → Arr DotR 2 wS (.slice (some ⟨b0, f0 + 2, none⟩) ra.length (k0 - 1)) ra) := Hd (fun h => by rw [if_neg h] at htl0; exact htl0)
   obtain ⟨n0', hn0'⟩ : ∃ n, n = (x :: ra).length := ⟨_, rfl⟩
   have r1 : (0 : Int) < n0' := by omega
   have r1n : 0 < n0' := by omega
   have r2 : ((n0' : Int) == 0) = false := by rw [Bool.eq_false_iff]; simp; omega
   have r3 : (1 : Int) ≤ n0' := by omega
   have r4 : (1 : Int) ≤ k0 := by omega
   have r5 : n0' - 1 = ra.length := by omega
   have r6 : n0' ≤ k0 := by
    obtain ⟨_, _, hv, z, _⟩ := id hA
    injection hv with _ _ z3
    omega
   have HAX := Hd hA
   have HN0 := Hd hn0'
   clear hA htl0 e00 e01 hn0
   rcases rb with _ | ⟨y, rb⟩
   ·have hmg : x :: mergeD ra [] = mergeD (x :: ra) [] := by rw [mergeD_nil, mergeD_nil]
    have HMG := Hd hmg
    have HBN := Hd hB
    rw [show ([] : List DotD).length = 0 from rfl] at HBN ⊢
    rw [← hn0']
    clear hB hmg hn0'
    go_upto_region 4 with fail
    refine NQ.to ?_
    refine wp_region_held_drew (S := (fun _ => True)) (by kernel_rfl) (trivial) (fun hS => ?_)
    refine tkR (n := 19) [0, 1, 2, 3, 4, 5, 6, 7, 8, 9, 10, 11, 12, 13, 14, 15, 16, 17, 18] rfl (by decide +kernel) hS ?_
    iterate 4 ((try simp only [Act.put, s1, s2, s3, s4, s5, s6]); refine ⟨_, ?_, rfl, Or.inl ⟨by kernel_rfl, fun w hSw => ok_of fun z hz => ?_⟩, ?_⟩; rotate_left; · (go_simp; exact hz))
    iterate 13 ((try simp only [Act.put, s1, s2, s3, s4, s5, s6]); refine ⟨_, undef, rfl, Or.inr ⟨by kernel_rfl, rfl⟩, ?_⟩)
    iterate 2 ((try simp only [Act.put, s1, s2, s3, s4, s5, s6]); refine ⟨_, ?_, rfl, Or.inl ⟨by kernel_rfl, fun w hSw => ok_of fun z hz => ?_⟩, ?_⟩; rotate_left; · (go_simp; exact hz))
    refine RunOK.done ?_
    try simp only [Act.put, s1, s2, s3, s4, s5, s6]
    refine wpAnyH_done (by kernel_rfl) ?_ _
    try simp only [Act.put, s1, s2, s3, s4, s5, s6]
    simp only [NQ]
    by_cases hkac : k0 = 1
    ·have hT := HTA1.out hkac
     have HTa := Hd hT
     clear hT
     subst hkac
     go_wp2_with (go_at_fn 146; refine (HUN.out x _ bdr).mono ?_; rintro e w5 ⟨rfl, hk5⟩)
     have hPU := HNX.out x ra [] _ _ _ _ _ _ bdr ⟨rfl, hk5⟩ HTa.out HBN.out HMG.out
     skip
     exact ⟨⟨_, _, _, _, _, _, _, hPU⟩, by simp [sLen]; omega⟩
    ·have HTa := Hd (HTA2.out hkac)
     go_wp2_with (go_at_fn 146; refine (HUN.out x _ bdr).mono ?_; rintro e w5 ⟨rfl, hk5⟩)
     have hPU := HNX.out x ra [] _ _ _ _ _ _ bdr ⟨rfl, hk5⟩ HTa.out HBN.out HMG.out
     skip
     exact ⟨⟨_, _, _, _, _, _, _, hPU⟩, by simp [sLen]; omega⟩
   ·obtain ⟨b1, f1, rfl, hbl1, e10, e11, hn1, hk1⟩ := arr_head hB
    have htl := arr_tail hB
    rw [show (y :: rb).length - 1 = rb.length by simp] at htl
    have y0 : wr.cell? ⟨b1, f1, none⟩ = some (.int .i64 y.rep) := by rw [cell_block (HSM.out b1 hbl1 (not_c HCS.out ⟨_, _, _, rfl⟩ e10))]; exact e10
    have y1 : wr.cell? ⟨b1, f1 + 1, none⟩ = some (.int .i64 y.ctr) := by rw [cell_block (HSM.out b1 hbl1 (not_c HCS.out ⟨_, _, _, rfl⟩ e10))]; exact e11
    have hy0r : b1 < wr.heap.size := Nat.lt_of_lt_of_le hbl1 hsz
    have HTB1 : Hid (k1' = 1 → Arr DotR 2 wS (.slice (some ⟨b1, f1, none⟩) rb.length 0) rb) := Hd (fun h => by rw [h] at htl; exact htl)
    have HTB2 : Hid (¬ k1' = 1 → Arr DotR 2 wS (.slice (some ⟨b1, f1 + 2, none⟩) rb.length (k1' - 1)) rb) := Hd (fun h => by rw [if_neg h] at htl; exact htl)
    obtain ⟨n1', hn1'⟩ : ∃ n, n = (y :: rb).length := ⟨_, rfl⟩
    have HBX := Hd hB
    have HN1 := Hd hn1'
    rw [← hn1'] at hn1
    have q1 : (0 : Int) < n1' := by omega
    have q1n : 0 < n1' := by omega
    have q2 : ((n1' : Int) == 0) = false := by rw [Bool.eq_false_iff]; simp; omega
    have q3 : (1 : Int) ≤ n1' := by omega
    have q4 : (1 : Int) ≤ k1' := by omega
    have q5 : n1' - 1 = rb.length := by omega
    have q6 : n1' ≤ k1' := by
     obtain ⟨_, _, hv, z, _⟩ := id hB
     injection hv with _ _ z3
     omega
    have HC : Hid (∀ wz, Below wr.heap.size wr wz → (wz.cell? ⟨b0, f0, none⟩ = some (.int .i64 x.rep) ∧ wz.cell? ⟨b0, f0 + 1, none⟩ = some (.int .i64 x.ctr)) ∧ wz.cell? ⟨b1, f1, none⟩ = some (.int .i64 y.rep) ∧ wz.cell? ⟨b1, f1 + 1, none⟩ = some (.int .i64 y.ctr)) := Hd (fun wz hz => ⟨⟨by rw [hz.cell (p := ⟨_, _, _⟩) hx0r]; exact x0, by rw [hz.cell (p := ⟨_, _, _⟩) hx0r]; exact x1⟩, by rw [hz.cell (p := ⟨_, _, _⟩) hy0r]; exact y0, by rw [hz.cell (p := ⟨_, _, _⟩) hy0r]; exact y1⟩)
    have HCM := Hd (fun wz => dotCompare_any x y wz)
    unfold dotV at HCM
    have HTRI := Hd (dcmp_tri x y)
    have hlx : (x :: ra).length = n0' := hn0'.symm
    rw [hlx, ← hn1']
    clear hB htl e10 e11 hn1 hn1' hn0' hlx
    generalize dcmp x y = n at *
    rcases HTRI.out with ⟨t3, hd⟩ | ⟨t3, hd1, hd2⟩ | ⟨t3, hd⟩
    ·have HMG : Hid (x :: mergeD ra (y :: rb) = mergeD (x :: ra) (y :: rb)) := Hd (by conv => rhs; unfold mergeD; rw [if_pos hd])
     have t3b : decide (n < 0) = true := decide_eq_true t3
     clear hd x0 x1 y0 y1
     go_upto_region 4 with fail
     refine NQ.to ?_
     refine wp_region_held_drew (S := (fun wz => (wz.cell? ⟨b0, f0, none⟩ = some (.int .i64 x.rep) ∧ wz.cell? ⟨b0, f0 + 1, none⟩ = some (.int .i64 x.ctr)) ∧ wz.cell? ⟨b1, f1, none⟩ = some (.int .i64 y.rep) ∧ wz.cell? ⟨b1, f1 + 1, none⟩ = some (.int .i64 y.ctr))) (by kernel_rfl) (HC.out _ bdr) (fun hS => ?_)
     refine tkR (n := 14) [0, 1, 2, 3, 4, 5, 6, 7, 8, 9, 10, 11, 12, 13] rfl (by decide +kernel) hS ?_
     iterate 14 ((try simp only [Act.put, s1, s2, s3, s4, s5, s6]); refine ⟨_, ?_, rfl, Or.inl ⟨by kernel_rfl, fun w hSw => ok_of fun z hz => ?_⟩, ?_⟩; rotate_left; · (obtain ⟨⟨f1, f2⟩, f3, f4⟩ := hSw; go_simp; exact hz))
     refine RunOK.done ?_
     try simp only [Act.put, s1, s2, s3, s4, s5, s6]
     refine rd1 14 (by decide +kernel) rfl (fun K hK => ?_)
     go_simp
     go_at_call 100
     refine (HCM.out _).mono ?_
     rintro e wc4 ⟨rfl, hgr4⟩
     have hb4 := hgr4.below
     go_simp
     refine Shut.out hK _ _ (HC.out wc4 (below_drew1 brf |>.trans hb4)) (fun hS2 => ?_); clear hK K hS; have hS := hS2; clear hS2
     refine tkR (n := 4) [15, 16, 17, 18] rfl (by decide +kernel) hS ?_
     iterate 4 ((try simp only [Act.put, s1, s2, s3, s4, s5, s6]); refine ⟨_, ?_, rfl, Or.inl ⟨by kernel_rfl, fun w hSw => ok_of fun z hz => ?_⟩, ?_⟩; rotate_left; · (go_simp; exact hz))
     refine RunOK.done ?_
     try simp only [Act.put, s1, s2, s3, s4, s5, s6]
     refine wpAnyH_done (by kernel_rfl) ?_ _
     try simp only [Act.put, s1, s2, s3, s4, s5, s6]
     simp only [NQ]
     have hb4' : Below wr.heap.size wr wc4 := bdr.trans hb4
     clear hgr4 hb4
     obtain ⟨⟨z0, z1⟩, -, -⟩ := HC.out wc4 hb4'
     by_cases hkac : k0 = 1
     ·have hT := HTA1.out hkac
      have HTa := Hd hT
      clear hT
      subst hkac
      go_wp2_with (go_at_fn 146; refine (HUN.out x _ hb4').mono ?_; rintro e w5 ⟨rfl, hk5⟩)
      have hPU := HNX.out x ra (y :: rb) _ _ _ _ _ _ hb4' ⟨rfl, hk5⟩ HTa.out HBX.out HMG.out
      rw [← HN1.out] at hPU
      exact ⟨⟨_, _, _, _, _, _, _, hPU⟩, by simp [sLen]; omega⟩
     ·have HTa := Hd (HTA2.out hkac)
      go_wp2_with (go_at_fn 146; refine (HUN.out x _ hb4').mono ?_; rintro e w5 ⟨rfl, hk5⟩)
      have hPU := HNX.out x ra (y :: rb) _ _ _ _ _ _ hb4' ⟨rfl, hk5⟩ HTa.out HBX.out HMG.out
      rw [← HN1.out] at hPU
      exact ⟨⟨_, _, _, _, _, _, _, hPU⟩, by simp [sLen]; omega⟩
    ·have HMG : Hid (y :: mergeD (x :: ra) rb = mergeD (x :: ra) (y :: rb)) := Hd (by conv => rhs; unfold mergeD; rw [if_neg (by rw [hd1]; decide), if_pos hd2])
     have t3b : decide (n < 0) = false := decide_eq_false (by omega)
     have t3c : decide (0 < n) = true := decide_eq_true t3
     clear hd1 hd2 x0 x1 y0 y1
     go_upto_region 4 with fail
     refine NQ.to ?_
     refine wp_region_held_drew (S := (fun wz => (wz.cell? ⟨b0, f0, none⟩ = some (.int .i64 x.rep) ∧ wz.cell? ⟨b0, f0 + 1, none⟩ = some (.int .i64 x.ctr)) ∧ wz.cell? ⟨b1, f1, none⟩ = some (.int .i64 y.rep) ∧ wz.cell? ⟨b1, f1 + 1, none⟩ = some (.int .i64 y.ctr))) (by kernel_rfl) (HC.out _ bdr) (fun hS => ?_)
     refine tkR (n := 14) [0, 1, 2, 3, 4, 5, 6, 7, 8, 9, 10, 11, 12, 13] rfl (by decide +kernel) hS ?_
     iterate 14 ((try simp only [Act.put, s1, s2, s3, s4, s5, s6]); refine ⟨_, ?_, rfl, Or.inl ⟨by kernel_rfl, fun w hSw => ok_of fun z hz => ?_⟩, ?_⟩; rotate_left; · (obtain ⟨⟨f1, f2⟩, f3, f4⟩ := hSw; go_simp; exact hz))
     refine RunOK.done ?_
     try simp only [Act.put, s1, s2, s3, s4, s5, s6]
     refine rd1 14 (by decide +kernel) rfl (fun K hK => ?_)
     go_simp
     go_at_call 100
     refine (HCM.out _).mono ?_
     rintro e wc4 ⟨rfl, hgr4⟩
     have hb4 := hgr4.below
     go_simp
     refine Shut.out hK _ _ (HC.out wc4 (below_drew1 brf |>.trans hb4)) (fun hS2 => ?_); clear hK K hS; have hS := hS2; clear hS2
     refine tkR (n := 4) [15, 16, 17, 18] rfl (by decide +kernel) hS ?_
     iterate 4 ((try simp only [Act.put, s1, s2, s3, s4, s5, s6]); refine ⟨_, ?_, rfl, Or.inl ⟨by kernel_rfl, fun w hSw => ok_of fun z hz => ?_⟩, ?_⟩; rotate_left; · (go_simp; exact hz))
     refine RunOK.done ?_
     try simp only [Act.put, s1, s2, s3, s4, s5, s6]
     refine wpAnyH_done (by kernel_rfl) ?_ _
     try simp only [Act.put, s1, s2, s3, s4, s5, s6]
     simp only [NQ]
     have hb4' : Below wr.heap.size wr wc4 := bdr.trans hb4
     clear hgr4 hb4
     go_upto_region 7 with fail
     refine NQ.to ?_
     refine wp_region_held_drew (S := (fun wz => (wz.cell? ⟨b0, f0, none⟩ = some (.int .i64 x.rep) ∧ wz.cell? ⟨b0, f0 + 1, none⟩ = some (.int .i64 x.ctr)) ∧ wz.cell? ⟨b1, f1, none⟩ = some (.int .i64 y.rep) ∧ wz.cell? ⟨b1, f1 + 1, none⟩ = some (.int .i64 y.ctr))) (by kernel_rfl) (HC.out _ (below_drew1 hb4')) (fun hS => ?_)
     refine tkR (n := 10) [0, 1, 2, 3, 4, 5, 6, 7, 8, 9] rfl (by decide +kernel) hS ?_
     iterate 10 ((try simp only [Act.put, s1, s2, s3, s4, s5, s6]); refine ⟨_, ?_, rfl, Or.inl ⟨by kernel_rfl, fun w hSw => ok_of fun z hz => ?_⟩, ?_⟩; rotate_left; · (obtain ⟨⟨f1, f2⟩, f3, f4⟩ := hSw; go_simp; exact hz))
     refine RunOK.done ?_
     try simp only [Act.put, s1, s2, s3, s4, s5, s6]
     refine rd1 10 (by decide +kernel) rfl (fun K hK => ?_)
     go_simp
     go_at_call 100
     refine (HCM.out _).mono ?_
     rintro e wc7 ⟨rfl, hgr7⟩
     have hb7 := hgr7.below
     go_simp
     refine Shut.out hK _ _ (HC.out wc7 (below_drew1 hb4' |>.trans (hb7.mono (below_drew1 hb4').size))) (fun hS2 => ?_); clear hK K hS; have hS := hS2; clear hS2
     refine tkR (n := 3) [11, 12, 13] rfl (by decide +kernel) hS ?_
     iterate 3 ((try simp only [Act.put, s1, s2, s3, s4, s5, s6]); refine ⟨_, ?_, rfl, Or.inl ⟨by kernel_rfl, fun w hSw => ok_of fun z hz => ?_⟩, ?_⟩; rotate_left; · (go_simp; exact hz))
     refine RunOK.done ?_
     try simp only [Act.put, s1, s2, s3, s4, s5, s6]
     refine wpAnyH_done (by kernel_rfl) ?_ _
     try simp only [Act.put, s1, s2, s3, s4, s5, s6]
     simp only [NQ]
     have hb7' : Below wr.heap.size wr wc7 := (below_drew1 hb4').trans (hb7.mono (below_drew1 hb4').size)
     clear hgr7 hb7 hb4'
     obtain ⟨-, z0, z1⟩ := HC.out wc7 hb7'
     by_cases hkbc : k1' = 1
     ·have hT := HTB1.out hkbc
      have HTb := Hd hT
      clear hT
      subst hkbc
      go_wp2_with (go_at_fn 146; refine (HUN.out y _ hb7').mono ?_; rintro e w5 ⟨rfl, hk5⟩)
      have hPU := HNX.out y (x :: ra) rb _ _ _ _ _ _ hb7' ⟨rfl, hk5⟩ HAX.out HTb.out HMG.out
      rw [← HN0.out] at hPU
      exact ⟨⟨_, _, _, _, _, _, _, hPU⟩, by simp [sLen]; omega⟩
     ·have HTb := Hd (HTB2.out hkbc)
      go_wp2_with (go_at_fn 146; refine (HUN.out y _ hb7').mono ?_; rintro e w5 ⟨rfl, hk5⟩)
      have hPU := HNX.out y (x :: ra) rb _ _ _ _ _ _ hb7' ⟨rfl, hk5⟩ HAX.out HTb.out HMG.out
      rw [← HN0.out] at hPU
      exact ⟨⟨_, _, _, _, _, _, _, hPU⟩, by simp [sLen]; omega⟩
    ·have HMG : Hid (x :: mergeD ra rb = mergeD (x :: ra) (y :: rb)) := Hd (by subst hd; conv => rhs; unfold mergeD; rw [if_neg (by rw [dlt_irrefl]; decide), if_neg (by rw [dlt_irrefl]; decide)])
     subst t3
     clear x0 x1 y0 y1 hd
     go_upto_region 4 with fail
     refine NQ.to ?_
     refine wp_region_held_drew (S := (fun wz => (wz.cell? ⟨b0, f0, none⟩ = some (.int .i64 x.rep) ∧ wz.cell? ⟨b0, f0 + 1, none⟩ = some (.int .i64 x.ctr)) ∧ wz.cell? ⟨b1, f1, none⟩ = some (.int .i64 y.rep) ∧ wz.cell? ⟨b1, f1 + 1, none⟩ = some (.int .i64 y.ctr))) (by kernel_rfl) (HC.out _ bdr) (fun hS => ?_)
     refine tkR (n := 14) [0, 1, 2, 3, 4, 5, 6, 7, 8, 9, 10, 11, 12, 13] rfl (by decide +kernel) hS ?_
     iterate 14 ((try simp only [Act.put, s1, s2, s3, s4, s5, s6]); refine ⟨_, ?_, rfl, Or.inl ⟨by kernel_rfl, fun w hSw => ok_of fun z hz => ?_⟩, ?_⟩; rotate_left; · (obtain ⟨⟨f1, f2⟩, f3, f4⟩ := hSw; go_simp; exact hz))
     refine RunOK.done ?_
     try simp only [Act.put, s1, s2, s3, s4, s5, s6]
     refine rd1 14 (by decide +kernel) rfl (fun K hK => ?_)
     go_simp
     go_at_call 100
     refine (HCM.out _).mono ?_
     rintro e wc4 ⟨rfl, hgr4⟩
     have hb4 := hgr4.below
     go_simp
     refine Shut.out hK _ _ (HC.out wc4 (below_drew1 brf |>.trans hb4)) (fun hS2 => ?_); clear hK K hS; have hS := hS2; clear hS2
     refine tkR (n := 4) [15, 16, 17, 18] rfl (by decide +kernel) hS ?_
     iterate 4 ((try simp only [Act.put, s1, s2, s3, s4, s5, s6]); refine ⟨_, ?_, rfl, Or.inl ⟨by kernel_rfl, fun w hSw => ok_of fun z hz => ?_⟩, ?_⟩; rotate_left; · (go_simp; exact hz))
     refine RunOK.done ?_
     try simp only [Act.put, s1, s2, s3, s4, s5, s6]
     refine wpAnyH_done (by kernel_rfl) ?_ _
     try simp only [Act.put, s1, s2, s3, s4, s5, s6]
     simp only [NQ]
     have hb4' : Below wr.heap.size wr wc4 := bdr.trans hb4
     clear hgr4 hb4
     go_upto_region 7 with fail
     refine NQ.to ?_
     refine wp_region_held_drew (S := (fun wz => (wz.cell? ⟨b0, f0, none⟩ = some (.int .i64 x.rep) ∧ wz.cell? ⟨b0, f0 + 1, none⟩ = some (.int .i64 x.ctr)) ∧ wz.cell? ⟨b1, f1, none⟩ = some (.int .i64 y.rep) ∧ wz.cell? ⟨b1, f1 + 1, none⟩ = some (.int .i64 y.ctr))) (by kernel_rfl) (HC.out _ (below_drew1 hb4')) (fun hS => ?_)
     refine tkR (n := 10) [0, 1, 2, 3, 4, 5, 6, 7, 8, 9] rfl (by decide +kernel) hS ?_
     iterate 10 ((try simp only [Act.put, s1, s2, s3, s4, s5, s6]); refine ⟨_, ?_, rfl, Or.inl ⟨by kernel_rfl, fun w hSw => ok_of fun z hz => ?_⟩, ?_⟩; rotate_left; · (obtain ⟨⟨f1, f2⟩, f3, f4⟩ := hSw; go_simp; exact hz))
     refine RunOK.done ?_
     try simp only [Act.put, s1, s2, s3, s4, s5, s6]
     refine rd1 10 (by decide +kernel) rfl (fun K hK => ?_)
     go_simp
     go_at_call 100
     refine (HCM.out _).mono ?_
     rintro e wc7 ⟨rfl, hgr7⟩
     have hb7 := hgr7.below
     go_simp
     refine Shut.out hK _ _ (HC.out wc7 (below_drew1 hb4' |>.trans (hb7.mono (below_drew1 hb4').size))) (fun hS2 => ?_); clear hK K hS; have hS := hS2; clear hS2
     refine tkR (n := 3) [11, 12, 13] rfl (by decide +kernel) hS ?_
     iterate 3 ((try simp only [Act.put, s1, s2, s3, s4, s5, s6]); refine ⟨_, ?_, rfl, Or.inl ⟨by kernel_rfl, fun w hSw => ok_of fun z hz => ?_⟩, ?_⟩; rotate_left; · (go_simp; exact hz))
     refine RunOK.done ?_
     try simp only [Act.put, s1, s2, s3, s4, s5, s6]
     refine wpAnyH_done (by kernel_rfl) ?_ _
     try simp only [Act.put, s1, s2, s3, s4, s5, s6]
     simp only [NQ]
     have hb7' : Below wr.heap.size wr wc7 := (below_drew1 hb4').trans (hb7.mono (below_drew1 hb4').size)
     clear hgr7 hb7 hb4'
     obtain ⟨⟨z0, z1⟩, -, -⟩ := HC.out wc7 hb7'
     by_cases hkac : k0 = 1
     ·have hT := HTA1.out hkac
      have HTa := Hd hT
      clear hT
      subst hkac
      by_cases hkbc : k1' = 1
      ·have hT := HTB1.out hkbc
       have HTb := Hd hT
       clear hT
       subst hkbc
       go_upto_region 3 with (go_at_fn 146; refine (HUN.out x _ hb7').mono ?_; rintro e w5 ⟨rfl, hk5⟩)
       refine NQ.to ?_
       refine wp_region_held_drew (S := (fun _ => True)) (by kernel_rfl) (trivial) (fun hS => ?_)
       refine tkR (n := 6) [0, 1, 2, 3, 4, 5] rfl (by decide +kernel) hS ?_
       iterate 6 ((try simp only [Act.put, s1, s2, s3, s4, s5, s6]); refine ⟨_, ?_, rfl, Or.inl ⟨by kernel_rfl, fun w hSw => ok_of fun z hz => ?_⟩, ?_⟩; rotate_left; · (go_simp; exact hz))
       refine RunOK.done ?_
       try simp only [Act.put, s1, s2, s3, s4, s5, s6]
       refine wpAnyH_done (by kernel_rfl) ?_ _
       try simp only [Act.put, s1, s2, s3, s4, s5, s6]
       simp only [NQ]
       go_wp2_with fail
       have hPU := HNX.out x ra rb _ _ _ _ _ _ hb7' ⟨rfl, hk5⟩ HTa.out HTb.out HMG.out
       skip
       exact ⟨⟨_, _, _, _, _, _, _, hPU.drew⟩, by simp [sLen]; omega⟩
      ·have HTb := Hd (HTB2.out hkbc)
       go_upto_region 3 with (go_at_fn 146; refine (HUN.out x _ hb7').mono ?_; rintro e w5 ⟨rfl, hk5⟩)
       refine NQ.to ?_
       refine wp_region_held_drew (S := (fun _ => True)) (by kernel_rfl) (trivial) (fun hS => ?_)
       refine tkR (n := 6) [0, 1, 2, 3, 4, 5] rfl (by decide +kernel) hS ?_
       iterate 6 ((try simp only [Act.put, s1, s2, s3, s4, s5, s6]); refine ⟨_, ?_, rfl, Or.inl ⟨by kernel_rfl, fun w hSw => ok_of fun z hz => ?_⟩, ?_⟩; rotate_left; · (go_simp; exact hz))
       refine RunOK.done ?_
       try simp only [Act.put, s1, s2, s3, s4, s5, s6]
       refine wpAnyH_done (by kernel_rfl) ?_ _
       try simp only [Act.put, s1, s2, s3, s4, s5, s6]
       simp only [NQ]
       go_wp2_with fail
       have hPU := HNX.out x ra rb _ _ _ _ _ _ hb7' ⟨rfl, hk5⟩ HTa.out HTb.out HMG.out
       skip
       exact ⟨⟨_, _, _, _, _, _, _, hPU.drew⟩, by simp [sLen]; omega⟩
     ·have HTa := Hd (HTA2.out hkac)
      by_cases hkbc : k1' = 1
      ·have hT := HTB1.out hkbc
       have HTb := Hd hT
       clear hT
       subst hkbc
       go_upto_region 3 with (go_at_fn 146; refine (HUN.out x _ hb7').mono ?_; rintro e w5 ⟨rfl, hk5⟩)
       refine NQ.to ?_
       refine wp_region_held_drew (S := (fun _ => True)) (by kernel_rfl) (trivial) (fun hS => ?_)
       refine tkR (n := 6) [0, 1, 2, 3, 4, 5] rfl (by decide +kernel) hS ?_
       iterate 6 ((try simp only [Act.put, s1, s2, s3, s4, s5, s6]); refine ⟨_, ?_, rfl, Or.inl ⟨by kernel_rfl, fun w hSw => ok_of fun z hz => ?_⟩, ?_⟩; rotate_left; · (go_simp; exact hz))
       refine RunOK.done ?_
       try simp only [Act.put, s1, s2, s3, s4, s5, s6]
       refine wpAnyH_done (by kernel_rfl) ?_ _
       try simp only [Act.put, s1, s2, s3, s4, s5, s6]
       simp only [NQ]
       go_wp2_with fail
       have hPU := HNX.out x ra rb _ _ _ _ _ _ hb7' ⟨rfl, hk5⟩ HTa.out HTb.out HMG.out
       skip
       exact ⟨⟨_, _, _, _, _, _, _, hPU.drew⟩, by simp [sLen]; omega⟩
      ·have HTb := Hd (HTB2.out hkbc)
       go_upto_region 3 with (go_at_fn 146; refine (HUN.out x _ hb7').mono ?_; rintro e w5 ⟨rfl, hk5⟩)
       refine NQ.to ?_
       refine wp_region_held_drew (S := (fun _ => True)) (by kernel_rfl) (trivial) (fun hS => ?_)
       refine tkR (n := 6) [0, 1, 2, 3, 4, 5] rfl (by decide +kernel) hS ?_
       iterate 6 ((try simp only [Act.put, s1, s2, s3, s4, s5, s6]); refine ⟨_, ?_, rfl, Or.inl ⟨by kernel_rfl, fun w hSw => ok_of fun z hz => ?_⟩, ?_⟩; rotate_left; · (go_simp; exact hz))
       refine RunOK.done ?_
       try simp only [Act.put, s1, s2, s3, s4, s5, s6]
       refine wpAnyH_done (by kernel_rfl) ?_ _
       try simp only [Act.put, s1, s2, s3, s4, s5, s6]
       simp only [NQ]
       go_wp2_with fail
       have hPU := HNX.out x ra rb _ _ _ _ _ _ hb7' ⟨rfl, hk5⟩ HTa.out HTb.out HMG.out
       skip
       exact ⟨⟨_, _, _, _, _, _, _, hPU.drew⟩, by simp [sLen]; omega⟩
end Go.Proofs.YtjoljfnlkddfbaaGreatDoor
namespace Go.Proofs.YtjoljfnlkddfbaaGreatDoor
open Go.RowKit Go.Maps Go.Sort Go.Shelf

theorem dotUnion_any (a b : List DotD) (v1 v2 : Value) (w : World) (h1 : Arr DotR 2 w v1 a) (h2 : Arr DotR 2 w v2 b) (n1 : a.length + b.length ≤ 500000) : Calls Tryz.prog 95 #[v1, v2] w fun e w' => ∃ v', e = .returned v' ∧ EDot.Row w.heap.size w' v' (setD (a ++ b)) ∧ Below w.heap.size w w' := by
 obtain ⟨o1, k1, rfl⟩ := h1.slice
 obtain ⟨o2, k2, rfl⟩ := h2.slice
 obtain ⟨W1, hW1⟩ : ∃ W1, W1 = w.alloc (.cells #[.slice none 0 0] 22) := ⟨_, rfl⟩
 have hb1 : Below w.heap.size w W1 := by rw [hW1]; exact bal
 have hx1 : W1.heap[w.heap.size]? = some (.cells #[.slice none 0 0] 22) := by rw [hW1]; exact alloc_new _ _
 have HP := Hd (dotPartsU_any a b _ _ w.heap.size W1 (h1.dots hb1) (h2.dots hb1) hx1 n1)
 have HW := Hd hW1
 have HB1 := Hd hb1
 generalize setD (a ++ b) = M at *
 clear h1 h2 hb1 hx1 hW1
 go_enter Tryz.func95, Tryz.ntmps95
 go_wp2_with fail
 rw [← HW.out]
 refine HP.out.mono ?_
 rintro e w2 ⟨rfl, ⟨ov, hc2, hrow⟩, hb2⟩
 obtain ⟨ao, co, rfl⟩ := hrow.slice
 have d0 : w2.cell? ⟨w.heap.size, 0, none⟩ = some (.slice ao M.length co) := cl0 hc2 0 rfl
 have f0 : w2.frozen? ⟨w.heap.size, 0, none⟩ = false := froz0 hc2 0
 have HR : Hid (EDot.Row w.heap.size (w2.setCell ⟨w.heap.size, 0, none⟩ (.slice ao M.length co)) (.slice ao M.length co) M) := Hd ((hrow.mono (Nat.le_succ _)).stay (fun k hk => setCell_other (fun e => by have := (hrow.lt k hk).1; omega)))
 have HB := Hd ((HB1.out.trans hb2).setCell (p := ⟨w.heap.size, 0, none⟩) (Nat.le_refl _) (.slice ao M.length co))
 clear hc2 hrow hb2
 go_wp2_with fail
 (try simp only [Exit.inBlock, Exit.then])
 refine bodyPost_ret (v := .slice ao M.length co) ?_ rfl ⟨_, rfl, HR.out, HB.out⟩
 rw [results_cell_one rfl]
 go_simp
theorem unionV_lenL (a b : List DotD) : (unionV a b).length ≤ a.length + b.length := by
 unfold unionV madeV
 have := foldl_raise_len (a ++ b) []
 rw [List.length_append] at this
 simp only [List.length_nil, Nat.zero_add] at this
 exact this
theorem unionV_DI {a b : List DotD} (ha : validV a = true) (hb : validV b = true) : ∀ d ∈ unionV a b, DI d := fun d hd => DI_valid (List.all_eq_true.1 (validV_parts (unionV_valid ha hb)).1 d hd)
def unionR (a b : List DotD × List DotD) : List DotD × List DotD := if validX a.1 a.2 && validX b.1 b.2 then unionX a b else ([], [])
def unionE (a b : List DotD × List DotD) : Int := if validX a.1 a.2 && validX b.1 b.2 then 0 else 2
theorem ctxUnion_any (a1 a2 b1 b2 : List DotD) (v1 v2 u1 u2 : Value) (w : World) (h1 : Arr DotR 2 w v1 a1) (h2 : Arr DotR 2 w v2 a2) (g1 : Arr DotR 2 w u1 b1) (g2 : Arr DotR 2 w u2 b2) (n1 : a1.length + a2.length ≤ 10000) (n2 : b1.length + b2.length ≤ 10000) :
  Calls Tryz.prog 58 #[.agg #[v1, v2], .agg #[u1, u2]] w (CtxPost (unionR (a1, a2) (b1, b2)) (unionE (a1, a2) (b1, b2)) w) := by
 obtain ⟨o1, k1, rfl⟩ := h1.slice
 obtain ⟨o2, k2, rfl⟩ := h2.slice
 obtain ⟨o3, k3, rfl⟩ := g1.slice
 obtain ⟨o4, k4, rfl⟩ := g2.slice
 obtain ⟨W0, hW0⟩ : ∃ W0, W0 = w.alloc (.cells #[.slice o1 a1.length k1, .slice o2 a2.length k2] 25) := ⟨_, rfl⟩
 have hb0 : Below w.heap.size w W0 := by rw [hW0]; exact bal
 have hx0 : W0.heap[w.heap.size]? = some (.cells #[.slice o1 a1.length k1, .slice o2 a2.length k2] 25) := by rw [hW0]; exact alloc_new _ _
 have hs0 : W0.heap.size = w.heap.size + 1 := by rw [hW0]; simp
 obtain ⟨W1, hW1⟩ : ∃ W1, W1 = W0.alloc (.cells #[.slice o3 b1.length k3, .slice o4 b2.length k4] 25) := ⟨_, rfl⟩
 have hb01 : Below W0.heap.size W0 W1 := by rw [hW1]; exact bal
 have hb1 := btr hb0 hb01
 have hx1 : W1.heap[w.heap.size + 1]? = some (.cells #[.slice o3 b1.length k3, .slice o4 b2.length k4] 25) := by rw [hW1, ← hs0]; exact alloc_new _ _
 have hx01 : W1.heap[w.heap.size]? = some (.cells #[.slice o1 a1.length k1, .slice o2 a2.length k2] 25) := by rw [hb01.block _ (lt_of_heap hx0)]; exact hx0
 have hs1 : W1.heap.size = w.heap.size + 2 := by rw [hW1, alloc_size, hs0]
 obtain ⟨W2, hW2⟩ : ∃ W2, W2 = W1.alloc (.cells #[.slice none 0 0, .slice none 0 0] 25) := ⟨_, rfl⟩
 have hb12 : Below W1.heap.size W1 W2 := by rw [hW2]; exact bal
 have hb2 := btr hb1 hb12
 have hx2 : W2.heap[w.heap.size + 2]? = some (.cells #[.slice none 0 0, .slice none 0 0] 25) := by rw [hW2, ← hs1]; exact alloc_new _ _
 have hx02 : W2.heap[w.heap.size]? = some (.cells #[.slice o1 a1.length k1, .slice o2 a2.length k2] 25) := by rw [hb12.block _ (lt_of_heap hx01)]; exact hx01
 have hx12 : W2.heap[w.heap.size + 1]? = some (.cells #[.slice o3 b1.length k3, .slice o4 b2.length k4] 25) := by rw [hb12.block _ (lt_of_heap hx1)]; exact hx1
 have HC : Hid (∀ wz, Below W2.heap.size W2 wz → (wz.cell? ⟨w.heap.size, 0, none⟩ = some (.slice o1 a1.length k1) ∧ wz.cell? ⟨w.heap.size, 1, none⟩ = some (.slice o2 a2.length k2)) ∧ (wz.cell? ⟨w.heap.size + 1, 0, none⟩ = some (.slice o3 b1.length k3) ∧ wz.cell? ⟨w.heap.size + 1, 1, none⟩ = some (.slice o4 b2.length k4)) ∧ (wz.cell? ⟨w.heap.size + 2, 0, none⟩ = some (.slice none 0 0) ∧ wz.cell? ⟨w.heap.size + 2, 1, none⟩ = some (.slice none 0 0)) ∧ (wz.frozen? ⟨w.heap.size + 2, 0, none⟩ = false ∧ wz.frozen? ⟨w.heap.size + 2, 1, none⟩ = false)) := Hd (fun wz hz => by
  have z0 := (hz.block _ (lt_of_heap hx02)).trans hx02
  have z1 := (hz.block _ (lt_of_heap hx12)).trans hx12
  have z2 := (hz.block _ (lt_of_heap hx2)).trans hx2
  exact ⟨⟨cl0 z0 0 rfl, cl0 z0 1 rfl⟩, ⟨cl0 z1 0 rfl, cl0 z1 1 rfl⟩, ⟨cl0 z2 0 rfl, cl0 z2 1 rfl⟩, froz0 z2 0, froz0 z2 1⟩)
 have HB := Hd hb2
 have HW : Hid (W2 = ((w.alloc (.cells #[.slice o1 a1.length k1, .slice o2 a2.length k2] 25)).alloc (.cells #[.slice o3 b1.length k3, .slice o4 b2.length k4] 25)).alloc (.cells #[.slice none 0 0, .slice none 0 0] 25)) := Hd (by rw [hW2, hW1, hW0])
 have HV1 := Hd (ctxValid_any a1 a2 _ _ W2 (h1.dots hb2) (h2.dots hb2))
 have HV2 : Hid (∀ wz, Below W2.heap.size W2 wz → Calls Tryz.prog 64 #[.agg #[.slice o3 b1.length k3, .slice o4 b2.length k4]] wz fun e w' => e = .returned (.bool (validX b1 b2)) ∧ Below wz.heap.size wz w') := Hd (fun wz hz => ctxValid_any b1 b2 _ _ wz ((g1.dots hb2).dots hz) ((g2.dots hb2).dots hz))
 have HMG : Hid (validX a1 a2 = true → validX b1 b2 = true → ∀ wz, Below W2.heap.size W2 wz → Calls Tryz.prog 93 #[.slice o1 a1.length k1, .slice o3 b1.length k3] wz fun e w' => ∃ v', e = .returned (.tuple #[v', .int .i64 0]) ∧ Arr DotR 2 w' v' (unionV a1 b1) ∧ Below wz.heap.size wz w') := Hd (fun ha hb wz hz => by
  have ha1 := (validX_parts ha).1
  have hb1 := (validX_parts hb).1
  refine (vecMerge_any a1 b1 _ _ wz ((h1.dots hb2).dots hz) ((g1.dots hb2).dots hz) (by omega) (by omega)).mono ?_
  rintro e w' ⟨v', x1, x2, x3⟩
  unfold mergeVE at x1
  unfold mergeV at x2
  rw [ha1, hb1] at x1 x2
  exact ⟨v', x1, x2.dots (unionV_DI ha1 hb1), x3⟩)
 have HUN : Hid (∀ wz, Below W2.heap.size W2 wz → Calls Tryz.prog 95 #[.slice o2 a2.length k2, .slice o4 b2.length k4] wz fun e w' => ∃ v', e = .returned v' ∧ Arr DotR 2 w' v' (setD (a2 ++ b2)) ∧ Below wz.heap.size wz w') := Hd (fun wz hz => by
  refine (dotUnion_any a2 b2 _ _ wz ((h2.dots hb2).dots hz) ((g2.dots hb2).dots hz) (by omega)).mono ?_
  rintro e w' ⟨v', x1, x2, x3⟩
  refine ⟨v', x1, x2.dots (fun d hd => ?_), x3⟩
  rcases List.mem_append.1 ((setD_mem _ _).1 hd) with hd | hd
  ·exact h2.dotsI d hd
  ·exact g2.dotsI d hd)
 have HCO : Hid (validX a1 a2 = true → validX b1 b2 = true → ∀ wz x y, Arr DotR 2 wz x (unionV a1 b1) → Arr DotR 2 wz y (setD (a2 ++ b2)) → Calls Tryz.prog 94 #[.agg #[x, y]] wz (CtxPost (unionX (a1, a2) (b1, b2)) 0 wz)) := Hd (fun ha hb wz x y hx hy => by
  have hl1 := unionV_lenL a1 b1
  have hl2 := setD_leL (a2 ++ b2)
  rw [List.length_append] at hl2
  have := ctxCompact_any (unionV a1 b1) (setD (a2 ++ b2)) x y wz hx hy (by omega)
  have hv := unionX_valid (a := (a1, a2)) (b := (b1, b2)) ha hb
  unfold compactR compactE at this
  rw [hv] at this
  exact this)
 have HFF : Hid ((validX a1 a2 && validX b1 b2) = false → ∀ w', Below w.heap.size w w' → CtxPost (unionR (a1, a2) (b1, b2)) (unionE (a1, a2) (b1, b2)) w (.returned (.tuple #[.agg #[.slice none 0 0, .slice none 0 0], .int .i64 2])) w') := Hd (fun hv w' hb => by
  unfold unionR unionE
  rw [hv]
  exact ⟨_, _, rfl, Enc.Row.nil _ _, Enc.Row.nil _ _, hb⟩)
 have HFT : Hid ((validX a1 a2 && validX b1 b2) = true → ∀ w' x y, EDot.Row w.heap.size w' x (unionX (a1, a2) (b1, b2)).1 → EDot.Row w.heap.size w' y (unionX (a1, a2) (b1, b2)).2 → Below w.heap.size w w' → CtxPost (unionR (a1, a2) (b1, b2)) (unionE (a1, a2) (b1, b2)) w (.returned (.tuple #[.agg #[x, y], .int .i64 0])) w') := Hd (fun hv w' x y r1 r2 hb => by
  unfold unionR unionE
  rw [hv]
  exact ⟨_, _, rfl, r1, r2, hb⟩)
 generalize unionR (a1, a2) (b1, b2) = R at *
 generalize unionE (a1, a2) (b1, b2) = E at *
 clear h1 h2 g1 g2 hx0 hx01 hx02 hx1 hx12 hx2 hb0 hb01 hb1 hb12 hb2 hW0 hW1 hW2 hs0 hs1
 obtain ⟨r1, hr1⟩ : ∃ r, r = validX a1 a2 := ⟨_, rfl⟩
 obtain ⟨r2, hr2⟩ : ∃ r, r = validX b1 b2 := ⟨_, rfl⟩
 rw [← hr1] at HV1 HMG HCO HFF HFT
 rw [← hr2] at HV2 HMG HCO HFF HFT
 clear hr1 hr2
 generalize unionX (a1, a2) (b1, b2) = U at *
 generalize unionV a1 b1 = UV at *
 generalize setD (a2 ++ b2) = UD at *
 obtain ⟨⟨x0, x1⟩, ⟨x2, x3⟩, ⟨x4, x5⟩, x6, x7⟩ := HC.out W2 brf
 go_enter Tryz.func58, Tryz.ntmps58
 go_wp2_with fail
 rw [← HW.out]
 go_wp2_with fail
 refine HV1.out.mono ?_
 rintro e w3 ⟨rfl, hb3⟩
 have HB3 := Hd hb3
 obtain ⟨⟨y0, y1⟩, ⟨y2, y3⟩, ⟨y4, y5⟩, y6, y7⟩ := HC.out w3 hb3
 clear x0 x1 x2 x3 x4 x5 x6 x7 hb3 HV1
 cases r1 with
 | false =>
  have HBF := Hd (HB.out.trans (HB3.out.mono HB.out.size))
  have HF0 := Hd (HFF.out rfl)
  clear HFF
  go_wp2_with fail
  (try simp only [Exit.inBlock, Exit.then])
  refine bodyPost_ret (v := .tuple #[.agg #[.slice none 0 0, .slice none 0 0], .int .i64 2]) ?_ rfl (HF0.out _ ((HBF.out.setCell (p := ⟨w.heap.size + 2, 0, none⟩) (by show w.heap.size ≤ w.heap.size + 2; omega) _).setCell (p := ⟨w.heap.size + 2, 1, none⟩) (by show w.heap.size ≤ w.heap.size + 2; omega) _))
  rw [results_cell_tmp rfl]
  go_simp
 | true =>
  go_wp2_with fail
  refine (HV2.out w3 HB3.out).mono ?_
  rintro e w4 ⟨rfl, hb4⟩
  have HB4 := Hd (btr HB3.out hb4)
  obtain ⟨⟨z0, z1⟩, ⟨z2, z3⟩, ⟨z4, z5⟩, z6, z7⟩ := HC.out w4 HB4.out
  clear y0 y1 y2 y3 y4 y5 y6 y7 hb4 HV2
  cases r2 with
  | false =>
   have HBF := Hd (HB.out.trans (HB4.out.mono HB.out.size))
   have HF0 := Hd (HFF.out rfl)
   clear HFF
   go_wp2_with fail
   (try simp only [Exit.inBlock, Exit.then])
   refine bodyPost_ret (v := .tuple #[.agg #[.slice none 0 0, .slice none 0 0], .int .i64 2]) ?_ rfl (HF0.out _ ((HBF.out.setCell (p := ⟨w.heap.size + 2, 0, none⟩) (by show w.heap.size ≤ w.heap.size + 2; omega) _).setCell (p := ⟨w.heap.size + 2, 1, none⟩) (by show w.heap.size ≤ w.heap.size + 2; omega) _))
   rw [results_cell_tmp rfl]
   go_simp
  | true =>
   have HMG1 := Hd (HMG.out trivial rfl w4 HB4.out)
   have HCO1 := Hd (HCO.out trivial rfl)
   have HFT1 := Hd (HFT.out rfl)
   clear HMG HCO HFT HFF
   go_wp2_with fail
   refine HMG1.out.mono ?_
   rintro e w5 ⟨v5, rfl, ha5, hb5⟩
   have HB5 := Hd (btr HB4.out hb5)
   obtain ⟨o5, k5, rfl⟩ := ha5.slice
   have HA5 := Hd ha5
   obtain ⟨⟨t0, t1⟩, ⟨t2, t3⟩, ⟨t4, t5⟩, t6, t7⟩ := HC.out w5 HB5.out
   clear z0 z1 z2 z3 z4 z5 z6 z7 ha5 hb5 HMG1
   go_wp2_with fail
   refine (HUN.out w5 HB5.out).mono ?_
   rintro e w6 ⟨v6, rfl, ha6, hb6⟩
   have HB6 := Hd (btr HB5.out hb6)
   obtain ⟨o6, k6, rfl⟩ := ha6.slice
   have HCC := Hd (HCO1.out w6 _ _ (HA5.out.dots hb6) ha6)
   clear t0 t1 t2 t3 t4 t5 t6 t7 ha6 hb6 HUN HCO1
   go_wp2_with fail
   refine HCC.out.mono ?_
   rintro e w7 ⟨y1, y2, rfl, hr1, hr2, hb7⟩
   have hb67 := btr HB6.out hb7
   have hz6 : w.heap.size + 3 ≤ w6.heap.size := by
    have h1 := HB6.out.size
    have h2 : W2.heap.size = w.heap.size + 3 := by rw [HW.out, alloc_size, alloc_size, alloc_size]
    omega
   obtain ⟨a7, c7, rfl⟩ := hr1.slice
   obtain ⟨a8, c8, rfl⟩ := hr2.slice
   obtain ⟨-, -, ⟨t4, t5⟩, t6, t7⟩ := HC.out w7 hb67
   have HQ1 : Hid (EDot.Row w.heap.size ((w7.setCell ⟨w.heap.size + 2, 0, none⟩ (.slice a7 U.1.length c7)).setCell ⟨w.heap.size + 2, 1, none⟩ (.slice a8 U.2.length c8)) (.slice a7 U.1.length c7) U.1) := Hd ((hr1.mono (by omega)).stay (fun j hj => by
    have := (hr1.lt j hj).1
    rw [setCell_other (by omega), setCell_other (by omega)]))
   have HQ2 : Hid (EDot.Row w.heap.size ((w7.setCell ⟨w.heap.size + 2, 0, none⟩ (.slice a7 U.1.length c7)).setCell ⟨w.heap.size + 2, 1, none⟩ (.slice a8 U.2.length c8)) (.slice a8 U.2.length c8) U.2) := Hd ((hr2.mono (by omega)).stay (fun j hj => by
    have := (hr2.lt j hj).1
    rw [setCell_other (by omega), setCell_other (by omega)]))
   have HBF := Hd (btr HB.out hb67)
   clear hr1 hr2 hb7 hb67 HCC
   go_wp2_with fail
   (try simp only [Exit.inBlock, Exit.then])
   refine bodyPost_ret (v := .tuple #[.agg #[.slice a7 U.1.length c7, .slice a8 U.2.length c8], .int .i64 0]) ?_ rfl (HFT1.out _ _ _ HQ1.out HQ2.out ((HBF.out.setCell (p := ⟨w.heap.size + 2, 0, none⟩) (by show w.heap.size ≤ w.heap.size + 2; omega) _).setCell (p := ⟨w.heap.size + 2, 1, none⟩) (by show w.heap.size ≤ w.heap.size + 2; omega) _))
   rw [results_cell_tmp rfl]
   go_simp
end Go.Proofs.YtjoljfnlkddfbaaGreatDoor

