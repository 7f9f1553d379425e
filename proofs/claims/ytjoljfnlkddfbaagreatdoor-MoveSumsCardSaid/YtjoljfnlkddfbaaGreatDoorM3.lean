/- qty.Sum, move.Sum, move.Many. -/
import Derived.Test.YtjoljfnlkddfbaaGreatDoorMapK
import Derived.Test.YtjoljfnlkddfbaaGreatDoorRow
import Derived.Test.YtjoljfnlkddfbaaGreatDoorC17
import Derived.Test.YtjoljfnlkddfbaaGreatDoorCanonP
import Derived.Test.YtjoljfnlkddfbaaGreatDoorM2
namespace Go.Proofs.YtjoljfnlkddfbaaGreatDoor
open Go.RowKit Go.Maps

theorem equalDot (x y : DotD) (w : World) : (Op.equal 39 (dotV x) (dotV y)).run Tryz.prog w = .ok (decide (x = y)) w := by
  have h := eqDot x y w
  unfold dotV at h ⊢
  rw [run_eql_struct] at h
  show (Op.equalIn 10000 39 _ _).run Tryz.prog w = _
  rcases hr : (Op.equalIn 10000 39 (.agg #[.int .i64 x.rep, .int .i64 x.ctr]) (.agg #[.int .i64 y.rep, .int .i64 y.ctr])).run Tryz.prog w with ⟨b, w'⟩ | _ <;> rw [hr] at h <;> simp [Result.andThen] at h
  obtain ⟨h1, h2⟩ := h
  rw [h1, h2]
theorem findAsking_dot (k : DotD) : ∀ (es : List MapEntry) (m : List (DotD × Value)) (i : Nat), es.map (fun e => (e.key, e.val)) = m.map (fun p => (dotV p.1, p.2)) → ∀ w, (Instr.findAsking 39 (dotV k) es i).run Tryz.prog w = .ok (ixK m k i) w
  | [], [], _, _, _ => rfl
  | [], _ :: _, _, h, _ => by simp at h
  | _ :: _, [], _, h, _ => by simp at h
  | e :: es, p :: m, i, h, w => by
    simp only [List.map_cons, List.cons.injEq, Prod.mk.injEq] at h
    obtain ⟨⟨h1, h2⟩, h3⟩ := h
    unfold Instr.findAsking
    rw [h1]
    simp only [Sem.run_bind, equalDot, Result.andThen_ok, ixK]
    by_cases hk : k = p.1
    · subst hk; simp [h2]
    · simp [hk, findAsking_dot k es m (i + 1) h3 w]
def dotK : KEnc DotD Tryz.prog where
  enc := dotV
  kt := 39
  inj := fun {a b} h => by
    unfold dotV at h
    injection h with h
    have h1 := congrArg (fun x : Array Value => x[0]?) h
    have h2 := congrArg (fun x : Array Value => x[1]?) h
    simp at h1 h2
    cases a; cases b
    simp_all
  find := fun k es m h w => by
    cases es with
    | nil =>
      cases m with
      | nil => simp [Instr.findKey, run_underlying Tryz.underlying39, Result.andThen, Instr.findNow, ixK]
      | cons p m => simp at h
    | cons e es =>
      cases m with
      | nil => simp at h
      | cons p m =>
        have hn : ∀ kd, Instr.findNow kd (dotV k) (e :: es) 0 = none := fun kd => by unfold Instr.findNow dotV; cases kd <;> rfl
        unfold Instr.findKey
        simp only [Sem.run_bind, run_underlying Tryz.underlying39, Result.andThen_ok, hn]
        exact findAsking_dot k (e :: es) (p :: m) 0 h w
  check := fun em k w => by
    show Sem.run Tryz.prog (Instr.checkKey em (9999 + 1) 39 (dotV k)) w = _
    have hi : ∀ (n : Int) (w : World), (Instr.checkKey em 9999 3 (.int .i64 n)).run Tryz.prog w = .ok () w := fun n w => by
      show Sem.run Tryz.prog (Instr.checkKey em (9998 + 1) 3 (.int .i64 n)) w = _
      unfold Instr.checkKey
      simp [run_underlying Tryz.underlying3, Result.andThen]
    unfold dotV Instr.checkKey
    simp only [Sem.run_bind, run_underlying Tryz.underlying39, Result.andThen_ok]
    go_simp
  bits := fun k => by
    show Instr.sameBits (9999 + 1) (dotV k) (dotV k) = true
    unfold dotV
    simp [Instr.sameBits]
end Go.Proofs.YtjoljfnlkddfbaaGreatDoor
set_option linter.unusedSimpArgs false
set_option linter.unusedVariables false
namespace Go.Proofs.YtjoljfnlkddfbaaGreatDoor
open Go.RowKit Go.Maps

theorem lkA_put {α : Type} (v : α) : ∀ (m : List (ByteArray × α)) (k k' : ByteArray), lkA (putA m k v) k' = if k' = k then some v else lkA m k'
  | [], k, k' => by simp [putA, lkA]
  | p :: r, k, k' => by
    unfold putA
    by_cases h : k = p.1
    · rw [if_pos h]
      unfold lkA
      by_cases h2 : k' = p.1
      · simp [h, h2]
      · simp [h, h2]
    · rw [if_neg h]
      unfold lkA
      rw [lkA_put v r k k']
      by_cases h2 : k' = p.1
      · have : ¬ k' = k := fun e => h (e ▸ h2)
        simp [h2, this]
        intro e; exact absurd e.symm h
      · simp [h2]
section
variable {κ : Type} [DecidableEq κ]
theorem lkK_put {α : Type} (v : α) : ∀ (m : List (κ × α)) (k k' : κ), lkK (putK m k v) k' = if k' = k then some v else lkK m k'
  | [], k, k' => by simp [putK, lkK]
  | p :: r, k, k' => by
    unfold putK
    by_cases h : k = p.1
    · rw [if_pos h]
      unfold lkK
      by_cases h2 : k' = p.1
      · simp [h, h2]
      · simp [h, h2]
    · rw [if_neg h]
      unfold lkK
      rw [lkK_put v r k k']
      by_cases h2 : k' = p.1
      · have : ¬ k' = k := fun e => h (e ▸ h2)
        simp [h2]
        intro e; exact absurd e.symm h
      · simp [h2]
end
/-- Maps that are sets. -/
def NSet (w : World) (r : Nat) (S : ByteArray → Bool) : Prop := ∃ m, MapIs w r m ∧ ∀ k, lkA m k = if S k then some (.bool true) else none
def DSet (w : World) (r : Nat) (S : DotD → Bool) : Prop := ∃ m, MapK dotK w r m ∧ ∀ k, lkK m k = if S k then some (.bool true) else none
theorem NSet.of {w w' : World} {r : Nat} {S : ByteArray → Bool} (h : NSet w r S) (hb : w'.heap[r]? = w.heap[r]?) : NSet w' r S := by
  obtain ⟨m, h1, h2⟩ := h
  exact ⟨m, h1.of_block hb, h2⟩
theorem DSet.of {w w' : World} {r : Nat} {S : DotD → Bool} (h : DSet w r S) (hb : w'.heap[r]? = w.heap[r]?) : DSet w' r S := by
  obtain ⟨m, h1, h2⟩ := h
  exact ⟨m, h1.of_block hb, h2⟩
theorem NSet.lt {w : World} {r : Nat} {S : ByteArray → Bool} (h : NSet w r S) : r < w.heap.size := by
  obtain ⟨m, ⟨es, clk, h1, _⟩, _⟩ := h
  exact lt_of_heap h1
theorem DSet.lt {w : World} {r : Nat} {S : DotD → Bool} (h : DSet w r S) : r < w.heap.size := by
  obtain ⟨m, ⟨es, clk, h1, _⟩, _⟩ := h
  exact lt_of_heap h1
theorem NSet.new (w : World) : NSet (w.alloc (.map #[] 0)) w.heap.size (fun _ => false) := ⟨[], mapIs_new w, fun _ => rfl⟩
theorem DSet.new (w : World) : DSet (w.alloc (.map #[] 0)) w.heap.size (fun _ => false) := ⟨[], mapK_new w, fun _ => rfl⟩
/-- One more, one less. -/
theorem NSet.put {w : World} {r : Nat} {S S' : ByteArray → Bool} {m : List (ByteArray × Value)} {nm : ByteArray} (h : MapIs w r (putA m nm (.bool true))) (hl : ∀ k, lkA m k = if S k then some (.bool true) else none) (hS : ∀ k, S' k = (decide (k = nm) || S k)) : NSet w r S' := ⟨_, h, fun k => by
  rw [lkA_put, hl, hS]
  by_cases hk : k = nm <;> simp [hk]⟩
theorem DSet.put {w : World} {r : Nat} {S S' : DotD → Bool} {m : List (DotD × Value)} {d : DotD} (h : MapK dotK w r (putK m d (.bool true))) (hl : ∀ k, lkK m k = if S k then some (.bool true) else none) (hS : ∀ k, S' k = (decide (k = d) || S k)) : DSet w r S' := ⟨_, h, fun k => by
  rw [lkK_put, hl, hS]
  by_cases hk : k = d <;> simp [hk]⟩
end Go.Proofs.YtjoljfnlkddfbaaGreatDoor
set_option linter.unusedSimpArgs false
set_option linter.unusedVariables false
set_option maxRecDepth 100000
set_option maxHeartbeats 16000000
namespace Go.Proofs.YtjoljfnlkddfbaaGreatDoor
open Go.RowKit Go.Maps Go.Sort Go.Shelf

/-! ### qty.Sum -/
theorem sumG_append : ∀ (a b : List Int) (n : Int), sumG n (a ++ b) = (sumG n a).bind (fun m => sumG m b)
 | [], b, n => rfl
 | q :: a, b, n => by
  simp only [List.cons_append, sumG]
  split
  ·exact sumG_append a b _
  ·rfl
theorem sumG_snoc {l : List Int} {k : Nat} (h : k < l.length) : sumG 0 (l.take (k + 1)) = (sumG 0 (l.take k)).bind (fun m => if validQ l[k] && validQ (m + l[k]) then some (m + l[k]) else none) := by
 rw [List.take_succ_eq_append_getElem h, sumG_append]
 congr
theorem sumG_none {l : List Int} (k : Nat) (h : sumG 0 (l.take k) = none) : sumG 0 l = none := by
 rw [← List.take_append_drop k l, sumG_append, h]
 rfl
def EInt : Enc Int := ⟨fun s => [.int .i64 s], 1, 3, by decide, fun _ => rfl, fun x u hu => by simp at hu; subst hu; rfl⟩
theorem infoInt : (Tryz.prog.info? 3).map (fun i => (i.zero, i.size, i.bytes)) = some (some (.int .i64 0), 1, 8) := by kernel_rfl
/-- A list of numbers in memory. -/
def IntS (w : World) (v : Value) (l : List Int) : Prop := ∃ o c, v = .slice o l.length c ∧ l.length ≤ maxLen ∧ ∀ k (h : k < l.length), ∃ b off, o = some ⟨b, off, none⟩ ∧ b < w.heap.size ∧ w.cell? ⟨b, off + k, none⟩ = some (.int .i64 l[k])
theorem IntS.of_row {base : Nat} {w : World} {v : Value} {l : List Int} (h : EInt.Row base w v l) : IntS w v l := by
 have hle := h.le
 obtain ⟨a, c, rfl⟩ := h.slice
 refine ⟨a, c, rfl, hle, fun k hk => ?_⟩
 obtain ⟨_, ⟨h1, h2⟩ | ⟨g, cap, cur, h1, -⟩⟩ := id h
 ·omega
 ·injection h1 with e1 e2 e3
  subst e1
  obtain ⟨hi, -, -⟩ := h.at
  refine ⟨g, 0, rfl, hi.gl, ?_⟩
  have := hi.cell k hk 0 (by decide)
  rw [show 0 + k = k * EInt.k + 0 by show 0 + k = k * 1 + 0; omega, this]
  rfl
theorem qtySum_any (l : List Int) (v : Value) (w : World) (h : IntS w v l) : Calls Tryz.prog 79 #[v] w fun e w' => e = .returned (.tuple #[.int .i64 (sumV l), .int .i64 (sumE l)]) ∧ Below w.heap.size w w' := by
 obtain ⟨o, c, rfl, hn, hel⟩ := h
 have HEL := Hd hel
 have HQV := Hd (fun q wz => qtyValid_any q wz)
 have HE0 : Hid (l = [] → sumV l = 0 ∧ sumE l = 9) := Hd (fun e => by subst e; exact ⟨rfl, rfl⟩)
 have HE1 : Hid (sumG 0 l = none → sumV l = 0 ∧ sumE l = 14) := Hd (fun e => by
  have hne : l ≠ [] := fun h => by rw [h] at e; cases e
  unfold sumV sumE
  rw [if_neg hne, if_neg hne, e]
  exact ⟨rfl, rfl⟩)
 have HE2 : Hid (∀ m, l ≠ [] → sumG 0 l = some m → sumV l = m ∧ sumE l = 0) := Hd (fun m hne e => by
  unfold sumV sumE
  rw [if_neg hne, if_neg hne, e]
  exact ⟨rfl, rfl⟩)
 obtain ⟨n, hnn⟩ : ∃ n, n = l.length := ⟨_, rfl⟩
 rw [← hnn] at hn ⊢
 have HN := Hd hnn
 clear hel hnn
 generalize sumV l = V at *
 generalize sumE l = E at *
 go_enter Tryz.func79, Tryz.ntmps79
 go_wp2_with fail
 go_loopw [4, 9] (fun s i wr => ∃ k : Nat, ∃ m : Int, k ≤ n ∧ i = .int .i64 k ∧ s = .int .i64 m ∧ sumG 0 (l.take k) = some m ∧ (0 ≤ m ∧ m ≤ 2147483647) ∧ wr = w) (fun _ i _ => n - (intOf i).toNat)
 case atStart => exact ⟨0, 0, Nat.zero_le _, rfl, rfl, rfl, ⟨by omega, by omega⟩, rfl⟩
 case round =>
  obtain ⟨k, m, hk, rfl, rfl, hs, hm, rfl⟩ := hrel
  have HS := Hd hs
  clear hs
  by_cases hlt : k < n
  rotate_left
  ·have hke : k = n := by omega
   have a1 : ¬ (k : Int) < (n : Int) := by omega
   have HF : Hid (sumG 0 l = some m) := Hd (by have := HS.out; rw [hke, HN.out, List.take_length] at this; exact this)
   by_cases h0 : n = 0
   ·have t0 : ((n : Int) == 0) = true := by simp [h0]
    obtain ⟨rfl, rfl⟩ := HE0.out (List.length_eq_zero_iff.1 (by rw [← HN.out]; exact h0))
    clear HE0 HE1 HE2 HS HF h0
    go_wp2_with fail
    go_ret2
    exact ⟨rfl, brf⟩
   ·have t0 : ((n : Int) == 0) = false := by simp; omega
    obtain ⟨rfl, rfl⟩ := HE2.out m (fun e => h0 (by rw [HN.out, e]; rfl)) HF.out
    clear HE0 HE1 HE2 HS HF h0
    go_wp2_with fail
    go_ret2
    exact ⟨rfl, brf⟩
  ·have hlt' : k < l.length := by rw [← HN.out]; exact hlt
   obtain ⟨b, off, rfl, hbl, e0⟩ := HEL.out k hlt'
   have HST : Hid (sumG 0 (l.take (k + 1)) = if validQ l[k] && validQ (m + l[k]) then some (m + l[k]) else none) := Hd (by
    have := sumG_snoc hlt'
    rw [HS.out] at this
    exact this)
   generalize l[k] = q at *
   have a0 : (0 : Int) ≤ k := by omega
   have a1 : (k : Int) < n := by omega
   have hkw := wr1 k (by unfold maxLen at hn; omega)
   have HV1 := Hd (HQV.out q wr)
   cases hv1 : validQ q with
   | false =>
    rw [hv1] at HV1 HST
    obtain ⟨rfl, rfl⟩ := HE1.out (sumG_none (k + 1) HST.out)
    clear HE0 HE1 HE2 HST HS hv1
    go_wp2_with fail
    refine HV1.out.mono ?_
    rintro e w2 ⟨rfl, rfl⟩
    go_wp2_with fail
    go_ret2
    exact ⟨rfl, brf⟩
   | true =>
    have hq := (validQ_iff q).1 hv1
    have hmw : IntKind.i64.wrap (m + q) = m + q := by rw [IntKind.wrap_i64]; omega
    have HV2 := Hd (HQV.out (m + q) wr)
    rw [hv1] at HV1 HST
    cases hv2 : validQ (m + q) with
    | false =>
     rw [hv2] at HV2 HST
     obtain ⟨rfl, rfl⟩ := HE1.out (sumG_none (k + 1) HST.out)
     clear HE0 HE1 HE2 HST HS hv1 hv2
     go_wp2_with fail
     refine HV1.out.mono ?_
     rintro e w2 ⟨rfl, rfl⟩
     go_wp2_with fail
     refine HV2.out.mono ?_
     rintro e w3 ⟨rfl, rfl⟩
     go_wp2_with fail
     go_ret2
     exact ⟨rfl, brf⟩
    | true =>
     have hq2 := (validQ_iff (m + q)).1 hv2
     rw [hv2] at HV2 HST
     have HF : Hid (sumG 0 (l.take (k + 1)) = some (m + q)) := Hd HST.out
     have HLE : Hid (0 ≤ m + q ∧ m + q ≤ 2147483647) := Hd ⟨by omega, by omega⟩
     clear HE0 HE1 HE2 HST HS hv1 hv2 hq2
     go_wp2_with fail
     refine HV1.out.mono ?_
     rintro e w2 ⟨rfl, rfl⟩
     go_wp2_with fail
     refine HV2.out.mono ?_
     rintro e w3 ⟨rfl, rfl⟩
     go_wp2_with fail
     go_roundw
     case rel => exact ⟨k + 1, m + q, by omega, by go_num, by go_num, HF.out, HLE.out, trivial⟩
     case measure => simp [intOf]; omega
/-! ### move.Sum -/
theorem moveSum_any (c : CartD) (nm : ByteArray) (q : Int) (v1 v2 v3 : Value) (w : World) (h : CartA w v1 v2 v3 c) (hl : Lt c.items) (hs : nm.size ≤ maxLen) (hG : GlobIs w) :
  Calls Tryz.prog 40 #[.agg #[v1, v2, v3], .string nm, .int .i64 q] w fun e w' => e = .returned (.tuple #[.int .i64 (mSum c nm q), .int .i64 (mSumE c nm q)]) ∧ Below w.heap.size w w' := by
 obtain ⟨o1, n1, k1, o2, n2, k2, o3, n3, k3, rfl, rfl, rfl, hn1, hn2, hn3⟩ := opn4 h
 obtain ⟨W1, HW, HB, HS, HK0⟩ := box1 w #[.slice o1 n1 k1, .slice o2 n2 k2, .slice o3 n3 k3] 28
 have HC := Hd (fun wz (hz : Below W1.heap.size W1 wz) => cel3 (HK0.out wz hz))
 have HA := Hd (h.below HB.out)
 have HGL := Hd (hG.below HB.out)
 have HBW := Hd HB.out
 have HV := Hd (cartValid_any c _ _ _ W1 HA.out hl HGL.out)
 have HNI : Hid (∀ wz, Below W1.heap.size W1 wz → Calls Tryz.prog 13 #[.string nm] wz fun e w' => e = .returned (.bool (nameB nm)) ∧ Below wz.heap.size wz w') := Hd (fun wz hz => namesItem_any nm wz hs (HGL.out.below hz))
 have HQ : Hid (∀ wz, Below W1.heap.size W1 wz → Calls Tryz.prog 44 #[.agg #[.slice o1 n1 k1, .slice o2 n2 k2, .slice o3 n3 k3], .string nm] wz fun e w' => e = .returned (.tuple #[.int .i64 (qtyC c nm), .int .i64 (qtyCE c nm)]) ∧ Below wz.heap.size wz w') := Hd (fun wz hz => cartQty_any c nm _ _ _ wz (HA.out.below hz) hl (HGL.out.below hz))
 have HZ : Hid ((validC c && nameB nm) = false → mSum c nm q = 0 ∧ mSumE c nm q = 2) := Hd (fun e => by unfold mSum mSumE; simp [e])
 have HL : Hid (validC c = true → nameB nm = true → mSumE c nm q = sumE (if thereB c.items nm then [q, qtyC c nm] else [q]) ∧ mSum c nm q = sumV (if thereB c.items nm then [q, qtyC c nm] else [q])) := Hd (fun h1 h2 => mSum_list h1 h2)
 have HQE : Hid (validC c = true → qtyCE c nm = if thereB c.items nm then 0 else 9) := Hd (fun h1 => by unfold qtyCE; rw [h1]; rfl)
 have hsz := HS.out
 clear h hl hs hG hn1 hn2 hn3 HB HS
 generalize mSum c nm q = V at *
 generalize mSumE c nm q = E at *
 obtain ⟨r1, hr1⟩ : ∃ r, r = validC c := ⟨_, rfl⟩
 obtain ⟨r2, hr2⟩ : ∃ r, r = nameB nm := ⟨_, rfl⟩
 obtain ⟨r3, hr3⟩ : ∃ r, r = thereB c.items nm := ⟨_, rfl⟩
 rw [← hr1] at HV HZ HL HQE
 rw [← hr2] at HNI HZ HL
 rw [← hr3] at HL HQE
 clear hr1 hr2 hr3 HA
 generalize qtyC c nm = Q at *
 generalize qtyCE c nm = QE at *
 obtain ⟨c0, c1, c2⟩ := HC.out W1 brf
 go_enter Tryz.func40, Tryz.ntmps40
 go_wp2_with fail
 rw [← HW.out]
 go_wp2_with fail
 refine HV.out.mono ?_
 rintro e w2 ⟨rfl, hb2⟩
 have HB2 := Hd hb2
 clear hb2 HV c0 c1 c2
 cases r1 with
 | false =>
  obtain ⟨rfl, rfl⟩ := HZ.out rfl
  clear HZ HL HQE HNI HQ
  go_wp2_with fail
  go_ret2
  exact ⟨rfl, btr HBW.out HB2.out⟩
 | true =>
 have HN2 := Hd (HNI.out w2 HB2.out)
 go_wp2_with fail
 refine HN2.out.mono ?_
 rintro e w3 ⟨rfl, hb3⟩
 have HB3 := Hd (btr HB2.out hb3)
 clear hb3 HN2
 cases r2 with
 | false =>
  obtain ⟨rfl, rfl⟩ := HZ.out rfl
  clear HZ HL HQE HNI HQ
  go_wp2_with fail
  go_ret2
  exact ⟨rfl, btr HBW.out HB3.out⟩
 | true =>
 have HL2 := Hd (HL.out trivial rfl)
 have HQE2 := Hd (HQE.out trivial)
 clear HL HQE HZ HNI
 obtain ⟨W4, HW4, HB4, HS4, HK4⟩ := box1 w3 #[.int .i64 q] 3
 have hrow0 := row_lit EInt [q] w3 (by unfold maxLen; simp)
 have HROW : Hid (EInt.Row w3.heap.size W4 (.slice (some ⟨w3.heap.size, 0, none⟩) 1 1) [q]) := Hd (by rw [HW4.out]; exact hrow0)
 have HB34 := Hd (btr HB3.out HB4.out)
 have HQ4 := Hd (HQ.out W4 HB34.out)
 clear HQ hrow0 HB4
 obtain ⟨c0, c1, c2⟩ := HC.out W4 HB34.out
 have hsz4 := HS4.out
 go_upto_region 4 with fail
 rw [← HW4.out]
 go_wp2_with fail
 refine HQ4.out.mono ?_
 rintro e w5 ⟨rfl, hb5⟩
 have HB5 := Hd (btr HB34.out hb5)
 have HROW5 := Hd (HROW.out.below hb5)
 clear HQ4 hb5 c0 c1 c2 HROW HW4
 cases r3 with
 | false =>
  have hqe : QE = 9 := HQE2.out
  subst hqe
  have hVE : E = sumE [q] ∧ V = sumV [q] := HL2.out
  have HSU := Hd (qtySum_any [q] _ w5 (IntS.of_row HROW5.out))
  rw [← hVE.1, ← hVE.2] at HSU
  clear HL2 HQE2 hVE
  go_wp2_with fail
  refine HSU.out.mono ?_
  rintro e w6 ⟨rfl, hb6⟩
  have HB6 := Hd (btr HB5.out hb6)
  clear hb6 HSU
  go_wp2_with fail
  go_ret2
  exact ⟨rfl, btr HBW.out HB6.out⟩
 | true =>
  have hqe : QE = 0 := HQE2.out
  subst hqe
  have HVE : Hid (E = sumE [q, Q] ∧ V = sumV [q, Q]) := HL2
  clear HL2 HQE2
  have HSRC : Hid (EInt.Src (w5.alloc (.cells #[.int .i64 Q] 3)) (.slice (some ⟨w5.heap.size, 0, none⟩) 1 1) [Q]) := Hd (Enc.Src.one_lit (E := EInt) w5 3 Q)
  have hb6 : Below w5.heap.size w5 (w5.alloc (.cells #[.int .i64 Q] 3)) := bal
  have HR6 := Hd (HROW5.out.below hb6)
  have HB6 := Hd (btr HB5.out hb6)
  have hs6 : w3.heap.size ≤ (w5.alloc (.cells #[.int .i64 Q] 3)).heap.size := by
   have h1 := HB5.out.size
   have h2 := hb6.size
   have h3 := HB3.out.size
   have := (HROW5.out.lt w3.heap.size rfl).2
   omega
  have hs1 : W1.heap.size ≤ (w5.alloc (.cells #[.int .i64 Q] 3)).heap.size := HB6.out.size
  clear hb6
  go_wp2_with (at_builtin; go_loud (refine wpList_append_row rfl _ _ 118 rfl EInt w3.heap.size (.int .i64 0) 8 Tryz.underlying118 infoInt (by decide) (by decide) _ _ rfl HR6.out _ [Q] rfl HSRC.out (by first | omega | simp | (simp; omega)) hs6 ?_); intro v7 w7 hrow hgr)
  have HB7 := Hd (HB6.out.grown hgr hs1 (fun j hj => by have := (HR6.out.lt _ hj).1; have := HB3.out.size; omega))
  have HSU := Hd (qtySum_any ([q] ++ [Q]) _ w7 (IntS.of_row hrow))
  obtain ⟨oa, ka, rfl⟩ := hrow.slice
  rw [show ([q] ++ [Q] : List Int) = [q, Q] from rfl, ← HVE.out.1, ← HVE.out.2] at HSU
  clear hrow hgr HR6 HSRC HB6 HROW5 hs6 hs1 HVE
  go_wp2_with fail
  refine HSU.out.mono ?_
  rintro e w8 ⟨rfl, hb8⟩
  have HB8 := Hd (btr HB7.out hb8)
  clear hb8 HSU
  go_wp2_with fail
  go_ret2
  exact ⟨rfl, btr HBW.out HB8.out⟩
/-! ### move.Many -/
theorem putA_keys {α : Type} : ∀ (m : List (ByteArray × α)) (k : ByteArray) (v : α), (putA m k v).map (·.1) = addN (m.map (·.1)) k
 | [], k, v => rfl
 | p :: m, k, v => by
  have ih := putA_keys m k v
  simp only [putA]
  by_cases h : k = p.1
  ·rw [if_pos h]
   subst h
   have : hasL (p.1 :: m.map (·.1)) p.1 = true := hasL_iff.2 (by simp)
   rw [List.map_cons, List.map_cons]
   unfold addN
   rw [if_pos this]
  ·rw [if_neg h, List.map_cons, List.map_cons, ih]
   unfold addN
   by_cases h2 : hasL (m.map (·.1)) k = true
   ·rw [if_pos h2, if_pos (hasL_iff.2 (List.mem_cons_of_mem _ (hasL_iff.1 h2)))]
   ·rw [if_neg h2, if_neg (fun h3 => by
     rcases List.mem_cons.1 (hasL_iff.1 h3) with h4 | h4
     ·exact h h4
     ·exact h2 (hasL_iff.2 h4))]
    rfl
theorem seenL_snoc2 (d N : List ByteArray) (k : Nat) (h : k < N.length) : seenL (d ++ N.take (k + 1)) = addN (seenL (d ++ N.take k)) N[k] := by
 unfold seenL
 rw [List.take_succ_eq_append_getElem h, ← List.append_assoc, List.foldl_append (l' := [N[k]])]
 rfl
/-- All but one block stay as they are. -/
def Oth (r : Nat) (W w : World) : Prop := W.heap.size ≤ w.heap.size ∧ ∀ b, b < W.heap.size → b ≠ r → w.heap[b]? = W.heap[b]?
theorem Oth.cell {r : Nat} {W w : World} (h : Oth r W w) {b k : Nat} {v : Value} (hb : b < W.heap.size) (hr : b ≠ r) (hv : W.cell? ⟨b, k, none⟩ = some v) : w.cell? ⟨b, k, none⟩ = some v := by
 rw [← hv]
 unfold World.cell?
 simp only [h.2 b hb hr]
theorem Oth.grown {r : Nat} {W w w2 : World} (h : Oth r W w) (hg : w.grownBy w2 (some r)) : Oth r W w2 := by
 refine ⟨Nat.le_trans h.1 hg.size, fun b hb hr => ?_⟩
 rw [hg.block b (Nat.lt_of_lt_of_le hb h.1) (fun e => hr (by injection e))]
 exact h.2 b hb hr
/-- Names in memory, in blocks from base on. -/
def StrB (base : Nat) (w : World) (o : Option Addr) (l : List ByteArray) : Prop := l.length ≤ maxLen ∧ ∀ k (h : k < l.length), ∃ b off, o = some ⟨b, off, none⟩ ∧ base ≤ b ∧ b < w.heap.size ∧ w.cell? ⟨b, off + k, none⟩ = some (.string l[k])
theorem StrB.below {base : Nat} {w w' : World} {o : Option Addr} {l : List ByteArray} (h : StrB base w o l) (hb : Below w.heap.size w w') : StrB base w' o l := by
 refine ⟨h.1, fun k hk => ?_⟩
 obtain ⟨b, off, e1, e2, e3, e4⟩ := h.2 k hk
 exact ⟨b, off, e1, e2, Nat.lt_of_lt_of_le e3 hb.size, by rw [hb.cell (p := ⟨_, _, _⟩) e3]; exact e4⟩
theorem StrB.of_row {base n c : Nat} {w : World} {o : Option Addr} {l : List ByteArray} (h : EStr.Row base w (.slice o n c) l) : StrB base w o l := by
 have hle := h.le
 refine ⟨hle, fun k hk => ?_⟩
 obtain ⟨_, ⟨h1, h2⟩ | ⟨g, cap, cur, h1, -⟩⟩ := id h
 ·omega
 ·injection h1 with e1 e2 e3
  subst e1
  obtain ⟨hi, hb, -⟩ := h.at
  refine ⟨g, 0, rfl, hb, hi.gl, ?_⟩
  have := hi.cell k hk 0 (by decide)
  rw [show 0 + k = k * EStr.k + 0 by show 0 + k = k * 1 + 0; omega, this]
  rfl
theorem moveMany_any (a b : CartD) (v1 v2 v3 u1 u2 u3 : Value) (w : World) (h : CartA w v1 v2 v3 a) (g : CartA w u1 u2 u3 b) (hla : Lt a.items) (hlb : Lt b.items) (hG : GlobIs w) :
  Calls Tryz.prog 29 #[.agg #[v1, v2, v3], .agg #[u1, u2, u3]] w fun e w' => e = .returned (.tuple #[.int .i64 (mMany a b), .int .i64 (mManyE a b)]) ∧ Below w.heap.size w w' := by
 obtain ⟨o1, n1, k1, o2, n2, k2, o3, n3, k3, rfl, rfl, rfl, hn1, hn2, hn3⟩ := opn4 h
 obtain ⟨o4, n4, k4, o5, n5, k5, o6, n6, k6, rfl, rfl, rfl, hn4, hn5, hn6⟩ := opn4 g
 obtain ⟨W1, HW, HB, HS, HK0, HK1⟩ := box2 w #[.slice o1 n1 k1, .slice o2 n2 k2, .slice o3 n3 k3] 28 #[.slice o4 n4 k4, .slice o5 n5 k5, .slice o6 n6 k6] 28
 have HC := Hd (fun wz (hz : Below W1.heap.size W1 wz) => And.intro (cel3 (HK0.out wz hz)) (cel3 (HK1.out wz hz)))
 have HGL := Hd (hG.below HB.out)
 have HBW := Hd HB.out
 have HV := Hd (cartValid_any a _ _ _ W1 (h.below HB.out) hla HGL.out)
 have HV2 : Hid (∀ wz, Below W1.heap.size W1 wz → Calls Tryz.prog 10 #[.agg #[.slice o4 n4 k4, .slice o5 n5 k5, .slice o6 n6 k6]] wz fun e w' => e = .returned (.bool (validC b)) ∧ Below wz.heap.size wz w') := Hd (fun wz hz => cartValid_any b _ _ _ wz (g.below (btr HB.out hz)) hlb (HGL.out.below hz))
 have HN1 : Hid (∀ wz, Below W1.heap.size W1 wz → Calls Tryz.prog 55 #[.agg #[.slice o1 n1 k1, .slice o2 n2 k2, .slice o3 n3 k3]] wz fun e w' => ∃ v', e = .returned v' ∧ EStr.Row wz.heap.size w' v' (namesV a) ∧ Below wz.heap.size wz w') := Hd (fun wz hz => cartNames_any a _ _ _ wz (h.below (btr HB.out hz)) hla (HGL.out.below hz))
 have HN2 : Hid (∀ wz, Below W1.heap.size W1 wz → Calls Tryz.prog 55 #[.agg #[.slice o4 n4 k4, .slice o5 n5 k5, .slice o6 n6 k6]] wz fun e w' => ∃ v', e = .returned v' ∧ EStr.Row wz.heap.size w' v' (namesV b) ∧ Below wz.heap.size wz w') := Hd (fun wz hz => cartNames_any b _ _ _ wz (g.below (btr HB.out hz)) hlb (HGL.out.below hz))
 have HZ : Hid ((validC a && validC b) = false → mMany a b = 0 ∧ mManyE a b = 2) := Hd (fun e => by unfold mMany mManyE; simp [e])
 have HL : Hid (validC a = true → validC b = true → mMany a b = (seenL (namesV a ++ namesV b)).length ∧ mManyE a b = 0) := Hd (fun h1 h2 => by
  unfold mMany mManyE namesV
  rw [h1, h2]
  simp only [Bool.and_self, if_true]
  rw [seen_many h1 h2]
  exact ⟨rfl, trivial⟩)
 have hsz := HS.out
 clear h g hla hlb hG hn1 hn2 hn3 hn4 hn5 hn6 HB HS
 generalize mMany a b = V at *
 generalize mManyE a b = E at *
 obtain ⟨r1, hr1⟩ : ∃ r, r = validC a := ⟨_, rfl⟩
 obtain ⟨r2, hr2⟩ : ∃ r, r = validC b := ⟨_, rfl⟩
 rw [← hr1] at HV HZ HL
 rw [← hr2] at HV2 HZ HL
 clear hr1 hr2
 obtain ⟨⟨c0, c1, c2⟩, c3, c4, c5⟩ := HC.out W1 brf
 go_enter Tryz.func29, Tryz.ntmps29
 go_wp2_with fail
 rw [← HW.out]
 go_wp2_with fail
 refine HV.out.mono ?_
 rintro e w2 ⟨rfl, hb2⟩
 have HB2 := Hd hb2
 clear hb2 HV c0 c1 c2 c3 c4 c5
 obtain ⟨⟨c0, c1, c2⟩, c3, c4, c5⟩ := HC.out w2 HB2.out
 cases r1 with
 | false =>
  obtain ⟨rfl, rfl⟩ := HZ.out rfl
  clear HZ HL HN1 HN2 HV2
  go_wp2_with fail
  go_ret2
  exact ⟨rfl, btr HBW.out HB2.out⟩
 | true =>
 have HV3 := Hd (HV2.out w2 HB2.out)
 go_wp2_with fail
 refine HV3.out.mono ?_
 rintro e w3 ⟨rfl, hb3⟩
 have HB3 := Hd (btr HB2.out hb3)
 clear hb3 HV2 HV3 c0 c1 c2 c3 c4 c5
 cases r2 with
 | false =>
  obtain ⟨rfl, rfl⟩ := HZ.out rfl
  clear HZ HL HN1 HN2
  go_wp2_with fail
  go_ret2
  exact ⟨rfl, btr HBW.out HB3.out⟩
 | true =>
 have HVL : Hid (V = (seenL (namesV a ++ namesV b)).length ∧ E = 0) := Hd (HL.out trivial rfl)
 clear HL HZ
 have hmm := @run_makeMap Tryz.prog
 obtain ⟨W2, hW2⟩ : ∃ x, x = w3.alloc (.map #[] 0) := ⟨_, rfl⟩
 have hb32 : Below w3.heap.size w3 W2 := by rw [hW2]; exact bal
 have HM2 : Hid (MapIs W2 w3.heap.size []) := Hd (by rw [hW2]; exact mapIs_new w3)
 have hs2 : W2.heap.size = w3.heap.size + 1 := by rw [hW2, alloc_size]
 have HB12 := Hd (btr HB3.out hb32)
 have HCR := Hd (fun wz (hz : Below W2.heap.size W2 wz) => HC.out wz (btr HB12.out hz))
 have HNA := Hd (fun wz (hz : Below W2.heap.size W2 wz) => HN1.out wz (btr HB12.out hz))
 have HNB := Hd (fun wz (hz : Below W2.heap.size W2 wz) => HN2.out wz (btr HB12.out hz))
 have HB32 := Hd hb32
 clear HN1 HN2 hb32
 go_upto_region 4 with fail
 rw [← hW2]
 clear hW2 hmm
 refine NQ.to ?_
 refine wp_region_held_drew (S := (fun wz => Below W2.heap.size W2 wz)) (by kernel_rfl) (bdr) (fun hS => ?_)
 refine tkR (n := 3) [0, 2, 6] rfl (by decide +kernel) hS ?_
 iterate 3 ((try simp only [Act.put, s1, s2, s3, s4, s5, s6]); refine ⟨_, ?_, rfl, Or.inl ⟨by kernel_rfl, fun w hSw => ok_of fun z hz => ?_⟩, ?_⟩; rotate_left; · (obtain ⟨⟨f0, f1, f2⟩, f3, f4, f5⟩ := HCR.out _ hSw; go_simp; exact hz))
 refine RunOK.done ?_
 try simp only [Act.put, s1, s2, s3, s4, s5, s6]
 refine rd1 1 (by decide +kernel) rfl (fun K hK => ?_)
 go_simp
 go_at_call 55
 refine (HNA.out _ (show Below W2.heap.size W2 W2.drew from bdr)).mono ?_
 rintro e w5 ⟨v5, rfl, hr5, hb5⟩
 have hb5 := btr (show Below W2.heap.size W2 W2.drew from bdr) hb5
 obtain ⟨o7, k7, rfl⟩ := hr5.slice
 go_simp
 refine Shut.out hK _ _ (hb5) (fun hS2 => ?_); clear hK K hS; have hS := hS2; clear hS2
 try simp only [Act.put, s1, s2, s3, s4, s5, s6]
 refine rd1 3 (by decide +kernel) rfl (fun K hK => ?_)
 go_simp
 go_at_call 55
 refine (HNB.out _ hb5).mono ?_
 rintro e w6 ⟨v6, rfl, hr6, hb6a⟩
 have hb6 := btr hb5 hb6a
 have hr5 := hr5.below hb6a
 obtain ⟨o8, k8, rfl⟩ := hr6.slice
 go_simp
 refine Shut.out hK _ _ (hb6) (fun hS2 => ?_); clear hK K hS; have hS := hS2; clear hS2
 try simp only [Act.put, s1, s2, s3, s4, s5, s6]
 refine rd1 4 (by decide +kernel) rfl (fun K hK => ?_)
 go_simp
 have hb7 : Below W2.heap.size W2 (w6.alloc (.cells #[.slice o7 (namesV a).length k7, .slice o8 (namesV b).length k8] 96)) := btr hb6 bal
 refine Shut.out hK _ _ (hb7) (fun hS2 => ?_); clear hK K hS; have hS := hS2; clear hS2
 try simp only [Act.put, s1, s2, s3, s4, s5, s6]
 refine tkR (n := 1) [5] rfl (by decide +kernel) hS ?_
 iterate 1 ((try simp only [Act.put, s1, s2, s3, s4, s5, s6]); refine ⟨_, ?_, rfl, Or.inl ⟨by kernel_rfl, fun w hSw => ok_of fun z hz => ?_⟩, ?_⟩; rotate_left; · (obtain ⟨⟨f0, f1, f2⟩, f3, f4, f5⟩ := HCR.out _ hSw; go_simp; exact hz))
 refine RunOK.done ?_
 try simp only [Act.put, s1, s2, s3, s4, s5, s6]
 refine wpAnyH_done (by kernel_rfl) ?_ _
 try simp only [Act.put, s1, s2, s3, s4, s5, s6]
 simp only [NQ]
 obtain ⟨W7, hW7⟩ : ∃ x, x = w6.alloc (.cells #[.slice o7 (namesV a).length k7, .slice o8 (namesV b).length k8] 96) := ⟨_, rfl⟩
 rw [← hW7] at hb7 ⊢
 have hx7 : W7.heap[w6.heap.size]? = some (.cells #[.slice o7 (namesV a).length k7, .slice o8 (namesV b).length k8] 96) := by rw [hW7]; exact alloc_new _ _
 have hb67 : Below w6.heap.size w6 W7 := by rw [hW7]; exact bal
 have hz5 : W2.heap.size ≤ w5.heap.size := hb5.size
 have hz6 : W2.heap.size ≤ w6.heap.size := hb6.size
 have hSA := (StrB.of_row hr5).below hb67
 have hSB := (StrB.of_row hr6).below hb67
 have hz67 : w6.heap.size < W7.heap.size := by rw [hW7, alloc_size]; omega
 obtain ⟨q0, q1⟩ := cel2 hx7
 have HM7 : Hid (MapIs W7 w3.heap.size []) := Hd (HM2.out.of_block (hb7.block _ (by omega)))
 have HB7 := Hd (btr HBW.out (btr HB12.out hb7))
 have HB3W : Hid (w.heap.size ≤ w3.heap.size) := Hd (Nat.le_trans HBW.out.size HB3.out.size)
 obtain ⟨dn, hdn⟩ : ∃ dn : Nat → List ByteArray, dn = fun j => if j = 0 then [] else if j = 1 then namesV a else namesV a ++ namesV b := ⟨_, rfl⟩
 have HJ : Hid (∀ j, j < 2 → ∃ o N kk, W7.cell? ⟨w6.heap.size, j, none⟩ = some (.slice o N.length kk) ∧ StrB (w3.heap.size + 1) W7 o N ∧ dn (j + 1) = dn j ++ N) := Hd (fun j hj => by
  rcases (show j = 0 ∨ j = 1 by omega) with rfl | rfl
  ·exact ⟨_, _, _, q0, ⟨hSA.1, fun k hk => by obtain ⟨b, off, e1, e2, e3, e4⟩ := hSA.2 k hk; exact ⟨b, off, e1, by have : w3.heap.size + 1 ≤ W2.drew.heap.size := (by show w3.heap.size + 1 ≤ W2.heap.size; omega); omega, e3, e4⟩⟩, by rw [hdn]; simp⟩
  ·exact ⟨_, _, _, q1, ⟨hSB.1, fun k hk => by obtain ⟨b, off, e1, e2, e3, e4⟩ := hSB.2 k hk; exact ⟨b, off, e1, by omega, e3, e4⟩⟩, by rw [hdn]; simp⟩)
 have HD0 : Hid (dn 0 = []) := Hd (by rw [hdn]; rfl)
 have HD2 : Hid (dn 2 = namesV a ++ namesV b) := Hd (by rw [hdn]; rfl)
 have hne6 : w6.heap.size ≠ w3.heap.size := by omega
 have HOT : Hid (Oth w3.heap.size W7 W7) := Hd ⟨Nat.le_refl _, fun _ _ _ => rfl⟩
 clear hb5 hb6 hb7 hr5 hr6 hSA hSB hx7 hb67 q0 q1 hdn hS hW7
 generalize w6.heap.size = g7 at *
 have HVD : Hid (V = (seenL (dn 2)).length) := Hd (by rw [HVL.out.1, HD2.out])
 have hE0 := HVL.out.2
 subst hE0
 clear HD2 HVL
 go_wp2_with fail
 go_loopw [26] (fun i wr => ∃ j : Nat, j ≤ 2 ∧ i = .int .i64 j ∧ (∃ m, MapIs wr w3.heap.size m ∧ m.map (·.1) = seenL (dn j)) ∧ Oth w3.heap.size W7 wr ∧ Below w.heap.size w wr) (fun i _ => 2 - (intOf i).toNat)
 case atStart => exact ⟨0, by omega, rfl, ⟨[], HM7.out, by rw [HD0.out]; rfl⟩, HOT.out, HB7.out⟩
 case round =>
  obtain ⟨j, hj, rfl, ⟨m, hm, hmk⟩, hot, hbr⟩ := hrel
  have HM := Hd hm
  have HMK := Hd hmk
  have HO := Hd hot
  have HBR := Hd hbr
  clear hm hmk hot hbr
  by_cases hlt : j < 2
  rotate_left
  ·have hje : j = 2 := by omega
   subst hje
   have HF : Hid ((m.length : Int) = V) := Hd (by have := congrArg List.length HMK.out; rw [List.length_map] at this; rw [HVD.out, this])
   clear HJ HD0 HM7 HMK
   have hlen := fun ty => HM.out.len Tryz.underlying95 ty
   rw [HF.out] at hlen
   go_wp2_with fail
   go_ret2
   exact ⟨rfl, HBR.out⟩
  ·obtain ⟨o, N, kk, hcell, ⟨hNl, hel⟩, hdn1⟩ := HJ.out j hlt
   have hg7 : g7 < W7.heap.size := hz67
   have c0 : wr.cell? ⟨g7, j, none⟩ = some (.slice o N.length kk) := HO.out.cell hg7 hne6 hcell
   have HEL := Hd hel
   have HDN := Hd hdn1
   obtain ⟨nn, hnn⟩ : ∃ n, n = N.length := ⟨_, rfl⟩
   rw [← hnn] at c0 hNl
   have HNN := Hd hnn
   have a0 : (0 : Int) ≤ j := by omega
   have a1 : (j : Int) < 2 := by omega
   have hjw := wr1 j (by omega)
   clear hcell hel hdn1 hnn
   go_wp2_with fail
   obtain ⟨wo, rfl⟩ : ∃ wo : World, wo = wr := ⟨_, rfl⟩
   go_loopw [32] (fun i wr => ∃ k : Nat, k ≤ nn ∧ i = .int .i64 k ∧ (∃ m, MapIs wr w3.heap.size m ∧ m.map (·.1) = seenL (dn j ++ N.take k)) ∧ Oth w3.heap.size W7 wr ∧ Below w.heap.size w wr) (fun i _ => nn - (intOf i).toNat)
   case atStart => exact ⟨0, Nat.zero_le _, rfl, ⟨m, HM.out, by rw [List.take_zero, List.append_nil]; exact HMK.out⟩, HO.out, HBR.out⟩
   case round =>
    obtain ⟨k, hk, rfl, ⟨m2, hm2, hmk2⟩, hot, hbr⟩ := hrel
    have HM2' := Hd hm2
    have HMK2 := Hd hmk2
    have HO2 := Hd hot
    have HBR2 := Hd hbr
    clear hm2 hmk2 hot hbr
    by_cases hkt : k < nn
    rotate_left
    ·have hke : k = nn := by omega
     have HF : Hid (m2.map (·.1) = seenL (dn (j + 1))) := Hd (by rw [HMK2.out, HDN.out, hke, HNN.out, List.take_length])
     have b1 : ¬ (k : Int) < (nn : Int) := by omega
     clear HEL HJ HMK HMK2
     go_wp2_with fail
     go_roundw
     case rel => exact ⟨j + 1, by omega, by go_num, ⟨m2, HM2'.out, HF.out⟩, HO2.out, HBR2.out⟩
     case measure => simp [intOf]; omega
    ·have hk1 : k < N.length := by rw [← HNN.out]; exact hkt
     obtain ⟨bn, off, rfl, hbb, hbl, e0⟩ := HEL.out k hk1
     have d0 : wr.cell? ⟨bn, off + k, none⟩ = some (.string N[k]) := HO2.out.cell hbl (by omega) e0
     have HSN := Hd (seenL_snoc2 (dn j) N k hk1)
     generalize N[k] = nm at *
     have b0 : (0 : Int) ≤ k := by omega
     have b1 : (k : Int) < (nn : Int) := by omega
     have hkw := wr1 k (by unfold maxLen at hNl; omega)
     clear e0
     go_wp2_with (at_mapUpdate; refine wpList_updS rfl _ _ _ rfl Tryz.underlying95 Tryz.underlying9 rfl HM2'.out nm rfl _ rfl ?_; intro w8 hm8 hg8)
     have HM8 := Hd hm8
     have HK8 : Hid ((putA m2 nm (.bool true)).map (·.1) = seenL (dn j ++ N.take (k + 1))) := Hd (by rw [putA_keys, HMK2.out, HSN.out])
     have HO8 := Hd (HO2.out.grown hg8)
     have HB8 := Hd (HBR2.out.grown hg8 HBR2.out.size (fun q hq => by injection hq with hq; have := HB3W.out; omega))
     clear hm8 hg8 HM2' HMK2 HO2 HBR2
     go_wp2_with fail
     go_roundw
     case rel => exact ⟨k + 1, by omega, by go_num, ⟨_, HM8.out, HK8.out⟩, HO8.out, HB8.out⟩
     case measure => simp [intOf]; omega
end Go.Proofs.YtjoljfnlkddfbaaGreatDoor
