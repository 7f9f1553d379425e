/- known walked: it returns true wherever the table of rows lies. -/
import Derived.Test.YtdeljhehcjknbaaDoorS15
namespace Go.Proofs.YtdeljhehcjknbaaDoor
open Go.RowKit Go.Maps Go.Sort

def OkStep (base b : Nat) (A' : List APg) (n : Int) (w : World) (e : Ending) (w' : World) : Prop :=
  e = .returned (.int .i64 n) ∧ Own (fun k => base ≤ k) w' b A' ∧ Below base w w' ∧ base ≤ w'.heap.size
theorem done_ok {base b : Nat} {A' : List APg} {n m : Int} {w : World} {e : Ending} {w' : World} (hb : base ≤ w.heap.size) (hn : n = m) (h : Done (fun k => base ≤ k) w b A' n e w') : OkStep base b A' m w e w' := by
  subst hn
  exact ⟨h.1, h.2.1, base_keep h.2.2 hb, Nat.le_trans hb h.2.2.size⟩

theorem maxLen_small {n : Nat} (h : n ≤ 100) : n ≤ maxLen := by unfold maxLen; omega

set_option maxRecDepth 100000 in
set_option maxHeartbeats 4000000 in
theorem known_any (w : World) (hR : RowsLie w) : Calls Tryd.prog 9 #[] w fun e w' => e = .returned (.bool true) ∧ Below w.heap.size w w' := by
  obtain ⟨base, hbase⟩ : ∃ base, base = w.heap.size := ⟨_, rfl⟩
  subst hbase
  have h0 : 0 < w.heap.size := by obtain ⟨C, tt, fz, h1, _⟩ := hR; exact lt_of_heap h1
  have hsz0 : w.heap.size ≤ w.heap.size := Nat.le_refl _
  have hG : ∀ w1 : World, w.heap.size ≤ w1.heap.size → ∀ k, w1.heap.size ≤ k → w.heap.size ≤ k := fun w1 h k hk => Nat.le_trans h hk
  have S1 := Lib.hid (fun w1 hs (O : Own (fun k => w.heap.size ≤ k) w1 w.heap.size []) => (open_o O (hG w1 hs) (who := ann) (cart := kk) (maxLen_small (by decide)) (maxLen_small (by decide))).mono fun _ _ => done_ok hs g1)
  have S2 := Lib.hid (fun w1 hs (O : Own (fun k => w.heap.size ≤ k) w1 w.heap.size K1) => (grant_o O (hG w1 hs) (who := ann) (cart := kk) (who2 := bob) 11 (maxLen_small (by decide)) (maxLen_small (by decide)) (maxLen_small (by decide))).mono fun _ _ => done_ok hs g2)
  have S3 := Lib.hid (fun w1 hs (O : Own (fun k => w.heap.size ≤ k) w1 w.heap.size K2) => (grant_o O (hG w1 hs) (who := bob) (cart := kk) (who2 := cy) 3 (maxLen_small (by decide)) (maxLen_small (by decide)) (maxLen_small (by decide))).mono fun _ _ => done_ok hs g3)
  have e4 : grantA K3 bob kk cy 7 = K3 := by unfold grantA; rw [g4]; rfl
  have e5 : grantA K3 bob kk ann 0 = K3 := by unfold grantA; rw [g5]; rfl
  have e6 : grantA K3 bob kk bob 15 = K3 := by unfold grantA; rw [g6]; rfl
  have e12 : passA K3 bob kk cy = K3 := by unfold passA; rw [g12]; rfl
  have e16 : closeA K4 ann kk = K4 := by unfold closeA; rw [g16]; rfl
  have S4 := Lib.hid (fun w1 hs (O : Own (fun k => w.heap.size ≤ k) w1 w.heap.size K3) => (grant_o O (hG w1 hs) (who := bob) (cart := kk) (who2 := cy) 7 (maxLen_small (by decide)) (maxLen_small (by decide)) (maxLen_small (by decide))).mono fun _ _ h => done_ok hs g4 (e4 ▸ h))
  have S5 := Lib.hid (fun w1 hs (O : Own (fun k => w.heap.size ≤ k) w1 w.heap.size K3) => (grant_o O (hG w1 hs) (who := bob) (cart := kk) (who2 := ann) 0 (maxLen_small (by decide)) (maxLen_small (by decide)) (maxLen_small (by decide))).mono fun _ _ h => done_ok hs g5 (e5 ▸ h))
  have S6 := Lib.hid (fun w1 hs (O : Own (fun k => w.heap.size ≤ k) w1 w.heap.size K3) => (grant_o O (hG w1 hs) (who := bob) (cart := kk) (who2 := bob) 15 (maxLen_small (by decide)) (maxLen_small (by decide)) (maxLen_small (by decide))).mono fun _ _ h => done_ok hs g6 (e6 ▸ h))
  have S7 := Lib.hid (fun w1 hs (hb : Below w.heap.size w w1) (O : Own (fun k => w.heap.size ≤ k) w1 w.heap.size K3) => (allows_o O (who := cy) (c := c1) (maxLen_small (by decide)) ⟨by decide, by decide, maxLen_small (by decide), maxLen_small (by decide), maxLen_small (by decide), maxLen_small (by decide)⟩ (rowsLie_base hR hb h0)).mono fun _ _ h => done_ok hs g7 h)
  have S8 := Lib.hid (fun w1 hs (hb : Below w.heap.size w w1) (O : Own (fun k => w.heap.size ≤ k) w1 w.heap.size K3) => (allows_o O (who := cy) (c := c2) (maxLen_small (by decide)) ⟨by decide, by decide, maxLen_small (by decide), maxLen_small (by decide), maxLen_small (by decide), maxLen_small (by decide)⟩ (rowsLie_base hR hb h0)).mono fun _ _ h => done_ok hs g8 h)
  have S9 := Lib.hid (fun w1 hs (hb : Below w.heap.size w w1) (O : Own (fun k => w.heap.size ≤ k) w1 w.heap.size K3) => (allows_o O (who := dee) (c := c3) (maxLen_small (by decide)) ⟨by decide, by decide, maxLen_small (by decide), maxLen_small (by decide), maxLen_small (by decide), maxLen_small (by decide)⟩ (rowsLie_base hR hb h0)).mono fun _ _ h => done_ok hs g9 h)
  have S10 := Lib.hid (fun w1 hs (hb : Below w.heap.size w w1) (O : Own (fun k => w.heap.size ≤ k) w1 w.heap.size K3) => (allows_o O (who := cy) (c := c4) (maxLen_small (by decide)) ⟨by decide, by decide, maxLen_small (by decide), maxLen_small (by decide), maxLen_small (by decide), maxLen_small (by decide)⟩ (rowsLie_base hR hb h0)).mono fun _ _ h => done_ok hs g10 h)
  have S11 := Lib.hid (fun w1 hs (hb : Below w.heap.size w w1) (O : Own (fun k => w.heap.size ≤ k) w1 w.heap.size K3) => (allows_o O (who := ann) (c := c5) (maxLen_small (by decide)) ⟨by decide, by decide, maxLen_small (by decide), maxLen_small (by decide), maxLen_small (by decide), maxLen_small (by decide)⟩ (rowsLie_base hR hb h0)).mono fun _ _ h => done_ok hs g11 h)
  have S12 := Lib.hid (fun w1 hs (O : Own (fun k => w.heap.size ≤ k) w1 w.heap.size K3) => (pass_o O (hG w1 hs) (who := bob) (cart := kk) (who2 := cy) (maxLen_small (by decide)) (maxLen_small (by decide)) (maxLen_small (by decide))).mono fun _ _ h => done_ok hs g12 (e12 ▸ h))
  have S13 := Lib.hid (fun w1 hs (O : Own (fun k => w.heap.size ≤ k) w1 w.heap.size K3) => (pass_o O (hG w1 hs) (who := ann) (cart := kk) (who2 := cy) (maxLen_small (by decide)) (maxLen_small (by decide)) (maxLen_small (by decide))).mono fun _ _ h => done_ok hs g13 h)
  have S14 := Lib.hid (fun w1 (O : Own (fun k => w.heap.size ≤ k) w1 w.heap.size K4) => (owner_o O kk).mono fun e w' h => (⟨h.1.trans (by rw [g14]; rfl), h.2⟩ : e = .returned (.string ⟨#[99, 121]⟩) ∧ w1 = w'))
  have S15 := Lib.hid (fun w1 (O : Own (fun k => w.heap.size ≤ k) w1 w.heap.size K4) => (rights_o O ann kk).mono fun _ _ h => (g15 ▸ h))
  have S16 := Lib.hid (fun w1 hs (O : Own (fun k => w.heap.size ≤ k) w1 w.heap.size K4) => (close_o O (hG w1 hs) (who := ann) (cart := kk) (maxLen_small (by decide)) (maxLen_small (by decide))).mono fun _ _ h => done_ok hs g16 (e16 ▸ h))
  have S17 := Lib.hid (fun w1 (O : Own (fun k => w.heap.size ≤ k) w1 w.heap.size K3) => (members_o O kk).mono fun _ _ h => (g17 ▸ h))
  have S18 := Lib.hid (fun w1 (O : Own (fun k => w.heap.size ≤ k) w1 w.heap.size K4) => (carts_o O cy).mono fun _ _ h => (g18 ▸ h))
  have HR := Lib.hid hR
  have HG := Lib.hid hG
  clear e4 e5 e6 e12 e16 hR hG
  go_enter Tryd.func9, Tryd.ntmps9
  go_wp2_with fail
  have O0 := Own.new w (fun k => w.heap.size ≤ k) (HG.out w hsz0)
  have B0 : Below w.heap.size w (w.alloc (.cells #[.map none] 34)) := (Below.refl _ _).alloc (Nat.le_refl _) _
  refine (S1.out _ (by simp) O0).mono ?_
  rintro e w1 ⟨rfl, O1, b1, z1⟩
  go_wp2_with fail
  refine (S2.out _ z1 O1).mono ?_
  rintro e w2 ⟨rfl, O2, b2, z2⟩
  go_wp2_with fail
  refine (S3.out _ z2 O2).mono ?_
  rintro e w3 ⟨rfl, O3, b3, z3⟩
  go_wp2_with fail
  refine (S4.out _ z3 O3).mono ?_
  rintro e w4 ⟨rfl, O4, b4, z4⟩
  go_wp2_with fail
  refine (S5.out _ z4 O4).mono ?_
  rintro e w5 ⟨rfl, O5, b5, z5⟩
  go_wp2_with fail
  refine (S6.out _ z5 O5).mono ?_
  rintro e w6 ⟨rfl, O6, b6, z6⟩
  go_wp2_with fail
  refine (S17.out _ O6).mono ?_
  rintro e w7 ⟨v, rfl, hv, b7⟩
  have HV := Lib.hid (Rd.of_own hv (by decide))
  clear hv
  go_wp2_with fail
  refine (membersEq_any v _ [(bob, 11), (cy, 3)] [(bob, 11), (cy, 3)] _ (HV.out.below ((Below.refl _ _).alloc (Nat.le_refl _) _)) ⟨_, 2, rfl, rfl, by decide, fun _ => ⟨w7.heap.size, rfl, by simp, fun j u h => ?_⟩⟩).mono ?_
  · rw [cell0 (alloc_new w7 _)]
    have e : flatM [(bob, 11), (cy, 3)] = [.string ⟨#[98, 111, 98]⟩, .int .i64 11, .string ⟨#[99, 121]⟩, .int .i64 3] := rfl
    rw [e] at h; simpa using h
  rintro e w8 ⟨rfl, n8, hw8⟩
  have B6 := (((((B0.trans b1).trans b2).trans b3).trans b4).trans b5).trans b6
  have hb8 : Below w7.heap.size w7 w8 := by rw [hw8]; exact below_drewN ((Below.refl _ _).alloc (Nat.le_refl _) _) n8
  have z7 := b7.size
  have z8' := hb8.size
  have B8 : Below w.heap.size w w8 := (B6.trans (b7.mono z6)).trans (hb8.mono (by omega))
  have O8 := (O6.below b7).below hb8
  have z8 : w.heap.size ≤ w8.heap.size := by omega
  clear hw8 hb8
  go_wp2_with fail
  refine (S7.out _ z8 B8 O8).mono ?_
  rintro e w9 ⟨rfl, O9, b9, z9⟩
  have B9 := B8.trans b9
  go_wp2_with fail
  refine (S8.out _ z9 B9 O9).mono ?_
  rintro e w10 ⟨rfl, O10, b10, z10⟩
  have B10 := B9.trans b10
  go_wp2_with fail
  refine (S9.out _ z10 B10 O10).mono ?_
  rintro e w11 ⟨rfl, O11, b11, z11⟩
  have B11 := B10.trans b11
  go_wp2_with fail
  refine (S10.out _ z11 B11 O11).mono ?_
  rintro e w12 ⟨rfl, O12, b12, z12⟩
  have B12 := B11.trans b12
  go_wp2_with fail
  refine (S11.out _ z12 B12 O12).mono ?_
  rintro e w13 ⟨rfl, O13, b13, z13⟩
  have B13 := B12.trans b13
  go_wp2_with fail
  refine (S12.out _ z13 O13).mono ?_
  rintro e w14 ⟨rfl, O14, b14, z14⟩
  have B14 := B13.trans b14
  go_wp2_with fail
  refine (S13.out _ z14 O14).mono ?_
  rintro e w15 ⟨rfl, O15, b15, z15⟩
  have B15 := B14.trans b15
  go_wp2_with fail
  refine (S14.out _ O15).mono ?_
  rintro e _ ⟨rfl, rfl⟩
  go_wp2_with fail
  refine (S15.out _ O15).mono ?_
  rintro e _ ⟨rfl, rfl⟩
  go_wp2_with fail
  refine (S16.out _ z15 O15).mono ?_
  rintro e w16 ⟨rfl, O16, b16, z16⟩
  have B16 := B15.trans b16
  go_wp2_with fail
  refine (S18.out _ O16).mono ?_
  rintro e w17 ⟨v2, rfl, hv, b17⟩
  have HV2 := Lib.hid (Rd.of_own hv (by decide))
  clear hv
  go_wp2_with fail
  refine (textsEq_any v2 _ [kk] [kk] _ (HV2.out.below ((Below.refl _ _).alloc (Nat.le_refl _) _)) ⟨_, 1, rfl, rfl, by decide, fun _ => ⟨w17.heap.size, rfl, by simp, fun j u h => ?_⟩⟩).mono ?_
  · rw [cell0 (alloc_new w17 _)]
    have e : flatS [kk] = [.string ⟨#[107]⟩] := rfl
    rw [e] at h; simpa using h
  rintro e w18 ⟨rfl, n18, hw18⟩
  go_wp2_with fail
  go_ret
  refine ⟨rfl, ?_⟩
  exact below_drewN (((B16.trans (b17.mono z16))).alloc (by have := b17.size; omega) _) n18
end Go.Proofs.YtdeljhehcjknbaaDoor
