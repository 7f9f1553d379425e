/- A round of SharePlays: the call, or the copy. -/
import Derived.Test.YtdeljhehcjknbaaDoorS49
import Derived.Test.YtdeljhehcjknbaaDoorS55
import Derived.Deep.CutRange
import Derived.Deep.Cut
namespace Go.Proofs.YtdeljhehcjknbaaDoor
open Go.RowKit Go.Maps Go.Sort Go.Lib

/-- What leaves all blocks but those of S leaves book and model. -/
theorem Mid.of {base : Nat} {S S' : Nat → Prop} {w w' : World} {bB bM : Nat} {A A2 : List APg} (h : Mid base S w bB bM A A2) (hk : ∀ k, ¬ S k → k < w.heap.size → w'.heap[k]? = w.heap[k]?) (hs : w.heap.size ≤ w'.heap.size)
    (h1 : ∀ k, S' k → S k ∨ w.heap.size ≤ k) (h2 : ∀ k, S' k → k < w'.heap.size) : Mid base S' w' bB bM A A2 := by
  obtain ⟨GB, GM, e1, e2, e3, e4, e5, e6⟩ := h
  refine ⟨GB, GM, e1.keep (fun k h1 h2 => hk k (e3 k h1).2.2.1 h2) hs, e2.of (fun _ h => h) (fun k h1 h2 => hk k (e4 k h1).2.2 h2) hs, fun k hk => ?_, fun k hk => ?_, h2, by omega⟩
  · obtain ⟨a1, a2, a3, a4⟩ := e3 k hk
    exact ⟨a1, by omega, fun h => by rcases h1 k h with h | h; exact a3 h; omega, a4⟩
  · obtain ⟨a1, a2, a3⟩ := e4 k hk
    exact ⟨a1, by omega, fun h => by rcases h1 k h with h | h; exact a3 h; omega⟩
theorem Mid.sub {base : Nat} {S S' : Nat → Prop} {w : World} {bB bM : Nat} {A A2 : List APg} (h : Mid base S w bB bM A A2) (h1 : ∀ k, S' k → S k) : Mid base S' w bB bM A A2 :=
  h.of (fun _ _ _ => rfl) (Nat.le_refl _) (fun k hk => Or.inl (h1 k hk)) (fun k hk => by obtain ⟨_, _, _, _, _, _, e5, _⟩ := h; exact e5 k (h1 k hk))
theorem Mid.slt {base : Nat} {S : Nat → Prop} {w : World} {bB bM : Nat} {A A2 : List APg} (h : Mid base S w bB bM A A2) {k : Nat} (hk : S k) : k < w.heap.size := by
  obtain ⟨_, _, _, _, _, _, e5, _⟩ := h; exact e5 k hk
theorem row_stay {w w' : World} {base : Nat} {e : TypeId} {size : Nat} {v : Value} {n : Nat} {xs : List Value} (h : w.ownsRow base e size v n xs) (hb : ∀ k, v.ownBlock = some k → w'.heap[k]? = w.heap[k]?) : w'.ownsRow base e size v n xs := by
  obtain ⟨h1, h2 | ⟨g, cap, cur, rfl, a2, a3, a4⟩⟩ := h
  · exact ⟨h1, Or.inl h2⟩
  · exact ⟨h1, Or.inr ⟨g, cap, cur, rfl, a2, by rw [hb g rfl]; exact a3, a4⟩⟩

/-- The first book goes on: it lies where G says, and nothing else has been written. -/
def OldAt (G : Nat → Prop) (bB : Nat) (w4 w : World) : Prop := ∃ B, Own G w bB B ∧ Keep G w4 w
def zed : ByteArray := ⟨#[122, 101, 100]⟩
section
variable {G : Nat → Prop} {bB : Nat} {w4 w : World} (h : OldAt G bB w4 w) (hG : ∀ k, w4.heap.size ≤ k → G k)
include h hG
theorem old_open : Calls Tryd.prog 14 #[.pointer (some ⟨bB, 0, none⟩), .string ⟨#[122, 101, 100]⟩, .string ⟨#[107]⟩] w fun e w' => ∃ n, e = .returned (.int .i64 n) ∧ OldAt G bB w4 w' := by
  obtain ⟨B, hO, hK⟩ := h
  refine (open_o hO (fun k hk => hG k (Nat.le_trans hK.size hk)) (who := zed) (cart := kk) (by decide) (by decide)).mono fun e w' h => ⟨_, h.1, _, h.2.1, hK.trans h.2.2⟩
theorem old_grant : Calls Tryd.prog 17 #[.pointer (some ⟨bB, 0, none⟩), .string ⟨#[97, 110, 110]⟩, .string ⟨#[107]⟩, .string ⟨#[122, 101, 100]⟩, .int .i64 15] w fun e w' => ∃ n, e = .returned (.int .i64 n) ∧ OldAt G bB w4 w' := by
  obtain ⟨B, hO, hK⟩ := h
  refine (grant_o hO (fun k hk => hG k (Nat.le_trans hK.size hk)) (who := ann) (cart := kk) (who2 := zed) 15 (by decide) (by decide) (by decide)).mono fun e w' h => ⟨_, h.1, _, h.2.1, hK.trans h.2.2⟩
theorem old_close : Calls Tryd.prog 23 #[.pointer (some ⟨bB, 0, none⟩), .string ⟨#[97, 110, 110]⟩, .string ⟨#[107]⟩] w fun e w' => ∃ n, e = .returned (.int .i64 n) ∧ OldAt G bB w4 w' := by
  obtain ⟨B, hO, hK⟩ := h
  refine (close_o hO (fun k hk => hG k (Nat.le_trans hK.size hk)) (who := ann) (cart := kk) (by decide) (by decide)).mono fun e w' h => ⟨_, h.1, _, h.2.1, hK.trans h.2.2⟩
end

/-- Copy beside the model: the copy takes the book's place, whatever the first book does then. -/
def CopyMid (base : Nat) (S : Nat → Prop) (bB bM : Nat) (A : List APg) (w : World) (e : Ending) (w4 : World) : Prop :=
  ∃ (c : Nat) (G : Nat → Prop), e = .returned (.pointer (some ⟨c, 0, none⟩)) ∧ (∀ k, w4.heap.size ≤ k → G k) ∧ OldAt G bB w4 w4 ∧ ∀ w7, OldAt G bB w4 w7 → ∃ B', Mid base S w7 c bM B' A ∧ B'.Perm A ∧ Stay base S w w7
theorem copy_mid {base : Nat} {S : Nat → Prop} {w : World} {bB bM : Nat} {A B : List APg} (h : Mid base S w bB bM B A) (hp : B.Perm A) :
    Calls Tryd.prog 22 #[.pointer (some ⟨bB, 0, none⟩)] w (CopyMid base S bB bM A w) := by
  obtain ⟨GB, GM, e1, e2, e3, e4, e5, e6⟩ := h
  refine (copy_any e1).mono ?_
  rintro e w4 ⟨c, B', rfl, hO, hpB, hb⟩
  have hs := hb.size
  refine ⟨c, fun k => GB k ∨ w4.heap.size ≤ k, rfl, fun k hk => Or.inr hk, ⟨B, (e1.below hb).mono (fun k hk => Or.inl hk), Keep.refl _ _⟩, ?_⟩
  rintro w7 ⟨B7, hO7, hK⟩
  have hs7 := hK.size
  have hSt : Stay base S w w7 := by
    refine ⟨⟨hK.os.trans hb.os, hK.tape.trans hb.tape, hK.output.trans hb.output, by omega, fun k hk => ?_⟩, fun k hk => ?_⟩
    · rw [hK.block k (by omega) (fun h => by rcases h with h | h; have := (e3 k h).1; omega; omega), hb.block k (by omega)]
    · have := e5 k hk
      rw [hK.block k (by omega) (fun h => by rcases h with h | h; exact (e3 k h).2.2.1 hk; omega), hb.block k this]
  refine ⟨B', ⟨fun k => w.heap.size ≤ k ∧ k < w4.heap.size, GM, (hO.sharp).keep (fun k hk hk2 => hK.block k hk2 (fun h => ?_)) hs7, e2.of (fun _ h => h) (fun k hk hk2 => ?_) (by omega), fun k hk => ?_, fun k hk => ?_, fun k hk => ?_, by omega⟩, hpB.trans hp, hSt⟩
  · rcases h with h | h
    · have := (e3 k h).2.1; have := hk.1; omega
    · omega
  · rw [hK.block k (by omega) (fun h => by rcases h with h | h; exact (e3 k h).2.2.2 hk; omega), hb.block k hk2]
  · exact ⟨by omega, by omega, fun h => by have := e5 k h; omega, fun h => by have := (e4 k h).2.1; omega⟩
  · obtain ⟨a1, a2, a3⟩ := e4 k hk
    exact ⟨a1, by omega, a3⟩
  · have := e5 k hk; omega
end Go.Proofs.YtdeljhehcjknbaaDoor
namespace Go.Proofs.YtdeljhehcjknbaaDoor
open Go.RowKit Go.Maps Go.Sort Go.Lib

set_option maxRecDepth 100000 in
set_option maxHeartbeats 8000000 in
theorem act_round (A B : List APg) (a : ActR) (base bB bM z : Nat) (S : Nat → Prop) (w3 : World) (hM : Mid base S w3 bB bM B A) (hp : B.Perm A) (hz : S z) (ha : a.fits) (hR : ∀ wx, Below base w3 wx → RowsLie wx) (hc : w3.heap[z]? = some (.cells #[.int .i64 a.what, .string a.by_, .string a.cart, .string a.who, .int .i64 a.right, .int .i64 a.call.op, .string a.call.key, .string a.call.other, .string a.call.item, .int .i64 a.call.qty, .slice a.call.da a.call.dl a.call.dc] 29)) (u0 u1 u2 u5 u6 u8 u9 u10 u11 u12 u13 u14 u15 u16 u17 u18 u19 u20 u21 u22 u23 u24 u25 u26 u27 u28 u29 u30 u31 u32 u33 u34 u35 u36 u37 u38 u39 u40 u41 u42 u43 u44 u45 u46 u47 u48 u49 u50 u51 u52 u53 u54 u55 u56 u57 u58 u59 u60 u61 u62 u63 u64 u65 u66 u67 u68 u69 u70 u71 u72 u73 u74 : Value)
    (R : Act → World → Prop) (hQ : ∀ (u8x u41x u42x u43x u44x u45x u46x u47x u48x u49x u50x u51x u52x u53x u54x u55x u56x u57x u58x u59x u60x u61x u62x u63x u64x : Value) (bB2 : Nat) (A2 B2 : List APg) (wx : World), Mid base S wx bB2 bM B2 A2 → B2.Perm A2 → Stay base S w3 wx → R { tmps := #[u0, u1, u2, .pointer (some ⟨bB2, 0, none⟩), .pointer (some ⟨bM, 0, none⟩), u5, u6, .pointer (some ⟨z, 0, none⟩), u8x, u9, u10, u11, u12, u13, u14, u15, u16, u17, u18, u19, u20, u21, u22, u23, u24, u25, u26, u27, u28, u29, u30, u31, u32, u33, u34, u35, u36, u37, u38, u39, u40, u41x, u42x, u43x, u44x, u45x, u46x, u47x, u48x, u49x, u50x, u51x, u52x, u53x, u54x, u55x, u56x, u57x, u58x, u59x, u60x, u61x, u62x, u63x, u64x, u65, u66, u67, u68, u69, u70, u71, u72, u73, u74], defers := [] } wx) :
    (codeAt [1,1,1,1,0, 1,0,0, 1,0,0, 1,1,1, 0] (Tryd.f6.body.getD .skip)).wp Tryd.prog (NQ R) { tmps := #[u0, u1, u2, .pointer (some ⟨bB, 0, none⟩), .pointer (some ⟨bM, 0, none⟩), u5, u6, .pointer (some ⟨z, 0, none⟩), u8, u9, u10, u11, u12, u13, u14, u15, u16, u17, u18, u19, u20, u21, u22, u23, u24, u25, u26, u27, u28, u29, u30, u31, u32, u33, u34, u35, u36, u37, u38, u39, u40, u41, u42, u43, u44, u45, u46, u47, u48, u49, u50, u51, u52, u53, u54, u55, u56, u57, u58, u59, u60, u61, u62, u63, u64, u65, u66, u67, u68, u69, u70, u71, u72, u73, u74], defers := [] } w3 := by
  simp only [codeAt, codeL, codeR, Tryd.f6, Option.getD_some]
  have HM := Lib.hid hM
  have HP := Lib.hid hp
  have HA := Lib.hid ha
  have HRL := Lib.hid hR
  have HQ := Lib.hid hQ
  have hzl := hM.slt hz
  have HZ := Lib.hid hz
  clear hM hp ha hR hQ hz
  obtain ⟨what, by_, crt, who, right, op, key, other, item, qty, da, dl, dc⟩ := a
  simp only at hc
  have HK5 : Hid (∀ wx : World, wx.heap[z]? = w3.heap[z]? → (wx.cell? ⟨z, 0, none⟩ = some (.int .i64 what) ∧ wx.cell? ⟨z, 1, none⟩ = some (.string by_) ∧ wx.cell? ⟨z, 2, none⟩ = some (.string crt) ∧ wx.cell? ⟨z, 3, none⟩ = some (.string who) ∧ wx.cell? ⟨z, 4, none⟩ = some (.int .i64 right) ∧ wx.cell? ⟨z, 5, none⟩ = some (.int .i64 op) ∧ wx.cell? ⟨z, 6, none⟩ = some (.string key) ∧ wx.cell? ⟨z, 7, none⟩ = some (.string other) ∧ wx.cell? ⟨z, 8, none⟩ = some (.string item) ∧ wx.cell? ⟨z, 9, none⟩ = some (.int .i64 qty) ∧ wx.cell? ⟨z, 10, none⟩ = some (.slice da dl dc))) := Lib.hid (fun wx h => by
    rw [hc] at h
    exact ⟨by rw [cell0 h 0]; rfl, by rw [cell0 h 1]; rfl, by rw [cell0 h 2]; rfl, by rw [cell0 h 3]; rfl, by rw [cell0 h 4]; rfl, by rw [cell0 h 5]; rfl, by rw [cell0 h 6]; rfl, by rw [cell0 h 7]; rfl, by rw [cell0 h 8]; rfl, by rw [cell0 h 9]; rfl, by rw [cell0 h 10]; rfl⟩)
  obtain ⟨c0, c1, c2, c3, c4, c5, c6, c7, c8, c9, c10⟩ := HK5.out _ rfl
  clear hc
  by_cases hw : what < 0 ∨ 4 < what
  · have HC := Lib.hid (copy_mid HM.out HP.out)
    have hdec : decide (what < 0) = true ∨ (decide (what < 0) = false ∧ decide (4 < what) = true) := by
      rcases Decidable.em (what < 0) with h | h
      · exact Or.inl (decide_eq_true h)
      · exact Or.inr ⟨decide_eq_false h, decide_eq_true (by omega)⟩
    rcases hdec with h0 | ⟨h0, h1⟩
    all_goals
      go_wp2_with (first | (go_at_call 22; refine HC.out.mono ?_; rintro e w4 ⟨c, G, rfl, hG, hO4, hfin⟩) | (go_at_call 14; refine (old_open hO4 hG).mono ?_; rintro e w5 ⟨n5, rfl, hO5⟩) | (go_at_call 17; refine (old_grant hO5 hG).mono ?_; rintro e w6 ⟨n6, rfl, hO6⟩) | (go_at_call 23; refine (old_close hO6 hG).mono ?_; rintro e w7 ⟨n7, rfl, hO7⟩))
      obtain ⟨B2, hM2, hp2, hs2⟩ := hfin _ hO7
      show R _ _
      exact HQ.out _ _ _ _ _ _ _ _ _ _ _ _ _ _ _ _ _ _ _ _ _ _ _ _ _ _ A B2 _ hM2 hp2 hs2
  · have h0 : decide (what < 0) = false := decide_eq_false (by omega)
    have h1 : decide (4 < what) = false := decide_eq_false (by omega)
    have HC10 := Lib.hid (calls_mid (HM.out.of (w' := w3.drew) (fun _ _ _ => rfl) (Nat.le_refl _) (fun k h => Or.inl h) (fun k h => HM.out.slt h)) HA.out (HRL.out _ ((Below.refl _ _).drew)))
    have HD := Lib.hid (fun w5 (h : Mid base S w5 bB bM (callA B ⟨what, by_, crt, who, right, op, key, other, item, qty, da, dl, dc⟩) A) (hb : Below base w3 w5) => do_perm HA.out (by show 0 ≤ what; omega) (by show what ≤ 4; omega) (HRL.out _ hb) HP.out HM.out.nodup h)
    have HPP := Lib.hid (callA_perm HP.out HM.out.nodup ⟨what, by_, crt, who, right, op, key, other, item, qty, da, dl, dc⟩)
    unfold ActR.val at HC10 HD
    simp only at HC10 HD
    have HS5 := Lib.hid (fun w5 (hs5 : Stay base S w3.drew w5) => show Stay base S w3 w5 from ⟨((Below.refl _ _).drew).trans hs5.1, hs5.2⟩)
    go_upto_region 19 with fail
    go_region_law (first | (go_simp; go_at_call 10; refine HC10.out.mono ?_; rintro e w5 ⟨rfl, hm5, hs5⟩; replace hs5 := HS5.out _ hs5; obtain ⟨m0, m1, m2, m3, m4, m5, m6, m7, m8, m9, m10⟩ := HK5.out _ (hs5.2 z HZ.out)) | (go_simp; go_at_call 11; refine (HD.out _ hm5 hs5.1).mono ?_; rintro e w6 ⟨rfl, hm6, hs6⟩))
    all_goals
      go_wp2_with fail
      show R _ _
      exact HQ.out _ _ _ _ _ _ _ _ _ _ _ _ _ _ _ _ _ _ _ _ _ _ _ _ _ _ _ _ _ hm6 HPP.out ⟨hs5.1.trans hs6.1, fun k hk => (hs6.2 k hk).trans (hs5.2 k hk)⟩
end Go.Proofs.YtdeljhehcjknbaaDoor
