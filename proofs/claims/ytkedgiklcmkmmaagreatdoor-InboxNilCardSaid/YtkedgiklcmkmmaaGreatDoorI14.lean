/- Put of entries whose carts are zero. -/
import Derived.Test.YtkedgiklcmkmmaaGreatDoorI13
namespace Go.Proofs.YtkedgiklcmkmmaaGreatDoor
open Go.RowKit Go.Maps

theorem Touch.join {G G' : Nat → Prop} {a b c : World} (h : Touch G a b) (k : Touch G' b c) (hG : ∀ j, j < a.heap.size → G' j → G j) : Touch G a c :=
  ⟨fun j hj hn => (k.1 j (Nat.lt_of_lt_of_le hj h.2.1) (fun hg => hn (hG j hj hg))).trans (h.1 j hj hn), Nat.le_trans h.2.1 k.2.1, k.2.2.1.trans h.2.2.1, k.2.2.2.1.trans h.2.2.2.1, k.2.2.2.2.trans h.2.2.2.2⟩

set_option maxRecDepth 100000 in
set_option maxHeartbeats 4000000 in
theorem put_any {G : Nat → Prop} {w : World} {b size : Nat} {q : List ByteArray} (h : Box G w b size q) (l : List ByteArray) (lv : Value) (hrd : Rd w lv 4 l.length (flatE l)) (hkeys : ∀ k ∈ l, keyB k = true) (hl : l.length ≤ 10000) :
    Calls Tryz.prog 13 #[.pointer (some ⟨b, 0, none⟩), lv] w fun e w' => e = .returned (.int .i64 (if q.length + l.length ≤ size then 0 else 11)) ∧ Box (fun k => G k ∨ w.heap.size ≤ k) w' b size (if q.length + l.length ≤ size then q ++ l else q) ∧ Touch G w w' := by
  have HN := Lib.hid (none_any h)
  have HC := Lib.hid (clone_ents l _ w hrd hl)
  have HBX := Lib.hid h
  have hqs : q.length ≤ size := by obtain ⟨_, _, _, _, _, _, _, _, h6, h7, _⟩ := h; omega
  have hs4 : size ≤ 4096 := h.2.2.1
  have HK := Lib.hid hkeys
  obtain ⟨a1, c1, rfl, hfl, hml, -⟩ := id hrd
  unfold maxLen at hml
  clear h hrd hkeys
  go_enter Tryz.func13, Tryz.ntmps13
  go_upto_region 3 with (go_at_call 31; refine HN.out.mono ?_; rintro e w1 ⟨rfl, rfl⟩)
  iterate 16 (first | (go_at_call 32; refine HC.out.mono ?_; rintro e w2 ⟨v2, rfl, hown2, hb2⟩) | go_values | go_skip | go_guarded | go_step | go_upon | go_back | go_simp)
  refine NQ.to (put1 l v2 _ _ b w1.heap.size hown2 hb2.size HK.out hl _ _ _ _ _ _ _ _ _ _ _ _ _ _ _ _ _ _ _ _ _ _ _ _ _ _ _ _ _ _ _ _ _ _ _ _ _ _ _ _ _ _ _ _ _ _ _ _ _ _ _ _ _ _ _ _ _ _ _ _ _ _ _ _ _ _ _ _ _ _ _ _ _ _ _ _ _ _ _ _ _ _ _ _ _ _ _ _ _ _ _ _ _ _ _ _ _ _ _ _ _ _ _ _ _ _ _ _ _ _ _ _ _ _ _ _ _ _ _ _ _ _ _ _ _ _ _ _ _ _ _ _ _ _ _ _ _ _ ?_)
  intros
  rename_i wx hownx hbx
  have hb3 := Below.trans hb2 hbx
  have HLOW := Lib.hid (HBX.out.low.below hb3)
  have HBX3 := Lib.hid (HBX.out.below hb3)
  have HB3 := Lib.hid hb3
  have HROW3 := Lib.hid hownx
  have HRM := Lib.hid (room_any HBX3.out)
  clear hown2 hb2 hownx hbx hb3 HC HN
  have hwr : IntKind.i64.wrap ((size : Int) - q.length) = (size : Int) - q.length := by rw [IntKind.wrap_i64]; omega
  by_cases hfit : q.length + l.length ≤ size
  · have t1 : decide ((size : Int) - q.length < (l.length : Int)) = false := decide_eq_false (by omega)
    have HF := Lib.hid hfit
    clear hfit
    iterate 30 (first | (go_at_call 17; refine HRM.out.mono ?_; rintro e w4 ⟨rfl, n4, rfl⟩) | go_values | go_skip | go_guarded | go_step | go_upon | go_back | go_simp)
    have hb4 : Below w1.heap.size w1 (wx.drewN n4) := HB3.out.drewN
    have hrow4 : (wx.drewN n4).ownsRow w1.heap.size 41 4 v2 l.length (flatE l) := row_below HROW3.out (Below.refl _ _).drewN
    obtain ⟨n0, hbn⟩ := (HLOW.out.below (Below.refl _ _).drewN (w' := wx.drewN n4)).boxN
    refine NQ.to (put2 l v2 a1 c1 _ _ b size n0 q hbn HF.out _ _ _ _ _ _ _ _ _ _ _ _ _ _ _ _ _ _ _ _ _ _ _ _ _ _ _ _ _ _ _ _ _ _ _ _ _ _ _ _ _ _ _ _ _ _ _ _ _ _ _ _ _ _ _ _ _ _ _ _ _ _ _ _ _ _ _ _ _ _ _ _ _ _ _ _ _ _ _ _ _ _ _ _ _ _ _ _ _ _ _ _ _ _ _ _ _ _ _ _ _ _ _ _ _ _ _ _ _ _ _ _ _ _ _ _ _ _ _ _ _ _ _ _ _ _ _ _ _ _ _ _ _ _ _ _ _ _ ?_)
    intros
    rename_i wy n hqn hby hty
    obtain ⟨a5, c5, rfl⟩ := owns_slice hrow4
    have hrow5 : wy.ownsRow w1.heap.size 41 4 (.slice a5 l.length c5) l.length (flatE l) := row_stay hrow4 (fun k hk => hty.1 k (hrow4.lt _ hk).2 (fun h => by have := (hrow4.lt _ hk).1; have := h.2; omega))
    iterate 3 (first | go_values | go_skip | go_guarded | go_step | go_upon | go_back | go_simp)
    refine NQ.to (put3 l a1 c1 a5 c5 w1.heap.size _ _ b size n q hby hqn HK.out hrow5 (fun k hk h => by have := (hrow4.lt _ hk).1; have := (hrow4.lt _ hk).2; rcases h with h | h <;> omega) _ _ _ _ _ _ _ _ _ _ _ _ _ _ _ _ _ _ _ _ _ _ _ _ _ _ _ _ _ _ _ _ _ _ _ _ _ _ _ _ _ _ _ _ _ _ _ _ _ _ _ _ _ _ _ _ _ _ _ _ _ _ _ _ _ _ _ _ _ _ _ _ _ _ _ _ _ _ _ _ _ _ _ _ _ _ _ _ _ _ _ _ _ _ _ _ _ _ _ _ _ _ _ _ _ _ _ _ _ _ _ _ _ _ _ _ _ _ _ _ _ _ _ _ _ _ _ _ _ _ _ _ _ _ _ _ _ _ ?_)
    intros
    rename_i wz hbz htz
    have FIN : Hid (Box (fun k => G k ∨ w1.heap.size ≤ k) wz b size (q ++ l) ∧ Touch G w1 wz) := Lib.hid (by
      refine ⟨hbz.box.sub (fun k hk => ?_), ((Touch.of_below hb4).join hty (fun j _ h => h.1)).join htz (fun j hj h => ?_)⟩
      · rcases hk with h | h
        · exact Or.inl h.1
        · exact Or.inr (by have := hb4.size; omega)
      · rcases h with h | h
        · exact h.1
        · have := hb4.size; omega)
    go_wp2_with fail
    go_ret
    first | exact ⟨rfl, FIN.out⟩ | (rw [if_pos HF.out, if_pos HF.out]; exact ⟨rfl, FIN.out⟩)
  · have t1 : decide ((size : Int) - q.length < (l.length : Int)) = true := decide_eq_true (by omega)
    have HF := Lib.hid hfit
    clear hfit
    go_wp2_with (go_at_call 17; refine HRM.out.mono ?_; rintro e w4 ⟨rfl, n4, rfl⟩)
    go_ret
    first | exact ⟨rfl, (HBX3.out.below (Below.refl _ _).drewN).sub (fun k h => Or.inl h), .of_below HB3.out.drewN⟩ | (rw [if_neg HF.out, if_neg HF.out]; exact ⟨rfl, (HBX3.out.below (Below.refl _ _).drewN).sub (fun k h => Or.inl h), .of_below HB3.out.drewN⟩)
end Go.Proofs.YtkedgiklcmkmmaaGreatDoor
