/- InboxRounds answers true inside its range. -/
import Derived.Test.YtkedgiklcmkmmaaGreatDoorI24
import Derived.Test.YtkedgiklcmkmmaaGreatDoorI18
namespace Go.Proofs.YtkedgiklcmkmmaaGreatDoor
open Go.RowKit Go.Maps

theorem kE_src (w : World) (x : ByteArray) : SrcIs (w.alloc (.cells #[.string x, .slice none 0 0, .slice none 0 0, .slice none 0 0] 41)) (.slice (some ⟨w.heap.size, 0, none⟩) 1 1) 1 (zE x) := Or.inr ⟨_, _, rfl, fun j u hj => by
  rw [show (⟨w.heap.size, 0, none⟩ : Addr).add j = ⟨w.heap.size, j, none⟩ by unfold Addr.add; split <;> simp_all]
  rw [cell0 (alloc_new _ _)]
  simpa [zE] using hj⟩

set_option maxRecDepth 100000 in
set_option maxHeartbeats 8000000 in
theorem rounds_main (size nin nout times : Nat) (hs1 : 1 ≤ size) (hs2 : size ≤ 40) (hn1 : 1 ≤ nin) (hn2 : nin ≤ size) (ho1 : 1 ≤ nout) (ho2 : nout ≤ 255) (ht : times ≤ 200) (w : World) : Calls Tryz.prog 4 #[.int .u8 size, .int .u8 nin, .int .u8 nout, .int .u8 times] w fun e w' => e = .returned (.bool true) ∧ Below w.heap.size w w' := by
  obtain ⟨i0, hi0, hz0, hz1, hz2⟩ := info_parts Tryz_info41
  have HI := Lib.hid (And.intro hi0 (And.intro hz0 (And.intro hz1 hz2)))
  clear hi0 hz0 hz1 hz2
  have a1 : decide ((size : Int) < 1) = false := decide_eq_false (by omega)
  have a2 : decide (40 < (size : Int)) = false := decide_eq_false (by omega)
  have a3 : decide ((nin : Int) < 1) = false := decide_eq_false (by omega)
  have a4 : decide ((size : Int) < nin) = false := decide_eq_false (by omega)
  have a5 : decide ((nout : Int) < 1) = false := decide_eq_false (by omega)
  have a6 : decide (200 < (times : Int)) = false := decide_eq_false (by omega)
  have v1 : IntKind.i64.wrap (size : Int) = (size : Int) := by rw [IntKind.wrap_i64]; omega
  have v2 : IntKind.i64.wrap (nin : Int) = (nin : Int) := by rw [IntKind.wrap_i64]; omega
  have v3 : IntKind.i64.wrap (nout : Int) = (nout : Int) := by rw [IntKind.wrap_i64]; omega
  have v4 : IntKind.i64.wrap (times : Int) = (times : Int) := by rw [IntKind.wrap_i64]; omega
  have HRB0 := Lib.hid (rb_new w size (by omega) (by omega))
  have HK := Lib.hid (fun wx => known_any wx)
  have HN := Lib.hid (new_ok size (by omega) (by omega) w)
  go_enter Tryz.func4, Tryz.ntmps4
  go_wp2_with fail
  refine HN.out.mono ?_
  rintro e wn ⟨rfl, rfl⟩
  clear HN
  go_wp2_with fail
  clear a1 a2 a3 a4 a5 a6
  go_loopw [11, 12, 13] (fun p t i wr => ∃ (put tk j : Nat), p = .int .i64 put ∧ t = .int .i64 tk ∧ i = .int .i64 j ∧ j ≤ times ∧ tk ≤ put ∧ put ≤ j * 40 ∧ RB w.heap.size wr size tk put ∧ Below w.heap.size w wr) (fun _ _ i _ => times - (intOf i).toNat)
  case atStart => exact ⟨0, 0, 0, rfl, rfl, rfl, Nat.zero_le _, Nat.le_refl _, Nat.zero_le _, HRB0.out, (Below.refl _ _).alloc (Nat.le_refl _) _⟩
  case round =>
    obtain ⟨put, tk, j, rfl, rfl, rfl, hj, htk, hput, hrb, hB⟩ := hrel
    by_cases hlt : j < times
    · have a1 : decide ((j : Int) < times) = true := decide_eq_true (by omega)
      have hp8 : put ≤ 8000 := Nat.le_trans hput (by omega)
      have HRB := Lib.hid hrb
      have HB := Lib.hid hB
      clear hrb hB
      obtain ⟨wo, rfl⟩ : ∃ wo : World, wo = wr := ⟨_, rfl⟩
      go_wp2_with fail
      go_loopw [14, 15] (fun v i wx => ∃ k : Nat, k ≤ nin ∧ i = .int .i64 k ∧ wx.ownsRow wo.heap.size 41 4 v k (flatE (qE put (put + k))) ∧ Below wo.heap.size wo wx) (fun _ i _ => nin - (intOf i).toNat)
      case atStart => exact ⟨0, Nat.zero_le _, rfl, by rw [Nat.add_zero, qE_nil]; exact World.ownsRow_nil _ _ _ _, Below.refl _ _⟩
      case round =>
        obtain ⟨k, hk, rfl, hrow, hbx⟩ := hrel
        obtain ⟨av, cv, rfl⟩ := owns_slice hrow
        by_cases hkl : k < nin
        · have b1 : decide ((k : Int) < nin) = true := decide_eq_true (by omega)
          have hwk : IntKind.i64.wrap ((put : Int) + k) = ((put + k : Nat) : Int) := by rw [IntKind.wrap_i64]; omega
          have HE := Lib.hid (entry_any (put + k) (by omega) wr)
          have HROW := Lib.hid hrow
          have HBX := Lib.hid hbx
          have HSN := Lib.hid (qE_snoc (a := put) (b := put + k) (Nat.le_add_right _ _))
          clear hrow hbx
          go_wp2_with fail
          refine HE.out.mono ?_
          rintro e wy ⟨rfl, hby⟩
          have hal : Below wr.heap.size wr (wy.alloc (.cells #[.string (kE (put + k)), .slice none 0 0, .slice none 0 0, .slice none 0 0] 41)) := hby.alloc hby.size _
          have HROW2 := Lib.hid (row_below HROW.out hal)
          have HB2 := Lib.hid (HBX.out.trans (hal.mono HBX.out.size))
          have HSRC := Lib.hid (kE_src wy (kE (put + k)))
          have hbw2 : wo.heap.size ≤ (wy.alloc (.cells #[.string (kE (put + k)), .slice none 0 0, .slice none 0 0, .slice none 0 0] 41)).heap.size := HB2.out.size
          clear hal hby HE
          generalize kE (put + k) = x at *
          go_wp2_with (at_builtin; refine wpList_append_src rfl _ _ 29 rfl wo.heap.size 41 i0 (.agg #[.string ⟨#[]⟩, .slice none 0 0, .slice none 0 0, .slice none 0 0]) 4 88 Tryz.underlying29 HI.out.1 HI.out.2.1 HI.out.2.2.1 HI.out.2.2.2 rfl (by decide) (.slice av k cv) k _ rfl HROW2.out _ _ _ rfl HSRC.out rfl (zE_one x) (by unfold maxLen; omega) (by omega) hbw2 ?_; intro v8 w8 hown8 hgr8 _)
          have hbf := HB2.out.grown hgr8 hbw2 (fun j hj => (HROW2.out.lt _ hj).1)
          go_roundw
          case rel => exact ⟨k + 1, by omega, by go_num, by rw [show put + (k + 1) = put + k + 1 from rfl, HSN.out, flatE_snoc]; exact hown8, hbf⟩
          case measure => simp [intOf]; omega
        · have b1 : decide ((k : Int) < nin) = false := decide_eq_false (by omega)
          have hke : k = nin := by omega
          subst hke
          have HRB2 := Lib.hid (HRB.out.below (hbx.mono (by omega)))
          have HB2 := Lib.hid (HB.out.trans HRB2.out.2)
          by_cases hfit : put - tk + k ≤ size
          · have hfk := hfit
            have b2 : decide ((size : Int) < (put : Int) - tk + k) = false := decide_eq_false (by omega)
            have x1 : IntKind.i64.wrap ((put : Int) - tk) = (put : Int) - tk := by rw [IntKind.wrap_i64]; omega
            have x2 : IntKind.i64.wrap ((put : Int) - tk + k) = (put : Int) - tk + k := by rw [IntKind.wrap_i64]; omega
            have x3 : IntKind.i64.wrap ((put : Int) + k) = (put : Int) + k := by rw [IntKind.wrap_i64]; omega
            have HPUT := Lib.hid (rb_put_ok HRB2.out.1 htk k wo.heap.size (by omega) hfit (.slice av k cv) hrow)
            clear hfit hfk hrow hbx
            go_wp2_with fail
            refine HPUT.out.mono ?_
            rintro e w3 ⟨rfl, hrb3, hb3⟩
            clear HPUT x1 x2 b2
            have HR3 : RB w.heap.size w3 size tk (put + k) := hrb3
            have HRB3 := Lib.hid hrb3
            have HB3 := Lib.hid (HB2.out.trans hb3)
            clear hrb3 hb3 HR3
            have htp : tk ≤ put + k := by omega
            go_wp2_with fail
            go_loopw [12, 17] (fun t i wx => ∃ (t1 c : Nat), t = .int .i64 t1 ∧ i = .int .i64 c ∧ t1 ≤ put + k ∧ RB w.heap.size wx size t1 (put + k) ∧ Below w.heap.size w wx) (fun t _ _ => put + k - (intOf t).toNat)
            case atStart => exact ⟨tk, 0, rfl, rfl, htp, HRB3.out, HB3.out⟩
            case round =>
              obtain ⟨t1, c, rfl, rfl, ht1, hrb4, hb4⟩ := hrel
              have HRB4 := Lib.hid hrb4
              have HB4 := Lib.hid hb4
              clear hrb4 hb4
              have EXIT : Hid (True) := Lib.hid trivial
              by_cases hc : c < nout ∧ t1 < put + k
              · have b1 : decide ((c : Int) < (nout : Int)) = true := decide_eq_true (by omega)
                have b2 : decide ((t1 : Int) < (put : Int) + k) = true := decide_eq_true (by omega)
                have hcw : IntKind.i64.wrap ((c : Int) + 1) = (c : Int) + 1 := by rw [IntKind.wrap_i64]; omega
                have htw : IntKind.i64.wrap ((t1 : Int) + 1) = (t1 : Int) + 1 := by rw [IntKind.wrap_i64]; omega
                have htl : t1 < put + k := hc.2
                have ht10 : t1 < 10000 := by omega
                have hcl : c < nout := hc.1
                clear hc
                go_wp2_with fail
                refine (rb_entry HRB4.out t1 ht10).mono ?_
                rintro e w5 ⟨rfl, hrb5, hb5⟩
                have HRB5 := Lib.hid hrb5
                have HB5 := Lib.hid (HB4.out.trans hb5)
                clear hrb5 hb5 HRB4 HB4
                go_wp2_with fail
                refine (rb_heads HRB5.out htl).mono ?_
                rintro e w6 ⟨rfl, hrb6, hb6⟩
                have HRB6 := Lib.hid hrb6
                have HB6 := Lib.hid (HB5.out.trans hb6)
                clear hrb6 hb6 HRB5 HB5
                go_wp2_with fail
                refine (rb_entry HRB6.out t1 ht10).mono ?_
                rintro e w7 ⟨rfl, hrb7, hb7⟩
                have HRB7 := Lib.hid hrb7
                have HB7 := Lib.hid (HB6.out.trans hb7)
                clear hrb7 hb7 HRB6 HB6
                go_wp2_with fail
                refine (rb_takes HRB7.out htl).mono ?_
                rintro e w8 ⟨rfl, hrb8, hb8⟩
                have HRB8 := Lib.hid hrb8
                have HB8 := Lib.hid (HB7.out.trans hb8)
                clear hrb8 hb8 HRB7 HB7
                go_wp2_with fail
                go_roundw
                case rel => exact ⟨t1 + 1, c + 1, by go_num, by go_num, by omega, HRB8.out, HB8.out⟩
                case measure => simp [intOf]; omega
              · have EX : Hid True := Lib.hid trivial
                have hex : (decide ((c : Int) < (nout : Int)) = false ∧ ¬ c < nout) ∨ (decide ((c : Int) < (nout : Int)) = true ∧ c < nout ∧ ¬ t1 < put + k ∧ decide ((t1 : Int) < (put : Int) + k) = false) := by
                  by_cases h : c < nout
                  · exact Or.inr ⟨decide_eq_true (by omega), h, by omega, decide_eq_false (by omega)⟩
                  · exact Or.inl ⟨decide_eq_false (by omega), h⟩
                have q1 : IntKind.i64.wrap ((put : Int) + k - t1) = (put : Int) + k - t1 := by rw [IntKind.wrap_i64]; omega
                have q2 : IntKind.i64.wrap ((size : Int) - ((put : Int) + k)) = (size : Int) - ((put : Int) + k) := by rw [IntKind.wrap_i64]; omega
                have q3 : IntKind.i64.wrap ((size : Int) - ((put : Int) + k) + t1) = (size : Int) - ((put : Int) + k) + t1 := by rw [IntKind.wrap_i64]; omega
                have q4 : IntKind.i64.wrap ((j : Int) + 1) = (j : Int) + 1 := by rw [IntKind.wrap_i64]; omega
                have HLEN := Lib.hid (rb_len HRB4.out ht1)
                clear hc EX
                rcases hex with ⟨b1, h1⟩ | ⟨b1, h1, h2, b2⟩
                · go_wp2_with fail
                  refine HLEN.out.mono ?_
                  rintro e w5 ⟨rfl, hrb5, hb5⟩
                  have HRB5 := Lib.hid hrb5
                  have HB5 := Lib.hid (HB4.out.trans hb5)
                  clear hrb5 hb5 HRB4 HB4
                  go_wp2_with fail
                  refine (rb_room HRB5.out ht1).mono ?_
                  rintro e w6 ⟨rfl, hrb6, hb6⟩
                  have HRB6 := Lib.hid hrb6
                  have HB6 := Lib.hid (HB5.out.trans hb6)
                  clear hrb6 hb6 HRB5 HB5
                  go_wp2_with fail
                  go_roundw
                  case rel => exact ⟨put + k, t1, j + 1, by go_num, by go_num, by go_num, by omega, ht1, by rw [Nat.add_mul]; omega, HRB6.out, HB6.out⟩
                  case measure => simp [intOf]; omega
                · go_wp2_with fail
                  refine HLEN.out.mono ?_
                  rintro e w5 ⟨rfl, hrb5, hb5⟩
                  have HRB5 := Lib.hid hrb5
                  have HB5 := Lib.hid (HB4.out.trans hb5)
                  clear hrb5 hb5 HRB4 HB4
                  go_wp2_with fail
                  refine (rb_room HRB5.out ht1).mono ?_
                  rintro e w6 ⟨rfl, hrb6, hb6⟩
                  have HRB6 := Lib.hid hrb6
                  have HB6 := Lib.hid (HB5.out.trans hb6)
                  clear hrb6 hb6 HRB5 HB5
                  go_wp2_with fail
                  go_roundw
                  case rel => exact ⟨put + k, t1, j + 1, by go_num, by go_num, by go_num, by omega, ht1, by rw [Nat.add_mul]; omega, HRB6.out, HB6.out⟩
                  case measure => simp [intOf]; omega
          · have hfk := hfit
            have b2 : decide ((size : Int) < (put : Int) - tk + k) = true := decide_eq_true (by omega)
            have x1 : IntKind.i64.wrap ((put : Int) - tk) = (put : Int) - tk := by rw [IntKind.wrap_i64]; omega
            have x2 : IntKind.i64.wrap ((put : Int) - tk + k) = (put : Int) - tk + k := by rw [IntKind.wrap_i64]; omega
            have x3 : IntKind.i64.wrap ((put : Int) + k) = (put : Int) + k := by rw [IntKind.wrap_i64]; omega
            have HPUT := Lib.hid (rb_put_no HRB2.out.1 k wo.heap.size (by omega) hfit (.slice av k cv) hrow)
            clear hfit hfk hrow hbx
            go_wp2_with fail
            refine HPUT.out.mono ?_
            rintro e w3 ⟨rfl, hrb3, hb3⟩
            clear HPUT x1 x2 b2
            have HR3 : RB w.heap.size w3 size tk (put) := hrb3
            have HRB3 := Lib.hid hrb3
            have HB3 := Lib.hid (HB2.out.trans hb3)
            clear hrb3 hb3 HR3
            have htp : tk ≤ put := by omega
            go_wp2_with fail
            go_loopw [12, 17] (fun t i wx => ∃ (t1 c : Nat), t = .int .i64 t1 ∧ i = .int .i64 c ∧ t1 ≤ put ∧ RB w.heap.size wx size t1 (put) ∧ Below w.heap.size w wx) (fun t _ _ => put - (intOf t).toNat)
            case atStart => exact ⟨tk, 0, rfl, rfl, htp, HRB3.out, HB3.out⟩
            case round =>
              obtain ⟨t1, c, rfl, rfl, ht1, hrb4, hb4⟩ := hrel
              have HRB4 := Lib.hid hrb4
              have HB4 := Lib.hid hb4
              clear hrb4 hb4
              have EXIT : Hid (True) := Lib.hid trivial
              by_cases hc : c < nout ∧ t1 < put
              · have b1 : decide ((c : Int) < (nout : Int)) = true := decide_eq_true (by omega)
                have b2 : decide ((t1 : Int) < put) = true := decide_eq_true (by omega)
                have hcw : IntKind.i64.wrap ((c : Int) + 1) = (c : Int) + 1 := by rw [IntKind.wrap_i64]; omega
                have htw : IntKind.i64.wrap ((t1 : Int) + 1) = (t1 : Int) + 1 := by rw [IntKind.wrap_i64]; omega
                have htl : t1 < put := hc.2
                have ht10 : t1 < 10000 := by omega
                have hcl : c < nout := hc.1
                clear hc
                go_wp2_with fail
                refine (rb_entry HRB4.out t1 ht10).mono ?_
                rintro e w5 ⟨rfl, hrb5, hb5⟩
                have HRB5 := Lib.hid hrb5
                have HB5 := Lib.hid (HB4.out.trans hb5)
                clear hrb5 hb5 HRB4 HB4
                go_wp2_with fail
                refine (rb_heads HRB5.out htl).mono ?_
                rintro e w6 ⟨rfl, hrb6, hb6⟩
                have HRB6 := Lib.hid hrb6
                have HB6 := Lib.hid (HB5.out.trans hb6)
                clear hrb6 hb6 HRB5 HB5
                go_wp2_with fail
                refine (rb_entry HRB6.out t1 ht10).mono ?_
                rintro e w7 ⟨rfl, hrb7, hb7⟩
                have HRB7 := Lib.hid hrb7
                have HB7 := Lib.hid (HB6.out.trans hb7)
                clear hrb7 hb7 HRB6 HB6
                go_wp2_with fail
                refine (rb_takes HRB7.out htl).mono ?_
                rintro e w8 ⟨rfl, hrb8, hb8⟩
                have HRB8 := Lib.hid hrb8
                have HB8 := Lib.hid (HB7.out.trans hb8)
                clear hrb8 hb8 HRB7 HB7
                go_wp2_with fail
                go_roundw
                case rel => exact ⟨t1 + 1, c + 1, by go_num, by go_num, by omega, HRB8.out, HB8.out⟩
                case measure => simp [intOf]; omega
              · have EX : Hid True := Lib.hid trivial
                have hex : (decide ((c : Int) < (nout : Int)) = false ∧ ¬ c < nout) ∨ (decide ((c : Int) < (nout : Int)) = true ∧ c < nout ∧ ¬ t1 < put ∧ decide ((t1 : Int) < put) = false) := by
                  by_cases h : c < nout
                  · exact Or.inr ⟨decide_eq_true (by omega), h, by omega, decide_eq_false (by omega)⟩
                  · exact Or.inl ⟨decide_eq_false (by omega), h⟩
                have q1 : IntKind.i64.wrap ((put : Int) - t1) = (put : Int) - t1 := by rw [IntKind.wrap_i64]; omega
                have q2 : IntKind.i64.wrap ((size : Int) - put) = (size : Int) - put := by rw [IntKind.wrap_i64]; omega
                have q3 : IntKind.i64.wrap ((size : Int) - put + t1) = (size : Int) - put + t1 := by rw [IntKind.wrap_i64]; omega
                have q4 : IntKind.i64.wrap ((j : Int) + 1) = (j : Int) + 1 := by rw [IntKind.wrap_i64]; omega
                have HLEN := Lib.hid (rb_len HRB4.out ht1)
                clear hc EX
                rcases hex with ⟨b1, h1⟩ | ⟨b1, h1, h2, b2⟩
                · go_wp2_with fail
                  refine HLEN.out.mono ?_
                  rintro e w5 ⟨rfl, hrb5, hb5⟩
                  have HRB5 := Lib.hid hrb5
                  have HB5 := Lib.hid (HB4.out.trans hb5)
                  clear hrb5 hb5 HRB4 HB4
                  go_wp2_with fail
                  refine (rb_room HRB5.out ht1).mono ?_
                  rintro e w6 ⟨rfl, hrb6, hb6⟩
                  have HRB6 := Lib.hid hrb6
                  have HB6 := Lib.hid (HB5.out.trans hb6)
                  clear hrb6 hb6 HRB5 HB5
                  go_wp2_with fail
                  go_roundw
                  case rel => exact ⟨put, t1, j + 1, by go_num, by go_num, by go_num, by omega, ht1, by rw [Nat.add_mul]; omega, HRB6.out, HB6.out⟩
                  case measure => simp [intOf]; omega
                · go_wp2_with fail
                  refine HLEN.out.mono ?_
                  rintro e w5 ⟨rfl, hrb5, hb5⟩
                  have HRB5 := Lib.hid hrb5
                  have HB5 := Lib.hid (HB4.out.trans hb5)
                  clear hrb5 hb5 HRB4 HB4
                  go_wp2_with fail
                  refine (rb_room HRB5.out ht1).mono ?_
                  rintro e w6 ⟨rfl, hrb6, hb6⟩
                  have HRB6 := Lib.hid hrb6
                  have HB6 := Lib.hid (HB5.out.trans hb6)
                  clear hrb6 hb6 HRB5 HB5
                  go_wp2_with fail
                  go_roundw
                  case rel => exact ⟨put, t1, j + 1, by go_num, by go_num, by go_num, by omega, ht1, by rw [Nat.add_mul]; omega, HRB6.out, HB6.out⟩
                  case measure => simp [intOf]; omega
    · have a1 : decide ((j : Int) < times) = false := decide_eq_false (by omega)
      have HB := Lib.hid hB
      clear hB hrb
      go_wp2_with fail
      refine (HK.out _).mono ?_
      rintro e w7 ⟨rfl, hb7⟩
      go_wp2_with fail
      go_ret
      exact ⟨rfl, HB.out.trans (hb7.mono HB.out.size)⟩
set_option maxRecDepth 100000 in
set_option maxHeartbeats 4000000 in
theorem rounds_in (size nin nout times : Int) (hs : 0 ≤ size) (hn : 0 ≤ nin) (ho : 0 ≤ nout) (ho2 : nout ≤ 255) (ht : 0 ≤ times) (w : World) : Calls Tryz.prog 4 #[.int .u8 size, .int .u8 nin, .int .u8 nout, .int .u8 times] w fun e w' => e = .returned (.bool true) ∧ Below w.heap.size w w' := by
  have HK := Lib.hid (fun wx => known_any wx)
  by_cases h1 : size < 1
  · have a1 : decide (size < 1) = true := decide_eq_true h1
    clear h1
    go_enter Tryz.func4, Tryz.ntmps4
    go_wp2_with fail
    refine (HK.out _).mono ?_
    rintro e w1 ⟨rfl, hb1⟩
    go_wp2_with fail
    go_ret
    exact ⟨rfl, hb1⟩
  · by_cases h2 : 40 < size
    · have a1 : decide (size < 1) = false := decide_eq_false h1
      have a2 : decide (40 < size) = true := decide_eq_true h2
      clear h1 h2
      go_enter Tryz.func4, Tryz.ntmps4
      go_wp2_with fail
      refine (HK.out _).mono ?_
      rintro e w1 ⟨rfl, hb1⟩
      go_wp2_with fail
      go_ret
      exact ⟨rfl, hb1⟩
    · by_cases h3 : nin < 1
      · have a1 : decide (size < 1) = false := decide_eq_false h1
        have a2 : decide (40 < size) = false := decide_eq_false h2
        have a3 : decide (nin < 1) = true := decide_eq_true h3
        clear h1 h2 h3
        go_enter Tryz.func4, Tryz.ntmps4
        go_wp2_with fail
        refine (HK.out _).mono ?_
        rintro e w1 ⟨rfl, hb1⟩
        go_wp2_with fail
        go_ret
        exact ⟨rfl, hb1⟩
      · by_cases h4 : size < nin
        · have a1 : decide (size < 1) = false := decide_eq_false h1
          have a2 : decide (40 < size) = false := decide_eq_false h2
          have a3 : decide (nin < 1) = false := decide_eq_false h3
          have a4 : decide (size < nin) = true := decide_eq_true h4
          clear h1 h2 h3 h4
          go_enter Tryz.func4, Tryz.ntmps4
          go_wp2_with fail
          refine (HK.out _).mono ?_
          rintro e w1 ⟨rfl, hb1⟩
          go_wp2_with fail
          go_ret
          exact ⟨rfl, hb1⟩
        · by_cases h5 : nout < 1
          · have a1 : decide (size < 1) = false := decide_eq_false h1
            have a2 : decide (40 < size) = false := decide_eq_false h2
            have a3 : decide (nin < 1) = false := decide_eq_false h3
            have a4 : decide (size < nin) = false := decide_eq_false h4
            have a5 : decide (nout < 1) = true := decide_eq_true h5
            clear h1 h2 h3 h4 h5
            go_enter Tryz.func4, Tryz.ntmps4
            go_wp2_with fail
            refine (HK.out _).mono ?_
            rintro e w1 ⟨rfl, hb1⟩
            go_wp2_with fail
            go_ret
            exact ⟨rfl, hb1⟩
          · by_cases h6 : 200 < times
            · have a1 : decide (size < 1) = false := decide_eq_false h1
              have a2 : decide (40 < size) = false := decide_eq_false h2
              have a3 : decide (nin < 1) = false := decide_eq_false h3
              have a4 : decide (size < nin) = false := decide_eq_false h4
              have a5 : decide (nout < 1) = false := decide_eq_false h5
              have a6 : decide (200 < times) = true := decide_eq_true h6
              clear h1 h2 h3 h4 h5 h6
              go_enter Tryz.func4, Tryz.ntmps4
              go_wp2_with fail
              refine (HK.out _).mono ?_
              rintro e w1 ⟨rfl, hb1⟩
              go_wp2_with fail
              go_ret
              exact ⟨rfl, hb1⟩
            · obtain ⟨a, rfl⟩ : ∃ a : Nat, size = a := ⟨size.toNat, by omega⟩
              obtain ⟨b, rfl⟩ : ∃ b : Nat, nin = b := ⟨nin.toNat, by omega⟩
              obtain ⟨c, rfl⟩ : ∃ c : Nat, nout = c := ⟨nout.toNat, by omega⟩
              obtain ⟨d, rfl⟩ : ∃ d : Nat, times = d := ⟨times.toNat, by omega⟩
              exact rounds_main a b c d (by omega) (by omega) (by omega) (by omega) (by omega) (by omega) (by omega) w
end Go.Proofs.YtkedgiklcmkmmaaGreatDoor
