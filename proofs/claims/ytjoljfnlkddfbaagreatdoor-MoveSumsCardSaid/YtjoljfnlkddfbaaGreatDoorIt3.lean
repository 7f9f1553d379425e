/- Clone at marks and items, items.Copy. -/
import Derived.Test.YtjoljfnlkddfbaaGreatDoorDot2
import Derived.Test.YtjoljfnlkddfbaaGreatDoorLays
import Derived.Test.YtjoljfnlkddfbaaGreatDoorShelf
import Derived.Laws.IdiomStrings
import Derived.Shelf.Abstract
import Derived.Test.YtjoljfnlkddfbaaGreatDoorRow
set_option linter.unusedSimpArgs false
set_option linter.unusedVariables false
set_option maxRecDepth 100000
set_option maxHeartbeats 4000000
namespace Go.Proofs.YtjoljfnlkddfbaaGreatDoor
open Go.RowKit Go.Maps

/-- The one package-level variable that strings.Contains looks into is a number. -/
def GlobIs (w : World) : Prop := ∃ m, w.cell? ⟨0, 0, none⟩ = some (.int .i64 m)
theorem GlobIs.below {w w' : World} (h : GlobIs w) (hb : Below w.heap.size w w') : GlobIs w' := by
 obtain ⟨m, hm⟩ := h
 obtain ⟨b, off, he, hlt⟩ := addr_plain hm
 cases he
 exact ⟨m, by rw [hb.cell (p := ⟨_, _, _⟩) hlt]; exact hm⟩
theorem below_drew1 {B : Nat} {a w : World} (h : Below B a w) : Below B a w.drew := ⟨h.os, h.tape, h.output, h.size, h.block⟩
def okn (b : UInt8) : Bool := decide (32 ≤ b.toNat) && decide (b.toNat ≤ 126)
theorem convB {P : Program} (w : World) {src dst e : TypeId} (s : ByteArray) (hs : P.underlying src = some .string) (hd : P.underlying dst = some (.slice e)) (he : P.underlying e = some (.int .u8)) :
  ∃ cap C, (convert src dst (.string s)).run P w = .ok (.slice (some ⟨w.heap.size, 0, none⟩) s.size cap) (w.drew.alloc (.cells C e (C.size, C.size + 1))) ∧
   ∀ i (h : i < s.size), C[i]? = some (.int .u8 s[i].toNat) := by
 refine ⟨_, _, run_bytes_of_string w src dst e s hs hd he, ?_⟩
 intro i h
 unfold bytesRow
 rw [Array.getElem?_append_left (by simpa using h)]
 simp [Array.getElem?_map]
 exact ⟨s[i], by simp [h]; rfl, rfl⟩
theorem all_snoc (p : UInt8 → Bool) (s : ByteArray) (k : Nat) (h : k < s.size) : (s.data.toList.take (k + 1)).all p = ((s.data.toList.take k).all p && p s[k]) := by
 rw [List.take_succ_eq_append_getElem (by simpa using h), List.all_append]
 simp; rfl
theorem not_allB {p : UInt8 → Bool} {s : ByteArray} {k : Nat} (h : k < s.size) (hp : p s[k] = false) : s.data.toList.all p = false := by
 rw [List.all_eq_false]
 exact ⟨s[k], by rw [show s[k] = s.data.toList[k]'(by simpa using h) from rfl]; exact List.getElem_mem _, by simp [hp]⟩
theorem nameB_eq (s : ByteArray) : nameB s = (decide (1 ≤ s.size) && decide (s.size ≤ 64) && s.data.toList.all okn && decide (Lib.trimB s.data.toList 32 = s.data.toList) && !(Lib.contains s.data.toList [32, 32])) := rfl
theorem str_eq_iff (a b : ByteArray) : (a.toList == b.toList) = decide (a.data.toList = b.data.toList) := by
 rw [bytes_toList, bytes_toList]
 by_cases h : a.data.toList = b.data.toList
 ·rw [decide_eq_true h]; simpa using h
 ·rw [decide_eq_false h]; simpa using h

theorem namesItem_any (s : ByteArray) (w : World) (hs : s.size ≤ maxLen) (hG : GlobIs w) :
  Calls Tryz.prog 13 #[.string s] w fun e w' => e = .returned (.bool (nameB s)) ∧ Below w.heap.size w w' := by
 unfold maxLen at hs
 obtain ⟨cap, C, hconv, hC⟩ := convB w s Tryz.underlying9 Tryz.underlying73 Tryz.underlying5
 have HC := Hd hC
 clear hC
 go_enter Tryz.func13, Tryz.ntmps13
 go_wp2
 clear hconv
 obtain ⟨W1, hW1⟩ : ∃ W1, W1 = (w.alloc (.cells C 5 (C.size, C.size + 1))).drew := ⟨_, rfl⟩
 have hb1 : Below w.heap.size w W1 := by rw [hW1]; exact below_drew1 (bal)
 have HCL : Hid (∀ i (h : i < s.size), W1.cell? ⟨w.heap.size, i, none⟩ = some (.int .u8 s[i].toNat)) := Hd (fun i h => by
  have hg : W1.heap[w.heap.size]? = some (.cells C 5 (C.size, C.size + 1)) := by rw [hW1]; exact alloc_new w _
  unfold World.cell?
  rw [hg]
  exact HC.out i h)
 rw [← hW1]
 have HB := Hd hb1
 have HG := Hd (hG.below hb1)
 clear hW1 hb1 HC hG
 go_loopw [8] (fun i wr => ∃ k : Nat, k ≤ s.size ∧ i = .int .i64 k ∧ (s.data.toList.take k).all okn = true ∧ wr = W1) (fun i _ => s.size - (intOf i).toNat)
 case atStart => exact ⟨0, Nat.zero_le _, rfl, rfl, rfl⟩
 case round =>
  obtain ⟨k, hk, rfl, hall, rfl⟩ := hrel
  have HALL := Hd hall
  clear hall
  by_cases hlt : k < s.size
  ·have hc := HCL.out k hlt
   have HS := Hd (all_snoc okn s k hlt)
   have HN : Hid (okn s[k] = false → nameB s = false) := Hd (fun h => by rw [nameB_eq, not_allB hlt h]; simp)
   generalize s[k] = c at hc HS HN
   have a0 : (0 : Int) ≤ k := by omega
   have a1 : (k : Int) < s.size := by omega
   have hkw := wr1 k (by omega)
   by_cases h1 : c.toNat < 32
   ·have t1 : decide ((c.toNat : Int) < 32) = true := decide_eq_true (by omega)
    have HF := Hd (HN.out (by unfold okn; rw [decide_eq_false (by omega : ¬ 32 ≤ c.toNat)]; rfl))
    clear HS HN
    go_wp2_with fail
    go_ret
    exact ⟨by rw [HF.out]; rfl, HB.out⟩
   ·have t1 : decide ((c.toNat : Int) < 32) = false := decide_eq_false (by omega)
    by_cases h2 : 126 < c.toNat
    ·have t2 : decide (126 < (c.toNat : Int)) = true := decide_eq_true (by omega)
     have HF := Hd (HN.out (by unfold okn; rw [decide_eq_false (by omega : ¬ c.toNat ≤ 126)]; simp))
     clear HS HN
     go_wp2_with fail
     go_ret
     exact ⟨by rw [HF.out]; rfl, HB.out⟩
    ·have t2 : decide (126 < (c.toNat : Int)) = false := decide_eq_false (by omega)
     have HF : Hid ((s.data.toList.take (k + 1)).all okn = true) := Hd (by rw [HS.out, HALL.out]; unfold okn; rw [decide_eq_true (by omega : 32 ≤ c.toNat), decide_eq_true (by omega : c.toNat ≤ 126)]; rfl)
     clear HS HN
     go_wp2_with fail
     go_roundw
     case rel => exact ⟨k + 1, by omega, by go_num, HF.out, trivial⟩
     case measure => simp [intOf]; omega
  ·have hke : k = s.size := by omega
   have HA : Hid (s.data.toList.all okn = true) := Hd (by
    have h := HALL.out
    rw [hke, List.take_of_length_le (by simp)] at h
    exact h)
   have HE : Hid (nameB s = (decide (1 ≤ s.size) && decide (s.size ≤ 64) && decide (Lib.trimB s.data.toList 32 = s.data.toList) && !(Lib.contains s.data.toList [32, 32]))) := Hd (by rw [nameB_eq, HA.out]; simp)
   clear HALL HA
   by_cases h1 : 1 ≤ s.size
   ·by_cases h2 : s.size ≤ 64
    ·obtain ⟨tr, htr, htq⟩ : ∃ tr : ByteArray, (⟨(Lib.trimB s.data.toList 32).toArray⟩ : ByteArray) = tr ∧ (tr.toList == s.toList) = decide (Lib.trimB s.data.toList 32 = s.data.toList) := ⟨_, rfl, str_eq_iff _ s⟩
     have HTR := Hd htq
     have HT : Hid (∀ wz, Calls Tryz.prog 38 #[.string s, .string ⟨#[32]⟩] wz fun e w' => e = .returned (.string tr) ∧ (w' = wz ∨ w' = wz.drew)) := Hd (fun wz => by
      rw [← htr]
      exact Any.strings_Trim_one Tryz.lays160 s 32 (by decide) wz (by omega))
     clear htr htq
     have t1 : decide (1 ≤ (s.size : Int)) = true := decide_eq_true (by omega)
     have t2 : decide ((s.size : Int) ≤ 64) = true := decide_eq_true (by omega)
     have HCN := Hd (fun m wz (hm : World.cell? wz ⟨0, 0, none⟩ = some (.int .i64 m)) => Tryz.strings_Contains s ⟨#[32, 32]⟩ m wz (by omega) hm)
     go_wp2_with fail
     refine (HT.out _).mono ?_
     rintro e w3 ⟨rfl, hw3⟩
     have hb3 : Below wr.heap.size wr w3 := by
      rcases hw3 with rfl | rfl
      ·exact Below.refl _ _
      ·exact below_drew1 brf
     obtain ⟨m, hm3⟩ := HG.out.below hb3
     have HCN3 := Hd (HCN.out m w3 hm3)
     have HB3 := Hd (btr HB.out hb3)
     clear hw3 hb3 hm3 HCN HT
     cases ht : (tr.toList == s.toList) with
     | false =>
      have HF : Hid (nameB s = false) := Hd (by rw [HE.out, ← HTR.out, ht]; simp)
      clear HE HTR
      go_wp2_with fail
      go_ret
      exact ⟨by rw [HF.out]; rfl, HB3.out⟩
     | true =>
      have HF : Hid (nameB s = !(Lib.contains s.data.toList [32, 32])) := Hd (by rw [HE.out, ← HTR.out, ht, decide_eq_true h1, decide_eq_true h2]; rfl)
      clear HE HTR
      go_wp2_with fail
      refine HCN3.out.mono ?_
      rintro e w4 ⟨rfl, rfl⟩
      go_wp2_with fail
      go_ret
      exact ⟨by rw [HF.out]; rfl, HB3.out⟩
    ·have t1 : decide (1 ≤ (s.size : Int)) = true := decide_eq_true (by omega)
     have t2 : decide ((s.size : Int) ≤ 64) = false := decide_eq_false (by omega)
     have HF : Hid (nameB s = false) := Hd (by rw [HE.out, decide_eq_false h2]; simp)
     clear HE
     go_wp2_with fail
     go_ret
     exact ⟨by rw [HF.out]; rfl, HB.out⟩
   ·have t1 : decide (1 ≤ (s.size : Int)) = false := decide_eq_false (by omega)
    have HF : Hid (nameB s = false) := Hd (by rw [HE.out, decide_eq_false h1]; simp)
    clear HE
    go_wp2_with fail
    go_ret
    exact ⟨by rw [HF.out]; rfl, HB.out⟩
end Go.Proofs.YtjoljfnlkddfbaaGreatDoor
namespace Go.Proofs.YtjoljfnlkddfbaaGreatDoor
open Go.RowKit Go.Maps

theorem any_take_snoc {α : Type} (p : α → Bool) (l : List α) (k : Nat) (h : k < l.length) : (l.take (k + 1)).any p = ((l.take k).any p || p l[k]) := by
 rw [List.take_succ_eq_append_getElem h, List.any_append]
 simp
theorem indexMark_any (p : MarkD → Bool) (g : Nat) (eg : ∀ args w, (callFunc g args).run Tryz.prog w = .ok (.enter g args) w) (hp : ∀ m W, Calls Tryz.prog g #[markV m] W fun e w' => e = .returned (.bool (p m)) ∧ Below W.heap.size W w')
  (l : List MarkD) (v : Value) (w : World) (h : Arr MarkR 4 w v l) : Calls Tryz.prog 148 #[v, .func (.func g) #[] #[]] w fun e w' => ∃ i : Int, e = .returned (.int .i64 i) ∧ decide (0 ≤ i) = l.any p ∧ Below w.heap.size w w' := by
 have hn := h.len
 obtain ⟨o, c, rfl, hel⟩ := h.markAt
 have HEL := Hd hel
 have HP := Hd hp
 clear hel h hp
 go_enter Tryz.func148, Tryz.ntmps148
 go_wp2_with fail
 go_loopw [8] (fun i wr => ∃ k : Nat, k ≤ l.length ∧ i = .int .i64 k ∧ (l.take k).any p = false ∧ Below w.heap.size w wr) (fun i _ => l.length - (intOf i).toNat)
 case atStart => exact ⟨0, Nat.zero_le _, rfl, rfl, Below.refl _ _⟩
 case round =>
  obtain ⟨k, hk, rfl, hall, hB⟩ := hrel
  have HALL := Hd hall
  have HB := Hd hB
  clear hall hB
  by_cases hlt : k < l.length
  ·obtain ⟨b, off, rfl, hbl, e0, e1, e2, e3, -⟩ := HEL.out k hlt
   have c0 : wr.cell? ⟨b, off + k * 4, none⟩ = some (.int .i64 l[k].dot.rep) := by rw [HB.out.cell (p := ⟨_, _, _⟩) hbl]; exact e0
   have c1 : wr.cell? ⟨b, off + k * 4 + 1, none⟩ = some (.int .i64 l[k].dot.ctr) := by rw [HB.out.cell (p := ⟨_, _, _⟩) hbl]; exact e1
   have c2 : wr.cell? ⟨b, off + k * 4 + 2, none⟩ = some (.int .i64 l[k].qty) := by rw [HB.out.cell (p := ⟨_, _, _⟩) hbl]; exact e2
   have c3 : wr.cell? ⟨b, off + k * 4 + 3, none⟩ = some (.int .u64 l[k].time) := by rw [HB.out.cell (p := ⟨_, _, _⟩) hbl]; exact e3
   have HS := Hd (any_take_snoc p l k hlt)
   have HY : Hid (p l[k] = true → l.any p = true) := Hd (fun h => List.any_eq_true.2 ⟨_, List.getElem_mem hlt, h⟩)
   generalize l[k] = m at *
   have HPM := Hd (HP.out m wr)
   unfold markV at HPM
   have a0 : (0 : Int) ≤ k := by omega
   have a1 : (k : Int) < l.length := by omega
   have hkw := wr1 k (by omega)
   clear e0 e1 e2 e3
   obtain ⟨pm, hpm⟩ : ∃ pm, pm = p m := ⟨_, rfl⟩
   rw [← hpm] at HPM HS HY
   clear hpm
   cases pm with
   | true =>
    have HF := Hd (HY.out rfl)
    go_wp2_with (go_at_fn g; refine HPM.out.mono ?_; rintro e w2 ⟨rfl, hb2⟩)
    go_ret
    exact ⟨k, rfl, by rw [HF.out]; exact decide_eq_true (by omega), btr HB.out hb2⟩
   | false =>
    have HF : Hid ((l.take (k + 1)).any p = false) := Hd (by rw [HS.out, HALL.out]; rfl)
    go_wp2_with (go_at_fn g; refine HPM.out.mono ?_; rintro e w2 ⟨rfl, hb2⟩)
    have hbf := btr HB.out hb2
    go_roundw
    case rel => exact ⟨k + 1, by omega, by go_num, HF.out, hbf⟩
    case measure => simp [intOf]; omega
  ·have hke : k = l.length := by omega
   have HF : Hid (l.any p = false) := Hd (by have := HALL.out; rw [hke, List.take_length] at this; exact this)
   clear HALL
   go_wp2_with fail
   go_ret
   exact ⟨-1, rfl, by rw [HF.out]; rfl, HB.out⟩
theorem containsMark_any (p : MarkD → Bool) (g : Nat) (eg : ∀ args w, (callFunc g args).run Tryz.prog w = .ok (.enter g args) w) (hp : ∀ m W, Calls Tryz.prog g #[markV m] W fun e w' => e = .returned (.bool (p m)) ∧ Below W.heap.size W w')
  (l : List MarkD) (v : Value) (w : World) (h : Arr MarkR 4 w v l) : Calls Tryz.prog 110 #[v, .func (.func g) #[] #[]] w fun e w' => e = .returned (.bool (l.any p)) ∧ Below w.heap.size w w' := by
 have HI := Hd (indexMark_any p g eg hp l v w h)
 clear h hp eg
 go_enter Tryz.func110, Tryz.ntmps110
 go_wp2_with fail
 refine HI.out.mono ?_
 rintro e w1 ⟨i, rfl, hi, hb1⟩
 have HB := Hd hb1
 have HF := Hd hi
 clear hi hb1
 go_wp2_with fail
 go_ret
 exact ⟨by rw [← HF.out]; rfl, HB.out⟩
theorem itemsInvalid1_any (m : MarkD) (w : World) : Calls Tryz.prog 111 #[markV m] w fun e w' => e = .returned (.bool (!validMarkD m)) ∧ Below w.heap.size w w' := by
 have HV := Hd (fun wz => qtyValidMark_any m wz)
 obtain ⟨r, hr⟩ : ∃ r, r = validMarkD m := ⟨_, rfl⟩
 rw [← hr] at HV ⊢
 clear hr
 unfold markV at *
 go_enter Tryz.func111, Tryz.ntmps111
 go_wp2_with fail
 refine (HV.out _).mono ?_
 rintro e w1 ⟨rfl, hb1⟩
 go_wp2_with fail
 go_ret
 exact ⟨rfl, (bal).trans (hb1.mono (by simp))⟩

theorem itemsInvalid_any (x : ItemD) (mv : Value) (w : World) (h : Arr MarkR 4 w mv x.marks) (hs : x.name.size ≤ maxLen) (hl : x.marks.length ≤ 100000) (hG : GlobIs w) : Calls Tryz.prog 66 #[.agg #[.string x.name, mv]] w fun e w' => e = .returned (.bool (!oneI x)) ∧ Below w.heap.size w w' := by
 have eg : ∀ args w, (callFunc 111 args).run Tryz.prog w = .ok (.enter 111 args) w := enters_of Tryz.func111 (by kernel_rfl) rfl
 obtain ⟨o, c, hv, -⟩ := id h
 obtain ⟨W1, hW1⟩ : ∃ W1, W1 = w.alloc (.cells #[.string x.name, mv] 55) := ⟨_, rfl⟩
 have hb1 : Below w.heap.size w W1 := by rw [hW1]; exact bal
 have hg1 : W1.heap[w.heap.size]? = some (.cells #[.string x.name, mv] 55) := by rw [hW1]; exact alloc_new _ _
 have hgl := lt_of_heap hg1
 have HF1 : Hid (∀ wz, Below W1.heap.size W1 wz → wz.cell? ⟨w.heap.size, 1, none⟩ = some mv) := Hd (fun wz hz => by rw [hz.cell (p := ⟨w.heap.size, 1, none⟩) hgl, cell0 hg1 1]; rfl)
 have HN := Hd (namesItem_any x.name W1 hs (hG.below hb1))
 have HLI : Hid (∀ wz, Below W1.heap.size W1 wz → Arr MarkR 4 wz mv x.marks) := Hd (fun wz hz => (h.marks hb1).marks hz)
 have HB1 := Hd hb1
 have HW := Hd hW1
 have HE : Hid (oneI x = (nameB x.name && decide (0 < x.marks.length) && isSetB (dotsM x.marks) && x.marks.all validMarkD)) := Hd rfl
 have HALL : Hid (x.marks.any (fun m => !validMarkD m) = !(x.marks.all validMarkD)) := Hd (by rw [List.not_all_eq_any_not])
 clear hW1 hb1 hg1 hgl h hG
 subst hv
 obtain ⟨rn, hrn⟩ : ∃ rn, rn = nameB x.name := ⟨_, rfl⟩
 rw [← hrn] at HN HE
 clear hrn
 cases rn with
 | false =>
  have HF : Hid (oneI x = false) := Hd (by rw [HE.out]; rfl)
  go_enter Tryz.func66, Tryz.ntmps66
  go_wp2_with fail
  rw [← HW.out]
  refine HN.out.mono ?_
  rintro e w2 ⟨rfl, hb2⟩
  go_wp2_with fail
  go_ret
  exact ⟨by rw [HF.out]; rfl, btr HB1.out hb2⟩
 | true =>
  by_cases h0 : x.marks.length = 0
  ·have HF : Hid (oneI x = false) := Hd (by rw [HE.out, decide_eq_false (by omega : ¬ 0 < x.marks.length)]; rfl)
   have H0 := Hd h0
   clear h0
   go_enter Tryz.func66, Tryz.ntmps66
   go_wp2_with fail
   rw [← HW.out]
   refine HN.out.mono ?_
   rintro e w2 ⟨rfl, hb2⟩
   have f1 := HF1.out w2 hb2
   have HB2 := Hd (btr HB1.out hb2)
   clear hb2 HW HF1 HLI
   have h0i : ((x.marks.length : Int) == 0) = true := by simp; exact List.eq_nil_of_length_eq_zero H0.out
   go_wp2_with fail
   go_ret
   exact ⟨by rw [HF.out]; rfl, HB2.out⟩
  ·have hpos : 0 < x.marks.length := by omega
   go_enter Tryz.func66, Tryz.ntmps66
   go_wp2_with fail
   rw [← HW.out]
   refine HN.out.mono ?_
   rintro e w2 ⟨rfl, hb2⟩
   have f1 := HF1.out w2 hb2
   have HL := Hd (qtyIsList_any x.marks _ w2 (HLI.out w2 hb2) hl)
   have HB2 := Hd (btr HB1.out hb2)
   have HW2 := Hd hb2
   clear hb2 HW
   have h0i : ((x.marks.length : Int) == 0) = false := by simp; intro e; rw [e] at hpos; simp at hpos
   go_wp2_with fail
   refine HL.out.mono ?_
   rintro e w3 ⟨rfl, hb3⟩
   have hb13 : Below W1.heap.size W1 w3 := btr HW2.out hb3
   have f1 := HF1.out w3 hb13
   have HC := Hd (containsMark_any (fun m => !validMarkD m) 111 eg itemsInvalid1_any x.marks _ w3 (HLI.out w3 hb13))
   have HB3 := Hd (btr HB2.out hb3)
   clear hb3 hb13 HF1 HLI HL
   rw [HALL.out] at HC
   obtain ⟨rs, hrs⟩ : ∃ rs, rs = isSetB (dotsM x.marks) := ⟨_, rfl⟩
   obtain ⟨ra, hra⟩ : ∃ ra, ra = x.marks.all validMarkD := ⟨_, rfl⟩
   rw [← hrs, ← hra] at HE
   rw [← hrs]
   rw [← hra] at HC
   clear hrs hra
   cases rs with
   | false =>
    have HF : Hid (oneI x = false) := Hd (by rw [HE.out]; simp)
    go_wp2_with fail
    go_ret
    exact ⟨by rw [HF.out]; rfl, HB3.out⟩
   | true =>
    have HF : Hid (oneI x = ra) := Hd (by rw [HE.out, decide_eq_true hpos]; rfl)
    go_wp2_with fail
    refine HC.out.mono ?_
    rintro e w4 ⟨rfl, hb4⟩
    go_wp2_with fail
    go_ret
    exact ⟨by rw [HF.out]; rfl, btr HB3.out hb4⟩
end Go.Proofs.YtjoljfnlkddfbaaGreatDoor
namespace Go.Proofs.YtjoljfnlkddfbaaGreatDoor
open Go.RowKit Go.Maps

/-- Not too many items, not too many marks. -/
def Lt (l : List ItemD) : Prop := l.length ≤ 1000 ∧ ∀ x ∈ l, x.marks.length ≤ 1000
theorem allDots_cons (x : ItemD) (l : List ItemD) : allDots (x :: l) = dotsM x.marks ++ allDots l := by simp [allDots]
theorem allDots_append (l m : List ItemD) : allDots (l ++ m) = allDots l ++ allDots m := by simp [allDots]
theorem allDots_le : ∀ (l : List ItemD), (∀ x ∈ l, x.marks.length ≤ 1000) → (allDots l).length ≤ l.length * 1000
 | [], _ => by simp [allDots]
 | a :: l, h => by
  rw [allDots_cons, List.length_append, dotsM_len, List.length_cons]
  have := allDots_le l (fun x hx => h x (.tail _ hx))
  have := h a (.head _)
  omega
theorem Lt.dots {l : List ItemD} (h : Lt l) : (allDots l).length ≤ 1000000 := by
 have := allDots_le l h.2
 have := h.1
 omega
theorem allDots_take_len (l : List ItemD) (k : Nat) : (allDots (l.take k)).length ≤ (allDots l).length := by
 have h := allDots_append (l.take k) (l.drop k)
 rw [List.take_append_drop] at h
 rw [h, List.length_append]
 omega
/-- Element i of a slice of items: where it lies. -/
theorem Arr.itemAt {w : World} {v : Value} {l : List ItemD} (h : Arr ItemR 2 w v l) : ∃ (o : Option Addr) (c : Nat), v = .slice o l.length c ∧ ∀ i (hi : i < l.length), ∃ b off mv, o = some ⟨b, off, none⟩ ∧ b < w.heap.size ∧ w.cell? ⟨b, off + i * 2, none⟩ = some (.string l[i].name) ∧ w.cell? ⟨b, off + i * 2 + 1, none⟩ = some mv ∧ l[i].name.size ≤ maxLen ∧ Arr MarkR 4 w mv l[i].marks := by
 obtain ⟨o, c, rfl, _, _, h4⟩ := h
 refine ⟨o, c, rfl, fun i hi => ?_⟩
 obtain ⟨b, off, cs, rfl, hb, _, ⟨mv, rfl, h1, h2⟩, hc⟩ := h4 i hi
 exact ⟨b, off, mv, rfl, hb, hc 0 (by decide), hc 1 (by decide), h1, h2⟩
theorem Arr.itemsI {w : World} {v : Value} {l : List ItemD} (h : Arr ItemR 2 w v l) : ∀ d ∈ allDots l, DI d := by
 intro d hd
 obtain ⟨x, hx, hd⟩ := List.mem_flatMap.1 hd
 obtain ⟨i, hi, rfl⟩ := List.getElem_of_mem hx
 obtain ⟨o, c, _, hel⟩ := h.itemAt
 obtain ⟨b, off, mv, _, _, _, _, _, hm⟩ := hel i hi
 obtain ⟨m, hm2, rfl⟩ := List.mem_map.1 hd
 exact (hm.marksI m hm2).1

theorem itemsDots_any (l : List ItemD) (v : Value) (w : World) (h : Arr ItemR 2 w v l) (hl : Lt l) : Calls Tryz.prog 37 #[v] w fun e w' => ∃ v', e = .returned v' ∧ w'.ownsRow w.heap.size 39 2 v' (setD (allDots l)).length (flatD (setD (allDots l))) ∧ Below w.heap.size w w' := by
 obtain ⟨i0, hi0, hz0, hz1, hz2⟩ := info_parts infoDot
 have HI := Hd (And.intro hi0 (And.intro hz0 (And.intro hz1 hz2)))
 have hn := h.len
 have HDI := Hd h.itemsI
 have HLT := Hd hl
 obtain ⟨o, c, rfl, hel⟩ := h.itemAt
 have HEL := Hd hel
 clear hi0 hz0 hz1 hz2 hel h hl
 go_enter Tryz.func37, Tryz.ntmps37
 go_wp2_with fail
 go_loopw [3, 8] (fun v i wr => ∃ k : Nat, k ≤ l.length ∧ i = .int .i64 k ∧ wr.ownsRow w.heap.size 39 2 v (allDots (l.take k)).length (flatD (allDots (l.take k))) ∧ Below w.heap.size w wr) (fun _ i _ => l.length - (intOf i).toNat)
 case atStart => exact ⟨0, Nat.zero_le _, rfl, by rw [List.take_zero]; exact World.ownsRow_nil _ _ _ _, Below.refl _ _⟩
 case round =>
  obtain ⟨k, hk, rfl, hrow, hB⟩ := hrel
  obtain ⟨av, cv, rfl⟩ := owns_slice hrow
  by_cases hlt : k < l.length
  ·obtain ⟨b, off, mv, rfl, hbl, e0, e1, -, hmk⟩ := HEL.out k hlt
   have HTK : Hid (allDots (l.take (k + 1)) = allDots (l.take k) ++ dotsM l[k].marks) := Hd (by
    rw [List.take_succ_eq_append_getElem hlt, allDots_append]; simp [allDots])
   obtain ⟨mo, mc, rfl, -⟩ := id hmk
   have hbr : b < wr.heap.size := Nat.lt_of_lt_of_le hbl hB.size
   have c0 : wr.cell? ⟨b, off + k * 2, none⟩ = some (.string l[k].name) := by rw [hB.cell (p := ⟨_, _, _⟩) hbl]; exact e0
   have c1 : wr.cell? ⟨b, off + k * 2 + 1, none⟩ = some (.slice mo l[k].marks.length mc) := by rw [hB.cell (p := ⟨_, _, _⟩) hbl]; exact e1
   have hal : Below wr.heap.size wr (wr.alloc (.cells #[.string l[k].name, .slice mo l[k].marks.length mc] 55)) := bal
   have hlm : l[k].marks.length ≤ 1000 := HLT.out.2 _ (List.getElem_mem hlt)
   have HQ := Hd (qtyDots_any l[k].marks _ _ ((hmk.marks hB).marks hal) (by omega))
   have HSUM : Hid ((allDots (l.take k)).length + l[k].marks.length ≤ 1000000) := Hd (by
    have h1 := allDots_take_len l (k + 1)
    rw [HTK.out, List.length_append, dotsM_len] at h1
    have := HLT.out.dots
    omega)
   have HFD : Hid (flatD (allDots (l.take (k + 1))) = flatD (allDots (l.take k)) ++ flatD (dotsM l[k].marks)) := Hd (by rw [HTK.out]; simp [flatD])
   have HTL : Hid ((allDots (l.take (k + 1))).length = (allDots (l.take k)).length + l[k].marks.length) := Hd (by rw [HTK.out, List.length_append, dotsM_len])
   generalize l[k].name = nm at *
   generalize l[k].marks = ms at *
   have a1 : (k : Int) < l.length := by omega
   have a0 : (0 : Int) ≤ k := by omega
   have hkw := wr1 k (by omega)
   have HROW := Hd hrow
   have HB := Hd hB
   have HAL := Hd hal
   clear hal hrow hB e0 e1 hmk
   obtain ⟨n, hn2⟩ : ∃ n, n = (allDots (l.take k)).length := ⟨_, rfl⟩
   rw [← hn2] at HROW HSUM HTL ⊢
   clear hn2
   go_wp2_with fail
   refine HQ.out.mono ?_
   rintro e w2 ⟨v2, rfl, hrow2, hb2⟩
   have hb3 : Below wr.heap.size wr w2 := btr HAL.out hb2
   have HROW2 := Hd (row_below HROW.out hb3)
   have HB2 := Hd (btr HB.out hb3)
   have HSRC := Hd (row_src hrow2)
   have hbw2 : w.heap.size ≤ w2.heap.size := HB2.out.size
   have hsum := HSUM.out
   clear hb2 hb3 hrow2
   go_wp2_with (at_builtin; refine wpList_append_src rfl _ _ 22 rfl w.heap.size 39 i0 (.agg #[.int .i64 0, .int .i64 0]) 2 16 Tryz.underlying22 HI.out.1 HI.out.2.1 HI.out.2.2.1 HI.out.2.2.2 rfl (by decide) (.slice av n cv) n _ rfl HROW2.out _ _ _ rfl HSRC.out (by rw [flatD_len, dotsM_len]) (flatD_one _) (by unfold maxLen; omega) (by omega) hbw2 ?_; intro v8 w8 hown8 hgr8 _)
   have hbf := HB2.out.grown hgr8 hbw2 (fun j hj => (HROW2.out.lt _ hj).1)
   go_roundw
   case rel => exact ⟨k + 1, by omega, by go_num, by rw [HFD.out, HTL.out]; exact hown8, hbf⟩
   case measure => simp [intOf]; omega
  ·have hke : k = l.length := by omega
   rw [hke, List.take_length] at hrow
   have HS := Hd (dotSet_any (allDots l) _ wr (Arr.of_dots hrow HDI.out) HLT.out.dots)
   have HB := Hd hB
   rw [hke, List.take_length] 
   clear hB hrow
   go_wp2_with fail
   refine HS.out.mono ?_
   rintro e w2 ⟨v2, rfl, hrow2, hb2⟩
   go_wp2_with fail
   go_ret
   exact ⟨_, rfl, row_mono hrow2 HB.out.size, btr HB.out hb2⟩
end Go.Proofs.YtjoljfnlkddfbaaGreatDoor
namespace Go.Proofs.YtjoljfnlkddfbaaGreatDoor
open Go.RowKit Go.Maps Go.Sort Go.Shelf

def encM (m : MarkD) : List Value := [.int .i64 m.dot.rep, .int .i64 m.dot.ctr, .int .i64 m.qty, .int .u64 m.time]
def EMark : Enc MarkD := ⟨encM, 4, 85, by decide, fun _ => rfl, fun x u hu => by
 simp [encM] at hu
 rcases hu with rfl | rfl | rfl | rfl <;> rfl⟩
def EDot : Enc DotD := ⟨encD, 2, 39, by decide, fun _ => rfl, encD_one⟩
/-- An item in memory: its data, and where its marks lie. -/
structure ItW where
 x : ItemD
 mo : Option Addr
 mc : Nat
instance : Inhabited ItW := ⟨⟨⟨⟨#[]⟩, []⟩, none, 0⟩⟩
instance : Inhabited MarkD := ⟨⟨⟨0, 0⟩, 0, 0⟩⟩
def ItW.v (p : ItW) : Value := .slice p.mo p.x.marks.length p.mc
def encT (p : ItW) : List Value := [.string p.x.name, p.v]
def EItem : Enc ItW := ⟨encT, 2, 55, by decide, fun _ => rfl, fun x u hu => by
 simp [encT, ItW.v] at hu
 rcases hu with rfl | rfl <;> rfl⟩
def ItwR (w : World) (p : ItW) (cs : List Value) : Prop := cs = encT p ∧ p.x.name.size ≤ maxLen ∧ Arr MarkR 4 w p.v p.x.marks

theorem Arr.srcE {α : Type} {R : World → α → List Value → Prop} (E : Enc α) {w : World} {v : Value} {l : List α} (h : Arr R E.k w v l) (hR : ∀ a cs, R w a cs → cs = E.enc a) (hn : l ≠ []) : SrcIs w v l.length (E.flat l) := by
 obtain ⟨o, c, rfl, _, _, hel⟩ := h
 obtain ⟨b, off, _, rfl, _⟩ := hel 0 (List.length_pos_iff.2 hn)
 refine Or.inr ⟨_, _, rfl, fun j u hj => ?_⟩
 have hp := E.pos
 have hjl : j < l.length * E.k := by
  rcases Nat.lt_or_ge j (l.length * E.k) with h | h
  ·exact h
  ·rw [List.getElem?_eq_none (by rw [E.flat_len]; exact h)] at hj; cases hj
 have hd : j / E.k < l.length := (Nat.div_lt_iff_lt_mul hp).2 hjl
 have hm : j % E.k < E.k := Nat.mod_lt _ hp
 have et : j / E.k * E.k + j % E.k = j := by rw [Nat.mul_comm]; exact Nat.div_add_mod j E.k
 have h6 := E.flat_get l (j / E.k) hd (j % E.k) hm
 rw [et] at h6
 obtain ⟨b', off', cs, he, _, _, hr, hc⟩ := hel (j / E.k) hd
 cases he
 rw [h6, ← hR _ _ hr] at hj
 rw [addr_add, ← et, ← Nat.add_assoc, hc _ hm]
 exact hj
theorem Arr.of_row {α : Type} {R : World → α → List Value → Prop} {E : Enc α} {base : Nat} {w : World} {v : Value} {l : List α} (h : E.Row base w v l) (hR : ∀ a ∈ l, R w a (E.enc a)) : Arr R E.k w v l := by
 have hle := h.le
 by_cases hn : l = []
 ·subst hn
  obtain ⟨_, ⟨h1, _⟩ | ⟨g, cap, cur, h1, _, _, h3, h4, _⟩⟩ := h
  ·exact ⟨none, 0, h1, Nat.le_refl _, Nat.zero_le _, fun i hi => absurd hi (Nat.not_lt_zero i)⟩
  ·exact ⟨_, cap, h1, h3, h4, fun i hi => absurd hi (Nat.not_lt_zero i)⟩
 ·obtain ⟨g, cap, rfl, hin, _⟩ := h.some hn
  obtain ⟨C, _, _, h3, h4, _⟩ := id hin
  exact ⟨_, cap, rfl, h3, h4, fun i hi => ⟨g, 0, E.enc l[i], rfl, hin.gl, E.len _, hR _ (List.getElem_mem hi), fun j hj => by rw [Nat.zero_add]; exact hin.cell i hi j hj⟩⟩
theorem Arr.itw {w : World} {v : Value} {l : List ItemD} (h : Arr ItemR 2 w v l) : ∃ ps : List ItW, ps.map (·.x) = l ∧ Arr ItwR 2 w v ps := by
 obtain ⟨o, c, rfl, h2, h3, hel⟩ := h
 have each : ∀ i : Fin l.length, ∃ p : ItW, p.x = l[i] ∧ ∃ b off cs, o = some ⟨b, off, none⟩ ∧ b < w.heap.size ∧ cs.length = 2 ∧ ItwR w p cs ∧ ∀ j, j < 2 → w.cell? ⟨b, off + i * 2 + j, none⟩ = cs[j]? := fun i => by
  obtain ⟨b, off, cs, e1, e2, e3, ⟨mv, e4, e5, e6⟩, e7⟩ := hel i.1 i.2
  obtain ⟨mo, mc, hv, _⟩ := id e6
  exact ⟨⟨l[i], mo, mc⟩, rfl, b, off, cs, e1, e2, e3, ⟨by rw [e4, hv]; rfl, e5, by rw [hv] at e6; exact e6⟩, e7⟩
 let f : Fin l.length → ItW := fun i => Classical.choose (each i)
 have hf := fun i => Classical.choose_spec (each i)
 have hmap : (List.ofFn f).map (·.x) = l := by
  apply List.ext_getElem
  ·simp
  ·intro i h1 h2
   simp only [List.getElem_map, List.getElem_ofFn]
   exact (hf ⟨i, by simpa using h2⟩).1
 refine ⟨List.ofFn f, hmap, o, c, by rw [List.length_ofFn], by rw [List.length_ofFn]; exact h2, h3, fun i hi => ?_⟩
 rw [List.length_ofFn] at hi
 obtain ⟨_, b, off, cs, e1, e2, e3, e4, e5⟩ := hf ⟨i, hi⟩
 exact ⟨b, off, cs, e1, e2, e3, by rw [List.getElem_ofFn]; exact e4, e5⟩
theorem Arr.of_itw {w : World} {v : Value} {ps : List ItW} (h : Arr ItwR 2 w v ps) : Arr ItemR 2 w v (ps.map (·.x)) := by
 obtain ⟨o, c, rfl, h2, h3, hel⟩ := h
 refine ⟨o, c, by rw [List.length_map], by rw [List.length_map]; exact h2, h3, fun i hi => ?_⟩
 rw [List.length_map] at hi
 obtain ⟨b, off, cs, e1, e2, e3, ⟨e4, e5, e6⟩, e7⟩ := hel i hi
 exact ⟨b, off, cs, e1, e2, e3, ⟨ps[i].v, by rw [List.getElem_map]; exact e4, by rw [List.getElem_map]; exact e5, by rw [List.getElem_map]; exact e6⟩, e7⟩
def MI (m : MarkD) : Prop := I64 m.dot.rep ∧ I64 m.dot.ctr ∧ I64 m.qty ∧ U64 m.time
theorem Arr.marksMI {w : World} {v : Value} {l : List MarkD} (h : Arr MarkR 4 w v l) : ∀ m ∈ l, MI m := by
 intro m hm
 obtain ⟨i, hi, rfl⟩ := List.getElem_of_mem hm
 obtain ⟨o, c, _, _, _, h⟩ := h
 obtain ⟨b, off, cs, _, _, _, hR, _⟩ := h i hi
 exact hR.2
theorem Arr.of_marks {base : Nat} {w : World} {v : Value} {l : List MarkD} (h : EMark.Row base w v l) (hI : ∀ m ∈ l, MI m) : Arr MarkR 4 w v l :=
 Arr.of_row (E := EMark) h (fun a ha => ⟨rfl, hI a ha⟩)
/-- Items in memory of their own: the list, and all lists of marks. -/
def ItOk (base : Nat) (w : World) (p : ItW) : Prop := p.x.name.size ≤ maxLen ∧ EMark.Row base w p.v p.x.marks ∧ ∀ m ∈ p.x.marks, MI m
def Apart (a b : Value) : Prop := ∀ k, a.ownBlock = some k → b.ownBlock ≠ some k
theorem Apart.symm {a b : Value} (h : Apart a b) : Apart b a := fun k h1 h2 => h k h2 h1
def FreshI (base : Nat) (w : World) (v : Value) (ps : List ItW) : Prop :=
 EItem.Row base w v ps ∧ (∀ p ∈ ps, ItOk base w p ∧ Apart v p.v) ∧ ps.Pairwise (fun a b => Apart a.v b.v)
theorem ItOk.below {base : Nat} {w w' : World} {p : ItW} (h : ItOk base w p) (hb : Below w.heap.size w w') : ItOk base w' p := ⟨h.1, h.2.1.below hb, h.2.2⟩
theorem ItOk.mono {base base' : Nat} {w : World} {p : ItW} (h : ItOk base w p) (hb : base' ≤ base) : ItOk base' w p := ⟨h.1, h.2.1.mono hb, h.2.2⟩
theorem ItOk.stay {base : Nat} {w w' : World} {p : ItW} (h : ItOk base w p) (hb : ∀ k, p.v.ownBlock = some k → w'.heap[k]? = w.heap[k]?) : ItOk base w' p := ⟨h.1, h.2.1.stay hb, h.2.2⟩
theorem FreshI.below {base : Nat} {w w' : World} {v : Value} {ps : List ItW} (h : FreshI base w v ps) (hb : Below w.heap.size w w') : FreshI base w' v ps :=
 ⟨h.1.below hb, fun p hp => ⟨(h.2.1 p hp).1.below hb, (h.2.1 p hp).2⟩, h.2.2⟩
theorem FreshI.mono {base base' : Nat} {w : World} {v : Value} {ps : List ItW} (h : FreshI base w v ps) (hb : base' ≤ base) : FreshI base' w v ps :=
 ⟨h.1.mono hb, fun p hp => ⟨(h.2.1 p hp).1.mono hb, (h.2.1 p hp).2⟩, h.2.2⟩
theorem FreshI.arrw {base : Nat} {w : World} {v : Value} {ps : List ItW} (h : FreshI base w v ps) : Arr ItwR 2 w v ps :=
 Arr.of_row (E := EItem) h.1 (fun p hp => ⟨rfl, (h.2.1 p hp).1.1, Arr.of_marks (h.2.1 p hp).1.2.1 (h.2.1 p hp).1.2.2⟩)
theorem FreshI.arr {base : Nat} {w : World} {v : Value} {ps : List ItW} (h : FreshI base w v ps) : Arr ItemR 2 w v (ps.map (·.x)) := h.arrw.of_itw
end Go.Proofs.YtjoljfnlkddfbaaGreatDoor
namespace Go.Proofs.YtjoljfnlkddfbaaGreatDoor
open Go.RowKit Go.Maps Go.Sort Go.Shelf

theorem Arr.itws {w w' : World} {v : Value} {l : List ItW} (h : Arr ItwR 2 w v l) (hb : Below w.heap.size w w') : Arr ItwR 2 w' v l := h.mono (fun _ _ h => ⟨h.1, h.2.1, h.2.2.marks hb⟩) hb

theorem cloneMarks_any (l : List MarkD) (v : Value) (w : World) (h : Arr MarkR EMark.k w v l) (hl : l.length ≤ 1000000) : Calls Tryz.prog 173 #[v] w fun e w' => ∃ v', e = .returned v' ∧ EMark.Row w.heap.size w' v' l ∧ Below w.heap.size w w' := by
 obtain ⟨a, cap, rfl, -⟩ := id h
 cases a with
 | none =>
  have hle : l = [] := by
   rcases l with _ | ⟨x, l⟩
   ·rfl
   ·obtain ⟨o, c, he, _, _, hel⟩ := h
    obtain ⟨b, off, cs, h1, _⟩ := hel 0 (by simp)
    cases he
    cases h1
  subst hle
  clear h
  have hnil : ∀ W, (binOp .eql 53 (.slice none 0 cap) (.slice none 0 0)).run Tryz.prog W = .ok (.bool true) W := fun W => Lib.run_eql_slice_nil_nil W _ _ Tryz.underlying53
  go_enter Tryz.func173, Tryz.ntmps173
  go_wp2_with fail
  go_ret
  exact ⟨_, rfl, Enc.Row.nil _ _, Below.refl _ _⟩
 | some a =>
  have HS := Hd (show SrcIs (w.alloc (.cells #[] 85)) (.slice (some a) l.length cap) l.length (EMark.flat l) from by
   by_cases hn : l = []
   ·subst hn
    exact Or.inr ⟨a, cap, rfl, fun j u hj => by simp [Enc.flat] at hj⟩
   ·have h2 : Arr MarkR EMark.k (w.alloc (.cells #[] 85)) (.slice (some a) l.length cap) l := h.marks (bal)
    exact h2.srcE EMark (fun _ _ h => h.1) hn)
  have HE0 : Hid (EMark.Row w.heap.size (w.alloc (.cells #[] 85)) (.slice (some ⟨w.heap.size, 0, none⟩) 0 0) []) := Hd ⟨by simp [Enc.flat], Or.inr ⟨w.heap.size, 0, #[], rfl, Nat.le_refl _, alloc_new _ _, Nat.le_refl _, by unfold maxLen; omega, by simp, by simp [Enc.flat]⟩⟩
  clear h
  have hnil : ∀ W, (binOp .eql 53 (.slice (some a) l.length cap) (.slice none 0 0)).run Tryz.prog W = .ok (.bool false) W := fun W => Lib.run_eql_slice_some_nil W _ _ _ Tryz.underlying53
  go_enter Tryz.func173, Tryz.ntmps173
  go_wp2_with (at_builtin; refine wpList_row rfl _ _ 53 rfl EMark w.heap.size (.agg #[.int .i64 0, .int .i64 0, .int .i64 0, .int .u64 0]) 32 Tryz.underlying53 infoMark (by decide) (by decide) (.slice (some ⟨w.heap.size, 0, none⟩) 0 0) [] rfl HE0.out _ l rfl HS.out (by simp; omega) (by simp) ?_; intro v8 w8 hown8 hgr8)
  rw [List.nil_append] at hown8
  go_ret
  exact ⟨_, rfl, hown8, (bal).grown hgr8 (by simp) (by intro k hk; simp [Value.ownBlock] at hk; omega)⟩

theorem cloneItems_any (l : List ItW) (v : Value) (w : World) (h : Arr ItwR EItem.k w v l) (hl : l.length ≤ 1000000) : Calls Tryz.prog 172 #[v] w fun e w' => ∃ v', e = .returned v' ∧ EItem.Row w.heap.size w' v' l ∧ Below w.heap.size w w' := by
 obtain ⟨a, cap, rfl, -⟩ := id h
 cases a with
 | none =>
  have hle : l = [] := by
   rcases l with _ | ⟨x, l⟩
   ·rfl
   ·obtain ⟨o, c, he, _, _, hel⟩ := h
    obtain ⟨b, off, cs, h1, _⟩ := hel 0 (by simp)
    cases he
    cases h1
  subst hle
  clear h
  have hnil : ∀ W, (binOp .eql 26 (.slice none 0 cap) (.slice none 0 0)).run Tryz.prog W = .ok (.bool true) W := fun W => Lib.run_eql_slice_nil_nil W _ _ Tryz.underlying26
  go_enter Tryz.func172, Tryz.ntmps172
  go_wp2_with fail
  go_ret
  exact ⟨_, rfl, Enc.Row.nil _ _, Below.refl _ _⟩
 | some a =>
  have HS := Hd (show SrcIs (w.alloc (.cells #[] 55)) (.slice (some a) l.length cap) l.length (EItem.flat l) from by
   by_cases hn : l = []
   ·subst hn
    exact Or.inr ⟨a, cap, rfl, fun j u hj => by simp [Enc.flat] at hj⟩
   ·have h2 : Arr ItwR EItem.k (w.alloc (.cells #[] 55)) (.slice (some a) l.length cap) l := h.itws (bal)
    exact h2.srcE EItem (fun _ _ h => h.1) hn)
  have HE0 : Hid (EItem.Row w.heap.size (w.alloc (.cells #[] 55)) (.slice (some ⟨w.heap.size, 0, none⟩) 0 0) []) := Hd ⟨by simp [Enc.flat], Or.inr ⟨w.heap.size, 0, #[], rfl, Nat.le_refl _, alloc_new _ _, Nat.le_refl _, by unfold maxLen; omega, by simp, by simp [Enc.flat]⟩⟩
  clear h
  have hnil : ∀ W, (binOp .eql 26 (.slice (some a) l.length cap) (.slice none 0 0)).run Tryz.prog W = .ok (.bool false) W := fun W => Lib.run_eql_slice_some_nil W _ _ _ Tryz.underlying26
  go_enter Tryz.func172, Tryz.ntmps172
  go_wp2_with (at_builtin; refine wpList_row rfl _ _ 26 rfl EItem w.heap.size (.agg #[.string ⟨#[]⟩, .slice none 0 0]) 40 Tryz.underlying26 infoItem (by decide) (by decide) (.slice (some ⟨w.heap.size, 0, none⟩) 0 0) [] rfl HE0.out _ l rfl HS.out (by simp; omega) (by simp) ?_; intro v8 w8 hown8 hgr8)
  rw [List.nil_append] at hown8
  go_ret
  exact ⟨_, rfl, hown8, (bal).grown hgr8 (by simp) (by intro k hk; simp [Value.ownBlock] at hk; omega)⟩

theorem setCell_other {w : World} {g b i : Nat} {v : Value} (h : b ≠ g) : (w.setCell ⟨g, i, none⟩ v).heap[b]? = w.heap[b]? := by
 simp only [World.setCell]
 rw [Array.getElem?_modify, if_neg (fun e => h e.symm)]
/-- Another list of marks in an item. -/
theorem setMarks_in {w : World} {g cap : Nat} {d : List ItW} (h : EItem.In w g cap d) (i : Nat) (hi : i < d.length) (q : ItW) (hq : q.x.name = d[i].x.name) : EItem.In (w.setCell ⟨g, i * 2 + 1, none⟩ q.v) g cap (d.set i q) := by
 obtain ⟨C, h1, h2, h3, h4, h5⟩ := h
 have h2' : C.size = cap * 2 := h2
 refine ⟨_, setCell_same h1 _ _, by simp; exact h2, by simpa using h3, h4, fun t ht => ?_⟩
 have ht' : t < d.length * EItem.k := by simpa using ht
 rw [EItem.flat_set d i hi q t]
 by_cases e : t = i * 2 + 1
 ·subst e
  rw [Array.getElem?_setIfInBounds_self_of_lt (by omega), if_pos (by show i * 2 ≤ i * 2 + 1 ∧ i * 2 + 1 < i * 2 + 2; omega), show i * 2 + 1 - i * EItem.k = 1 by show i * 2 + 1 - i * 2 = 1; omega]
  rfl
 ·rw [Array.getElem?_setIfInBounds_ne (by omega), h5 t ht']
  split
  ·rename_i h6
   have h6' : i * 2 ≤ t ∧ t < i * 2 + 2 := h6
   have e2 : t = i * 2 + 0 := by omega
   subst e2
   have h7 := EItem.flat_get d i hi 0 (by decide)
   rw [show i * 2 + 0 = i * EItem.k + 0 from rfl, h7, Nat.add_zero, Nat.sub_self]
   show (encT d[i])[0]? = (encT q)[0]?
   simp [encT, hq]
  ·rfl

/-- A copy: the same items, in memory of their own. -/
def CopyPost (l : List ItemD) (w : World) (e : Ending) (w' : World) : Prop := ∃ v' ps, e = .returned v' ∧ ps.map (·.x) = l ∧ FreshI w.heap.size w' v' ps ∧ Below w.heap.size w w'
/-- One round of Copy. -/
theorem copy_step {w wr w2 : World} {g c1 k : Nat} {ps qs : List ItW} {p : ItW} (hk : k < ps.length) (hp : ps[k] = p) (hrow : EItem.Row w.heap.size wr (.slice (some ⟨g, 0, none⟩) ps.length c1) (qs ++ ps.drop k)) (hql : qs.length = k)
  (hok : ∀ q ∈ qs, ItOk w.heap.size wr q ∧ Apart (.slice (some ⟨g, 0, none⟩) ps.length c1) q.v) (hap : qs.Pairwise (fun a b => Apart a.v b.v)) (hB : Below w.heap.size w wr) (hb2 : Below wr.heap.size wr w2) (mo : Option Addr) (mc : Nat)
  (hrow2 : EMark.Row wr.heap.size w2 (.slice mo p.x.marks.length mc) p.x.marks) (hns : p.x.name.size ≤ maxLen) (hmi : ∀ m ∈ p.x.marks, MI m) :
  EItem.Row w.heap.size (w2.setCell ⟨g, k * 2 + 1, none⟩ (.slice mo p.x.marks.length mc)) (.slice (some ⟨g, 0, none⟩) ps.length c1) ((qs ++ [⟨p.x, mo, mc⟩]) ++ ps.drop (k + 1)) ∧
  (∀ q ∈ qs ++ [⟨p.x, mo, mc⟩], ItOk w.heap.size (w2.setCell ⟨g, k * 2 + 1, none⟩ (.slice mo p.x.marks.length mc)) q ∧ Apart (.slice (some ⟨g, 0, none⟩) ps.length c1) q.v) ∧
  (qs ++ [⟨p.x, mo, mc⟩] : List ItW).Pairwise (fun a b => Apart a.v b.v) ∧ Below w.heap.size w (w2.setCell ⟨g, k * 2 + 1, none⟩ (.slice mo p.x.marks.length mc)) := by
 obtain ⟨hin, hgb, hn⟩ := hrow.at
 have hdl : k < (qs ++ ps.drop k).length := by simp; omega
 have hdk : (qs ++ ps.drop k)[k] = ps[k] := by
  rw [List.getElem_append_right (by omega)]; simp [hql]
 have hset := setMarks_in (hin.of_heap (hb2.block g hin.gl)) k hdl ⟨p.x, mo, mc⟩ (by rw [hdk, hp])
 have hl1 : (qs ++ ps.drop k).set k ⟨p.x, mo, mc⟩ = (qs ++ [⟨p.x, mo, mc⟩]) ++ ps.drop (k + 1) := by
  rw [List.set_append_right _ _ (by omega), hql, Nat.sub_self, List.append_assoc, List.drop_eq_getElem_cons hk]
  rfl
 rw [hl1] at hset
 have hl2 : ((qs ++ [(⟨p.x, mo, mc⟩ : ItW)]) ++ ps.drop (k + 1)).length = ps.length := by simp; omega
 have hown := hset.own hgb
 rw [hl2] at hown
 have hgw : g < wr.heap.size := hin.gl
 have hnew : ∀ j, (Value.slice mo p.x.marks.length mc).ownBlock = some j → wr.heap.size ≤ j := fun j hj => (hrow2.lt j hj).1
 refine ⟨hown, fun q hq => ?_, List.pairwise_append.2 ⟨hap, List.pairwise_singleton _ _, fun a ha b hb => ?_⟩, (btr hB hb2).setCell hgb _⟩
 ·rcases List.mem_append.1 hq with hq | hq
  ·obtain ⟨h1, h2⟩ := hok q hq
   refine ⟨(h1.below hb2).stay (fun j hj => setCell_other (fun e => ?_)), h2⟩
   subst e
   exact h2 j rfl hj
  ·simp at hq
   subst hq
   have hag : Apart (.slice (some ⟨g, 0, none⟩) ps.length c1) (Value.slice mo p.x.marks.length mc) := fun j hj hj2 => by
    have := hnew j hj2
    have e : g = j := by simpa [Value.ownBlock] using hj
    omega
   refine ⟨⟨hns, (hrow2.mono hB.size).stay (fun j hj => setCell_other (fun e => ?_)), hmi⟩, hag⟩
   have := hnew j hj
   omega
 ·simp at hb
  subst hb
  intro j hj hj2
  have h1 := ((hok a ha).1.2.1.lt j hj).2
  have h2 := hnew j hj2
  omega

theorem itemsCopy_any (l : List ItemD) (v : Value) (w : World) (h : Arr ItemR 2 w v l) (hl : Lt l) : Calls Tryz.prog 127 #[v] w (CopyPost l w) := by
 obtain ⟨ps, hps, harr⟩ := h.itw
 have hlen : ps.length = l.length := by rw [← hps, List.length_map]
 have hlm : ∀ p ∈ ps, p.x.marks.length ≤ 1000 := fun p hp => hl.2 _ (by rw [← hps]; exact List.mem_map_of_mem hp)
 have HC := Hd (cloneItems_any ps v w harr (by have := hl.1; omega))
 have HPS := Hd hps
 have HLM := Hd hlm
 have hnm : ps.length ≤ 1000 := by have := hl.1; omega
 obtain ⟨o, c, rfl, h2, h3, hel⟩ := harr
 have HEL := Hd hel
 clear hps hlm h hl hel h2 h3 hlen
 go_enter Tryz.func127, Tryz.ntmps127
 go_wp2_with fail
 refine HC.out.mono ?_
 rintro e w1 ⟨v1, rfl, hrow1, hb1⟩
 have HROW1 := Hd hrow1
 have HB1 := Hd hb1
 have HG : Hid (ps ≠ [] → ∃ g cap, v1 = .slice (some ⟨g, 0, none⟩) ps.length cap ∧ w.heap.size ≤ g) := Hd (fun hn => by
  obtain ⟨g, cap, e, _, h⟩ := hrow1.some hn
  exact ⟨g, cap, e, h⟩)
 obtain ⟨a1, c1, rfl⟩ := hrow1.slice
 clear hrow1 hb1 HC
 go_wp2_with fail
 go_loopw [10] (fun i wr => ∃ (k : Nat) (qs : List ItW), k ≤ ps.length ∧ i = .int .i64 k ∧ qs.map (·.x) = (ps.map (·.x)).take k ∧ EItem.Row w.heap.size wr (.slice a1 ps.length c1) (qs ++ ps.drop k) ∧ (∀ q ∈ qs, ItOk w.heap.size wr q ∧ Apart (.slice a1 ps.length c1) q.v) ∧ qs.Pairwise (fun a b => Apart a.v b.v) ∧ Below w.heap.size w wr) (fun i _ => ps.length - (intOf i).toNat)
 case atStart => exact ⟨0, [], Nat.zero_le _, rfl, by simp, by rw [List.drop_zero, List.nil_append]; exact HROW1.out, fun q hq => by simp at hq, List.Pairwise.nil, HB1.out⟩
 case round =>
  obtain ⟨k, qs, hk, rfl, hqs, hrow, hok, hap, hB⟩ := hrel
  have HOK := Hd hok
  have HAP := Hd hap
  have HQS := Hd hqs
  have HROW := Hd hrow
  have HB := Hd hB
  have hql : qs.length = k := by
   have := congrArg List.length hqs
   simp at this
   omega
  clear hok hap hqs hrow hB
  by_cases hlt : k < ps.length
  ·obtain ⟨b, off, cs, rfl, hbl, -, ⟨rfl, hns, hmk⟩, hcs⟩ := HEL.out k hlt
   obtain ⟨g, cap, hv, hgb⟩ := HG.out (by intro e; rw [e] at hlt; simp at hlt)
   have hlk := HLM.out _ (List.getElem_mem hlt)
   cases hv
   obtain ⟨hin, -, -⟩ := HROW.out.at
   have hgw := hin.gl
   have e0 := hcs 0 (by decide)
   have e1 := hcs 1 (by decide)
   have c0 : wr.cell? ⟨b, off + k * 2, none⟩ = some (.string ps[k].x.name) := by rw [HB.out.cell (p := ⟨_, _, _⟩) hbl]; exact e0
   have c1 : wr.cell? ⟨b, off + k * 2 + 1, none⟩ = some (.slice ps[k].mo ps[k].x.marks.length ps[k].mc) := by rw [HB.out.cell (p := ⟨_, _, _⟩) hbl]; exact e1
   have hdl : k < (qs ++ ps.drop k).length := by simp; omega
   have hdk : (qs ++ ps.drop k)[k] = ps[k] := by
    rw [List.getElem_append_right (by omega)]; simp [hql]
   have hc1 : wr.cell? ⟨g, k * 2 + 1, none⟩ = some (.slice ps[k].mo ps[k].x.marks.length ps[k].mc) := by
    have := hin.cell k hdl 1 (by decide)
    rw [hdk] at this
    exact this
   have hf1 : wr.frozen? ⟨g, k * 2 + 1, none⟩ = false := hin.froz _
   have HSTEP := Hd (fun (w2 : World) (hb2 : Below wr.heap.size wr w2) (mo : Option Addr) (mc : Nat) (hr : EMark.Row wr.heap.size w2 (.slice mo ps[k].x.marks.length mc) ps[k].x.marks) => copy_step (p := ps[k]) hlt rfl HROW.out hql HOK.out HAP.out HB.out hb2 mo mc hr hns (hmk.marksMI))
   have HQ2 : Hid (∀ mo mc, ((qs ++ [⟨ps[k].x, mo, mc⟩] : List ItW).map (·.x)) = (ps.map (·.x)).take (k + 1)) := Hd (fun mo mc => by
    rw [List.map_append, HQS.out, List.take_succ_eq_append_getElem (by simpa using hlt)]; simp)
   have hal : Below wr.heap.size wr (wr.alloc (.cells #[.string ps[k].x.name, .slice ps[k].mo ps[k].x.marks.length ps[k].mc] 55)) := bal
   have HAL := Hd hal
   have HCM := Hd (cloneMarks_any ps[k].x.marks (.slice ps[k].mo ps[k].x.marks.length ps[k].mc) _ ((hmk.marks HB.out).marks hal) (by omega))
   generalize ps[k] = p at *
   have a1 : (k : Int) < ps.length := by omega
   have a0 : (0 : Int) ≤ k := by omega
   have hkw := wr1 k (by omega)
   clear hal hin e0 e1 hcs hmk hdk hdl HROW HOK HAP HQS
   go_wp2_with fail
   refine HCM.out.mono ?_
   rintro e w2 ⟨v2, rfl, hrow2, hb2⟩
   have hb3 : Below wr.heap.size wr w2 := btr HAL.out hb2
   obtain ⟨mo2, mc2, rfl⟩ := hrow2.slice
   have f1 : w2.cell? ⟨g, k * 2 + 1, none⟩ = some (.slice p.mo p.x.marks.length p.mc) := by rw [hb3.cell (p := ⟨_, _, _⟩) hgw]; exact hc1
   have f2 : w2.frozen? ⟨g, k * 2 + 1, none⟩ = false := by rw [← hf1]; unfold World.frozen?; rw [hb3.block g hgw]
   have HS := Hd (HSTEP.out w2 hb3 mo2 mc2 (hrow2.mono HAL.out.size))
   have HQ3 := Hd (HQ2.out mo2 mc2)
   clear hb2 hb3 hrow2 HSTEP HQ2
   go_wp2_with fail
   go_roundw
   case rel => exact ⟨k + 1, _, by omega, by go_num, HQ3.out, HS.out⟩
   case measure => simp [intOf]; omega
  ·have hke : k = ps.length := by omega
   have hrow := HROW.out
   rw [hke, List.drop_length, List.append_nil] at hrow
   have hqs := HQS.out
   rw [hke, List.take_of_length_le (by simp)] at hqs
   have HF := Hd (show FreshI w.heap.size wr (.slice a1 ps.length c1) qs from ⟨hrow, HOK.out, HAP.out⟩)
   have HF2 := Hd (hqs.trans HPS.out)
   clear hrow hqs
   go_wp2_with fail
   go_ret
   exact ⟨_, qs, rfl, HF2.out, HF.out, HB.out⟩
end Go.Proofs.YtjoljfnlkddfbaaGreatDoor
