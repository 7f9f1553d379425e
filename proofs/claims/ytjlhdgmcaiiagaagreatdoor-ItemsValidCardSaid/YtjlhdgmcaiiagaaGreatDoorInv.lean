/- Whether an item is allowed: items.invalid. -/
import Derived.Test.YtjlhdgmcaiiagaaGreatDoorName
import Derived.Shelf.Abstract
namespace Go.Proofs.YtjlhdgmcaiiagaaGreatDoor
open Go.RowKit Go.Maps

theorem any_take_snoc {α : Type} (p : α → Bool) (l : List α) (k : Nat) (h : k < l.length) : (l.take (k + 1)).any p = ((l.take k).any p || p l[k]) := by
  rw [List.take_succ_eq_append_getElem h, List.any_append]
  simp
set_option maxRecDepth 100000 in
set_option maxHeartbeats 4000000 in
theorem indexMark_any (p : MarkD → Bool) (g : Nat) (eg : ∀ args w, (callFunc g args).run Tryz.prog w = .ok (.enter g args) w) (hp : ∀ m W, Calls Tryz.prog g #[markV m] W fun e w' => e = .returned (.bool (p m)) ∧ Below W.heap.size W w')
    (l : List MarkD) (v : Value) (w : World) (h : Arr MarkR 4 w v l) : Calls Tryz.prog 100 #[v, .func (.func g) #[] #[]] w fun e w' => ∃ i : Int, e = .returned (.int .i64 i) ∧ decide (0 ≤ i) = l.any p ∧ Below w.heap.size w w' := by
  have hn := h.len
  obtain ⟨o, c, rfl, hel⟩ := h.markAt
  have HEL := Lib.hid hel
  have HP := Lib.hid hp
  clear hel h hp
  go_enter Tryz.func100, Tryz.ntmps100
  go_wp2_with fail
  go_loopw [8] (fun i wr => ∃ k : Nat, k ≤ l.length ∧ i = .int .i64 k ∧ (l.take k).any p = false ∧ Below w.heap.size w wr) (fun i _ => l.length - (intOf i).toNat)
  case atStart => exact ⟨0, Nat.zero_le _, rfl, rfl, Below.refl _ _⟩
  case round =>
    obtain ⟨k, hk, rfl, hall, hB⟩ := hrel
    have HALL := Lib.hid hall
    have HB := Lib.hid hB
    clear hall hB
    by_cases hlt : k < l.length
    · obtain ⟨b, off, rfl, hbl, e0, e1, e2, e3, -⟩ := HEL.out k hlt
      have c0 : wr.cell? ⟨b, off + k * 4, none⟩ = some (.int .i64 l[k].dot.rep) := by rw [HB.out.cell (p := ⟨_, _, _⟩) hbl]; exact e0
      have c1 : wr.cell? ⟨b, off + k * 4 + 1, none⟩ = some (.int .i64 l[k].dot.ctr) := by rw [HB.out.cell (p := ⟨_, _, _⟩) hbl]; exact e1
      have c2 : wr.cell? ⟨b, off + k * 4 + 2, none⟩ = some (.int .i64 l[k].qty) := by rw [HB.out.cell (p := ⟨_, _, _⟩) hbl]; exact e2
      have c3 : wr.cell? ⟨b, off + k * 4 + 3, none⟩ = some (.int .u64 l[k].time) := by rw [HB.out.cell (p := ⟨_, _, _⟩) hbl]; exact e3
      have HS := Lib.hid (any_take_snoc p l k hlt)
      have HY : Hid (p l[k] = true → l.any p = true) := Lib.hid (fun h => List.any_eq_true.2 ⟨_, List.getElem_mem hlt, h⟩)
      generalize l[k] = m at *
      have HPM := Lib.hid (HP.out m wr)
      unfold markV at HPM
      have a0 : (0 : Int) ≤ k := by omega
      have a1 : (k : Int) < l.length := by omega
      have hkw : IntKind.i64.wrap ((k : Int) + 1) = (k : Int) + 1 := by rw [IntKind.wrap_i64]; omega
      clear e0 e1 e2 e3
      obtain ⟨pm, hpm⟩ : ∃ pm, pm = p m := ⟨_, rfl⟩
      rw [← hpm] at HPM HS HY
      clear hpm
      cases pm with
      | true =>
        have HF := Lib.hid (HY.out rfl)
        go_wp2_with (go_at_fn g; refine HPM.out.mono ?_; rintro e w2 ⟨rfl, hb2⟩)
        go_ret
        exact ⟨k, rfl, by rw [HF.out]; exact decide_eq_true (by omega), HB.out.trans (hb2.mono HB.out.size)⟩
      | false =>
        have HF : Hid ((l.take (k + 1)).any p = false) := Lib.hid (by rw [HS.out, HALL.out]; rfl)
        go_wp2_with (go_at_fn g; refine HPM.out.mono ?_; rintro e w2 ⟨rfl, hb2⟩)
        have hbf := HB.out.trans (hb2.mono HB.out.size)
        go_roundw
        case rel => exact ⟨k + 1, by omega, by go_num, HF.out, hbf⟩
        case measure => simp [intOf]; omega
    · have hke : k = l.length := by omega
      have HF : Hid (l.any p = false) := Lib.hid (by have := HALL.out; rw [hke, List.take_length] at this; exact this)
      clear HALL
      go_wp2_with fail
      go_ret
      exact ⟨-1, rfl, by rw [HF.out]; rfl, HB.out⟩
set_option maxRecDepth 100000 in
theorem containsMark_any (p : MarkD → Bool) (g : Nat) (eg : ∀ args w, (callFunc g args).run Tryz.prog w = .ok (.enter g args) w) (hp : ∀ m W, Calls Tryz.prog g #[markV m] W fun e w' => e = .returned (.bool (p m)) ∧ Below W.heap.size W w')
    (l : List MarkD) (v : Value) (w : World) (h : Arr MarkR 4 w v l) : Calls Tryz.prog 77 #[v, .func (.func g) #[] #[]] w fun e w' => e = .returned (.bool (l.any p)) ∧ Below w.heap.size w w' := by
  have HI := Lib.hid (indexMark_any p g eg hp l v w h)
  clear h hp eg
  go_enter Tryz.func77, Tryz.ntmps77
  go_wp2_with fail
  refine HI.out.mono ?_
  rintro e w1 ⟨i, rfl, hi, hb1⟩
  have HB := Lib.hid hb1
  have HF := Lib.hid hi
  clear hi hb1
  go_wp2_with fail
  go_ret
  exact ⟨by rw [← HF.out]; rfl, HB.out⟩
set_option maxRecDepth 100000 in
theorem itemsInvalid1_any (m : MarkD) (w : World) : Calls Tryz.prog 78 #[markV m] w fun e w' => e = .returned (.bool (!validMarkD m)) ∧ Below w.heap.size w w' := by
  have HV := Lib.hid (fun wz => qtyValidMark_any m wz)
  obtain ⟨r, hr⟩ : ∃ r, r = validMarkD m := ⟨_, rfl⟩
  rw [← hr] at HV ⊢
  clear hr
  unfold markV at *
  go_enter Tryz.func78, Tryz.ntmps78
  go_wp2_with fail
  refine (HV.out _).mono ?_
  rintro e w1 ⟨rfl, hb1⟩
  go_wp2_with fail
  go_ret
  exact ⟨rfl, ((Below.refl _ _).alloc (Nat.le_refl _) _).trans (hb1.mono (by simp))⟩

def itemV (s : ByteArray) (mv : Value) : Value := .agg #[.string s, mv]
set_option maxRecDepth 100000 in
set_option maxHeartbeats 2000000 in
theorem itemsInvalid_any (x : ItemD) (mv : Value) (w : World) (h : Arr MarkR 4 w mv x.marks) (hs : x.name.size ≤ maxLen) (hl : x.marks.length ≤ 100000) (hG : GlobIs w) : Calls Tryz.prog 52 #[.agg #[.string x.name, mv]] w fun e w' => e = .returned (.bool (!oneI x)) ∧ Below w.heap.size w w' := by
  have eg : ∀ args w, (callFunc 78 args).run Tryz.prog w = .ok (.enter 78 args) w := enters_of Tryz.func78 (by kernel_rfl) rfl
  obtain ⟨o, c, hv, -⟩ := id h
  obtain ⟨W1, hW1⟩ : ∃ W1, W1 = w.alloc (.cells #[.string x.name, mv] 31) := ⟨_, rfl⟩
  have hb1 : Below w.heap.size w W1 := by rw [hW1]; exact (Below.refl _ _).alloc (Nat.le_refl _) _
  have hg1 : W1.heap[w.heap.size]? = some (.cells #[.string x.name, mv] 31) := by rw [hW1]; exact alloc_new _ _
  have hgl := lt_of_heap hg1
  have HF1 : Hid (∀ wz, Below W1.heap.size W1 wz → wz.cell? ⟨w.heap.size, 1, none⟩ = some mv) := Lib.hid (fun wz hz => by rw [hz.cell (p := ⟨w.heap.size, 1, none⟩) hgl, cell0 hg1 1]; rfl)
  have HN := Lib.hid (namesItem_any x.name W1 hs (hG.below hb1))
  have HLI : Hid (∀ wz, Below W1.heap.size W1 wz → Arr MarkR 4 wz mv x.marks) := Lib.hid (fun wz hz => (h.marks hb1).marks hz)
  have HB1 := Lib.hid hb1
  have HW := Lib.hid hW1
  have HE : Hid (oneI x = (nameB x.name && decide (0 < x.marks.length) && isSetB (dotsM x.marks) && x.marks.all validMarkD)) := Lib.hid rfl
  have HALL : Hid (x.marks.any (fun m => !validMarkD m) = !(x.marks.all validMarkD)) := Lib.hid (by rw [List.not_all_eq_any_not])
  clear hW1 hb1 hg1 hgl h hG
  subst hv
  obtain ⟨rn, hrn⟩ : ∃ rn, rn = nameB x.name := ⟨_, rfl⟩
  rw [← hrn] at HN HE
  clear hrn
  cases rn with
  | false =>
    have HF : Hid (oneI x = false) := Lib.hid (by rw [HE.out]; rfl)
    go_enter Tryz.func52, Tryz.ntmps52
    go_wp2_with fail
    rw [← HW.out]
    refine HN.out.mono ?_
    rintro e w2 ⟨rfl, hb2⟩
    go_wp2_with fail
    go_ret
    exact ⟨by rw [HF.out]; rfl, HB1.out.trans (hb2.mono HB1.out.size)⟩
  | true =>
    by_cases h0 : x.marks.length = 0
    · have HF : Hid (oneI x = false) := Lib.hid (by rw [HE.out, decide_eq_false (by omega : ¬ 0 < x.marks.length)]; rfl)
      have H0 := Lib.hid h0
      clear h0
      go_enter Tryz.func52, Tryz.ntmps52
      go_wp2_with fail
      rw [← HW.out]
      refine HN.out.mono ?_
      rintro e w2 ⟨rfl, hb2⟩
      have f1 := HF1.out w2 hb2
      have HB2 := Lib.hid (HB1.out.trans (hb2.mono HB1.out.size))
      clear hb2 HW HF1 HLI
      have h0i : ((x.marks.length : Int) == 0) = true := by simp; exact List.eq_nil_of_length_eq_zero H0.out
      go_wp2_with fail
      go_ret
      exact ⟨by rw [HF.out]; rfl, HB2.out⟩
    · have hpos : 0 < x.marks.length := by omega
      go_enter Tryz.func52, Tryz.ntmps52
      go_wp2_with fail
      rw [← HW.out]
      refine HN.out.mono ?_
      rintro e w2 ⟨rfl, hb2⟩
      have f1 := HF1.out w2 hb2
      have HL := Lib.hid (qtyIsList_any x.marks _ w2 (HLI.out w2 hb2) hl)
      have HB2 := Lib.hid (HB1.out.trans (hb2.mono HB1.out.size))
      have HW2 := Lib.hid hb2
      clear hb2 HW
      have h0i : ((x.marks.length : Int) == 0) = false := by simp; intro e; rw [e] at hpos; simp at hpos
      go_wp2_with fail
      refine HL.out.mono ?_
      rintro e w3 ⟨rfl, hb3⟩
      have hb13 : Below W1.heap.size W1 w3 := HW2.out.trans (hb3.mono HW2.out.size)
      have f1 := HF1.out w3 hb13
      have HC := Lib.hid (containsMark_any (fun m => !validMarkD m) 78 eg itemsInvalid1_any x.marks _ w3 (HLI.out w3 hb13))
      have HB3 := Lib.hid (HB2.out.trans (hb3.mono HB2.out.size))
      clear hb3 hb13 HF1 HLI HL
      rw [HALL.out] at HC
      obtain ⟨rs, hrs⟩ : ∃ rs, rs = isSetB (dotsM x.marks) := ⟨_, rfl⟩
      obtain ⟨ra, hra⟩ : ∃ ra, ra = x.marks.all validMarkD := ⟨_, rfl⟩
      rw [← hrs, ← hra] at HE
      rw [← hrs]
      rw [← hra] at HC
      clear hrs hra
      cases rs with
      | false =>
        have HF : Hid (oneI x = false) := Lib.hid (by rw [HE.out]; simp)
        go_wp2_with fail
        go_ret
        exact ⟨by rw [HF.out]; rfl, HB3.out⟩
      | true =>
        have HF : Hid (oneI x = ra) := Lib.hid (by rw [HE.out, decide_eq_true hpos]; rfl)
        go_wp2_with fail
        refine HC.out.mono ?_
        rintro e w4 ⟨rfl, hb4⟩
        go_wp2_with fail
        go_ret
        exact ⟨by rw [HF.out]; rfl, HB3.out.trans (hb4.mono HB3.out.size)⟩
end Go.Proofs.YtjlhdgmcaiiagaaGreatDoor
