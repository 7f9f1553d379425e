/- CartCanons inside. -/
import Derived.Test.YtadbmineobldbaaGreatDoorCanonP
import Derived.Test.YtadbmineobldbaaGreatDoorR9u
import Derived.Test.YtadbmineobldbaaGreatDoorD10
import Derived.Test.YtadbmineobldbaaGreatDoorR3f
import Derived.Test.YtadbmineobldbaaGreatDoorR10c
import Derived.Test.YtadbmineobldbaaGreatDoorD9m
import Derived.Test.YtadbmineobldbaaGreatDoorD8
namespace Go.Proofs.YtadbmineobldbaaGreatDoor
open Go.RowKit
theorem goodI_snoc (P : List ItemD) (x : ItemD) : goodI (P ++ [x]) = (goodI P && (oneI x && !P.any (fun y => decide (y.name = x.name)) && !P.any (fun y => meetB y x))) := by
 rw [Bool.eq_iff_iff, Bool.and_eq_true, Bool.and_eq_true, Bool.and_eq_true, goodI_iff, goodI_iff, Bool.not_eq_true', Bool.not_eq_true', List.any_eq_false, List.any_eq_false, List.map_append, List.nodup_append, List.pairwise_append]
 constructor
 ·rintro ⟨h1, ⟨h2, -, h3⟩, h4, -, h5⟩
  refine ⟨⟨fun y hy => h1 y (List.mem_append_left _ hy), h2, h4⟩, ⟨h1 x (by simp), fun y hy => ?_⟩, fun y hy => ?_⟩
  ·have := h3 y.name (List.mem_map.2 ⟨y, hy, rfl⟩) x.name (by simp)
   simpa using this
  ·have := h5 y hy x (by simp)
   simpa using this
 ·rintro ⟨⟨h1, h2, h4⟩, ⟨h6, h3⟩, h5⟩
  refine ⟨fun y hy => ?_, ⟨h2, by simp, fun a ha b hb => ?_⟩, h4, List.pairwise_singleton _ _, fun y hy z hz => ?_⟩
  ·rcases List.mem_append.1 hy with hy | hy
   ·exact h1 y hy
   ·rw [List.mem_singleton.1 hy]; exact h6
  ·obtain ⟨y, hy, rfl⟩ := List.mem_map.1 ha
   have hb2 : b = x.name := by simpa using hb
   have := h3 y hy;rw [hb2]
   simpa using this
  ·rw [List.mem_singleton.1 hz]
   have := h5 y hy
   simpa using this
theorem goodI_take {P : List ItemD} (k : Nat) (h : goodI (P.take k) = false) : goodI P = false := by
 rw [← Bool.not_eq_true] at h ⊢;intro hP
 apply h
 rw [goodI_iff] at hP ⊢;exact ⟨fun x hx => hP.1 x (List.mem_of_mem_take hx), hP.2.1.sublist ((List.take_sublist k P).map _), hP.2.2.sublist (List.take_sublist k P)⟩
theorem any_perm {α : Type} {l m : List α} (h : l.Perm m) (p : α → Bool) : l.any p = m.any p := by
 rw [Bool.eq_iff_iff, List.any_eq_true, List.any_eq_true];exact ⟨fun ⟨x, hx, hp⟩ => ⟨x, h.mem_iff.1 hx, hp⟩, fun ⟨x, hx, hp⟩ => ⟨x, h.mem_iff.2 hx, hp⟩⟩
def cnR (l : List ItemD) (k : Nat) : List ItemD := ((l.map canonItem).take k).foldl insI []
theorem cnR_any (l : List ItemD) (k : Nat) (p : ItemD → Bool) : (cnR l k).any p = ((l.map canonItem).take k).any p := any_perm (foldl_insI_perm _ []) p
theorem cnR_succ {l : List ItemD} {k : Nat} (h : k < l.length) : cnR l (k + 1) = insI (cnR l k) (canonItem l[k]) := by
 unfold cnR;rw [List.take_add_one, List.foldl_append, List.getElem?_map, List.getElem?_eq_getElem h]
 rfl
theorem cnR_all (l : List ItemD) : cnR l l.length = canonI l := by
 unfold cnR canonI;rw [List.take_of_length_le (by simp)]
theorem cnR_len {l : List ItemD} {k : Nat} (h : k ≤ l.length) : (cnR l k).length = k := by
 have := (foldl_insI_perm ((l.map canonItem).take k) []).length_eq;rw [List.nil_append, List.length_take, List.length_map] at this
 show ((l.map canonItem).take k |>.foldl insI []).length = k
 omega
theorem good_step {l : List ItemD} {k : Nat} (h : k < l.length) : goodI ((l.map canonItem).take (k + 1)) = (goodI ((l.map canonItem).take k) && (oneI (canonItem l[k]) && !(cnR l k).any (fun y => decide (y.name = l[k].name)) && !(cnR l k).any (fun y => meetB y (canonItem l[k])))) := by
 rw [cnR_any, cnR_any, List.take_add_one, List.getElem?_map, List.getElem?_eq_getElem h];exact goodI_snoc _ _
end Go.Proofs.YtadbmineobldbaaGreatDoor
set_option linter.unusedSimpArgs false
set_option linter.unusedVariables false
set_option maxRecDepth 100000
set_option maxHeartbeats 8000000
namespace Go.Proofs.YtadbmineobldbaaGreatDoor
open Go.RowKit Go.Maps Go.Sort Go.Shelf

theorem r10sorted_any (l : List MarkD) (v : Value) (w : World) (h : Arr MarkR 4 w v l) (hl : l.length ≤ 100000) : Calls Tryz.prog 38 #[v] w fun e w' => ∃ v', e = .returned v' ∧ EMark.Row w.heap.size w' v' (sortedM l) ∧ Below w.heap.size w w' := by
 have hn := h.len;have HLE := Hd hl;have HMI := Hd h.marksMI;obtain ⟨o, c, rfl, hel⟩ := h.markAt;have HEL := Hd hel;clear hel h hl
 go_enter Tryz.func38, Tryz.ntmps38
 go_wp2_with fail
 go_loopw [3, 4] (fun ov iv wr => ∃ k : Nat, k ≤ l.length ∧ iv = .int .i64 k ∧ EMark.Row w.heap.size wr ov ((l.take k).foldl insM []) ∧ Below w.heap.size w wr) (fun _ iv _ => l.length - (intOf iv).toNat)
 case atStart => exact ⟨0, Nat.zero_le _, rfl, Enc.Row.nil _ _, Below.refl _ _⟩
 case round =>
  obtain ⟨k, hk, rfl, hrow, hB⟩ := hrel
  by_cases hlt : k < l.length
  ·obtain ⟨b, off, rfl, hbl, e0, e1, e2, e3, -⟩ := HEL.out k hlt
   have hpm := foldl_insM_perm (l.take k) [];have hol : ((l.take k).foldl insM []).length = k := by rw [hpm.length_eq, List.nil_append, List.length_take]; omega
   have hnx : (l.take (k + 1)).foldl insM [] = insM ((l.take k).foldl insM []) l[k] := by rw [List.take_succ_eq_append_getElem hlt, List.foldl_append]; rfl
   have hmi : ∀ m ∈ (l.take k).foldl insM [], MI m := fun m hm => HMI.out m (List.mem_of_mem_take (by rw [← List.nil_append (l.take k)]; exact hpm.mem_iff.1 hm))
   have HNX := Hd hnx;have HOL := Hd hol;clear hpm hnx hol;obtain ⟨wo, rfl⟩ : ∃ wo : World, wo = wr := ⟨_, rfl⟩;have HB := Hd hB;have HCM : Hid (∀ wz, Below wo.heap.size wo wz → wz.cell? ⟨b, off + k * 4, none⟩ = some (.int .i64 l[k].dot.rep) ∧ wz.cell? ⟨b, off + k * 4 + 1, none⟩ = some (.int .i64 l[k].dot.ctr) ∧ wz.cell? ⟨b, off + k * 4 + 2, none⟩ = some (.int .i64 l[k].qty) ∧ wz.cell? ⟨b, off + k * 4 + 3, none⟩ = some (.int .u64 l[k].time)) := Hd (fun wz hz => by
    have h5 := hB.trans (hz.mono hB.size);exact ⟨by rw [h5.cell (p := ⟨_, _, _⟩) hbl]; exact e0, by rw [h5.cell (p := ⟨_, _, _⟩) hbl]; exact e1, by rw [h5.cell (p := ⟨_, _, _⟩) hbl]; exact e2, by rw [h5.cell (p := ⟨_, _, _⟩) hbl]; exact e3⟩)
   generalize (l.take k).foldl insM [] = out at *
   generalize l[k] = m at *
   have hA := Arr.of_marks hrow hmi;obtain ⟨oa, ca, rfl, hoe⟩ := hA.markAt;have HOE := Hd hoe;have hlc : out.length ≤ ca := by
    obtain ⟨o', c', he, h2, -⟩ := hA
    cases he
    exact h2
   have HLC := Hd hlc;have HSRC := Hd hrow.toSrc;have HEND : Hid (∀ (j : Nat) (v' : Value) (w' wq : World), j ≤ out.length → Below wo.heap.size wo wq → EMark.Row wq.heap.size w' v' (out.take j ++ [m] ++ out.drop j) → Below wq.heap.size wq w' → (out.take j).all (fun q => !dlt m.dot q.dot) = true → (∀ h : j < out.length, (!dlt m.dot out[j].dot) = false) → ∃ k' : Nat, k' ≤ l.length ∧ Value.int .i64 ((k : Int) + 1) = .int .i64 k' ∧ EMark.Row w.heap.size w' v' ((l.take k').foldl insM []) ∧ Below w.heap.size w w') := Hd (fun j v' w' wq hj hq h1 h2 h3 h4 => by
    obtain ⟨t1, t2⟩ := takeWhile_at (fun q : MarkD => !dlt m.dot q.dot) out j hj h3 h4
    have e : out.take j ++ [m] ++ out.drop j = insM out m := by
     unfold insM;rw [t1, t2]
     simp
    have hbw := hB.trans (hq.mono hB.size);rw [e, ← HNX.out] at h1;exact ⟨k + 1, by omega, rfl, h1.mono hbw.size, hbw.trans (h2.mono hbw.size)⟩)
   have a0k : (0 : Int) ≤ k := by omega
   have a1k : (k : Int) < l.length := by omega
   have hkw := wr1 k (by omega)
   clear hrow hmi hA hoe hlc e0 e1 e2 e3 hB HNX
   go_wp2_with fail
   go_loopw [5] (fun jv wi => ∃ j : Nat, j ≤ out.length ∧ jv = .int .i64 j ∧ (out.take j).all (fun q => !dlt m.dot q.dot) = true ∧ Below wo.heap.size wo wi) (fun jv _ => out.length - (intOf jv).toNat)
   case atStart => exact ⟨0, Nat.zero_le _, rfl, rfl, Below.refl _ _⟩
   case round =>
    obtain ⟨j, hj, rfl, hall, hBi⟩ := hrel;have HALL := Hd hall;have HBI := Hd hBi;clear hall hBi;have a0 : (0 : Int) ≤ j := by omega
    have a3 : (j : Int) ≤ out.length := by omega
    have a4 : (j : Int) ≤ ca := by have := HLC.out; omega
    by_cases hjt : j < out.length
    ·obtain ⟨g, goff, rfl, hgl, g0, g1, -⟩ := HOE.out j hjt
     have HS6 : Hid (∀ wz, Below wr.heap.size wr wz → (wz.cell? ⟨b, off + k * 4, none⟩ = some (.int .i64 m.dot.rep) ∧ wz.cell? ⟨b, off + k * 4 + 1, none⟩ = some (.int .i64 m.dot.ctr) ∧ wz.cell? ⟨b, off + k * 4 + 2, none⟩ = some (.int .i64 m.qty) ∧ wz.cell? ⟨b, off + k * 4 + 3, none⟩ = some (.int .u64 m.time)) ∧ wz.cell? ⟨g, goff + j * 4, none⟩ = some (.int .i64 out[j].dot.rep) ∧ wz.cell? ⟨g, goff + j * 4 + 1, none⟩ = some (.int .i64 out[j].dot.ctr)) := Hd (fun wz hz => by
      have h3 := btr HBI.out hz;exact ⟨HCM.out wz h3, by rw [h3.cell (p := ⟨_, _, _⟩) hgl]; exact g0, by rw [h3.cell (p := ⟨_, _, _⟩) hgl]; exact g1⟩)
     have HLS : Hid (Calls Tryz.prog 82 #[.agg #[.int .i64 m.dot.rep, .int .i64 m.dot.ctr], .agg #[.int .i64 out[j].dot.rep, .int .i64 out[j].dot.ctr]] wr.drew fun e w' => e = .returned (.bool (dlt m.dot out[j].dot)) ∧ Below wr.heap.size wr w') := Hd ((r1Less_any m.dot out[j].dot wr.drew).mono (fun _ _ ⟨a1, a2⟩ => ⟨a1, bdr.trans a2⟩))
     have HTK := Hd (all_take_snoc (fun q : MarkD => !dlt m.dot q.dot) out j hjt)
     obtain ⟨r, hr⟩ : ∃ r, r = dlt m.dot out[j].dot := ⟨_, rfl⟩;have HR := Hd hr;rw [← hr] at HLS HTK;clear hr g0 g1;obtain ⟨x, hx⟩ : ∃ x, x = out[j] := ⟨_, rfl⟩;rw [← hx] at HS6 HLS;clear hx;have a1 : (j : Int) < out.length := by omega
     have hjw := wr1 j (by have := HOL.out; have := HLE.out; omega)
     cases r with
     | false =>
      have HF : Hid ((out.take (j + 1)).all (fun q => !dlt m.dot q.dot) = true) := Hd (by rw [HTK.out, HALL.out]; rfl)
      clear HTK HR HEND
      go_upto_region 6 with fail
      refine NQ.to ?_;refine wp_region_held_drew (S := (fun wz => (wz.cell? ⟨b, off + k * 4, none⟩ = some (.int .i64 m.dot.rep) ∧ wz.cell? ⟨b, off + k * 4 + 1, none⟩ = some (.int .i64 m.dot.ctr) ∧ wz.cell? ⟨b, off + k * 4 + 2, none⟩ = some (.int .i64 m.qty) ∧ wz.cell? ⟨b, off + k * 4 + 3, none⟩ = some (.int .u64 m.time)) ∧ wz.cell? ⟨g, goff + j * 4, none⟩ = some (.int .i64 x.dot.rep) ∧ wz.cell? ⟨g, goff + j * 4 + 1, none⟩ = some (.int .i64 x.dot.ctr))) (by kernel_rfl) (HS6.out _ bdr) (fun hS => ?_)
      try simp only [Act.put, s1, s2, s3, List.getElem_toArray, List.getElem_cons_succ, List.getElem_cons_zero]
      refine tkN (i := 0) (v := ?v1) rfl (by decide +kernel) (Or.inl ⟨by kernel_rfl, fun w hSw => ok_of fun z hz => ?h1⟩) hS ?_; (case h1 => (go_simp; exact hz))
      try simp only [Act.put, s1, s2, s3, List.getElem_toArray, List.getElem_cons_succ, List.getElem_cons_zero]
      refine tkN (i := 1) (v := ?v2) rfl (by decide +kernel) (Or.inl ⟨by kernel_rfl, fun w hSw => ok_of fun z hz => ?h2⟩) hS ?_; (case h2 => (go_simp; exact hz))
      try simp only [Act.put, s1, s2, s3, List.getElem_toArray, List.getElem_cons_succ, List.getElem_cons_zero]
      refine tkN (i := 2) (v := ?v3) rfl (by decide +kernel) (Or.inl ⟨by kernel_rfl, fun w hSw => ok_of fun z hz => ?h3⟩) hS ?_; (case h3 => (go_simp; exact hz))
      try simp only [Act.put, s1, s2, s3, List.getElem_toArray, List.getElem_cons_succ, List.getElem_cons_zero]
      refine tkN (i := 3) (v := ?v4) rfl (by decide +kernel) (Or.inl ⟨by kernel_rfl, fun w hSw => ok_of fun z hz => ?h4⟩) hS ?_; (case h4 => (go_simp; exact hz))
      try simp only [Act.put, s1, s2, s3, List.getElem_toArray, List.getElem_cons_succ, List.getElem_cons_zero]
      refine tkN (i := 4) (v := ?v5) rfl (by decide +kernel) (Or.inl ⟨by kernel_rfl, fun w hSw => ok_of fun z hz => ?h5⟩) hS ?_; (case h5 => (go_simp; exact hz))
      try simp only [Act.put, s1, s2, s3, List.getElem_toArray, List.getElem_cons_succ, List.getElem_cons_zero]
      refine tkN (i := 5) (v := ?v6) rfl (by decide +kernel) (Or.inl ⟨by kernel_rfl, fun w hSw => ok_of fun z hz => ?h6⟩) hS ?_; (case h6 => (go_simp; exact hz))
      try simp only [Act.put, s1, s2, s3, List.getElem_toArray, List.getElem_cons_succ, List.getElem_cons_zero]
      refine tkN (i := 6) (v := ?v7) rfl (by decide +kernel) (Or.inl ⟨by kernel_rfl, fun w hSw => ok_of fun z hz => ?h7⟩) hS ?_; (case h7 => (go_simp; exact hz))
      try simp only [Act.put, s1, s2, s3, List.getElem_toArray, List.getElem_cons_succ, List.getElem_cons_zero]
      refine tkN (i := 7) (v := ?v8) rfl (by decide +kernel) (Or.inl ⟨by kernel_rfl, fun w hSw => ok_of fun z hz => ?h8⟩) hS ?_; (case h8 => (go_simp; exact hz))
      try simp only [Act.put, s1, s2, s3, List.getElem_toArray, List.getElem_cons_succ, List.getElem_cons_zero]
      refine tkN (i := 8) (v := ?v9) rfl (by decide +kernel) (Or.inl ⟨by kernel_rfl, fun w hSw => ok_of fun z hz => ?h9⟩) hS ?_; (case h9 => (go_simp; exact hz))
      try simp only [Act.put, s1, s2, s3, List.getElem_toArray, List.getElem_cons_succ, List.getElem_cons_zero]
      refine tkN (i := 9) (v := ?v10) rfl (by decide +kernel) (Or.inl ⟨by kernel_rfl, fun w hSw => ok_of fun z hz => ?h10⟩) hS ?_; (case h10 => (obtain ⟨⟨f1, f2, f3, f4⟩, f5, f6⟩ := hSw; go_simp; exact hz))
      try simp only [Act.put, s1, s2, s3, List.getElem_toArray, List.getElem_cons_succ, List.getElem_cons_zero]
      refine tkN (i := 10) (v := ?v11) rfl (by decide +kernel) (Or.inl ⟨by kernel_rfl, fun w hSw => ok_of fun z hz => ?h11⟩) hS ?_; (case h11 => (go_simp; exact hz))
      try simp only [Act.put, s1, s2, s3, List.getElem_toArray, List.getElem_cons_succ, List.getElem_cons_zero]
      refine tkN (i := 11) (v := ?v12) rfl (by decide +kernel) (Or.inl ⟨by kernel_rfl, fun w hSw => ok_of fun z hz => ?h12⟩) hS ?_; (case h12 => (go_simp; exact hz))
      try simp only [Act.put, s1, s2, s3, List.getElem_toArray, List.getElem_cons_succ, List.getElem_cons_zero]
      refine tkN (i := 12) (v := ?v13) rfl (by decide +kernel) (Or.inl ⟨by kernel_rfl, fun w hSw => ok_of fun z hz => ?h13⟩) hS ?_; (case h13 => (go_simp; exact hz))
      try simp only [Act.put, s1, s2, s3, List.getElem_toArray, List.getElem_cons_succ, List.getElem_cons_zero]
      refine tkN (i := 13) (v := ?v14) rfl (by decide +kernel) (Or.inl ⟨by kernel_rfl, fun w hSw => ok_of fun z hz => ?h14⟩) hS ?_; (case h14 => (go_simp; exact hz))
      try simp only [Act.put, s1, s2, s3, List.getElem_toArray, List.getElem_cons_succ, List.getElem_cons_zero]
      refine tkN (i := 14) (v := ?v15) rfl (by decide +kernel) (Or.inl ⟨by kernel_rfl, fun w hSw => ok_of fun z hz => ?h15⟩) hS ?_; (case h15 => (obtain ⟨⟨f1, f2, f3, f4⟩, f5, f6⟩ := hSw; go_simp; exact hz))
      try simp only [Act.put, s1, s2, s3, List.getElem_toArray, List.getElem_cons_succ, List.getElem_cons_zero]
      refine wpAnyH_ready (rs := [15]) (by decide +kernel) (by simp) ?_
      refine (AllReadyH.cons rfl (fun K hK => ?_) AllReadyH.nil)
      go_simp
      go_at_call 82
      refine HLS.out.mono ?_;rintro e w2 ⟨rfl, hb2⟩;go_simp;refine Shut.out hK _ _ (HS6.out w2 hb2) (fun hS2 => ?_)
      clear hK K hS;have hS := hS2;clear hS2
      try simp only [Act.put, s1, s2, s3, List.getElem_toArray, List.getElem_cons_succ, List.getElem_cons_zero]
      refine tkN (i := 16) (v := ?v16) rfl (by decide +kernel) (Or.inl ⟨by kernel_rfl, fun w hSw => ok_of fun z hz => ?h16⟩) hS ?_; (case h16 => (go_simp; exact hz))
      try simp only [Act.put, s1, s2, s3, List.getElem_toArray, List.getElem_cons_succ, List.getElem_cons_zero]
      refine tkN (i := 17) (v := ?v17) rfl (by decide +kernel) (Or.inl ⟨by kernel_rfl, fun w hSw => ok_of fun z hz => ?h17⟩) hS ?_; (case h17 => (go_simp; exact hz))
      try simp only [Act.put, s1, s2, s3, List.getElem_toArray, List.getElem_cons_succ, List.getElem_cons_zero]
      refine wpAnyH_done (by kernel_rfl) ?_ _
      try simp only [Act.put, s1, s2, s3, List.getElem_toArray, List.getElem_cons_succ, List.getElem_cons_zero]
      simp only [NQ];have hbf := btr HBI.out hb2;clear hb2 hS
      go_wp2_with fail
      go_roundw
      case rel => exact ⟨j + 1, by omega, by go_num, HF.out, hbf⟩
      case measure => simp [intOf]; omega
     | true =>
      have HSTOP : Hid (∀ h : j < out.length, (!dlt m.dot out[j].dot) = false) := Hd (fun _ => by rw [← HR.out]; rfl)
      clear HTK HR
      go_upto_region 6 with fail
      refine NQ.to ?_;refine wp_region_held_drew (S := (fun wz => (wz.cell? ⟨b, off + k * 4, none⟩ = some (.int .i64 m.dot.rep) ∧ wz.cell? ⟨b, off + k * 4 + 1, none⟩ = some (.int .i64 m.dot.ctr) ∧ wz.cell? ⟨b, off + k * 4 + 2, none⟩ = some (.int .i64 m.qty) ∧ wz.cell? ⟨b, off + k * 4 + 3, none⟩ = some (.int .u64 m.time)) ∧ wz.cell? ⟨g, goff + j * 4, none⟩ = some (.int .i64 x.dot.rep) ∧ wz.cell? ⟨g, goff + j * 4 + 1, none⟩ = some (.int .i64 x.dot.ctr))) (by kernel_rfl) (HS6.out _ bdr) (fun hS => ?_)
      try simp only [Act.put, s1, s2, s3, List.getElem_toArray, List.getElem_cons_succ, List.getElem_cons_zero]
      refine tkN (i := 0) (v := ?v18) rfl (by decide +kernel) (Or.inl ⟨by kernel_rfl, fun w hSw => ok_of fun z hz => ?h18⟩) hS ?_; (case h18 => (go_simp; exact hz))
      try simp only [Act.put, s1, s2, s3, List.getElem_toArray, List.getElem_cons_succ, List.getElem_cons_zero]
      refine tkN (i := 1) (v := ?v19) rfl (by decide +kernel) (Or.inl ⟨by kernel_rfl, fun w hSw => ok_of fun z hz => ?h19⟩) hS ?_; (case h19 => (go_simp; exact hz))
      try simp only [Act.put, s1, s2, s3, List.getElem_toArray, List.getElem_cons_succ, List.getElem_cons_zero]
      refine tkN (i := 2) (v := ?v20) rfl (by decide +kernel) (Or.inl ⟨by kernel_rfl, fun w hSw => ok_of fun z hz => ?h20⟩) hS ?_; (case h20 => (go_simp; exact hz))
      try simp only [Act.put, s1, s2, s3, List.getElem_toArray, List.getElem_cons_succ, List.getElem_cons_zero]
      refine tkN (i := 3) (v := ?v21) rfl (by decide +kernel) (Or.inl ⟨by kernel_rfl, fun w hSw => ok_of fun z hz => ?h21⟩) hS ?_; (case h21 => (go_simp; exact hz))
      try simp only [Act.put, s1, s2, s3, List.getElem_toArray, List.getElem_cons_succ, List.getElem_cons_zero]
      refine tkN (i := 4) (v := ?v22) rfl (by decide +kernel) (Or.inl ⟨by kernel_rfl, fun w hSw => ok_of fun z hz => ?h22⟩) hS ?_; (case h22 => (go_simp; exact hz))
      try simp only [Act.put, s1, s2, s3, List.getElem_toArray, List.getElem_cons_succ, List.getElem_cons_zero]
      refine tkN (i := 5) (v := ?v23) rfl (by decide +kernel) (Or.inl ⟨by kernel_rfl, fun w hSw => ok_of fun z hz => ?h23⟩) hS ?_; (case h23 => (go_simp; exact hz))
      try simp only [Act.put, s1, s2, s3, List.getElem_toArray, List.getElem_cons_succ, List.getElem_cons_zero]
      refine tkN (i := 6) (v := ?v24) rfl (by decide +kernel) (Or.inl ⟨by kernel_rfl, fun w hSw => ok_of fun z hz => ?h24⟩) hS ?_; (case h24 => (go_simp; exact hz))
      try simp only [Act.put, s1, s2, s3, List.getElem_toArray, List.getElem_cons_succ, List.getElem_cons_zero]
      refine tkN (i := 7) (v := ?v25) rfl (by decide +kernel) (Or.inl ⟨by kernel_rfl, fun w hSw => ok_of fun z hz => ?h25⟩) hS ?_; (case h25 => (go_simp; exact hz))
      try simp only [Act.put, s1, s2, s3, List.getElem_toArray, List.getElem_cons_succ, List.getElem_cons_zero]
      refine tkN (i := 8) (v := ?v26) rfl (by decide +kernel) (Or.inl ⟨by kernel_rfl, fun w hSw => ok_of fun z hz => ?h26⟩) hS ?_; (case h26 => (go_simp; exact hz))
      try simp only [Act.put, s1, s2, s3, List.getElem_toArray, List.getElem_cons_succ, List.getElem_cons_zero]
      refine tkN (i := 9) (v := ?v27) rfl (by decide +kernel) (Or.inl ⟨by kernel_rfl, fun w hSw => ok_of fun z hz => ?h27⟩) hS ?_; (case h27 => (obtain ⟨⟨f1, f2, f3, f4⟩, f5, f6⟩ := hSw; go_simp; exact hz))
      try simp only [Act.put, s1, s2, s3, List.getElem_toArray, List.getElem_cons_succ, List.getElem_cons_zero]
      refine tkN (i := 10) (v := ?v28) rfl (by decide +kernel) (Or.inl ⟨by kernel_rfl, fun w hSw => ok_of fun z hz => ?h28⟩) hS ?_; (case h28 => (go_simp; exact hz))
      try simp only [Act.put, s1, s2, s3, List.getElem_toArray, List.getElem_cons_succ, List.getElem_cons_zero]
      refine tkN (i := 11) (v := ?v29) rfl (by decide +kernel) (Or.inl ⟨by kernel_rfl, fun w hSw => ok_of fun z hz => ?h29⟩) hS ?_; (case h29 => (go_simp; exact hz))
      try simp only [Act.put, s1, s2, s3, List.getElem_toArray, List.getElem_cons_succ, List.getElem_cons_zero]
      refine tkN (i := 12) (v := ?v30) rfl (by decide +kernel) (Or.inl ⟨by kernel_rfl, fun w hSw => ok_of fun z hz => ?h30⟩) hS ?_; (case h30 => (go_simp; exact hz))
      try simp only [Act.put, s1, s2, s3, List.getElem_toArray, List.getElem_cons_succ, List.getElem_cons_zero]
      refine tkN (i := 13) (v := ?v31) rfl (by decide +kernel) (Or.inl ⟨by kernel_rfl, fun w hSw => ok_of fun z hz => ?h31⟩) hS ?_; (case h31 => (go_simp; exact hz))
      try simp only [Act.put, s1, s2, s3, List.getElem_toArray, List.getElem_cons_succ, List.getElem_cons_zero]
      refine tkN (i := 14) (v := ?v32) rfl (by decide +kernel) (Or.inl ⟨by kernel_rfl, fun w hSw => ok_of fun z hz => ?h32⟩) hS ?_; (case h32 => (obtain ⟨⟨f1, f2, f3, f4⟩, f5, f6⟩ := hSw; go_simp; exact hz))
      try simp only [Act.put, s1, s2, s3, List.getElem_toArray, List.getElem_cons_succ, List.getElem_cons_zero]
      refine wpAnyH_ready (rs := [15]) (by decide +kernel) (by simp) ?_
      refine (AllReadyH.cons rfl (fun K hK => ?_) AllReadyH.nil)
      go_simp
      go_at_call 82
      refine HLS.out.mono ?_;rintro e w2 ⟨rfl, hb2⟩;go_simp;refine Shut.out hK _ _ (HS6.out w2 hb2) (fun hS2 => ?_)
      clear hK K hS;have hS := hS2;clear hS2
      try simp only [Act.put, s1, s2, s3, List.getElem_toArray, List.getElem_cons_succ, List.getElem_cons_zero]
      refine tkN (i := 16) (v := ?v33) rfl (by decide +kernel) (Or.inl ⟨by kernel_rfl, fun w hSw => ok_of fun z hz => ?h33⟩) hS ?_; (case h33 => (go_simp; exact hz))
      try simp only [Act.put, s1, s2, s3, List.getElem_toArray, List.getElem_cons_succ, List.getElem_cons_zero]
      refine tkN (i := 17) (v := ?v34) rfl (by decide +kernel) (Or.inl ⟨by kernel_rfl, fun w hSw => ok_of fun z hz => ?h34⟩) hS ?_; (case h34 => (go_simp; exact hz))
      try simp only [Act.put, s1, s2, s3, List.getElem_toArray, List.getElem_cons_succ, List.getElem_cons_zero]
      refine wpAnyH_done (by kernel_rfl) ?_ _
      try simp only [Act.put, s1, s2, s3, List.getElem_toArray, List.getElem_cons_succ, List.getElem_cons_zero]
      simp only [NQ];have hbq0 := btr HBI.out hb2;clear hS HS6 HLS;generalize hoe : (some (⟨g, goff, none⟩ : Addr)) = oa at HSRC ⊢;clear hoe;obtain ⟨wq, hwq⟩ : ∃ wq, wq = w2 := ⟨_, rfl⟩;have HBQ := Hd (show Below wo.heap.size wo w2 from hbq0)
      rw [← hwq] at HBQ ⊢;clear hwq;have HSM : Hid (∀ wz, Below wq.heap.size wq wz → wz.cell? ⟨b, off + k * 4, none⟩ = some (.int .i64 m.dot.rep) ∧ wz.cell? ⟨b, off + k * 4 + 1, none⟩ = some (.int .i64 m.dot.ctr) ∧ wz.cell? ⟨b, off + k * 4 + 2, none⟩ = some (.int .i64 m.qty) ∧ wz.cell? ⟨b, off + k * 4 + 3, none⟩ = some (.int .u64 m.time)) := Hd (fun wz hz => HCM.out wz (btr HBQ.out hz))
      have HJL : Hid (j ≤ out.length) := Hd hj;have HSA : Hid (∀ wz, Below wq.heap.size wq wz → EMark.Src wz (.slice oa j ca) (out.take j)) := Hd (fun wz hz => by
       have := (HSRC.out.below (btr HBQ.out hz)).sliced HLC.out 0 j (Nat.zero_le _) hj 4 rfl;rw [List.drop_zero, sliced_zero] at this;exact this)
      have HSB : Hid (∀ wz, Below wq.heap.size wq wz → EMark.Src wz (.slice (if ca = j then oa else Option.map (fun x => x.add (j * 4)) oa) (out.length - j) (ca - j)) (out.drop j)) := Hd (fun wz hz => by
       have := (HSRC.out.below (btr HBQ.out hz)).sliced HLC.out j out.length hj (Nat.le_refl _) 4 rfl;rw [List.take_length] at this;exact this)
      have HFIN := Hd (fun (v' : Value) (w' : World) (h1 : EMark.Row wq.heap.size w' v' (out.take j ++ [m] ++ out.drop j)) (h2 : Below wq.heap.size wq w') => HEND.out j v' w' wq hj HBQ.out h1 h2 HALL.out HSTOP.out)
      clear HEND HALL HSTOP HSRC
      go_upto_region 8 with fail
      refine NQ.to ?_;refine wp_region_held_drew (S := (fun wz => wz.cell? ⟨b, off + k * 4, none⟩ = some (.int .i64 m.dot.rep) ∧ wz.cell? ⟨b, off + k * 4 + 1, none⟩ = some (.int .i64 m.dot.ctr) ∧ wz.cell? ⟨b, off + k * 4 + 2, none⟩ = some (.int .i64 m.qty) ∧ wz.cell? ⟨b, off + k * 4 + 3, none⟩ = some (.int .u64 m.time))) (by kernel_rfl) (HSM.out _ bdr) (fun hS => ?_)
      refine tkR (n := 10) [0, 1, 2, 4, 5, 6, 7, 10, 11, 12] rfl (by decide +kernel) hS ?_
      iterate 10 ((try simp only [Act.put, s1, s2, s3, s4, s5, s6]); refine ⟨_, ?_, rfl, Or.inl ⟨by kernel_rfl, fun w hSw => ok_of fun z hz => ?_⟩, ?_⟩; rotate_left; · (obtain ⟨f1, f2, f3, f4⟩ := hSw; go_simp; exact hz))
      refine RunOK.done ?_
      try simp only [Act.put, s1, s2, s3, s4, s5, s6]
      refine wpAnyH_ready (rs := [3, 8]) (by decide +kernel) (by simp) ?_
      refine (AllReadyH.cons rfl (fun K hK => ?_) (AllReadyH.cons rfl (fun K hK => ?_) AllReadyH.nil))
      ·refine step_append_row rfl _ _ 54 rfl EMark wq.heap.size (.agg #[.int .i64 0, .int .i64 0, .int .i64 0, .int .u64 0]) 32 Tryz.underlying54 infoMark (by decide) (by decide) _ ([]) rfl (Enc.Row.nil _ _) _ (out.take j) rfl (HSA.out _ bdr) (by have := HLE.out; have := HOL.out; have := HJL.out; simp; omega) (by simp) ?_
       intro v3 w3 hrow3 hgr3;have hb3 := (below_drew1 (Below.refl wq.heap.size wq)).grown hgr3 (by simp) (fun j hj => by cases hj)
       refine Shut.out hK _ _ (HSM.out w3 hb3) (fun hS2 => ?_); clear hK K hS; have hS := hS2; clear hS2
       try simp only [Act.put, s1, s2, s3, s4, s5, s6]
       refine rd1 8 (by decide +kernel) rfl (fun K hK => ?_)
       go_simp;have hal8 : Below w3.heap.size w3 (w3.alloc (.cells #[.int .i64 m.dot.rep, .int .i64 m.dot.ctr, .int .i64 m.qty, .int .u64 m.time] 65)) := bal;have hb8 := btr hb3 hal8;have hrow8 := hrow3.below hal8;have hsrc8 : EMark.Src (w3.alloc (.cells #[.int .i64 m.dot.rep, .int .i64 m.dot.ctr, .int .i64 m.qty, .int .u64 m.time] 65)) (.slice (some ⟨w3.heap.size, 0, none⟩) 1 1) [m] := Enc.Src.one_lit (E := EMark) w3 65 _;refine Shut.out hK _ _ (HSM.out _ hb8) (fun hS2 => ?_); clear hK K hS; have hS := hS2; clear hS2
       try simp only [Act.put, s1, s2, s3, s4, s5, s6]
       refine rd1 9 (by decide +kernel) rfl (fun K hK => ?_)
       refine step_append_row rfl _ _ 54 rfl EMark wq.heap.size (.agg #[.int .i64 0, .int .i64 0, .int .i64 0, .int .u64 0]) 32 Tryz.underlying54 infoMark (by decide) (by decide) _ ([] ++ out.take j) rfl (hrow8) _ ([m]) rfl (hsrc8) (by have := HLE.out; have := HOL.out; have := HJL.out; simp; omega) (hb8.size) ?_
       intro v9 w9 hrow9 hgr9;have hb9 := hb8.grown hgr9 hb8.size (fun j hj => (hrow8.lt _ hj).1)
       refine Shut.out hK _ _ (HSM.out w9 hb9) (fun hS2 => ?_); clear hK K hS; have hS := hS2; clear hS2
       try simp only [Act.put, s1, s2, s3, s4, s5, s6]
       refine rd1 13 (by decide +kernel) rfl (fun K hK => ?_)
       refine step_append_row rfl _ _ 54 rfl EMark wq.heap.size (.agg #[.int .i64 0, .int .i64 0, .int .i64 0, .int .u64 0]) 32 Tryz.underlying54 infoMark (by decide) (by decide) _ ([] ++ out.take j ++ [m]) rfl (hrow9) _ (out.drop j) rfl (HSB.out _ hb9) (by have := HLE.out; have := HOL.out; have := HJL.out; simp; omega) (hb9.size) ?_
       intro v13 w13 hrow13 hgr13;have hb13 := hb9.grown hgr13 hb9.size (fun j hj => (hrow9.lt _ hj).1)
       refine Shut.out hK _ _ (HSM.out w13 hb13) (fun hS2 => ?_); clear hK K hS; have hS := hS2; clear hS2
       refine tkR (n := 1) [14] rfl (by decide +kernel) hS ?_
       iterate 1 ((try simp only [Act.put, s1, s2, s3, s4, s5, s6]); refine ⟨_, ?_, rfl, Or.inl ⟨by kernel_rfl, fun w hSw => ok_of fun z hz => ?_⟩, ?_⟩; rotate_left; · (go_simp; exact hz))
       refine RunOK.done ?_
       try simp only [Act.put, s1, s2, s3, s4, s5, s6]
       refine wpAnyH_done (by kernel_rfl) ?_ _
       try simp only [Act.put, s1, s2, s3, s4, s5, s6]
       simp only [NQ];rw [List.nil_append] at hrow13;have hf := HFIN.out _ _ hrow13 hb13;clear hS
       go_wp2_with fail
       go_roundw
       case rel => exact hf
       case measure => simp [intOf]; omega
      ·go_simp
       have hb8 : Below wq.heap.size wq (wq.drew.alloc (.cells #[.int .i64 m.dot.rep, .int .i64 m.dot.ctr, .int .i64 m.qty, .int .u64 m.time] 65)) := bdr.alloc (by simp) _
       have hsrc8 : EMark.Src (wq.drew.alloc (.cells #[.int .i64 m.dot.rep, .int .i64 m.dot.ctr, .int .i64 m.qty, .int .u64 m.time] 65)) (.slice (some ⟨wq.drew.heap.size, 0, none⟩) 1 1) [m] := Enc.Src.one_lit (E := EMark) wq.drew 65 _;refine Shut.out hK _ _ (HSM.out _ hb8) (fun hS2 => ?_); clear hK K hS; have hS := hS2; clear hS2
       try simp only [Act.put, s1, s2, s3, s4, s5, s6]
       refine rd1 3 (by decide +kernel) rfl (fun K hK => ?_)
       refine step_append_row rfl _ _ 54 rfl EMark wq.heap.size (.agg #[.int .i64 0, .int .i64 0, .int .i64 0, .int .u64 0]) 32 Tryz.underlying54 infoMark (by decide) (by decide) _ ([]) rfl (Enc.Row.nil _ _) _ (out.take j) rfl (HSA.out _ hb8) (by have := HLE.out; have := HOL.out; have := HJL.out; simp; omega) (hb8.size) ?_
       intro v3 w3 hrow3 hgr3;have hl3 := brf.grown hgr3 (Nat.le_refl _) (fun j hj => by cases hj)
       have hb3 := btr hb8 hl3;have hsrc3 := hsrc8.below hl3;refine Shut.out hK _ _ (HSM.out w3 hb3) (fun hS2 => ?_); clear hK K hS; have hS := hS2; clear hS2
       try simp only [Act.put, s1, s2, s3, s4, s5, s6]
       refine rd1 9 (by decide +kernel) rfl (fun K hK => ?_)
       refine step_append_row rfl _ _ 54 rfl EMark wq.heap.size (.agg #[.int .i64 0, .int .i64 0, .int .i64 0, .int .u64 0]) 32 Tryz.underlying54 infoMark (by decide) (by decide) _ ([] ++ out.take j) rfl (hrow3) _ ([m]) rfl (hsrc3) (by have := HLE.out; have := HOL.out; have := HJL.out; simp; omega) (hb3.size) ?_
       intro v9 w9 hrow9 hgr9;have hb9 := hb3.grown hgr9 hb3.size (fun j hj => (hrow3.lt _ hj).1)
       refine Shut.out hK _ _ (HSM.out w9 hb9) (fun hS2 => ?_); clear hK K hS; have hS := hS2; clear hS2
       try simp only [Act.put, s1, s2, s3, s4, s5, s6]
       refine rd1 13 (by decide +kernel) rfl (fun K hK => ?_)
       refine step_append_row rfl _ _ 54 rfl EMark wq.heap.size (.agg #[.int .i64 0, .int .i64 0, .int .i64 0, .int .u64 0]) 32 Tryz.underlying54 infoMark (by decide) (by decide) _ ([] ++ out.take j ++ [m]) rfl (hrow9) _ (out.drop j) rfl (HSB.out _ hb9) (by have := HLE.out; have := HOL.out; have := HJL.out; simp; omega) (hb9.size) ?_
       intro v13 w13 hrow13 hgr13;have hb13 := hb9.grown hgr13 hb9.size (fun j hj => (hrow9.lt _ hj).1)
       refine Shut.out hK _ _ (HSM.out w13 hb13) (fun hS2 => ?_); clear hK K hS; have hS := hS2; clear hS2
       refine tkR (n := 1) [14] rfl (by decide +kernel) hS ?_
       iterate 1 ((try simp only [Act.put, s1, s2, s3, s4, s5, s6]); refine ⟨_, ?_, rfl, Or.inl ⟨by kernel_rfl, fun w hSw => ok_of fun z hz => ?_⟩, ?_⟩; rotate_left; · (go_simp; exact hz))
       refine RunOK.done ?_
       try simp only [Act.put, s1, s2, s3, s4, s5, s6]
       refine wpAnyH_done (by kernel_rfl) ?_ _
       try simp only [Act.put, s1, s2, s3, s4, s5, s6]
       simp only [NQ];rw [List.nil_append] at hrow13;have hf := HFIN.out _ _ hrow13 hb13;clear hS
       go_wp2_with fail
       go_roundw
       case rel => exact hf
       case measure => simp [intOf]; omega
    ·have hje : j = out.length := by omega
     have HSTOP : Hid (∀ h : j < out.length, (!dlt m.dot out[j].dot) = false) := Hd (fun h => absurd h hjt)
     have a1 : decide ((j : Int) < out.length) = false := decide_eq_false (by omega)
     clear hje
     go_upto_region 6 with fail
     refine NQ.to ?_;refine wp_region_held_drew (S := (fun _ => True)) (by kernel_rfl) (trivial) (fun hS => ?_)
     try simp only [Act.put, s1, s2, s3, List.getElem_toArray, List.getElem_cons_succ, List.getElem_cons_zero]
     refine tkN (i := 0) (v := ?v35) rfl (by decide +kernel) (Or.inl ⟨by kernel_rfl, fun w hSw => ok_of fun z hz => ?h35⟩) hS ?_; (case h35 => (go_simp; exact hz))
     try simp only [Act.put, s1, s2, s3, List.getElem_toArray, List.getElem_cons_succ, List.getElem_cons_zero]
     refine tkN (i := 1) (v := ?v36) rfl (by decide +kernel) (Or.inl ⟨by kernel_rfl, fun w hSw => ok_of fun z hz => ?h36⟩) hS ?_; (case h36 => (go_simp; exact hz))
     try simp only [Act.put, s1, s2, s3, List.getElem_toArray, List.getElem_cons_succ, List.getElem_cons_zero]
     refine tkN (i := 2) (v := ?v37) rfl (by decide +kernel) (Or.inl ⟨by kernel_rfl, fun w hSw => ok_of fun z hz => ?h37⟩) hS ?_; (case h37 => (go_simp; exact hz))
     try simp only [Act.put, s1, s2, s3, List.getElem_toArray, List.getElem_cons_succ, List.getElem_cons_zero]
     refine tkN (i := 3) (v := ?v38) rfl (by decide +kernel) (Or.inl ⟨by kernel_rfl, fun w hSw => ok_of fun z hz => ?h38⟩) hS ?_; (case h38 => (go_simp; exact hz))
     try simp only [Act.put, s1, s2, s3, List.getElem_toArray, List.getElem_cons_succ, List.getElem_cons_zero]
     refine tkN (i := 4) (v := ?v39) rfl (by decide +kernel) (Or.inl ⟨by kernel_rfl, fun w hSw => ok_of fun z hz => ?h39⟩) hS ?_; (case h39 => (go_simp; exact hz))
     try simp only [Act.put, s1, s2, s3, List.getElem_toArray, List.getElem_cons_succ, List.getElem_cons_zero]
     refine tkN (i := 5) (v := undef) rfl (by decide +kernel) (Or.inr ⟨by kernel_rfl, rfl⟩) hS ?_
     try simp only [Act.put, s1, s2, s3, List.getElem_toArray, List.getElem_cons_succ, List.getElem_cons_zero]
     refine tkN (i := 6) (v := undef) rfl (by decide +kernel) (Or.inr ⟨by kernel_rfl, rfl⟩) hS ?_
     try simp only [Act.put, s1, s2, s3, List.getElem_toArray, List.getElem_cons_succ, List.getElem_cons_zero]
     refine tkN (i := 7) (v := undef) rfl (by decide +kernel) (Or.inr ⟨by kernel_rfl, rfl⟩) hS ?_
     try simp only [Act.put, s1, s2, s3, List.getElem_toArray, List.getElem_cons_succ, List.getElem_cons_zero]
     refine tkN (i := 8) (v := undef) rfl (by decide +kernel) (Or.inr ⟨by kernel_rfl, rfl⟩) hS ?_
     try simp only [Act.put, s1, s2, s3, List.getElem_toArray, List.getElem_cons_succ, List.getElem_cons_zero]
     refine tkN (i := 9) (v := undef) rfl (by decide +kernel) (Or.inr ⟨by kernel_rfl, rfl⟩) hS ?_
     try simp only [Act.put, s1, s2, s3, List.getElem_toArray, List.getElem_cons_succ, List.getElem_cons_zero]
     refine tkN (i := 10) (v := undef) rfl (by decide +kernel) (Or.inr ⟨by kernel_rfl, rfl⟩) hS ?_
     try simp only [Act.put, s1, s2, s3, List.getElem_toArray, List.getElem_cons_succ, List.getElem_cons_zero]
     refine tkN (i := 11) (v := undef) rfl (by decide +kernel) (Or.inr ⟨by kernel_rfl, rfl⟩) hS ?_
     try simp only [Act.put, s1, s2, s3, List.getElem_toArray, List.getElem_cons_succ, List.getElem_cons_zero]
     refine tkN (i := 12) (v := undef) rfl (by decide +kernel) (Or.inr ⟨by kernel_rfl, rfl⟩) hS ?_
     try simp only [Act.put, s1, s2, s3, List.getElem_toArray, List.getElem_cons_succ, List.getElem_cons_zero]
     refine tkN (i := 13) (v := undef) rfl (by decide +kernel) (Or.inr ⟨by kernel_rfl, rfl⟩) hS ?_
     try simp only [Act.put, s1, s2, s3, List.getElem_toArray, List.getElem_cons_succ, List.getElem_cons_zero]
     refine tkN (i := 14) (v := undef) rfl (by decide +kernel) (Or.inr ⟨by kernel_rfl, rfl⟩) hS ?_
     try simp only [Act.put, s1, s2, s3, List.getElem_toArray, List.getElem_cons_succ, List.getElem_cons_zero]
     refine tkN (i := 15) (v := undef) rfl (by decide +kernel) (Or.inr ⟨by kernel_rfl, rfl⟩) hS ?_
     try simp only [Act.put, s1, s2, s3, List.getElem_toArray, List.getElem_cons_succ, List.getElem_cons_zero]
     refine tkN (i := 16) (v := undef) rfl (by decide +kernel) (Or.inr ⟨by kernel_rfl, rfl⟩) hS ?_
     try simp only [Act.put, s1, s2, s3, List.getElem_toArray, List.getElem_cons_succ, List.getElem_cons_zero]
     refine tkN (i := 17) (v := ?v40) rfl (by decide +kernel) (Or.inl ⟨by kernel_rfl, fun w hSw => ok_of fun z hz => ?h40⟩) hS ?_; (case h40 => (go_simp; exact hz))
     try simp only [Act.put, s1, s2, s3, List.getElem_toArray, List.getElem_cons_succ, List.getElem_cons_zero]
     refine wpAnyH_done (by kernel_rfl) ?_ _
     try simp only [Act.put, s1, s2, s3, List.getElem_toArray, List.getElem_cons_succ, List.getElem_cons_zero]
     simp only [NQ];have hbq0 := below_drew1 HBI.out;clear hS;obtain ⟨wq, hwq⟩ : ∃ wq, wq = wr.drew := ⟨_, rfl⟩;have HBQ := Hd (show Below wo.heap.size wo wr.drew from hbq0)
     rw [← hwq] at HBQ ⊢;clear hwq;have HSM : Hid (∀ wz, Below wq.heap.size wq wz → wz.cell? ⟨b, off + k * 4, none⟩ = some (.int .i64 m.dot.rep) ∧ wz.cell? ⟨b, off + k * 4 + 1, none⟩ = some (.int .i64 m.dot.ctr) ∧ wz.cell? ⟨b, off + k * 4 + 2, none⟩ = some (.int .i64 m.qty) ∧ wz.cell? ⟨b, off + k * 4 + 3, none⟩ = some (.int .u64 m.time)) := Hd (fun wz hz => HCM.out wz (btr HBQ.out hz))
     have HJL : Hid (j ≤ out.length) := Hd hj;have HSA : Hid (∀ wz, Below wq.heap.size wq wz → EMark.Src wz (.slice oa j ca) (out.take j)) := Hd (fun wz hz => by
      have := (HSRC.out.below (btr HBQ.out hz)).sliced HLC.out 0 j (Nat.zero_le _) hj 4 rfl;rw [List.drop_zero, sliced_zero] at this;exact this)
     have HSB : Hid (∀ wz, Below wq.heap.size wq wz → EMark.Src wz (.slice (if ca = j then oa else Option.map (fun x => x.add (j * 4)) oa) (out.length - j) (ca - j)) (out.drop j)) := Hd (fun wz hz => by
      have := (HSRC.out.below (btr HBQ.out hz)).sliced HLC.out j out.length hj (Nat.le_refl _) 4 rfl;rw [List.take_length] at this;exact this)
     have HFIN := Hd (fun (v' : Value) (w' : World) (h1 : EMark.Row wq.heap.size w' v' (out.take j ++ [m] ++ out.drop j)) (h2 : Below wq.heap.size wq w') => HEND.out j v' w' wq hj HBQ.out h1 h2 HALL.out HSTOP.out)
     clear HEND HALL HSTOP HSRC
     go_upto_region 8 with fail
     refine NQ.to ?_;refine wp_region_held_drew (S := (fun wz => wz.cell? ⟨b, off + k * 4, none⟩ = some (.int .i64 m.dot.rep) ∧ wz.cell? ⟨b, off + k * 4 + 1, none⟩ = some (.int .i64 m.dot.ctr) ∧ wz.cell? ⟨b, off + k * 4 + 2, none⟩ = some (.int .i64 m.qty) ∧ wz.cell? ⟨b, off + k * 4 + 3, none⟩ = some (.int .u64 m.time))) (by kernel_rfl) (HSM.out _ bdr) (fun hS => ?_)
     refine tkR (n := 10) [0, 1, 2, 4, 5, 6, 7, 10, 11, 12] rfl (by decide +kernel) hS ?_
     iterate 10 ((try simp only [Act.put, s1, s2, s3, s4, s5, s6]); refine ⟨_, ?_, rfl, Or.inl ⟨by kernel_rfl, fun w hSw => ok_of fun z hz => ?_⟩, ?_⟩; rotate_left; · (obtain ⟨f1, f2, f3, f4⟩ := hSw; go_simp; exact hz))
     refine RunOK.done ?_
     try simp only [Act.put, s1, s2, s3, s4, s5, s6]
     refine wpAnyH_ready (rs := [3, 8]) (by decide +kernel) (by simp) ?_
     refine (AllReadyH.cons rfl (fun K hK => ?_) (AllReadyH.cons rfl (fun K hK => ?_) AllReadyH.nil))
     ·refine step_append_row rfl _ _ 54 rfl EMark wq.heap.size (.agg #[.int .i64 0, .int .i64 0, .int .i64 0, .int .u64 0]) 32 Tryz.underlying54 infoMark (by decide) (by decide) _ ([]) rfl (Enc.Row.nil _ _) _ (out.take j) rfl (HSA.out _ bdr) (by have := HLE.out; have := HOL.out; have := HJL.out; simp; omega) (by simp) ?_
      intro v3 w3 hrow3 hgr3;have hb3 := (below_drew1 (Below.refl wq.heap.size wq)).grown hgr3 (by simp) (fun j hj => by cases hj)
      refine Shut.out hK _ _ (HSM.out w3 hb3) (fun hS2 => ?_); clear hK K hS; have hS := hS2; clear hS2
      try simp only [Act.put, s1, s2, s3, s4, s5, s6]
      refine rd1 8 (by decide +kernel) rfl (fun K hK => ?_)
      go_simp;have hal8 : Below w3.heap.size w3 (w3.alloc (.cells #[.int .i64 m.dot.rep, .int .i64 m.dot.ctr, .int .i64 m.qty, .int .u64 m.time] 65)) := bal;have hb8 := btr hb3 hal8;have hrow8 := hrow3.below hal8;have hsrc8 : EMark.Src (w3.alloc (.cells #[.int .i64 m.dot.rep, .int .i64 m.dot.ctr, .int .i64 m.qty, .int .u64 m.time] 65)) (.slice (some ⟨w3.heap.size, 0, none⟩) 1 1) [m] := Enc.Src.one_lit (E := EMark) w3 65 _;refine Shut.out hK _ _ (HSM.out _ hb8) (fun hS2 => ?_); clear hK K hS; have hS := hS2; clear hS2
      try simp only [Act.put, s1, s2, s3, s4, s5, s6]
      refine rd1 9 (by decide +kernel) rfl (fun K hK => ?_)
      refine step_append_row rfl _ _ 54 rfl EMark wq.heap.size (.agg #[.int .i64 0, .int .i64 0, .int .i64 0, .int .u64 0]) 32 Tryz.underlying54 infoMark (by decide) (by decide) _ ([] ++ out.take j) rfl (hrow8) _ ([m]) rfl (hsrc8) (by have := HLE.out; have := HOL.out; have := HJL.out; simp; omega) (hb8.size) ?_
      intro v9 w9 hrow9 hgr9;have hb9 := hb8.grown hgr9 hb8.size (fun j hj => (hrow8.lt _ hj).1)
      refine Shut.out hK _ _ (HSM.out w9 hb9) (fun hS2 => ?_); clear hK K hS; have hS := hS2; clear hS2
      try simp only [Act.put, s1, s2, s3, s4, s5, s6]
      refine rd1 13 (by decide +kernel) rfl (fun K hK => ?_)
      refine step_append_row rfl _ _ 54 rfl EMark wq.heap.size (.agg #[.int .i64 0, .int .i64 0, .int .i64 0, .int .u64 0]) 32 Tryz.underlying54 infoMark (by decide) (by decide) _ ([] ++ out.take j ++ [m]) rfl (hrow9) _ (out.drop j) rfl (HSB.out _ hb9) (by have := HLE.out; have := HOL.out; have := HJL.out; simp; omega) (hb9.size) ?_
      intro v13 w13 hrow13 hgr13;have hb13 := hb9.grown hgr13 hb9.size (fun j hj => (hrow9.lt _ hj).1)
      refine Shut.out hK _ _ (HSM.out w13 hb13) (fun hS2 => ?_); clear hK K hS; have hS := hS2; clear hS2
      refine tkR (n := 1) [14] rfl (by decide +kernel) hS ?_
      iterate 1 ((try simp only [Act.put, s1, s2, s3, s4, s5, s6]); refine ⟨_, ?_, rfl, Or.inl ⟨by kernel_rfl, fun w hSw => ok_of fun z hz => ?_⟩, ?_⟩; rotate_left; · (go_simp; exact hz))
      refine RunOK.done ?_
      try simp only [Act.put, s1, s2, s3, s4, s5, s6]
      refine wpAnyH_done (by kernel_rfl) ?_ _
      try simp only [Act.put, s1, s2, s3, s4, s5, s6]
      simp only [NQ];rw [List.nil_append] at hrow13;have hf := HFIN.out _ _ hrow13 hb13;clear hS
      go_wp2_with fail
      go_roundw
      case rel => exact hf
      case measure => simp [intOf]; omega
     ·go_simp
      have hb8 : Below wq.heap.size wq (wq.drew.alloc (.cells #[.int .i64 m.dot.rep, .int .i64 m.dot.ctr, .int .i64 m.qty, .int .u64 m.time] 65)) := bdr.alloc (by simp) _
      have hsrc8 : EMark.Src (wq.drew.alloc (.cells #[.int .i64 m.dot.rep, .int .i64 m.dot.ctr, .int .i64 m.qty, .int .u64 m.time] 65)) (.slice (some ⟨wq.drew.heap.size, 0, none⟩) 1 1) [m] := Enc.Src.one_lit (E := EMark) wq.drew 65 _;refine Shut.out hK _ _ (HSM.out _ hb8) (fun hS2 => ?_); clear hK K hS; have hS := hS2; clear hS2
      try simp only [Act.put, s1, s2, s3, s4, s5, s6]
      refine rd1 3 (by decide +kernel) rfl (fun K hK => ?_)
      refine step_append_row rfl _ _ 54 rfl EMark wq.heap.size (.agg #[.int .i64 0, .int .i64 0, .int .i64 0, .int .u64 0]) 32 Tryz.underlying54 infoMark (by decide) (by decide) _ ([]) rfl (Enc.Row.nil _ _) _ (out.take j) rfl (HSA.out _ hb8) (by have := HLE.out; have := HOL.out; have := HJL.out; simp; omega) (hb8.size) ?_
      intro v3 w3 hrow3 hgr3;have hl3 := brf.grown hgr3 (Nat.le_refl _) (fun j hj => by cases hj)
      have hb3 := btr hb8 hl3;have hsrc3 := hsrc8.below hl3;refine Shut.out hK _ _ (HSM.out w3 hb3) (fun hS2 => ?_); clear hK K hS; have hS := hS2; clear hS2
      try simp only [Act.put, s1, s2, s3, s4, s5, s6]
      refine rd1 9 (by decide +kernel) rfl (fun K hK => ?_)
      refine step_append_row rfl _ _ 54 rfl EMark wq.heap.size (.agg #[.int .i64 0, .int .i64 0, .int .i64 0, .int .u64 0]) 32 Tryz.underlying54 infoMark (by decide) (by decide) _ ([] ++ out.take j) rfl (hrow3) _ ([m]) rfl (hsrc3) (by have := HLE.out; have := HOL.out; have := HJL.out; simp; omega) (hb3.size) ?_
      intro v9 w9 hrow9 hgr9;have hb9 := hb3.grown hgr9 hb3.size (fun j hj => (hrow3.lt _ hj).1)
      refine Shut.out hK _ _ (HSM.out w9 hb9) (fun hS2 => ?_); clear hK K hS; have hS := hS2; clear hS2
      try simp only [Act.put, s1, s2, s3, s4, s5, s6]
      refine rd1 13 (by decide +kernel) rfl (fun K hK => ?_)
      refine step_append_row rfl _ _ 54 rfl EMark wq.heap.size (.agg #[.int .i64 0, .int .i64 0, .int .i64 0, .int .u64 0]) 32 Tryz.underlying54 infoMark (by decide) (by decide) _ ([] ++ out.take j ++ [m]) rfl (hrow9) _ (out.drop j) rfl (HSB.out _ hb9) (by have := HLE.out; have := HOL.out; have := HJL.out; simp; omega) (hb9.size) ?_
      intro v13 w13 hrow13 hgr13;have hb13 := hb9.grown hgr13 hb9.size (fun j hj => (hrow9.lt _ hj).1)
      refine Shut.out hK _ _ (HSM.out w13 hb13) (fun hS2 => ?_); clear hK K hS; have hS := hS2; clear hS2
      refine tkR (n := 1) [14] rfl (by decide +kernel) hS ?_
      iterate 1 ((try simp only [Act.put, s1, s2, s3, s4, s5, s6]); refine ⟨_, ?_, rfl, Or.inl ⟨by kernel_rfl, fun w hSw => ok_of fun z hz => ?_⟩, ?_⟩; rotate_left; · (go_simp; exact hz))
      refine RunOK.done ?_
      try simp only [Act.put, s1, s2, s3, s4, s5, s6]
      refine wpAnyH_done (by kernel_rfl) ?_ _
      try simp only [Act.put, s1, s2, s3, s4, s5, s6]
      simp only [NQ];rw [List.nil_append] at hrow13;have hf := HFIN.out _ _ hrow13 hb13;clear hS
      go_wp2_with fail
      go_roundw
      case rel => exact hf
      case measure => simp [intOf]; omega
  ·have hke : k = l.length := by omega
   have HF : Hid (EMark.Row w.heap.size wr u3 (sortedM l)) := Hd (by
    rw [hke, List.take_length] at hrow;exact hrow)
   have HB := Hd hB;clear hrow hB
   go_wp2_with fail
   go_ret
   exact ⟨_, rfl, HF.out, HB.out⟩
end Go.Proofs.YtadbmineobldbaaGreatDoor
set_option linter.unusedSimpArgs false
set_option linter.unusedVariables false
set_option maxRecDepth 100000
set_option maxHeartbeats 16000000
namespace Go.Proofs.YtadbmineobldbaaGreatDoor
open Go.RowKit Go.Maps Go.Sort Go.Shelf
theorem cfz3 {w : World} {g : Nat} {x y z : Value} {T : TypeId} (h : w.heap[g]? = some (.cells #[x, y, z] T)) : (w.cell? ⟨g, 0, none⟩ = some x ∧ w.cell? ⟨g, 1, none⟩ = some y ∧ w.cell? ⟨g, 2, none⟩ = some z) ∧ w.frozen? ⟨g, 0, none⟩ = false ∧ w.frozen? ⟨g, 1, none⟩ = false ∧ w.frozen? ⟨g, 2, none⟩ = false := ⟨cel3 h, froz0 h 0, froz0 h 1, froz0 h 2⟩
theorem set2_oth {w : World} {b k : Nat} {x y : Value} (h : k ≠ b) : (set2 w b x y).heap[k]? = w.heap[k]? := by
 rw [set2_eq, setCell_other h, setCell_other h]
theorem r3Add_any (va ca l : List DotD) (x1 x2 x3 : Value) (w : World) (h1 : Arr DotR 2 w x1 va) (h2 : Arr DotR 2 w x2 ca) (h3 : Arr DotR 2 w x3 l) (hxa : validX va ca = true) (hl : l.all validDotD = true) (l1 : va.length ≤ 10000) (l2 : ca.length ≤ 10000) (l3 : l.length ≤ 20000) :
  Calls Tryz.prog 43 #[.agg #[x1, x2], x3] w fun e w' => ∃ y1 y2, e = .returned (.agg #[y1, y2]) ∧ Arr DotR 2 w' y1 (addX (va, ca) l).1 ∧ Arr DotR 2 w' y2 (addX (va, ca) l).2 ∧ Below w.heap.size w w' := by
 have hux : addX (va, ca) l = compactX va (unionD ca l) := by unfold addX; rw [unionD_eq]
 have hvx : validX va (unionD ca l) = true := by
  obtain ⟨a1, a2, a3⟩ := validX_parts hxa;refine validX_of a1 (by rw [unionD_eq]; exact setD_ss _) ?_
  rw [List.all_eq_true];intro d hd;rw [unionD_eq, setD_mem, List.mem_append] at hd
  rcases hd with hd | hd
  ·exact List.all_eq_true.1 a3 d hd
  ·exact List.all_eq_true.1 hl d hd
 have hcl : (unionD ca l).length ≤ 100000 := by
  rw [unionD_eq];have := setD_leL (ca ++ l);rw [List.length_append] at this;omega
 obtain ⟨o1, k1, rfl⟩ := h1.slice;obtain ⟨o2, k2, rfl⟩ := h2.slice;obtain ⟨o3, k3, rfl⟩ := h3.slice;obtain ⟨n1, hn1⟩ : ∃ n, n = va.length := ⟨_, rfl⟩;rw [← hn1] at h1;rw [← hn1];obtain ⟨n2, hn2⟩ : ∃ n, n = ca.length := ⟨_, rfl⟩;rw [← hn2] at h2;rw [← hn2];obtain ⟨n3, hn3⟩ : ∃ n, n = l.length := ⟨_, rfl⟩;rw [← hn3] at h3;rw [← hn3];obtain ⟨W1, HW, HB, HS, HK0, HK1⟩ := box2 w #[.slice o1 n1 k1, .slice o2 n2 k2] 25 #[.slice none 0 0, .slice none 0 0] 25;have HC := Hd (fun wz (hz : Below W1.heap.size W1 wz) => cel2 (HK0.out wz hz))
 have HUN := Hd (fun wz (hz : Below W1.heap.size W1 wz) => r1Union_any ca l _ _ wz (h2.dots (btr HB.out hz)) (h3.dots (btr HB.out hz)) (by omega) (by omega))
 have HCO := Hd (fun wz z2 (hz : Below W1.heap.size W1 wz) (h : Arr DotR 2 wz z2 (unionD ca l)) => r3Compact_any va (unionD ca l) _ z2 wz (h1.dots (btr HB.out hz)) h hvx (by omega) hcl)
 have HUX := Hd hux;have HBW := Hd HB.out;clear h1 h2 h3 hvx hcl hux hxa hl hn1 hn2 hn3
 go_enter Tryz.func43, Tryz.ntmps43
 go_upto_region 1 with fail
 rw [← HW.out];refine NQ.to ?_;refine wp_region_held_drew (S := (fun wz => wz.cell? ⟨w.heap.size, 0, none⟩ = some (.slice o1 n1 k1) ∧ wz.cell? ⟨w.heap.size, 1, none⟩ = some (.slice o2 n2 k2))) (by kernel_rfl) (HC.out _ bdr) (fun hS => ?_)
 refine tkR (n := 5) [0, 1, 2, 3, 4] rfl (by decide +kernel) hS ?_
 iterate 5 ((try simp only [Act.put, s1, s2, s3, s4, s5, s6]); refine ⟨_, ?_, rfl, Or.inl ⟨by kernel_rfl, fun w hSw => ok_of fun z hz => ?_⟩, ?_⟩; rotate_left; · (obtain ⟨f0, f1⟩ := hSw; go_simp; exact hz))
 refine RunOK.done ?_
 try simp only [Act.put, s1, s2, s3, s4, s5, s6]
 refine rd1 5 (by decide +kernel) rfl (fun K hK => ?_)
 go_simp
 go_at_call 89
 refine (HUN.out _ bdr).mono ?_;rintro e w3 ⟨v3, rfl, g3, hb3⟩;obtain ⟨p3, q3, rfl⟩ := g3.slice;have hb3 := btr (show Below W1.heap.size W1 W1.drew from bdr) hb3
 go_simp;refine Shut.out hK _ _ (HC.out _ hb3) (fun hS2 => ?_); clear hK K hS; have hS := hS2; clear hS2
 try simp only [Act.put, s1, s2, s3, s4, s5, s6]
 refine tkR (n := 1) [6] rfl (by decide +kernel) hS ?_
 iterate 1 ((try simp only [Act.put, s1, s2, s3, s4, s5, s6]); refine ⟨_, ?_, rfl, Or.inl ⟨by kernel_rfl, fun w hSw => ok_of fun z hz => ?_⟩, ?_⟩; rotate_left; · (obtain ⟨f0, f1⟩ := hSw; go_simp; exact hz))
 refine RunOK.done ?_
 try simp only [Act.put, s1, s2, s3, s4, s5, s6]
 refine rd1 7 (by decide +kernel) rfl (fun K hK => ?_)
 go_simp
 go_at_call 88
 refine (HCO.out w3 _ hb3 g3).mono ?_;rintro e w4 ⟨y1, y2, rfl, g1, g2, hb4⟩;obtain ⟨p4, q4, rfl⟩ := g1.slice;obtain ⟨p5, q5, rfl⟩ := g2.slice;have hb4 := btr hb3 hb4;go_simp;refine Shut.out hK _ _ (HC.out _ hb4) (fun hS2 => ?_); clear hK K hS; have hS := hS2; clear hS2
 try simp only [Act.put, s1, s2, s3, s4, s5, s6]
 refine rd1 8 (by decide +kernel) rfl (fun K hK => ?_)
 have hz := HK1.out w4 hb4;have f0 := froz0 hz 0;have f1 := froz0 hz 1;obtain ⟨e0, e1⟩ := cel2 hz;go_simp;refine Shut.out hK _ _ (by rw [← set2_eq, set2_cell (by omega), set2_cell (by omega)]; exact HC.out _ hb4) (fun hS2 => ?_); clear hK K hS; have hS := hS2; clear hS2
 try simp only [Act.put, s1, s2, s3, s4, s5, s6]
 refine wpAnyH_done (by kernel_rfl) ?_ _
 try simp only [Act.put, s1, s2, s3, s4, s5, s6]
 simp only [NQ];have hz := HK1.out w4 hb4;obtain ⟨W9, hW9⟩ : ∃ wq, wq = set2 w4 (w.heap.size + 1) (.slice p4 (compactX va (unionD ca l)).1.length q4) (.slice p5 (compactX va (unionD ca l)).2.length q5) := ⟨_, rfl⟩;have y9 : W9.heap[w.heap.size + 1]? = some (.cells #[.slice p4 (compactX va (unionD ca l)).1.length q4, .slice p5 (compactX va (unionD ca l)).2.length q5] 25) := by rw [hW9]; exact set2_same _ _ hz
 have hbf9 : Below w.heap.size w W9 := by rw [hW9]; exact set2_below _ _ (btr HBW.out hb4) (by omega)
 have q1 : Arr DotR 2 W9 (.slice p4 (compactX va (unionD ca l)).1.length q4) (addX (va, ca) l).1 := by rw [hW9, HUX.out]; exact arr_set2 g1 hz
 have q2 : Arr DotR 2 W9 (.slice p5 (compactX va (unionD ca l)).2.length q5) (addX (va, ca) l).2 := by rw [hW9, HUX.out]; exact arr_set2 g2 hz
 have HQ1 := Hd q1;have HQ2 := Hd q2;obtain ⟨y0, y1⟩ := cel2 y9;clear hS hz g1 g2 q1 q2 e0 e1 f0 f1
 go_wp2_with fail
 (try simp only [Exit.inBlock, Exit.then])
 change bodyPost _ _ _ _ _ (set2 w4 (w.heap.size + 1) (.slice p4 (compactX va (unionD ca l)).1.length q4) (.slice p5 (compactX va (unionD ca l)).2.length q5));rw [← hW9];clear hW9 y9;refine bodyPost_ret (v := .agg #[.slice p4 (compactX va (unionD ca l)).1.length q4, .slice p5 (compactX va (unionD ca l)).2.length q5]) ?_ rfl ⟨_, _, rfl, HQ1.out, HQ2.out, hbf9⟩;rw [results_cell_one rfl];go_simp
theorem canR7 (x : ItemD) (k n3 k3 b0 b off cm : Nat) (om : Option Addr) (z0 z2 z3 z4 z6 z7 z8 z9 z10 z11 z12 z13 z14 z15 z16 z17 z18 z19 z20 z21 z22 z23 z24 z25 z26 z27 z28 z29 z30 z31 z32 z33 z34 z35 z36 z37 z38 z39 z40 z41 z42 z43 z44 z45 z46 z47 z48 z49 z50 z51 z52 z53 z54 z55 z56 z57 z58 z59 z60 z61 z62 z63 z64 z65 z66 z67 : Value) (WL : World) (R : Act → World → Prop)
  (hC : ∀ wz, Below WL.heap.size WL wz → wz.cell? ⟨b0, 2, none⟩ = some (.slice (some ⟨b, off, none⟩) n3 k3) ∧ wz.cell? ⟨b, off + k * 2, none⟩ = some (.string x.name) ∧ wz.cell? ⟨b, off + k * 2 + 1, none⟩ = some (.slice om x.marks.length cm)) (hm : Arr MarkR 4 WL (.slice om x.marks.length cm) x.marks) (hml : x.marks.length ≤ 100000) (hk : k < n3)
  (hQ : ∀ (bx : Nat) (mo : Option Addr) (mc : Nat) (u20 u21 u22 u23 u24 u25 u26 u27 u28 u29 u30 u31 u32 u33 : Value) (wx : World), WL.heap.size ≤ bx → wx.heap[bx]? = some (.cells #[.string x.name, .slice mo x.marks.length mc] 56) → Arr MarkR 4 wx (.slice mo x.marks.length mc) (sortedM x.marks) → Below WL.heap.size WL wx → R { tmps := #[z0, .pointer (some ⟨b0, 0, none⟩), z2, z3, z4, .int .i64 (k : Int), .pointer (some ⟨bx, 0, none⟩), z7, z8, z9, z10, z11, z12, z13, z14, z15, z16, z17, z18, z19, u20, u21, u22, u23, u24, u25, u26, u27, u28, u29, u30, u31, u32, u33, z34, z35, z36, z37, z38, z39, z40, z41, z42, z43, z44, z45, z46, z47, z48, z49, z50, z51, z52, z53, z54, z55, z56, z57, z58, z59, z60, z61, z62, z63, z64, z65, z66, z67], defers := [] } wx) :
  (codeAt [1, 1, 1, 0, 1, 0, 0, 1, 0, 0, 0] (Tryz.f10.body.getD .skip)).wp Tryz.prog (NQ R) { tmps := #[z0, .pointer (some ⟨b0, 0, none⟩), z2, z3, z4, .int .i64 (k : Int), z6, z7, z8, z9, z10, z11, z12, z13, z14, z15, z16, z17, z18, z19, z20, z21, z22, z23, z24, z25, z26, z27, z28, z29, z30, z31, z32, z33, z34, z35, z36, z37, z38, z39, z40, z41, z42, z43, z44, z45, z46, z47, z48, z49, z50, z51, z52, z53, z54, z55, z56, z57, z58, z59, z60, z61, z62, z63, z64, z65, z66, z67], defers := [] } WL := by
 have HC := Hd hC;have HM := Hd hm;have HL : Hid ((sortedM x.marks).length = x.marks.length) := Hd (sortedM_perm x.marks).length_eq;have HMI : Hid (∀ m ∈ sortedM x.marks, MI m) := Hd (fun m h => hm.marksMI m ((sortedM_perm x.marks).mem_iff.1 h))
 have HSO := Hd (fun wz (hz : Below WL.heap.size WL wz) => r10sorted_any x.marks _ wz (hm.marks hz) hml)
 have a0 : (0 : Int) ≤ k := by omega
 have a1 : (k : Int) < (n3 : Int) := by omega
 clear hC hm hml;simp only [codeAt, codeL, codeR, Tryz.f10, Option.getD_some];refine wp_region_held_drew (S := (fun wz => wz.cell? ⟨b0, 2, none⟩ = some (.slice (some ⟨b, off, none⟩) n3 k3) ∧ wz.cell? ⟨b, off + k * 2, none⟩ = some (.string x.name) ∧ wz.cell? ⟨b, off + k * 2 + 1, none⟩ = some (.slice om x.marks.length cm))) (by kernel_rfl) (HC.out _ bdr) (fun hS => ?_)
 refine tkR (n := 12) [0, 1, 2, 3, 4, 5, 6, 7, 8, 9, 10, 11] rfl (by decide +kernel) hS ?_
 iterate 12 ((try simp only [Act.put, s1, s2, s3, s4, s5, s6]); refine ⟨_, ?_, rfl, Or.inl ⟨by kernel_rfl, fun w hSw => ok_of fun z hz => ?_⟩, ?_⟩; rotate_left; · (obtain ⟨f0, f1, f2⟩ := hSw; go_simp; exact hz))
 refine RunOK.done ?_
 try simp only [Act.put, s1, s2, s3, s4, s5, s6]
 refine wpAnyH_ready (rs := [12, 14]) (by decide +kernel) (by simp) ?_
 refine (AllReadyH.cons rfl (fun K hK => ?_) (AllReadyH.cons rfl (fun K hK => ?_) AllReadyH.nil))
 ·go_simp
  go_at_call 38
  refine (HSO.out _ (show Below WL.heap.size WL WL.drew from bdr)).mono ?_
  rintro e w12 ⟨v12, rfl, hr12, hb12⟩;obtain ⟨mo, mc, rfl⟩ := hr12.slice;rw [HL.out] at hr12 ⊢;have hr12 := hr12.mono (show WL.heap.size ≤ _ from ((show Below WL.heap.size WL WL.drew from bdr)).size)
  have hbw : Below WL.heap.size WL w12 := btr ((show Below WL.heap.size WL WL.drew from bdr)) hb12
  go_simp;refine Shut.out hK _ _ (HC.out _ hbw) (fun hS2 => ?_); clear hK K hS; have hS := hS2; clear hS2
  refine tkR (n := 1) [13] rfl (by decide +kernel) hS ?_
  iterate 1 ((try simp only [Act.put, s1, s2, s3, s4, s5, s6]); refine ⟨_, ?_, rfl, Or.inl ⟨by kernel_rfl, fun w hSw => ok_of fun z hz => ?_⟩, ?_⟩; rotate_left; · (go_simp; exact hz))
  refine RunOK.done ?_
  try simp only [Act.put, s1, s2, s3, s4, s5, s6]
  refine rd1 14 (by decide +kernel) rfl (fun K hK => ?_)
  go_simp;obtain ⟨wf, hwf⟩ : ∃ y, y = w12.alloc (.cells #[.string ⟨#[]⟩, .slice none 0 0] 56) := ⟨_, rfl⟩;have hbl : Below w12.heap.size w12 wf := by rw [hwf]; exact bal
  have hx : wf.heap[w12.heap.size]? = some (.cells #[.string ⟨#[]⟩, .slice none 0 0] 56) := by rw [hwf]; exact alloc_new _ _
  have hbq := btr hbw hbl;have hrq := hr12.below hbl;have hgx : WL.heap.size ≤ w12.heap.size := hbw.size
  (try rw [← hwf])
  refine Shut.out hK _ _ (HC.out _ hbq) (fun hS2 => ?_); clear hK K hS; have hS := hS2; clear hS2
  clear hwf
  try simp only [Act.put, s1, s2, s3, s4, s5, s6]
  obtain ⟨bxx, hbxx⟩ : ∃ y, y = w12.heap.size := ⟨_, rfl⟩;rw [← hbxx] at hx hgx ⊢;clear hbxx;refine rd1 15 (by decide +kernel) rfl (fun K hK => ?_)
  obtain ⟨e0, e1⟩ := cel2 hx;have f0 := froz0 hx 0;have f1 := froz0 hx 1;go_simp;have hbf : Below WL.heap.size WL (set2 wf bxx (.string x.name) (.slice mo x.marks.length mc)) := set2_below _ _ hbq hgx;refine Shut.out hK _ _ (HC.out _ hbf) (fun hS2 => ?_); clear hK K hS; have hS := hS2; clear hS2
  refine wpAnyH_done (by kernel_rfl) ?_ _
  try simp only [Act.put, s1, s2, s3, s4, s5, s6]
  simp only [NQ];exact hQ _ _ _ _ _ _ _ _ _ _ _ _ _ _ _ _ _ _ hgx (set2_same _ _ hx) (Arr.of_marks (hrq.stay (fun q hq => set2_oth (erow_ne hrq hx (by decide) q hq))) HMI.out) hbf
 ·go_simp
  obtain ⟨wA, hwA⟩ : ∃ y, y = (WL.alloc (.cells #[.string ⟨#[]⟩, .slice none 0 0] 56)).drew := ⟨_, rfl⟩;have hbA : Below WL.heap.size WL wA := by rw [hwA]; exact btr bal bdr
  have hxA : wA.heap[WL.heap.size]? = some (.cells #[.string ⟨#[]⟩, .slice none 0 0] 56) := by rw [hwA]; exact alloc_new _ _
  (try rw [← hwA])
  refine Shut.out hK _ _ (HC.out _ hbA) (fun hS2 => ?_); clear hK K hS; have hS := hS2; clear hS2
  clear hwA
  try simp only [Act.put, s1, s2, s3, s4, s5, s6]
  refine rd1 12 (by decide +kernel) rfl (fun K hK => ?_)
  go_simp
  go_at_call 38
  refine (HSO.out _ hbA).mono ?_;rintro e w12 ⟨v12, rfl, hr12, hb12⟩;obtain ⟨mo, mc, rfl⟩ := hr12.slice;rw [HL.out] at hr12 ⊢;have hr12 := hr12.mono (show WL.heap.size ≤ _ from (hbA).size)
  have hbw : Below WL.heap.size WL w12 := btr (hbA) hb12;have hx := (hb12.block _ (lt_of_heap hxA)).trans hxA;go_simp;refine Shut.out hK _ _ (HC.out _ hbw) (fun hS2 => ?_); clear hK K hS; have hS := hS2; clear hS2
  refine tkR (n := 1) [13] rfl (by decide +kernel) hS ?_
  iterate 1 ((try simp only [Act.put, s1, s2, s3, s4, s5, s6]); refine ⟨_, ?_, rfl, Or.inl ⟨by kernel_rfl, fun w hSw => ok_of fun z hz => ?_⟩, ?_⟩; rotate_left; · (go_simp; exact hz))
  refine RunOK.done ?_
  try simp only [Act.put, s1, s2, s3, s4, s5, s6]
  have hbq := hbw;have hrq := hr12;have hgx : WL.heap.size ≤ WL.heap.size := Nat.le_refl _;obtain ⟨wf, hwf⟩ : ∃ y, y = w12 := ⟨_, rfl⟩;rw [← hwf] at hx hbq hrq ⊢;obtain ⟨bxx, hbxx⟩ : ∃ y, y = WL.heap.size := ⟨_, rfl⟩;rw [← hbxx] at hx ⊢;have hgx : WL.heap.size ≤ bxx := by omega
  clear hbxx hwf;refine rd1 15 (by decide +kernel) rfl (fun K hK => ?_)
  obtain ⟨e0, e1⟩ := cel2 hx;have f0 := froz0 hx 0;have f1 := froz0 hx 1;go_simp;have hbf : Below WL.heap.size WL (set2 wf bxx (.string x.name) (.slice mo x.marks.length mc)) := set2_below _ _ hbq hgx;refine Shut.out hK _ _ (HC.out _ hbf) (fun hS2 => ?_); clear hK K hS; have hS := hS2; clear hS2
  refine wpAnyH_done (by kernel_rfl) ?_ _
  try simp only [Act.put, s1, s2, s3, s4, s5, s6]
  simp only [NQ];exact hQ _ _ _ _ _ _ _ _ _ _ _ _ _ _ _ _ _ _ hgx (set2_same _ _ hx) (Arr.of_marks (hrq.stay (fun q hq => set2_oth (erow_ne hrq hx (by decide) q hq))) HMI.out) hbf
theorem r10Canon_any (c : CartD) (v1 v2 v3 : Value) (w : World) (h : CartA w v1 v2 v3 c) (hl : SzC c) (hds : (allDots c.items).length ≤ 9000) :
  Calls Tryz.prog 10 #[.agg #[v1, v2, v3]] w fun e w' => ∃ x1 x2 x3, e = .returned (.tuple #[.agg #[x1, x2, x3], .bool (canonOk c)]) ∧ CartA w' x1 x2 x3 (canonC c) ∧ Below w.heap.size w w' := by
 obtain ⟨o1, n1, k1, o2, n2, k2, o3, n3, k3, rfl, rfl, rfl, hn3, hml, hA0, hel⟩ := cartAt h;obtain ⟨W1, HW, HB, HS, HK0, HK1⟩ := box2 w #[.slice o1 n1 k1, .slice o2 n2 k2, .slice o3 n3 k3] 28 #[.slice none 0 0, .slice none 0 0, .slice none 0 0] 28;have HC := Hd (fun wz (hz : Below W1.heap.size W1 wz) => And.intro (cel3 (HK0.out wz hz)) (cel3 (HK1.out wz hz)))
 have HIA := Hd hel;have HA := Hd (hA0.below HB.out);have HN3 := Hd hn3;have HSZ := Hd hl;have HDS := Hd hds;have HBW := Hd HB.out;have hsz := HS.out;have HVD := Hd (r3Valid_any c.vec c.cloud _ _ W1 HA.out.1 HA.out.2.1);have HOK := Hd (canonOk_good c);have HRC : Hid (canonC c = if canonOk c then canonOf c else zeroC) := Hd rfl
 clear h hA0 hel hn3 hl hds HB;obtain ⟨r1, hr1⟩ : ∃ r, r = validX c.vec c.cloud := ⟨_, rfl⟩;rw [← hr1] at HVD HOK;have HR1 := Hd hr1;clear hr1;generalize canonC c = RC at *
 obtain ⟨OKv, hok⟩ : ∃ r, r = canonOk c := ⟨_, rfl⟩;rw [← hok] at HOK HRC ⊢;have HOKV := Hd hok;clear hok;obtain ⟨⟨c0, c1, c2⟩, c3, c4, c5⟩ := HC.out W1 brf
 go_enter Tryz.func10, Tryz.ntmps10
 go_wp2_with fail
 rw [← HW.out]
 go_wp2_with fail
 refine HVD.out.mono ?_;rintro e w2 ⟨rfl, hb2⟩;have HB2 := Hd hb2;clear c0 c1 c2 c3 c4 c5 hb2 HVD
 cases r1 with
 | false =>
  have HO2 : Hid (OKv = false) := Hd (by rw [HOK.out]; rfl)
  have HR2 : Hid (RC = zeroC) := Hd (by rw [HRC.out, HO2.out]; rfl)
  have HF := Hd (set3c_below (b := w.heap.size + 1) (.slice none 0 0) (.slice none 0 0) (.slice none 0 0) (btr HBW.out HB2.out) (by omega))
  obtain ⟨⟨c0, c1, c2⟩, c3, c4, c5⟩ := HC.out _ HB2.out;have g0 := froz0 (HK1.out _ HB2.out) 0;have g1 := froz0 (HK1.out _ HB2.out) 1;have g2 := froz0 (HK1.out _ HB2.out) 2
  go_wp2_with fail
  (try simp only [Exit.inBlock, Exit.then])
  refine bodyPost_ret (v := .tuple #[.agg #[.slice none 0 0, .slice none 0 0, .slice none 0 0], .bool false]) ?_ rfl ⟨_, _, _, by rw [HO2.out], by rw [HR2.out]; exact ⟨arr_nil, arr_nil, arr_nil⟩, HF.out⟩
  rw [results_cell_tmp rfl];go_simp
 | true =>
  obtain ⟨⟨c0, c1, c2⟩, c3, c4, c5⟩ := HC.out w2 HB2.out
  go_wp2_with fail
  clear c0 c1 c2 c3 c4 c5;have hl3 : n3 ≤ 1000 := by have := HSZ.out.1.1; have := HN3.out; omega
  go_loopw [4, 5] (fun lv iv wr => ∃ k : Nat, k ≤ n3 ∧ iv = .int .i64 k ∧ Arr ItemR 2 wr lv (cnR c.items k) ∧ goodI ((c.items.map canonItem).take k) = true ∧ Below W1.heap.size W1 wr) (fun _ iv _ => n3 - (intOf iv).toNat)
  case atStart => exact ⟨0, Nat.zero_le _, rfl, arr_nil, rfl, HB2.out⟩
  case round =>
   obtain ⟨k, hk, rfl, hla, hgd, hB⟩ := hrel;have HB := Hd hB;have HLA := Hd hla;have HGD := Hd hgd;clear hla hgd hB;obtain ⟨⟨c0, c1, c2⟩, c3, c4, c5⟩ := HC.out wr HB.out
   by_cases hlt : k < n3
   ·have hlt' : k < c.items.length := by have := HN3.out; omega
    obtain ⟨b, off, om, cm, rfl, hbl, e0, e1, hns, hmk⟩ := HIA.out k hlt';have hBw := btr HBW.out HB.out;have hcl : (cnR c.items k).length = k := cnR_len (by omega)
    have HCL := Hd hcl;have HGS := Hd (good_step hlt');have HCS := Hd (cnR_succ hlt');have hml2 : c.items[k].marks.length ≤ 1000 := HSZ.out.1.2 _ (List.getElem_mem hlt');have HNS := Hd hns;have hC7 : ∀ wz, Below wr.heap.size wr wz → wz.cell? ⟨w.heap.size, 2, none⟩ = some (.slice (some ⟨b, off, none⟩) n3 k3) ∧ wz.cell? ⟨b, off + k * 2, none⟩ = some (.string c.items[k].name) ∧ wz.cell? ⟨b, off + k * 2 + 1, none⟩ = some (.slice om c.items[k].marks.length cm) := fun wz hz => by
     have hz2 := btr hBw hz;exact ⟨(HC.out wz (btr HB.out hz)).1.2.2, by rw [hz2.cell (p := ⟨_, _, _⟩) hbl]; exact e0, by rw [hz2.cell (p := ⟨_, _, _⟩) hbl]; exact e1⟩
    have hmk2 := hmk.marks hBw;have a0 : (0 : Int) ≤ k := by omega
    have a1 : (k : Int) < (n3 : Int) := by omega
    have hkw := wr1 k (by omega)
    obtain ⟨ol, cl, rfl⟩ := HLA.out.slice;rw [hcl] at HLA ⊢;clear e0 e1 hbl hns hBw hmk
    go_upto_region 7 with fail
    clear c0 c1 c2 c3 c4 c5;refine NQ.to (canR7 c.items[k] k n3 k3 w.heap.size b off cm om _ _ _ _ _ _ _ _ _ _ _ _ _ _ _ _ _ _ _ _ _ _ _ _ _ _ _ _ _ _ _ _ _ _ _ _ _ _ _ _ _ _ _ _ _ _ _ _ _ _ _ _ _ _ _ _ _ _ _ _ _ _ _ _ _ _ wr _ hC7 hmk2 (by omega) hlt ?_)
    intro bx mo mc u20 u21 u22 u23 u24 u25 u26 u27 u28 u29 u30 u31 u32 u33 wx hbx hx hmx hbw;have HM2 : Hid ((canonItem c.items[k]).marks.length ≤ 100000) := Hd (by show (sortedM _).length ≤ _; rw [(sortedM_perm _).length_eq]; omega)
    have HX := Hd hx;have HMX := Hd (show Arr MarkR 4 wx _ (canonItem c.items[k]).marks from hmx)
    have HBX := Hd hbw;have HB3 := Hd (btr HB.out hbw);obtain ⟨y, hy⟩ : ∃ y, y = canonItem c.items[k] := ⟨_, rfl⟩;have hyn : y.name = c.items[k].name := by rw [hy]; rfl
    rw [← hy] at HGS HCS HMX HM2;rw [← hyn] at HX HNS HGS;have HON := Hd (fun wz (hz : Below wx.heap.size wx wz) => r9One_any y _ wz (HMX.out.marks hz) HNS.out HM2.out)
    generalize c.items[k].marks.length = ml at *
    generalize c.items[k].name = nx at *
    generalize c.items[k] = xk at *
    obtain ⟨l, hl⟩ : ∃ l, l = cnR c.items k := ⟨_, rfl⟩;rw [← hl] at HLA HCL HGS HCS;have HLN := Hd hl;clear hcl hml2 hC7 hmk2 hx hmx hbw hy hyn hl;obtain ⟨r2, hr2⟩ : ∃ r, r = oneI y := ⟨_, rfl⟩;rw [← hr2] at HON HGS;have HR2' := Hd hr2;clear hr2;have HBD : Hid (goodI ((c.items.map canonItem).take (k + 1)) = false → OKv = false) := Hd (fun h => by rw [HOK.out, goodI_take _ h]; rfl)
    obtain ⟨g0, g1⟩ := cel2 HX.out;have HON2 := Hd (HON.out wx brf)
    go_wp2_with fail
    refine HON2.out.mono ?_;rintro e wa ⟨rfl, hba⟩;have HBA := Hd hba;clear hba HON HON2 g0 g1
    cases r2 with
    | false =>
     have HO2 : Hid (OKv = false) := Hd (HBD.out (by rw [HGS.out]; simp))
     have HR2 : Hid (RC = zeroC) := Hd (by rw [HRC.out, HO2.out]; rfl)
     have HF := Hd (set3c_below (b := w.heap.size + 1) (.slice none 0 0) (.slice none 0 0) (.slice none 0 0) (btr HBW.out (btr HB3.out HBA.out)) (by omega))
     obtain ⟨⟨c0, c1, c2⟩, c3, c4, c5⟩ := HC.out _ (btr HB3.out HBA.out);have g0 := froz0 (HK1.out _ (btr HB3.out HBA.out)) 0;have g1 := froz0 (HK1.out _ (btr HB3.out HBA.out)) 1;have g2 := froz0 (HK1.out _ (btr HB3.out HBA.out)) 2
     go_wp2_with fail
     (try simp only [Exit.inBlock, Exit.then])
     refine bodyPost_ret (v := .tuple #[.agg #[.slice none 0 0, .slice none 0 0, .slice none 0 0], .bool false]) ?_ rfl ⟨_, _, _, by rw [HO2.out], by rw [HR2.out]; exact ⟨arr_nil, arr_nil, arr_nil⟩, HF.out⟩
     rw [results_cell_tmp rfl];go_simp
    | true =>
     have HFI := Hd (r9Find_any y.name l _ wa (HLA.out.items (btr HBX.out HBA.out)));obtain ⟨g0, g1⟩ := cel2 ((HBA.out.block _ (lt_of_heap HX.out)).trans HX.out)
     go_wp2_with fail
     refine HFI.out.mono ?_;rintro e wb ⟨i, rfl, hix, hbb⟩;have HBB := Hd (btr HBA.out hbb);clear hbb HFI HBA g0 g1
     rcases hix with ⟨rfl, hno⟩ | ⟨j, hj, rfl, hnm, -⟩
     case inr =>
      have hany : l.any (fun y' => decide (y'.name = y.name)) = true := List.any_eq_true.2 ⟨_, List.getElem_mem hj, hnm⟩
      have hge : (0 : Int) ≤ j := by omega
      have HAN := Hd hany;clear hany hnm;have HO2 : Hid (OKv = false) := Hd (HBD.out (by rw [HGS.out, HAN.out]; simp))
      have HR2 : Hid (RC = zeroC) := Hd (by rw [HRC.out, HO2.out]; rfl)
      have HF := Hd (set3c_below (b := w.heap.size + 1) (.slice none 0 0) (.slice none 0 0) (.slice none 0 0) (btr HBW.out (btr HB3.out HBB.out)) (by omega))
      obtain ⟨⟨c0, c1, c2⟩, c3, c4, c5⟩ := HC.out _ (btr HB3.out HBB.out);have g0 := froz0 (HK1.out _ (btr HB3.out HBB.out)) 0;have g1 := froz0 (HK1.out _ (btr HB3.out HBB.out)) 1;have g2 := froz0 (HK1.out _ (btr HB3.out HBB.out)) 2
      go_wp2_with fail
      (try simp only [Exit.inBlock, Exit.then])
      refine bodyPost_ret (v := .tuple #[.agg #[.slice none 0 0, .slice none 0 0, .slice none 0 0], .bool false]) ?_ rfl ⟨_, _, _, by rw [HO2.out], by rw [HR2.out]; exact ⟨arr_nil, arr_nil, arr_nil⟩, HF.out⟩
      rw [results_cell_tmp rfl];go_simp
     case inl =>
      have HNO := Hd hno;clear hno;obtain ⟨wo, rfl⟩ : ∃ wo : World, wo = wb := ⟨_, rfl⟩;have HLO := Hd (HLA.out.items (btr HBX.out HBB.out));have HXO := Hd ((HBB.out.block _ (lt_of_heap HX.out)).trans HX.out);have HMO := Hd (HMX.out.marks HBB.out);have HBO := Hd (btr HB3.out HBB.out);obtain ⟨ol', cl', he', hle⟩ := HLO.out.itemAt;injection he' with e1 e2 e3
      subst e1;have HLE := Hd hle;have hll := HCL.out;clear hle e2 e3 HLA HX HMX HBB HB3 HBX
      go_wp2_with fail
      go_loopw [7] (fun jv wi => ∃ j : Nat, j ≤ k ∧ jv = .int .i64 j ∧ (l.take j).any (fun z => meetB z y) = false ∧ Below wo.heap.size wo wi) (fun jv _ => k - (intOf jv).toNat)
      case atStart => exact ⟨0, Nat.zero_le _, rfl, rfl, Below.refl _ _⟩
      case round =>
       obtain ⟨j, hj, rfl, hall, hBi⟩ := hrel;have HALL := Hd hall;have HBI := Hd hBi;clear hall hBi
       by_cases hjt : j < k
       ·have hjl : j < l.length := by omega
        obtain ⟨b, off, mv, rfl, hbl, e0, e1, -, hmk⟩ := HLE.out j hjl;obtain ⟨mo2, mc2, rfl⟩ := hmk.slice;have HSM := Hd (fun wz (hz : Below wr.heap.size wr wz) => show (wz.cell? ⟨b, off + j * 2, none⟩ = some (.string l[j].name) ∧ wz.cell? ⟨b, off + j * 2 + 1, none⟩ = some (.slice mo2 l[j].marks.length mc2)) ∧ wz.cell? ⟨bx, 0, none⟩ = some (.string y.name) ∧ wz.cell? ⟨bx, 1, none⟩ = some (.slice mo ml mc) by
         have h2 := btr HBI.out hz;exact ⟨⟨by rw [h2.cell (p := ⟨_, _, _⟩) hbl]; exact e0, by rw [h2.cell (p := ⟨_, _, _⟩) hbl]; exact e1⟩, cel2 ((h2.block _ (lt_of_heap HXO.out)).trans HXO.out)⟩)
        have HMT := Hd (r9Meet_any l[j] y _ _ wr.drew ((hmk.marks HBI.out).marks bdr) ((HMO.out.marks HBI.out).marks bdr));have HTK := Hd (any_take_snoc (fun z => meetB z y) l j hjl)
        have HAY : Hid (meetB l[j] y = true → l.any (fun z => meetB z y) = true) := Hd (fun h => List.any_eq_true.2 ⟨_, List.getElem_mem hjl, h⟩)
        generalize l[j].marks.length = ml2 at *
        generalize l[j].name = nm2 at *
        generalize meetB l[j] y = r3 at *
        have b0 : (0 : Int) ≤ j := by omega
        have b1 : (j : Int) < (k : Int) := by omega
        have hjw := wr1 j (by omega)
        clear e0 e1 hmk hbl
        cases r3 with
        | true =>
         have HGF : Hid (goodI ((c.items.map canonItem).take (k + 1)) = false) := Hd (by rw [HGS.out, HAY.out rfl]; simp)
         clear HTK HAY
         go_upto_region 13 with fail
         refine NQ.to ?_;refine wp_region_held_drew (S := (fun wz => (wz.cell? ⟨b, off + j * 2, none⟩ = some (.string nm2) ∧ wz.cell? ⟨b, off + j * 2 + 1, none⟩ = some (.slice mo2 ml2 mc2)) ∧ wz.cell? ⟨bx, 0, none⟩ = some (.string y.name) ∧ wz.cell? ⟨bx, 1, none⟩ = some (.slice mo ml mc))) (by kernel_rfl) (HSM.out _ bdr) (fun hS => ?_)
         refine tkR (n := 5) [0, 1, 2, 3, 4] rfl (by decide +kernel) hS ?_
         iterate 5 ((try simp only [Act.put, s1, s2, s3, s4, s5, s6]); refine ⟨_, ?_, rfl, Or.inl ⟨by kernel_rfl, fun w hSw => ok_of fun z hz => ?_⟩, ?_⟩; rotate_left; · (obtain ⟨⟨f0, f1⟩, f2, f3⟩ := hSw; go_simp; exact hz))
         refine RunOK.done ?_
         try simp only [Act.put, s1, s2, s3, s4, s5, s6]
         refine rd1 5 (by decide +kernel) rfl (fun K hK => ?_)
         go_simp
         go_at_call 41
         refine HMT.out.mono ?_;rintro e w2 ⟨rfl, hb2⟩;have hb2 : Below wr.heap.size wr w2 := btr bdr hb2;go_simp;refine Shut.out hK _ _ (HSM.out _ hb2) (fun hS2 => ?_); clear hK K hS; have hS := hS2; clear hS2
         try simp only [Act.put, s1, s2, s3, s4, s5, s6]
         refine wpAnyH_done (by kernel_rfl) ?_ _
         try simp only [Act.put, s1, s2, s3, s4, s5, s6]
         simp only [NQ];have HBJ := Hd (btr HBO.out (btr HBI.out hb2));clear hS hb2;have HO2 : Hid (OKv = false) := Hd (HBD.out HGF.out);have HR2 : Hid (RC = zeroC) := Hd (by rw [HRC.out, HO2.out]; rfl)
         have HF := Hd (set3c_below (b := w.heap.size + 1) (.slice none 0 0) (.slice none 0 0) (.slice none 0 0) (btr HBW.out HBJ.out) (by omega))
         obtain ⟨⟨c0, c1, c2⟩, c3, c4, c5⟩ := HC.out _ HBJ.out;have g0 := froz0 (HK1.out _ HBJ.out) 0;have g1 := froz0 (HK1.out _ HBJ.out) 1;have g2 := froz0 (HK1.out _ HBJ.out) 2
         go_wp2_with fail
         (try simp only [Exit.inBlock, Exit.then])
         refine bodyPost_ret (v := .tuple #[.agg #[.slice none 0 0, .slice none 0 0, .slice none 0 0], .bool false]) ?_ rfl ⟨_, _, _, by rw [HO2.out], by rw [HR2.out]; exact ⟨arr_nil, arr_nil, arr_nil⟩, HF.out⟩
         rw [results_cell_tmp rfl];go_simp
        | false =>
         have HF : Hid ((l.take (j + 1)).any (fun z => meetB z y) = false) := Hd (by rw [HTK.out, HALL.out]; rfl)
         clear HTK HAY
         go_upto_region 13 with fail
         refine NQ.to ?_;refine wp_region_held_drew (S := (fun wz => (wz.cell? ⟨b, off + j * 2, none⟩ = some (.string nm2) ∧ wz.cell? ⟨b, off + j * 2 + 1, none⟩ = some (.slice mo2 ml2 mc2)) ∧ wz.cell? ⟨bx, 0, none⟩ = some (.string y.name) ∧ wz.cell? ⟨bx, 1, none⟩ = some (.slice mo ml mc))) (by kernel_rfl) (HSM.out _ bdr) (fun hS => ?_)
         refine tkR (n := 5) [0, 1, 2, 3, 4] rfl (by decide +kernel) hS ?_
         iterate 5 ((try simp only [Act.put, s1, s2, s3, s4, s5, s6]); refine ⟨_, ?_, rfl, Or.inl ⟨by kernel_rfl, fun w hSw => ok_of fun z hz => ?_⟩, ?_⟩; rotate_left; · (obtain ⟨⟨f0, f1⟩, f2, f3⟩ := hSw; go_simp; exact hz))
         refine RunOK.done ?_
         try simp only [Act.put, s1, s2, s3, s4, s5, s6]
         refine rd1 5 (by decide +kernel) rfl (fun K hK => ?_)
         go_simp
         go_at_call 41
         refine HMT.out.mono ?_;rintro e w2 ⟨rfl, hb2⟩;have hb2 : Below wr.heap.size wr w2 := btr bdr hb2;go_simp;refine Shut.out hK _ _ (HSM.out _ hb2) (fun hS2 => ?_); clear hK K hS; have hS := hS2; clear hS2
         try simp only [Act.put, s1, s2, s3, s4, s5, s6]
         refine wpAnyH_done (by kernel_rfl) ?_ _
         try simp only [Act.put, s1, s2, s3, s4, s5, s6]
         simp only [NQ];have HBJ := Hd (btr HBI.out hb2);clear hS hb2
         go_wp2_with fail
         go_roundw
         case rel => exact ⟨j + 1, by omega, by go_num, HF.out, HBJ.out⟩
         case measure => simp [intOf]; omega
       ·have hje : j = k := by omega
        have HAL2 : Hid (l.any (fun z => meetB z y) = false) := Hd (by have := HALL.out; rw [hje, ← HCL.out, List.take_length] at this; exact this)
        have HGN : Hid (goodI ((c.items.map canonItem).take (k + 1)) = true) := Hd (by rw [HGS.out, HGD.out, HNO.out, HAL2.out]; rfl)
        have hgx := cel2 ((HBI.out.block _ (lt_of_heap HXO.out)).trans HXO.out);obtain ⟨g0, g1⟩ := hgx;have HWI := Hd (r9With_any l y _ _ wr (HLO.out.items HBI.out) (HMO.out.marks HBI.out) HNS.out (by omega))
        have HBJ := Hd (btr HBO.out HBI.out);clear hje HALL HAL2 HGS HBD HNO HLE hll
        go_wp2_with fail
        refine HWI.out.mono ?_;rintro e w9 ⟨v9, rfl, hl9, hb9⟩;rw [← HCS.out] at hl9;have HL9 := Hd hl9;have HB9 := Hd (btr HBJ.out hb9);clear hl9 hb9 HWI g0 g1
        go_wp2_with fail
        go_roundw
        case rel => exact ⟨k + 1, by omega, by go_num, HL9.out, HGN.out, HB9.out⟩
        case measure => simp [intOf]; omega
   ·have hke : k = n3 := by omega
    have hall := HGD.out;have hlf := HLA.out;rw [hke, HN3.out] at hlf;rw [hke, HN3.out, List.take_of_length_le (by simp)] at hall
    rw [cnR_all] at hlf;have HO1 : Hid (OKv = true) := Hd (by rw [HOK.out, hall]; rfl)
    have HR2 : Hid (RC = canonOf c) := Hd (by rw [HRC.out, HO1.out]; rfl)
    have hvi := (canonOk_parts (HOKV.out.symm.trans HO1.out)).2.2.2;have hlt2 : Lt (canonI c.items) := by
     have hp := canonI_perm c.items;refine ⟨by rw [hp.length_eq, List.length_map]; exact HSZ.out.1.1, fun x hx => ?_⟩
     obtain ⟨y, hy, rfl⟩ := List.mem_map.1 (hp.mem_iff.1 hx)
     show (sortedM y.marks).length ≤ 1000
     rw [(sortedM_perm _).length_eq];exact HSZ.out.1.2 y hy
    have hsl : (setD (allDots (canonI c.items))).length ≤ 9000 := Nat.le_trans (setD_leL _) (by rw [(allDots_canonI c.items).length_eq]; exact HDS.out)
    have hvd : (setD (allDots (canonI c.items))).all validDotD = true := by
     rw [List.all_eq_true];intro d hd;rw [setD_mem] at hd;exact List.all_eq_true.1 (allDots_valid hvi) d hd
    obtain ⟨ol, cl, rfl⟩ := hlf.slice;have hcn : (canonI c.items).length = n3 := by rw [(canonI_perm c.items).length_eq, List.length_map]; exact HN3.out.symm
    rw [hcn] at hlf ⊢;have HLF := Hd hlf;have HDT := Hd (fun wz (hz : Below wr.heap.size wr wz) => r9Dots_any (canonI c.items) _ wz (hlf.items hz) hlt2)
    have HAD := Hd (fun wz z (hz : Below wr.heap.size wr wz) (h : Arr DotR 2 wz z (setD (allDots (canonI c.items)))) => r3Add_any c.vec c.cloud _ _ _ z wz (HA.out.below (btr HB.out hz)).1 (HA.out.below (btr HB.out hz)).2.1 h HR1.out.symm hvd (by have := HSZ.out.2; omega) (by have := HSZ.out.2; omega) (by omega))
    clear hall hlf hvi hlt2 hsl hvd hke hcn
    go_upto_region 16 with fail
    refine NQ.to ?_;refine wp_region_held_drew (S := (fun wz => wz.cell? ⟨w.heap.size, 0, none⟩ = some (.slice o1 n1 k1) ∧ wz.cell? ⟨w.heap.size, 1, none⟩ = some (.slice o2 n2 k2))) (by kernel_rfl) (⟨(HC.out _ (btr HB.out bdr)).1.1, (HC.out _ (btr HB.out bdr)).1.2.1⟩) (fun hS => ?_)
    refine tkR (n := 4) [0, 1, 2, 5] rfl (by decide +kernel) hS ?_
    iterate 4 ((try simp only [Act.put, s1, s2, s3, s4, s5, s6]); refine ⟨_, ?_, rfl, Or.inl ⟨by kernel_rfl, fun w hSw => ok_of fun z hz => ?_⟩, ?_⟩; rotate_left; · (obtain ⟨f0, f1⟩ := hSw; go_simp; exact hz))
    refine RunOK.done ?_
    try simp only [Act.put, s1, s2, s3, s4, s5, s6]
    refine rd1 3 (by decide +kernel) rfl (fun K hK => ?_)
    go_simp
    go_at_call 44
    refine (HDT.out _ bdr).mono ?_;rintro e w5 ⟨v5, rfl, g5, hb5⟩;obtain ⟨p5, q5, rfl⟩ := g5.slice;have hb5 := btr (show Below wr.heap.size wr wr.drew from bdr) hb5
    go_simp;refine Shut.out hK _ _ (⟨(HC.out _ (btr HB.out hb5)).1.1, (HC.out _ (btr HB.out hb5)).1.2.1⟩) (fun hS2 => ?_); clear hK K hS; have hS := hS2; clear hS2
    try simp only [Act.put, s1, s2, s3, s4, s5, s6]
    refine rd1 4 (by decide +kernel) rfl (fun K hK => ?_)
    go_simp
    go_at_call 43
    refine (HAD.out w5 _ hb5 g5).mono ?_;rintro e w6 ⟨y1, y2, rfl, g1, g2, hb6⟩;obtain ⟨p6, q6, rfl⟩ := g1.slice;obtain ⟨p7, q7, rfl⟩ := g2.slice;have hb6 := btr hb5 hb6;go_simp;refine Shut.out hK _ _ (⟨(HC.out _ (btr HB.out hb6)).1.1, (HC.out _ (btr HB.out hb6)).1.2.1⟩) (fun hS2 => ?_); clear hK K hS; have hS := hS2; clear hS2
    try simp only [Act.put, s1, s2, s3, s4, s5, s6]
    refine tkR (n := 1) [6] rfl (by decide +kernel) hS ?_
    iterate 1 ((try simp only [Act.put, s1, s2, s3, s4, s5, s6]); refine ⟨_, ?_, rfl, Or.inl ⟨by kernel_rfl, fun w hSw => ok_of fun z hz => ?_⟩, ?_⟩; rotate_left; · (obtain ⟨f0, f1⟩ := hSw; go_simp; exact hz))
    refine RunOK.done ?_
    try simp only [Act.put, s1, s2, s3, s4, s5, s6]
    refine rd1 7 (by decide +kernel) rfl (fun K hK => ?_)
    have hz := HK1.out w6 (btr HB.out hb6);obtain ⟨⟨t0, t1, t2⟩, f0, f1, f2⟩ := cfz3 hz;go_simp;rw [← set3c_eq];refine Shut.out hK _ _ (⟨by rw [set3c_cell (by omega)]; exact (HC.out _ (btr HB.out hb6)).1.1, by rw [set3c_cell (by omega)]; exact (HC.out _ (btr HB.out hb6)).1.2.1⟩) (fun hS2 => ?_); clear hK K hS; have hS := hS2; clear hS2
    try simp only [Act.put, s1, s2, s3, s4, s5, s6]
    refine tkR (n := 1) [8] rfl (by decide +kernel) hS ?_
    iterate 1 ((try simp only [Act.put, s1, s2, s3, s4, s5, s6]); refine ⟨_, ?_, rfl, Or.inl ⟨by kernel_rfl, fun w hSw => ok_of fun z hz => ?_⟩, ?_⟩; rotate_left; · (obtain ⟨f0, f1⟩ := hSw; go_simp; exact hz))
    refine RunOK.done ?_
    try simp only [Act.put, s1, s2, s3, s4, s5, s6]
    refine wpAnyH_done (by kernel_rfl) ?_ _
    try simp only [Act.put, s1, s2, s3, s4, s5, s6]
    simp only [NQ];have hz := HK1.out w6 (btr HB.out hb6);obtain ⟨W9, hW9⟩ : ∃ wq, wq = set3c w6 (w.heap.size + 1) (.slice p6 (addX (c.vec, c.cloud) (setD (allDots (canonI c.items)))).1.length q6) (.slice p7 (addX (c.vec, c.cloud) (setD (allDots (canonI c.items)))).2.length q7) (.slice ol n3 cl) := ⟨_, rfl⟩;have hbf9 : Below w.heap.size w W9 := by rw [hW9]; exact set3c_below _ _ _ (btr HBW.out (btr HB.out hb6)) (by omega)
    have hca : CartA W9 (.slice p6 (addX (c.vec, c.cloud) (setD (allDots (canonI c.items)))).1.length q6) (.slice p7 (addX (c.vec, c.cloud) (setD (allDots (canonI c.items)))).2.length q7) (.slice ol n3 cl) (canonOf c) := by rw [hW9]; exact ⟨set3c_dots g1 hz, set3c_dots g2 hz, set3c_items (HLF.out.items hb6) hz⟩
    have y9 : W9.heap[w.heap.size + 1]? = some (.cells #[.slice p6 (addX (c.vec, c.cloud) (setD (allDots (canonI c.items)))).1.length q6, .slice p7 (addX (c.vec, c.cloud) (setD (allDots (canonI c.items)))).2.length q7, .slice ol n3 cl] 28) := by rw [hW9]; exact set3c_same _ _ _ hz
    have HCA := Hd hca;have HBF := Hd hbf9;obtain ⟨y0, y1, y2⟩ := cel3 y9;clear hS hz g1 g2 g5 t0 t1 t2 f0 f1 f2 hca hbf9 hb5 hb6
    try rw [← hW9]
    go_wp2_with fail
    (try simp only [Exit.inBlock, Exit.then])
    try change bodyPost _ _ _ _ _ (set3c w6 (w.heap.size + 1) (.slice p6 (addX (c.vec, c.cloud) (setD (allDots (canonI c.items)))).1.length q6) (.slice p7 (addX (c.vec, c.cloud) (setD (allDots (canonI c.items)))).2.length q7) (.slice ol n3 cl))
    try rw [← hW9]
    clear hW9 y9;refine bodyPost_ret (v := .tuple #[.agg #[.slice p6 (addX (c.vec, c.cloud) (setD (allDots (canonI c.items)))).1.length q6, .slice p7 (addX (c.vec, c.cloud) (setD (allDots (canonI c.items)))).2.length q7, .slice ol n3 cl], .bool true]) ?_ rfl ⟨_, _, _, by rw [HO1.out], by rw [HR2.out]; exact HCA.out, HBF.out⟩
    rw [results_cell_tmp rfl];go_simp
end Go.Proofs.YtadbmineobldbaaGreatDoor
set_option linter.unusedSimpArgs false
set_option linter.unusedVariables false
set_option maxRecDepth 100000
set_option maxHeartbeats 16000000
namespace Go.Proofs.YtadbmineobldbaaGreatDoor
open Go.RowKit Go.Maps Go.Sort Go.Shelf
theorem dots80 {c : CartD} (h : CL 80 c) : (allDots c.items).length ≤ 6400 := by
 have h3 : ∀ (l : List ItemD), (∀ x ∈ l, x.marks.length ≤ 80) → (allDots l).length ≤ l.length * 80 := fun l => by
  induction l with
  | nil => intro _; simp [allDots]
  | cons x l ih =>
   intro hx;have h4 := ih (fun y hy => hx y (List.mem_cons_of_mem _ hy))
   have h5 := hx x List.mem_cons_self;unfold allDots at h4 ⊢;rw [List.flatMap_cons, List.length_append, List.length_cons, Nat.succ_mul];have h6 : (dotsM x.marks).length ≤ 80 := by unfold dotsM; rw [List.length_map]; exact h5
   omega
 have := h3 c.items h.2.2;have := h.2.1;omega
set_option linter.unusedSimpArgs false in
set_option linter.unusedVariables false in
set_option maxRecDepth 100000 in
set_option maxHeartbeats 16000000 in
theorem l10Canons_any (c : CartD) (xc1 xc2 xc3 : Value) (w : World) (hc : CartA w xc1 xc2 xc3 c) (hG : GlobIs w) :
    Calls Tryz.prog 3 #[.agg #[xc1, xc2, xc3]] w fun e w' => e = .returned (.bool true) ∧ Below w.heap.size w w' := by
  obtain ⟨o1, k1, rfl⟩ := hc.1.slice;obtain ⟨o2, k2, rfl⟩ := hc.2.1.slice;obtain ⟨o3, k3, rfl⟩ := hc.2.2.slice;obtain ⟨n1, hn1⟩ : ∃ n, n = c.vec.length := ⟨_, rfl⟩;obtain ⟨n2, hn2⟩ : ∃ n, n = c.cloud.length := ⟨_, rfl⟩;obtain ⟨n3, hn3⟩ : ∃ n, n = c.items.length := ⟨_, rfl⟩;rw [← hn1, ← hn2, ← hn3] at hc;rw [← hn1, ← hn2, ← hn3];obtain ⟨W0, hW0⟩ : ∃ x, x = w.alloc (.cells #[.slice o1 n1 k1, .slice o2 n2 k2, .slice o3 n3 k3] 28) := ⟨_, rfl⟩;have hs0 : W0.heap.size = w.heap.size + 1 := by rw [hW0, alloc_size]
  have hst0 : Below w.heap.size w W0 := by rw [hW0]; exact (Below.refl _ _).alloc (Nat.le_refl _) _
  have hbb0 : Below w.heap.size w W0 := hst0;have hx0_0 : W0.heap[w.heap.size]? = some (.cells #[.slice o1 n1 k1, .slice o2 n2 k2, .slice o3 n3 k3] 28) := by rw [hW0]; exact alloc_new _ _
  have HC : Hid (∀ wz, Below W0.heap.size W0 wz → (wz.cell? ⟨w.heap.size, 0, none⟩ = some (.slice o1 n1 k1)) ∧ (wz.cell? ⟨w.heap.size, 1, none⟩ = some (.slice o2 n2 k2)) ∧ (wz.cell? ⟨w.heap.size, 2, none⟩ = some (.slice o3 n3 k3))) := Lib.hid (fun wz hz => by
    have z0 := (hz.block _ (lt_of_heap hx0_0)).trans hx0_0;exact ⟨by rw [cell0 z0 0]; rfl, by rw [cell0 z0 1]; rfl, by rw [cell0 z0 2]; rfl⟩)
  have HK0 : Hid (∀ wz, Below W0.heap.size W0 wz → wz.heap[w.heap.size]? = some (.cells #[.slice o1 n1 k1, .slice o2 n2 k2, .slice o3 n3 k3] 28)) := Lib.hid (fun wz hz => (hz.block _ (lt_of_heap hx0_0)).trans hx0_0)
  have HB := Lib.hid hbb0;have HS : Hid (W0.heap.size = w.heap.size + 1) := Lib.hid hs0;have HW : Hid (W0 = w.alloc (.cells #[.slice o1 n1 k1, .slice o2 n2 k2, .slice o3 n3 k3] 28)) := Lib.hid (by rw [hW0])
  have HAc := Lib.hid (hc.below hbb0);have HGL := Lib.hid (hG.below hbb0);have HB0 : Hid (Below W0.heap.size W0 W0) := Lib.hid (Below.refl _ _);clear hW0 hs0 hst0 hx0_0 hbb0 hc hG hn1 hn2 hn3;obtain ⟨c0_0_0, c0_0_1, c0_0_2⟩ := HC.out W0 (Below.refl _ _)
  go_enter Tryz.func3, Tryz.ntmps3
  go_wp2_with fail
  rw [← HW.out];have HX := Lib.hid (l10light_any c _ _ _ W0 (HAc.out.below HB0.out));obtain ⟨r1, hr1⟩ : ∃ r, r = lightC c := ⟨_, rfl⟩;rw [← hr1] at HX;have HRr1 := Lib.hid hr1;clear hr1;refine HX.out.mono ?_;rintro e w1 ⟨rfl, hb⟩;clear HX;have HB1 := Lib.hid (HB0.out.trans (hb.mono HB0.out.size));clear c0_0_0 c0_0_1 c0_0_2;obtain ⟨c1_0_0, c1_0_1, c1_0_2⟩ := HC.out w1 HB1.out;clear hb
  cases r1 with
  | false =>
    have HX := Lib.hid (l10known_any w1 (HGL.out.below HB1.out))
    go_wp2_with fail
    refine HX.out.mono ?_;rintro e wk ⟨rfl, hbk⟩;clear HX;have HBK := Lib.hid (HB1.out.trans (hbk.mono HB1.out.size));clear hbk
    go_wp2_with fail
    go_ret
    exact ⟨rfl, HB.out.trans (HBK.out.mono HB.out.size)⟩
  | true =>
    have HLc := Hd (lightC_CL HRr1.out.symm);have HNc : Hid (∀ x ∈ c.items, x.name.size ≤ 100) := Hd (fun x hx => ((lightC_parts HRr1.out.symm).2.2.2 x hx).1)
    clear HRr1
    cases hk : canonOk c with
    | false =>
      have HP : Hid (canonOk c = false ∧ canonC c = zeroC ∧ canonE c = 2) := Hd (by unfold canonC canonE; rw [hk]; exact ⟨rfl, rfl, rfl⟩)
      clear hk;have HX := Lib.hid (r10Canon_any c _ _ _ w1 (HAc.out.below HB1.out) (HLc.out.sz (by omega)) (Nat.le_trans (dots80 HLc.out) (by omega)))
      rw [HP.out.1, HP.out.2.1] at HX
      go_wp2_with fail
      refine HX.out.mono ?_;rintro e vT ⟨y1, y2, y3, rfl, hown, hb⟩;clear HX;have hRA := hown;obtain ⟨pT1, mT1, lT1, pT2, mT2, lT2, pT3, mT3, lT3, rfl, rfl, rfl, hm1, hm2, hm3⟩ := opn4 hRA;obtain ⟨WT, HWT, HBT0, HSWT, HCT⟩ := box1 vT #[.slice pT1 mT1 lT1, .slice pT2 mT2 lT2, .slice pT3 mT3 lT3] 28;have HXT := Hd (HCT.out WT brf);have HDBT := Hd (btr hb HBT0.out);have HDVT := Hd hb.size;have HCT := Hd (fun wz hz => cel3 (HCT.out wz hz))
      have HAT := Hd (hRA.below HBT0.out);have HOT := Hd (hown.below HBT0.out);have HMT := Hd hm3;have HB2 := Lib.hid (HB1.out.trans ((btr hb HBT0.out).mono HB1.out.size));have HDT2 : Hid (Below WT.heap.size WT WT) := Lib.hid (Below.refl _ _);clear hown hRA hb HBT0 hm1 hm2 hm3;clear c1_0_0 c1_0_1 c1_0_2;obtain ⟨c2_0_0, c2_0_1, c2_0_2⟩ := HC.out WT HB2.out;obtain ⟨eT2_0, eT2_1, eT2_2⟩ := HCT.out WT HDT2.out;have HCN : Hid ((decide (canonC c = zeroC) && (canonE c == 2)) = true) := Hd (by rw [HP.out.2.1, HP.out.2.2]; simp)
      have HX := Lib.hid (l10canon_any c zeroC 2 _ _ _ (.slice none 0 0) (.slice none 0 0) (.slice none 0 0) WT (HAc.out.below HB2.out) ⟨arr_nil, arr_nil, arr_nil⟩ (HLc.out.sz (by omega)) (Nat.le_trans (dots80 HLc.out) (by omega)) (HGL.out.below HB2.out))
      rw [HCN.out] at HX
      go_wp2_with (go_loud (rw [← HWT.out]))
      refine HX.out.mono ?_;rintro e w3 ⟨rfl, hb⟩;clear HX;have HB3 := Lib.hid (HB2.out.trans (hb.mono HB2.out.size));clear c2_0_0 c2_0_1 c2_0_2;obtain ⟨c3_0_0, c3_0_1, c3_0_2⟩ := HC.out w3 HB3.out;have HDT3 := Lib.hid (HDT2.out.trans (hb.mono HDT2.out.size));clear eT2_0 eT2_1 eT2_2;obtain ⟨eT3_0, eT3_1, eT3_2⟩ := HCT.out w3 HDT3.out;clear hb;have HX := Lib.hid (l10known_any w3 (HGL.out.below HB3.out))
      go_wp2_with fail
      refine HX.out.mono ?_;rintro e wk ⟨rfl, hbk⟩;clear HX;have HBK := Lib.hid (HB3.out.trans (hbk.mono HB3.out.size));clear hbk
      go_wp2_with fail
      go_ret
      exact ⟨rfl, HB.out.trans (HBK.out.mono HB.out.size)⟩
    | true =>
      obtain ⟨X, hX⟩ : ∃ X, X = canonOf c := ⟨_, rfl⟩;have HP : Hid (canonOk c = true ∧ canonC c = X ∧ canonE c = 0) := Hd (by unfold canonC canonE; rw [hk, hX]; exact ⟨rfl, rfl, rfl⟩)
      have HVX : Hid (validC X = true) := Hd (by rw [hX]; exact canonOf_valid hk)
      have HNX : Hid (∀ x ∈ X.items, x.name.size ≤ 100) := Hd (fun x hx => Nat.le_trans (oneI_name ((validI_parts (validC_parts HVX.out).2.1).1 x hx)) (by decide))
      clear hk hX;have HX := Lib.hid (r10Canon_any c _ _ _ w1 (HAc.out.below HB1.out) (HLc.out.sz (by omega)) (Nat.le_trans (dots80 HLc.out) (by omega)))
      rw [HP.out.1, HP.out.2.1] at HX
      go_wp2_with fail
      refine HX.out.mono ?_;rintro e vT ⟨y1, y2, y3, rfl, hown, hb⟩;clear HX;have hRA := hown;obtain ⟨pT1, mT1, lT1, pT2, mT2, lT2, pT3, mT3, lT3, rfl, rfl, rfl, hm1, hm2, hm3⟩ := opn4 hRA;obtain ⟨WT, HWT, HBT0, HSWT, HCT⟩ := box1 vT #[.slice pT1 mT1 lT1, .slice pT2 mT2 lT2, .slice pT3 mT3 lT3] 28;have HXT := Hd (HCT.out WT brf);have HDBT := Hd (btr hb HBT0.out);have HDVT := Hd hb.size;have HCT := Hd (fun wz hz => cel3 (HCT.out wz hz))
      have HAT := Hd (hRA.below HBT0.out);have HOT := Hd (hown.below HBT0.out);have HMT := Hd hm3;have HB2 := Lib.hid (HB1.out.trans ((btr hb HBT0.out).mono HB1.out.size));have HDT2 : Hid (Below WT.heap.size WT WT) := Lib.hid (Below.refl _ _);clear hown hRA hb HBT0 hm1 hm2 hm3;clear c1_0_0 c1_0_1 c1_0_2;obtain ⟨c2_0_0, c2_0_1, c2_0_2⟩ := HC.out WT HB2.out;obtain ⟨eT2_0, eT2_1, eT2_2⟩ := HCT.out WT HDT2.out;have HX := Lib.hid (r10Copy_any c _ _ _ WT (HAc.out.below HB2.out) (HLc.out.sz (by omega)))
      go_wp2_with (go_loud (rw [← HWT.out]))
      refine HX.out.mono ?_;rintro e vO ⟨y1, y2, y3, rfl, hown, hb⟩;clear HX;have hRA := hown.cartD HAc.out;obtain ⟨pO1, mO1, lO1, pO2, mO2, lO2, pO3, mO3, lO3, rfl, rfl, rfl, hm1, hm2, hm3⟩ := opn4 hRA;obtain ⟨WO, HWO, HBO0, HSWO, HCO⟩ := box1 vO #[.slice pO1 mO1 lO1, .slice pO2 mO2 lO2, .slice pO3 mO3 lO3] 28;have HXO := Hd (HCO.out WO brf);have HDBO := Hd (btr hb HBO0.out);have HDVO := Hd hb.size;have HCO := Hd (fun wz hz => cel3 (HCO.out wz hz))
      have HAO := Hd (hRA.below HBO0.out);have HOO := Hd (hown.below HBO0.out);have HMO := Hd hm3;have HB3 := Lib.hid (HB2.out.trans ((btr hb HBO0.out).mono HB2.out.size));have HDT3 := Lib.hid (HDT2.out.trans ((btr hb HBO0.out).mono HDT2.out.size));have HDO3 : Hid (Below WO.heap.size WO WO) := Lib.hid (Below.refl _ _);clear hown hRA hb HBO0 hm1 hm2 hm3;clear c2_0_0 c2_0_1 c2_0_2;obtain ⟨c3_0_0, c3_0_1, c3_0_2⟩ := HC.out WO HB3.out;clear eT2_0 eT2_1 eT2_2;obtain ⟨eT3_0, eT3_1, eT3_2⟩ := HCT.out WO HDT3.out;obtain ⟨eO3_0, eO3_1, eO3_2⟩ := HCO.out WO HDO3.out;have HX := Lib.hid (cartCanon_any c _ _ _ WO (HAO.out.below HDO3.out) (HLc.out.sz (by omega)) (Nat.le_trans (dots80 HLc.out) (by omega)) (HGL.out.below HB3.out))
      rw [HP.out.2.1, HP.out.2.2] at HX
      go_wp2_with (go_loud (rw [← HWO.out]))
      refine HX.out.mono ?_;rintro e vY ⟨y1, y2, y3, rfl, hown, hb⟩;clear HX;have hRA := hown.cart HVX.out;obtain ⟨pY1, mY1, lY1, pY2, mY2, lY2, pY3, mY3, lY3, rfl, rfl, rfl, hm1, hm2, hm3⟩ := opn4 hRA;obtain ⟨WY, HWY, HBY0, HSWY, HCY⟩ := box1 vY #[.slice pY1 mY1 lY1, .slice pY2 mY2 lY2, .slice pY3 mY3 lY3] 28;have HXY := Hd (HCY.out WY brf);have HDBY := Hd (btr hb HBY0.out);have HDVY := Hd hb.size;have HCY := Hd (fun wz hz => cel3 (HCY.out wz hz))
      have HAY := Hd (hRA.below HBY0.out);have HOY := Hd (hown.below HBY0.out);have HMY := Hd hm3;have HB4 := Lib.hid (HB3.out.trans ((btr hb HBY0.out).mono HB3.out.size));have HDT4 := Lib.hid (HDT3.out.trans ((btr hb HBY0.out).mono HDT3.out.size));have HDO4 := Lib.hid (HDO3.out.trans ((btr hb HBY0.out).mono HDO3.out.size));have HDY4 : Hid (Below WY.heap.size WY WY) := Lib.hid (Below.refl _ _);clear hown hRA hb HBY0 hm1 hm2 hm3;clear c3_0_0 c3_0_1 c3_0_2;obtain ⟨c4_0_0, c4_0_1, c4_0_2⟩ := HC.out WY HB4.out;clear eT3_0 eT3_1 eT3_2;obtain ⟨eT4_0, eT4_1, eT4_2⟩ := HCT.out WY HDT4.out;clear eO3_0 eO3_1 eO3_2;obtain ⟨eO4_0, eO4_1, eO4_2⟩ := HCO.out WY HDO4.out;obtain ⟨eY4_0, eY4_1, eY4_2⟩ := HCY.out WY HDY4.out;have HX := Lib.hid (r10Equal_any X X _ _ _ _ _ _ WY (HAY.out.below HDY4.out) (HAT.out.below HDT4.out));rw [decide_eq_true (rfl : X = X)] at HX
      go_wp2_with (go_loud (rw [← HWY.out]))
      refine HX.out.mono ?_;rintro e w5 ⟨rfl, hb⟩;clear HX;have HB5 := Lib.hid (HB4.out.trans (hb.mono HB4.out.size));clear c4_0_0 c4_0_1 c4_0_2;obtain ⟨c5_0_0, c5_0_1, c5_0_2⟩ := HC.out w5 HB5.out;have HDT5 := Lib.hid (HDT4.out.trans (hb.mono HDT4.out.size));clear eT4_0 eT4_1 eT4_2;obtain ⟨eT5_0, eT5_1, eT5_2⟩ := HCT.out w5 HDT5.out;have HDO5 := Lib.hid (HDO4.out.trans (hb.mono HDO4.out.size));clear eO4_0 eO4_1 eO4_2;obtain ⟨eO5_0, eO5_1, eO5_2⟩ := HCO.out w5 HDO5.out;have HDY5 := Lib.hid (HDY4.out.trans (hb.mono HDY4.out.size));clear eY4_0 eY4_1 eY4_2;obtain ⟨eY5_0, eY5_1, eY5_2⟩ := HCY.out w5 HDY5.out;clear hb;have hpath := btr HDBY.out HDY5.out;have HSP := Hd (spoil_own10 (HOY.out.below HDY5.out) HNX.out hpath.size);have HPATH := Hd hpath;clear hpath
      go_wp2_with fail
      refine HSP.out.mono ?_;rintro e w99 ⟨rfl, hb9⟩;have hb : Below WO.heap.size WO w99 := HPATH.out.trans hb9;clear hb9 HSP c5_0_0 c5_0_1 c5_0_2 eT5_0 eT5_1 eT5_2 eO5_0 eO5_1 eO5_2 eY5_0 eY5_1 eY5_2;have c0_ := trivial;have eT_ := trivial;have eO_ := trivial;have HB6 := Lib.hid (HB3.out.trans (hb.mono HB3.out.size));clear c0_;obtain ⟨c6_0_0, c6_0_1, c6_0_2⟩ := HC.out w99 HB6.out;have HDT6 := Lib.hid (HDT3.out.trans (hb.mono HDT3.out.size));clear eT_;obtain ⟨eT6_0, eT6_1, eT6_2⟩ := HCT.out w99 HDT6.out;have HDO6 := Lib.hid (HDO3.out.trans (hb.mono HDO3.out.size));clear eO_;obtain ⟨eO6_0, eO6_1, eO6_2⟩ := HCO.out w99 HDO6.out;clear hb;have HX := Lib.hid (r10Equal_any c c _ _ _ _ _ _ w99 (HAO.out.below HDO6.out) (HAc.out.below HB6.out));rw [decide_eq_true (rfl : c = c)] at HX
      go_wp2_with fail
      refine HX.out.mono ?_;rintro e w7 ⟨rfl, hb⟩;clear HX;have HB7 := Lib.hid (HB6.out.trans (hb.mono HB6.out.size));clear c6_0_0 c6_0_1 c6_0_2;obtain ⟨c7_0_0, c7_0_1, c7_0_2⟩ := HC.out w7 HB7.out;have HDT7 := Lib.hid (HDT6.out.trans (hb.mono HDT6.out.size));clear eT6_0 eT6_1 eT6_2;obtain ⟨eT7_0, eT7_1, eT7_2⟩ := HCT.out w7 HDT7.out;have HDO7 := Lib.hid (HDO6.out.trans (hb.mono HDO6.out.size));clear eO6_0 eO6_1 eO6_2;obtain ⟨eO7_0, eO7_1, eO7_2⟩ := HCO.out w7 HDO7.out;clear hb;have HX := Lib.hid (l10known_any w7 (HGL.out.below HB7.out))
      go_wp2_with fail
      refine HX.out.mono ?_;rintro e wk ⟨rfl, hbk⟩;clear HX;have HBK := Lib.hid (HB7.out.trans (hbk.mono HB7.out.size));clear hbk
      go_wp2_with fail
      go_ret
      exact ⟨rfl, HB.out.trans (HBK.out.mono HB.out.size)⟩
end Go.Proofs.YtadbmineobldbaaGreatDoor
