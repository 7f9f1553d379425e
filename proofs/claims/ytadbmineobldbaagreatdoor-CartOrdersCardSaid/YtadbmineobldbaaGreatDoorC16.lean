/- join.item walked. -/
import Derived.Test.YtadbmineobldbaaGreatDoorC14
import Derived.Test.YtadbmineobldbaaGreatDoorLaysM
import Derived.Test.YtadbmineobldbaaGreatDoorShelf
import Derived.Test.YtadbmineobldbaaGreatDoorIt10
set_option linter.unusedSimpArgs false
set_option linter.unusedVariables false
set_option maxRecDepth 100000
set_option maxHeartbeats 8000000
namespace Go.Proofs.YtadbmineobldbaaGreatDoor
open Go.RowKit Go.Maps Go.Sort Go.Shelf

theorem Grown.trans {a b c : World} (h : Grown a b) (k : Grown b c) : Grown a c := by
 obtain ⟨q, os, rfl⟩ := h;obtain ⟨q2, os2, rfl⟩ := k;refine ⟨q + q2, os ++ os2, ?_⟩;unfold Go.Sort.grow World.drewN
 simp [Array.append_assoc, Nat.add_assoc]
def mdc (a b : MarkD) : Int := dcmp a.dot b.dot
theorem ltOf_mdc (a b : MarkD) : ltOf mdc a b = dlt a.dot b.dot := dcmp_lt a.dot b.dot
theorem swoM : SWO (ltOf mdc) where
 irrefl x := by rw [ltOf_mdc]; exact dlt_irrefl _
 trans x y z h k := by
  rw [ltOf_mdc] at *
  exact dlt_trans h k
 ntrans x y z h k := by
  rw [ltOf_mdc] at *
  rw [← Bool.not_eq_true, dlt_iff] at *
  omega
theorem cartCanon2_any (a b : MarkD) (w : World) : Calls Tryz.prog 51 #[markV a, markV b] w fun e w' => e = .returned (.int .i64 (dcmp a.dot b.dot)) ∧ Grown w w' := by
 obtain ⟨W2, hW2⟩ : ∃ W2, W2 = (w.alloc (.cells #[.int .i64 a.dot.rep, .int .i64 a.dot.ctr, .int .i64 a.qty, .int .u64 a.time] 65)).alloc (.cells #[.int .i64 b.dot.rep, .int .i64 b.dot.ctr, .int .i64 b.qty, .int .u64 b.time] 65) := ⟨_, rfl⟩;have hgr : Grown w W2 := by rw [hW2]; exact ⟨0, #[_, _], by rw [Go.Sort.alloc_eq_grow, Go.Sort.alloc_eq_grow, Go.Sort.grow_grow]; rfl⟩
 have HG := Hd hgr;have HC := Hd (dotCompare_any a.dot b.dot W2);have HW := Hd hW2;unfold dotV at HC;unfold markV;clear hgr hW2
 go_enter Tryz.func51, Tryz.ntmps51
 go_wp2_with fail
 rw [← HW.out];refine HC.out.mono ?_;rintro e w3 ⟨rfl, hg3⟩;have HGF := Hd (HG.out.trans hg3);clear hg3
 go_wp2_with fail
 go_ret
 exact ⟨rfl, HGF.out⟩
def SortMPost (w : World) (g cap : Nat) (ps : List MarkD) (e : Ending) (w' : World) : Prop :=
 e = .returned (.tuple #[]) ∧ ∃ qs : List MarkD, qs.Perm ps ∧ qs.Pairwise leM ∧ EMark.In w' g cap qs ∧ (∀ B w0, B ≤ g → Below B w0 w → Below B w0 w') ∧ ∀ b, b < w.heap.size → b ≠ g → w'.heap[b]? = w.heap[b]?
theorem sortMarks_any (f : Nat) (eg : ∀ args w, (callFunc f args).run Tryz.prog w = .ok (.enter f args) w) (hf : ∀ (a b : MarkD) (w : World), Calls Tryz.prog f #[markV a, markV b] w fun e w' => e = .returned (.int .i64 (dcmp a.dot b.dot)) ∧ Grown w w')
  (g cap : Nat) (ps : List MarkD) (w : World) (h : EMark.In w g cap ps) (hl : ps.length ≤ 10000000) :
  Calls Tryz.prog 50 #[.slice (some ⟨g, 0, none⟩) ps.length cap, .func (.func f) #[] #[]] w (SortMPost w g cap ps) := by
 obtain ⟨C, h1, _⟩ := id h;have hcl : CmpLays Tryz.prog f #[] encM 4 mdc g 0 ps.toArray.size w := fun _ _ _ _ x y => hf x y _
 have hcon := AnyQ.slices_SortFunc Tryz.sortMark 4 Tryz.isAgg65 Tryz.sizeOf65 encM (fun _ => rfl) (fun x => EMark.one x) mdc swoM f #[] g 0 cap ps.toArray w eg hcl h.holds (lt_of_heap h1) (by simp; omega)
 change Calls Tryz.prog 50 _ _ _ at hcon;refine hcon.mono fun _ _ ⟨he, d', n, os, hp, hs, hw⟩ => ⟨he, d'.toList, ?_, ?_, ?_, ?_, ?_⟩
 ·obtain ⟨p1, _, p3⟩ := hp
  have e1 : d'.extract 0 ps.toArray.size = d' := by rw [← p1]; exact Array.extract_size
  rw [e1, Array.extract_size] at p3;exact p3
 ·obtain ⟨p1, _⟩ := hp
  rw [List.pairwise_iff_getElem];intro i j hi hj hij;have hj2 : j < d'.size := by simpa using hj
  have := hs i j (Nat.zero_le _) hij (by omega)
  rw [ltOf_mdc, getElem!_pos d' j hj2, getElem!_pos d' i (by omega)] at this
  exact this
 ·rw [hw]
  obtain ⟨p1, _⟩ := hp;have := h.sorted d'.toList (by simpa using p1) n os
  rw [Array.toArray_toList] at this;exact this
 ·rw [hw]; exact (heap_sorted h1 encM 4 n 0 d' os).2
 ·rw [hw]; exact fun b hb hg => heap_sorted_ot encM 4 n 0 d' os b hb hg
theorem sortMarks_none (f : Nat) (a : Option Addr) (c : Nat) (w : World) : Calls Tryz.prog 50 #[.slice a 0 c, .func (.func f) #[] #[]] w fun e w' => e = .returned (.tuple #[]) ∧ w' = w :=
 AnyF.slices_SortFunc_none Tryz.sortMark a c _ w

instance : Inhabited ByteArray := ⟨⟨#[]⟩⟩
end Go.Proofs.YtadbmineobldbaaGreatDoor
namespace Go.Proofs.YtadbmineobldbaaGreatDoor
open Go.RowKit Go.Maps Go.Sort Go.Shelf

theorem sortMarks_row (f : Nat) (eg : ∀ args w, (callFunc f args).run Tryz.prog w = .ok (.enter f args) w) (hf : ∀ (a b : MarkD) (w : World), Calls Tryz.prog f #[markV a, markV b] w fun e w' => e = .returned (.int .i64 (dcmp a.dot b.dot)) ∧ Grown w w')
  (base : Nat) (v : Value) (ps : List MarkD) (w : World) (h : EMark.Row base w v ps) (hl : ps.length ≤ 10000000) :
  Calls Tryz.prog 50 #[v, .func (.func f) #[] #[]] w fun e w' => e = .returned (.tuple #[]) ∧ ∃ qs : List MarkD, qs.Perm ps ∧ qs.Pairwise leM ∧ EMark.Row base w' v qs ∧ (∀ B w0, B ≤ base → Below B w0 w → Below B w0 w') ∧ ∀ b, b < w.heap.size → v.ownBlock ≠ some b → w'.heap[b]? = w.heap[b]? := by
 by_cases hn : ps = []
 ·subst hn
  obtain ⟨a, c, rfl⟩ := h.slice;exact (sortMarks_none f a c w).mono fun e w' ⟨h1, h2⟩ => ⟨h1, [], List.Perm.refl _, List.Pairwise.nil, by rw [h2]; exact h, fun _ _ _ hb => by rw [h2]; exact hb, fun _ _ _ => by rw [h2]⟩
 ·obtain ⟨g, cap, rfl, hin, hg⟩ := h.some hn
  refine (sortMarks_any f eg hf g cap ps w hin hl).mono fun e w' ⟨h1, qs, h2, h3, h4, h5, h6⟩ => ⟨h1, qs, h2, h3, ?_, fun B w0 hB hb => h5 B w0 (Nat.le_trans hB hg) hb, fun b hb hne => h6 b hb (fun e => hne (by rw [e]; rfl))⟩
  have := h4.own hg;rw [h2.length_eq] at this;exact this
theorem marksOf_MI {w : World} {v : Value} {l : List ItemD} (h : Arr ItemR 2 w v l) (nm : ByteArray) : ∀ m ∈ marksOf l nm, MI m := by
 intro m hm;unfold marksOf findX at hm
 rcases hf : l.find? (fun x => decide (x.name = nm)) with _ | x
 ·rw [hf] at hm; simp at hm
 ·rw [hf] at hm
  have hx := List.mem_of_find?_eq_some hf;obtain ⟨i, hi, rfl⟩ := List.mem_iff_getElem.1 hx;obtain ⟨o, c, -, hel⟩ := h.itemAt;obtain ⟨b, off, mv, -, -, -, -, -, hma⟩ := hel i hi;exact hma.marksMI m hm
end Go.Proofs.YtadbmineobldbaaGreatDoor

