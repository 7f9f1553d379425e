/- join.item walked. -/
import Derived.Shelf.SlSortCmp.NoneTotal
import Derived.Test.YtjoljfnlkddfbaaGreatDoorProg
import Derived.Test.YtjoljfnlkddfbaaGreatDoorC14
import Derived.Test.YtjoljfnlkddfbaaGreatDoorShelf
import Derived.Test.YtjoljfnlkddfbaaGreatDoorIt10
namespace Go.Proofs
open Go.Shelf
def Tryz.sortMark_ren : Go.Shelf.Ren := ⟨fun | 6 => 98 | 15 => 91 | 14 => 150 | 28 => 140 | 29 => 141 | 20 => 184 | 21 => 185 | 22 => 186 | 23 => 187 | 24 => 188 | 25 => 189 | 26 => 190 | 27 => 191 | 46 => 208 | 47 => 177 | 48 => 178 | 49 => 209 | 50 => 210 | 57 => 214 | n => n, fun | 22 => 53 | 24 => 85 | 25 => 145 | 3 => 3 | 39 => 136 | 0 => 0 | 53 => 178 | 55 => 68 | 4 => 4 | 46 => 171 | 45 => 170 | 50 => 175 | 5 => 5 | 9 => 9 | 66 => 203 | 70 => 207 | 76 => 232 | 77 => 233 | n => n, fun | n => n⟩
theorem Tryz.sortMark : Go.Proofs.SlLaysF0.n6 Tryz.prog Tryz.sortMark_ren := {
  mixed := by kernel_rfl
  f6 := ⟨Tryz.f98.name, by decide, Tryz.func98.trans (congrArg some (by kernel_rfl))⟩
  f14 := ⟨Tryz.f150.name, by decide, Tryz.func150.trans (congrArg some (by kernel_rfl))⟩
  f15 := Tryz.func91.trans (congrArg some (by kernel_rfl))
  f20 := ⟨Tryz.f184.name, by decide, Tryz.func184.trans (congrArg some (by kernel_rfl))⟩
  f21 := ⟨Tryz.f185.name, by decide, Tryz.func185.trans (congrArg some (by kernel_rfl))⟩
  f22 := ⟨Tryz.f186.name, by decide, Tryz.func186.trans (congrArg some (by kernel_rfl))⟩
  f23 := ⟨Tryz.f187.name, by decide, Tryz.func187.trans (congrArg some (by kernel_rfl))⟩
  f24 := ⟨Tryz.f188.name, by decide, Tryz.func188.trans (congrArg some (by kernel_rfl))⟩
  f25 := ⟨Tryz.f189.name, by decide, Tryz.func189.trans (congrArg some (by kernel_rfl))⟩
  f26 := ⟨Tryz.f190.name, by decide, Tryz.func190.trans (congrArg some (by kernel_rfl))⟩
  f27 := ⟨Tryz.f191.name, by decide, Tryz.func191.trans (congrArg some (by kernel_rfl))⟩
  f28 := Tryz.func140.trans (congrArg some (by kernel_rfl))
  f29 := Tryz.func141.trans (congrArg some (by kernel_rfl))
  f46 := ⟨Tryz.f208.name, by decide, Tryz.func208.trans (congrArg some (by kernel_rfl))⟩
  f47 := Tryz.func177.trans (congrArg some (by kernel_rfl))
  f48 := Tryz.func178.trans (congrArg some (by kernel_rfl))
  f49 := ⟨Tryz.f209.name, by decide, Tryz.func209.trans (congrArg some (by kernel_rfl))⟩
  f50 := ⟨Tryz.f210.name, by decide, Tryz.func210.trans (congrArg some (by kernel_rfl))⟩
  f57 := ⟨Tryz.f214.name, by decide, Tryz.func214.trans (congrArg some (by kernel_rfl))⟩
  t0 := Tryz.underlying0
  a0 := Tryz.isAgg0
  z0 := Tryz.sizeOf0
  v0 := Tryz.zeroValue0
  t3 := Tryz.underlying3
  a3 := Tryz.isAgg3
  z3 := Tryz.sizeOf3
  v3 := Tryz.zeroValue3
  t4 := Tryz.underlying4
  a4 := Tryz.isAgg4
  z4 := Tryz.sizeOf4
  v4 := Tryz.zeroValue4
  t5 := Tryz.underlying5
  a5 := Tryz.isAgg5
  z5 := Tryz.sizeOf5
  v5 := Tryz.zeroValue5
  t9 := Tryz.underlying9
  a9 := Tryz.isAgg9
  z9 := Tryz.sizeOf9
  v9 := Tryz.zeroValue9
  t22 := Tryz.underlying53
  a22 := Tryz.isAgg53
  z22 := Tryz.sizeOf53
  v22 := Tryz.zeroValue53
  t25 := Tryz.underlying145
  a25 := Tryz.isAgg145
  z25 := Tryz.sizeOf145
  v25 := Tryz.zeroValue145
  t39 := Tryz.underlying136
  a39 := Tryz.isAgg136
  z39 := Tryz.sizeOf136
  v39 := Tryz.zeroValue136
  t45 := Tryz.underlying170
  a45 := Tryz.isAgg170
  z45 := Tryz.sizeOf170
  v45 := Tryz.zeroValue170
  t46 := Tryz.underlying171
  a46 := Tryz.isAgg171
  z46 := Tryz.sizeOf171
  v46 := Tryz.zeroValue171
  t50 := Tryz.underlying175
  a50 := Tryz.isAgg175
  z50 := Tryz.sizeOf175
  v50 := Tryz.zeroValue175
  t53 := Tryz.underlying178
  a53 := Tryz.isAgg178
  z53 := Tryz.sizeOf178
  v53 := Tryz.zeroValue178
  t55 := Tryz.underlying68
  a55 := Tryz.isAgg68
  z55 := Tryz.sizeOf68
  v55 := Tryz.zeroValue68
  t66 := Tryz.underlying203
  a66 := Tryz.isAgg203
  z66 := Tryz.sizeOf203
  v66 := Tryz.zeroValue203
  t70 := Tryz.underlying207
  a70 := Tryz.isAgg207
  z70 := Tryz.sizeOf207
  v70 := Tryz.zeroValue207
  t76 := Tryz.underlying232
  a76 := Tryz.isAgg232
  z76 := Tryz.sizeOf232
  v76 := Tryz.zeroValue232
  t77 := Tryz.underlying233
  a77 := Tryz.isAgg233
  z77 := Tryz.sizeOf233
  v77 := Tryz.zeroValue233 }
end Go.Proofs
set_option linter.unusedSimpArgs false
set_option linter.unusedVariables false
set_option maxRecDepth 100000
set_option maxHeartbeats 8000000
namespace Go.Proofs.YtjoljfnlkddfbaaGreatDoor
open Go.RowKit Go.Maps Go.Sort Go.Shelf

theorem Grown.trans {a b c : World} (h : Grown a b) (k : Grown b c) : Grown a c := by
 obtain ⟨q, os, rfl⟩ := h
 obtain ⟨q2, os2, rfl⟩ := k
 refine ⟨q + q2, os ++ os2, ?_⟩
 unfold Go.Sort.grow World.drewN
 simp [Array.append_assoc, Nat.add_assoc]
def mdc (a b : MarkD) : Int := dcmp a.dot b.dot
theorem ltOf_mdc (a b : MarkD) : ltOf mdc a b = dlt a.dot b.dot := dcmp_lt a.dot b.dot
theorem swoM : SWO (ltOf mdc) where
 irrefl x := by rw [ltOf_mdc]; exact dlt_irrefl _
 trans x y z h k := by
  rw [ltOf_mdc] at *
  exact dlt_trans h k
 ntrans x y z h k := by
  rw [ltOf_mdc] at *
  rw [← Bool.not_eq_true, dlt_iff] at *
  omega
theorem joinItem1_any (a b : MarkD) (w : World) : Calls Tryz.prog 99 #[markV a, markV b] w fun e w' => e = .returned (.int .i64 (dcmp a.dot b.dot)) ∧ Grown w w' := by
 obtain ⟨W2, hW2⟩ : ∃ W2, W2 = (w.alloc (.cells #[.int .i64 a.dot.rep, .int .i64 a.dot.ctr, .int .i64 a.qty, .int .u64 a.time] 85)).alloc (.cells #[.int .i64 b.dot.rep, .int .i64 b.dot.ctr, .int .i64 b.qty, .int .u64 b.time] 85) := ⟨_, rfl⟩
 have hgr : Grown w W2 := by rw [hW2]; exact ⟨0, #[_, _], by rw [Go.Sort.alloc_eq_grow, Go.Sort.alloc_eq_grow, Go.Sort.grow_grow]; rfl⟩
 have HG := Hd hgr
 have HC := Hd (dotCompare_any a.dot b.dot W2)
 have HW := Hd hW2
 unfold dotV at HC
 unfold markV
 clear hgr hW2
 go_enter Tryz.func99, Tryz.ntmps99
 go_wp2_with fail
 rw [← HW.out]
 refine HC.out.mono ?_
 rintro e w3 ⟨rfl, hg3⟩
 have HGF := Hd (HG.out.trans hg3)
 clear hg3
 go_wp2_with fail
 go_ret
 exact ⟨rfl, HGF.out⟩
def SortMPost (w : World) (g cap : Nat) (ps : List MarkD) (e : Ending) (w' : World) : Prop :=
 e = .returned (.tuple #[]) ∧ ∃ qs : List MarkD, qs.Perm ps ∧ qs.Pairwise leM ∧ EMark.In w' g cap qs ∧ (∀ B w0, B ≤ g → Below B w0 w → Below B w0 w') ∧ ∀ b, b < w.heap.size → b ≠ g → w'.heap[b]? = w.heap[b]?
theorem sortMarks_any (f : Nat) (eg : ∀ args w, (callFunc f args).run Tryz.prog w = .ok (.enter f args) w) (hf : ∀ (a b : MarkD) (w : World), Calls Tryz.prog f #[markV a, markV b] w fun e w' => e = .returned (.int .i64 (dcmp a.dot b.dot)) ∧ Grown w w')
  (g cap : Nat) (ps : List MarkD) (w : World) (h : EMark.In w g cap ps) (hl : ps.length ≤ 10000000) :
  Calls Tryz.prog 98 #[.slice (some ⟨g, 0, none⟩) ps.length cap, .func (.func f) #[] #[]] w (SortMPost w g cap ps) := by
 obtain ⟨C, h1, _⟩ := id h
 have hcl : CmpLays Tryz.prog f #[] encM 4 mdc g 0 ps.toArray.size w := fun _ _ _ _ x y => hf x y _
 have hcon := AnyQ.slices_SortFunc Tryz.sortMark 4 Tryz.isAgg85 Tryz.sizeOf85 encM (fun _ => rfl) (fun x => EMark.one x) mdc swoM f #[] g 0 cap ps.toArray w eg hcl h.holds (lt_of_heap h1) (by simp; omega)
 change Calls Tryz.prog 98 _ _ _ at hcon
 refine hcon.mono fun _ _ ⟨he, d', n, os, hp, hs, hw⟩ => ⟨he, d'.toList, ?_, ?_, ?_, ?_, ?_⟩
 ·obtain ⟨p1, _, p3⟩ := hp
  have e1 : d'.extract 0 ps.toArray.size = d' := by rw [← p1]; exact Array.extract_size
  rw [e1, Array.extract_size] at p3
  exact p3
 ·obtain ⟨p1, _⟩ := hp
  rw [List.pairwise_iff_getElem]
  intro i j hi hj hij
  have hj2 : j < d'.size := by simpa using hj
  have := hs i j (Nat.zero_le _) hij (by omega)
  rw [ltOf_mdc, getElem!_pos d' j hj2, getElem!_pos d' i (by omega)] at this
  exact this
 ·rw [hw]
  obtain ⟨p1, _⟩ := hp
  have := h.sorted d'.toList (by simpa using p1) n os
  rw [Array.toArray_toList] at this
  exact this
 ·rw [hw]; exact (heap_sorted h1 encM 4 n 0 d' os).2
 ·rw [hw]; exact fun b hb hg => heap_sorted_ot encM 4 n 0 d' os b hb hg
theorem sortMarks_none (f : Nat) (a : Option Addr) (c : Nat) (w : World) : Calls Tryz.prog 98 #[.slice a 0 c, .func (.func f) #[] #[]] w fun e w' => e = .returned (.tuple #[]) ∧ w' = w :=
 AnyF.slices_SortFunc_none Tryz.sortMark a c _ w

/-! ### Strings -/
def encS (s : ByteArray) : Value := .string s
theorem ltOf_scmp (a b : ByteArray) : ltOf scmp a b = decide (ltK a b) := by
 show decide (scmp a b < 0) = _
 congr 1
 unfold scmp
 apply propext
 split
 ·simp_all
 ·split <;> simp_all
theorem swoS : SWO (ltOf scmp) where
 irrefl x := by rw [ltOf_scmp]; exact decide_eq_false (ltK_irrefl _)
 trans x y z h k := by
  rw [ltOf_scmp] at *
  exact decide_eq_true (ltK_trans (of_decide_eq_true h) (of_decide_eq_true k))
 ntrans x y z h k := by
  rw [ltOf_scmp] at *
  refine decide_eq_false (fun h3 => ?_)
  have h1 := of_decide_eq_false h
  have h2 := of_decide_eq_false k
  by_cases e : ltK y x
  ·exact h2 (ltK_trans e h3)
  ·rw [ltK_total h1 e] at h3; exact h2 h3
instance : Inhabited ByteArray := ⟨⟨#[]⟩⟩
theorem flatS_get (d : Array ByteArray) (t : Nat) (h : t < d.size) : (flatK EStr.enc 1 d)[t]! = encS d[t]! := by
 rw [get_flatK _ _ _ _ (by omega)]
 simp [EStr, encS, Nat.mod_one]
theorem putCells_S (d : Array ByteArray) : putCells encS 0 d = putCells id 0 (flatK EStr.enc 1 d) := by
 funext C
 unfold putCells
 apply Array.ext
 ·simp
 ·intro i h1 h2
  simp only [Array.getElem_mapIdx, size_flatK, Nat.mul_one]
  by_cases hi : i < d.size
  ·rw [if_pos ⟨Nat.zero_le _, by omega⟩, if_pos ⟨Nat.zero_le _, by omega⟩, Nat.sub_zero, flatS_get _ _ hi]
   rfl
  ·rw [if_neg (fun h => hi (by omega)), if_neg (fun h => hi (by omega))]
theorem sortWorld_S (w : World) (g n : Nat) (d : Array ByteArray) (os : Array Obj) : sortWorld encS w g 0 n d os = sortWorldK EStr.enc 1 w g 0 n d os := by
 unfold sortWorld sortWorldK putRow putRowK
 rw [putCells_S]
 rfl
def SortSPost (w : World) (g cap : Nat) (ps : List ByteArray) (e : Ending) (w' : World) : Prop :=
 e = .returned (.tuple #[]) ∧ ∃ qs : List ByteArray, qs.Perm ps ∧ qs.Pairwise (fun a b => ¬ ltK b a) ∧ EStr.In w' g cap qs ∧ (∀ B w0, B ≤ g → Below B w0 w → Below B w0 w')
theorem sortStrs_any (g cap : Nat) (ps : List ByteArray) (w : World) (h : EStr.In w g cap ps) (hl : ps.length ≤ 10000000) :
  Calls Tryz.prog 56 #[.slice (some ⟨g, 0, none⟩) ps.length cap, .func (.func 57) #[] #[]] w (SortSPost w g cap ps) := by
 obtain ⟨C, h1, _⟩ := id h
 have eg : ∀ args w, (callFunc 57 args).run Tryz.prog w = .ok (.enter 57 args) w := enters_of Tryz.func57 (by kernel_rfl) rfl
 have hcl : CmpLays1 Tryz.prog 57 #[] encS scmp g 0 ps.toArray.size w := fun m os dk _ x y => (cmpStr_any x y _).mono fun e w' ⟨h1, h2⟩ => ⟨h1, 0, #[], by rw [h2, grow_empty]; rfl⟩
 have hho : Holds encS w g 0 ps.toArray := fun j hj => by
  have := h.holds j (by rw [size_flatK]; show j < ps.toArray.size * 1; omega)
  rw [show (flatK EStr.enc EStr.k ps.toArray)[j]! = encS ps.toArray[j]! from flatS_get _ _ hj] at this
  exact this
 have hcon := Tryz.slices_SortFunc encS (fun _ => rfl) scmp swoS 57 #[] g 0 cap ps.toArray w eg hcl hho (lt_of_heap h1) (by simp; omega)
 refine hcon.mono fun _ _ ⟨he, d', n, os, hp, hs, hw⟩ => ⟨he, d'.toList, ?_, ?_, ?_, ?_⟩
 ·obtain ⟨p1, _, p3⟩ := hp
  have e1 : d'.extract 0 ps.toArray.size = d' := by rw [← p1]; exact Array.extract_size
  rw [e1, Array.extract_size] at p3
  exact p3
 ·obtain ⟨p1, _⟩ := hp
  rw [List.pairwise_iff_getElem]
  intro i j hi hj hij
  have hj2 : j < d'.size := by simpa using hj
  have := hs i j (Nat.zero_le _) hij (by omega)
  rw [ltOf_scmp, getElem!_pos d' j hj2, getElem!_pos d' i (by omega)] at this
  exact of_decide_eq_false this
 ·rw [hw, sortWorld_S]
  obtain ⟨p1, _⟩ := hp
  have := h.sorted d'.toList (by simpa using p1) n os
  rw [Array.toArray_toList] at this
  exact this
 ·rw [hw, sortWorld_S]; exact (heap_sorted h1 EStr.enc 1 n 0 d' os).2
theorem sortStrs_none (a : Option Addr) (c : Nat) (f : Value) (w : World) : Calls Tryz.prog 56 #[.slice a 0 c, f] w fun e w' => e = .returned (.tuple #[]) ∧ w' = w :=
 Tryz.slices_SortFunc_none (α := Nat) a c f w
end Go.Proofs.YtjoljfnlkddfbaaGreatDoor
namespace Go.Proofs.YtjoljfnlkddfbaaGreatDoor
open Go.RowKit Go.Maps Go.Sort Go.Shelf

theorem JM_unique {a b : CartD} (ha : validC a = true) (hb : validC b = true) {nm : ByteArray} {m k : MarkD} (h1 : JM a b nm m) (h2 : JM a b nm k) (h : m.dot = k.dot) : m = k := by
 have e1 := (JM_iff ha hb).1 h1
 have e2 := (JM_iff ha hb).1 h2
 rw [h, e2] at e1
 exact (Option.some.inj (Option.some.inj e1)).symm
theorem compact_item {a b : CartD} (ha : validC a = true) (hb : validC b = true) {nm : ByteArray} {qs : List MarkD} (hp : qs.Perm (stayM (marksOf a.items nm) (marksOf b.items nm) b ++ stayM (marksOf b.items nm) (marksOf a.items nm) a)) (hs : qs.Pairwise leM) : compactL qs = (itemR a b nm).marks := by
 have hJ : ∀ m, m ∈ qs ↔ JM a b nm m := fun m => by rw [hp.mem_iff, List.mem_append]; rfl
 have hpw : qs.Pairwise (fun a b => a = b ∨ dlt a.dot b.dot = true) := by
  refine List.Pairwise.imp_of_mem (fun {x y} hx hy h => ?_) hs
  rcases hd : dlt x.dot y.dot with _ | _
  ·exact Or.inl (JM_unique ha hb ((hJ x).1 hx) ((hJ y).1 hy) (dlt_total hd h))
  ·exact Or.inr rfl
 have hr := compactL_rising (r := fun a b : MarkD => dlt a.dot b.dot = true) (fun _ _ _ h k => dlt_trans h k) qs hpw
 refine marks_ext (by unfold dotsM SS; rw [List.pairwise_map]; exact hr) (itemR_ss a b nm) (fun m => ?_)
 rw [compactL_mem, hJ, itemR_mem ha hb]
theorem sortMarks_row (f : Nat) (eg : ∀ args w, (callFunc f args).run Tryz.prog w = .ok (.enter f args) w) (hf : ∀ (a b : MarkD) (w : World), Calls Tryz.prog f #[markV a, markV b] w fun e w' => e = .returned (.int .i64 (dcmp a.dot b.dot)) ∧ Grown w w')
  (base : Nat) (v : Value) (ps : List MarkD) (w : World) (h : EMark.Row base w v ps) (hl : ps.length ≤ 10000000) :
  Calls Tryz.prog 98 #[v, .func (.func f) #[] #[]] w fun e w' => e = .returned (.tuple #[]) ∧ ∃ qs : List MarkD, qs.Perm ps ∧ qs.Pairwise leM ∧ EMark.Row base w' v qs ∧ (∀ B w0, B ≤ base → Below B w0 w → Below B w0 w') ∧ ∀ b, b < w.heap.size → v.ownBlock ≠ some b → w'.heap[b]? = w.heap[b]? := by
 by_cases hn : ps = []
 ·subst hn
  obtain ⟨a, c, rfl⟩ := h.slice
  exact (sortMarks_none f a c w).mono fun e w' ⟨h1, h2⟩ => ⟨h1, [], List.Perm.refl _, List.Pairwise.nil, by rw [h2]; exact h, fun _ _ _ hb => by rw [h2]; exact hb, fun _ _ _ => by rw [h2]⟩
 ·obtain ⟨g, cap, rfl, hin, hg⟩ := h.some hn
  refine (sortMarks_any f eg hf g cap ps w hin hl).mono fun e w' ⟨h1, qs, h2, h3, h4, h5, h6⟩ => ⟨h1, qs, h2, h3, ?_, fun B w0 hB hb => h5 B w0 (Nat.le_trans hB hg) hb, fun b hb hne => h6 b hb (fun e => hne (by rw [e]; rfl))⟩
  have := h4.own hg
  rw [h2.length_eq] at this
  exact this
theorem sortStrs_row (base : Nat) (v : Value) (ps : List ByteArray) (w : World) (h : EStr.Row base w v ps) (hl : ps.length ≤ 10000000) :
  Calls Tryz.prog 56 #[v, .func (.func 57) #[] #[]] w fun e w' => e = .returned (.tuple #[]) ∧ ∃ qs : List ByteArray, qs.Perm ps ∧ qs.Pairwise (fun a b => ¬ ltK b a) ∧ EStr.Row base w' v qs ∧ ∀ B w0, B ≤ base → Below B w0 w → Below B w0 w' := by
 by_cases hn : ps = []
 ·subst hn
  obtain ⟨a, c, rfl⟩ := h.slice
  exact (sortStrs_none a c _ w).mono fun e w' ⟨h1, h2⟩ => ⟨h1, [], List.Perm.refl _, List.Pairwise.nil, by rw [h2]; exact h, fun _ _ _ hb => by rw [h2]; exact hb⟩
 ·obtain ⟨g, cap, rfl, hin, hg⟩ := h.some hn
  refine (sortStrs_any g cap ps w hin hl).mono fun e w' ⟨h1, qs, h2, h3, h4, h5⟩ => ⟨h1, qs, h2, h3, ?_, fun B w0 hB hb => h5 B w0 (Nat.le_trans hB hg) hb⟩
  have := h4.own hg
  rw [h2.length_eq] at this
  exact this
theorem stayM_len (l o : List MarkD) (c : CartD) : (stayM l o c).length ≤ l.length := List.length_filter_le _ _
theorem marksOf_MI {w : World} {v : Value} {l : List ItemD} (h : Arr ItemR 2 w v l) (nm : ByteArray) : ∀ m ∈ marksOf l nm, MI m := by
 intro m hm
 unfold marksOf findX at hm
 rcases hf : l.find? (fun x => decide (x.name = nm)) with _ | x
 ·rw [hf] at hm; simp at hm
 ·rw [hf] at hm
  have hx := List.mem_of_find?_eq_some hf
  obtain ⟨i, hi, rfl⟩ := List.mem_iff_getElem.1 hx
  obtain ⟨o, c, -, hel⟩ := h.itemAt
  obtain ⟨b, off, mv, -, -, -, -, -, hma⟩ := hel i hi
  exact hma.marksMI m hm
theorem joinItem_any (a b : CartD) (nm : ByteArray) (v1 v2 v3 u1 u2 u3 : Value) (w : World) (h : CartA w v1 v2 v3 a) (g : CartA w u1 u2 u3 b) (ha : validC a = true) (hb : validC b = true) (hla : Lt a.items) (hlb : Lt b.items) :
  Calls Tryz.prog 60 #[.agg #[v1, v2, v3], .agg #[u1, u2, u3], .string nm] w fun e w' => ∃ mv, e = .returned (.agg #[.string nm, mv]) ∧ EMark.Row w.heap.size w' mv (itemR a b nm).marks ∧ Below w.heap.size w w' := by
 obtain ⟨o1, n1, k1, o2, n2, k2, o3, n3, k3, rfl, rfl, rfl, hn1, hn2, hn3⟩ := opn h
 obtain ⟨o4, n4, k4, o5, n5, k5, o6, n6, k6, rfl, rfl, rfl, hn4, hn5, hn6⟩ := opn g
 obtain ⟨W0, hW0⟩ : ∃ W0, W0 = w.alloc (.cells #[.slice o1 n1 k1, .slice o2 n2 k2, .slice o3 n3 k3] 28) := ⟨_, rfl⟩
 have hb0 : Below w.heap.size w W0 := by rw [hW0]; exact bal
 have hx0 : W0.heap[w.heap.size]? = some (.cells #[.slice o1 n1 k1, .slice o2 n2 k2, .slice o3 n3 k3] 28) := by rw [hW0]; exact alloc_new _ _
 have hs0 : W0.heap.size = w.heap.size + 1 := by rw [hW0]; simp
 obtain ⟨W1, hW1⟩ : ∃ W1, W1 = W0.alloc (.cells #[.slice o4 n4 k4, .slice o5 n5 k5, .slice o6 n6 k6] 28) := ⟨_, rfl⟩
 have hb01 : Below W0.heap.size W0 W1 := by rw [hW1]; exact bal
 have hb1 := btr hb0 hb01
 have hx1 : W1.heap[w.heap.size + 1]? = some (.cells #[.slice o4 n4 k4, .slice o5 n5 k5, .slice o6 n6 k6] 28) := by rw [hW1, ← hs0]; exact alloc_new _ _
 have hs1 : W1.heap.size = w.heap.size + 2 := by rw [hW1, alloc_size, hs0]
 obtain ⟨W2, hW2⟩ : ∃ W2, W2 = W1.alloc (.cells #[.string ⟨#[]⟩, .slice none 0 0] 55) := ⟨_, rfl⟩
 have hb12 : Below W1.heap.size W1 W2 := by rw [hW2]; exact bal
 have hb2 := btr hb1 hb12
 have hx2 : W2.heap[w.heap.size + 2]? = some (.cells #[.string ⟨#[]⟩, .slice none 0 0] 55) := by rw [hW2, ← hs1]; exact alloc_new _ _
 have hx02 : W2.heap[w.heap.size]? = some (.cells #[.slice o1 n1 k1, .slice o2 n2 k2, .slice o3 n3 k3] 28) := by rw [hb12.block _ (by omega), hb01.block _ (lt_of_heap hx0)]; exact hx0
 have hx12 : W2.heap[w.heap.size + 1]? = some (.cells #[.slice o4 n4 k4, .slice o5 n5 k5, .slice o6 n6 k6] 28) := by rw [hb12.block _ (lt_of_heap hx1)]; exact hx1
 have HC := Hd (fun wz (hz : Below W2.heap.size W2 wz) => And.intro (cel3 ((hz.block _ (lt_of_heap hx02)).trans hx02)) (cel3 ((hz.block _ (lt_of_heap hx12)).trans hx12)))
 have HX2 := Hd hx2
 have HB := Hd hb2
 have HW : Hid (W2 = ((w.alloc (.cells #[.slice o1 n1 k1, .slice o2 n2 k2, .slice o3 n3 k3] 28)).alloc (.cells #[.slice o4 n4 k4, .slice o5 n5 k5, .slice o6 n6 k6] 28)).alloc (.cells #[.string ⟨#[]⟩, .slice none 0 0] 55)) := Hd (by rw [hW2, hW1, hW0])
 have hA : CartA W2 (.slice o1 n1 k1) (.slice o2 n2 k2) (.slice o3 n3 k3) a := h.below hb2
 have hBB : CartA W2 (.slice o4 n4 k4) (.slice o5 n5 k5) (.slice o6 n6 k6) b := g.below hb2
 have HMA : Hid (∀ wz, Below W2.heap.size W2 wz → Calls Tryz.prog 96 #[.agg #[.slice o1 n1 k1, .slice o2 n2 k2, .slice o3 n3 k3], .string nm] wz fun e w' => ∃ v', e = .returned v' ∧ EMark.Row wz.heap.size w' v' (marksOf a.items nm) ∧ Below wz.heap.size wz w') := Hd (fun wz hz => joinMarks_any a nm _ _ _ wz (hA.below hz) hla)
 have HMB : Hid (∀ wz, Below W2.heap.size W2 wz → Calls Tryz.prog 96 #[.agg #[.slice o4 n4 k4, .slice o5 n5 k5, .slice o6 n6 k6], .string nm] wz fun e w' => ∃ v', e = .returned v' ∧ EMark.Row wz.heap.size w' v' (marksOf b.items nm) ∧ Below wz.heap.size wz w') := Hd (fun wz hz => joinMarks_any b nm _ _ _ wz (hBB.below hz) hlb)
 have hla2 : (marksOf a.items nm).length ≤ 1000 := marksOf_len hla.2 nm
 have hlb2 : (marksOf b.items nm).length ≤ 1000 := marksOf_len hlb.2 nm
 have HLN : Hid ((stayM (marksOf a.items nm) (marksOf b.items nm) b).length + (stayM (marksOf b.items nm) (marksOf a.items nm) a).length ≤ 2000) := Hd (by
  have h1 := stayM_len (marksOf a.items nm) (marksOf b.items nm) b
  have h2 := stayM_len (marksOf b.items nm) (marksOf a.items nm) a
  omega)
 have HST : Hid (∀ wz x y z1 z2 (c : CartD) l1 l2, Below W2.heap.size W2 wz → ((z1 = .slice o4 n4 k4 ∧ z2 = .slice o5 n5 k5 ∧ c = b) ∨ (z1 = .slice o1 n1 k1 ∧ z2 = .slice o2 n2 k2 ∧ c = a)) → Arr MarkR 4 wz x l1 → Arr MarkR 4 wz y l2 → l1.length ≤ 1000 → Calls Tryz.prog 97 #[x, y, .agg #[z1, z2]] wz fun e w' => ∃ v', e = .returned v' ∧ EMark.Row wz.heap.size w' v' (stayM l1 l2 c) ∧ Below wz.heap.size wz w') := Hd (fun wz x y z1 z2 c l1 l2 hz hc hx hy hl => by
  rcases hc with ⟨rfl, rfl, rfl⟩ | ⟨rfl, rfl, rfl⟩
  ·exact joinStay_any l1 l2 c x y _ _ wz hx hy (hBB.1.dots hz) (hBB.2.1.dots hz) (by omega)
  ·exact joinStay_any l1 l2 c x y _ _ wz hx hy (hA.1.dots hz) (hA.2.1.dots hz) (by omega))
 have HMIA := Hd (marksOf_MI h.2.2 nm)
 have HMIB := Hd (marksOf_MI g.2.2 nm)
 have HCI : Hid (∀ qs : List MarkD, qs.Perm (stayM (marksOf a.items nm) (marksOf b.items nm) b ++ stayM (marksOf b.items nm) (marksOf a.items nm) a) → qs.Pairwise leM → compactL qs = (itemR a b nm).marks) := Hd (fun qs hp hs => compact_item ha hb hp hs)
 have HHL2 : Hid ((marksOf a.items nm).length ≤ 1000 ∧ (marksOf b.items nm).length ≤ 1000) := Hd ⟨hla2, hlb2⟩
 have eg : ∀ args w, (callFunc 99 args).run Tryz.prog w = .ok (.enter 99 args) w := enters_of Tryz.func99 (by kernel_rfl) rfl
 have HSO : Hid (∀ v (ps : List MarkD) (wz : World) base, EMark.Row base wz v ps → ps.length ≤ 2000 → Calls Tryz.prog 98 #[v, .func (.func 99) #[] #[]] wz fun e w' => e = .returned (.tuple #[]) ∧ ∃ qs : List MarkD, qs.Perm ps ∧ qs.Pairwise leM ∧ EMark.Row base w' v qs ∧ ∀ B w0, B ≤ base → Below B w0 wz → Below B w0 w') := Hd (fun v ps wz base hi hl => (sortMarks_row 99 eg joinItem1_any base v ps wz hi (by omega)).mono fun e w' ⟨h1, qs, h2, h3, h4, h5, _⟩ => ⟨h1, qs, h2, h3, h4, h5⟩)
 have HS2 : Hid (W2.heap.size = w.heap.size + 3) := Hd (by rw [hW2, alloc_size, hs1])
 clear h g hx0 hx02 hx1 hx12 hx2 hb0 hb01 hb1 hb12 hb2 hW0 hW1 hW2 hs0 hs1 hA hBB ha hb hla hlb hla2 hlb2 hn1 hn2 hn3 hn4 hn5 hn6 eg
 generalize (itemR a b nm).marks = RES at *
 go_enter Tryz.func60, Tryz.ntmps60
 go_upto_region 1 with fail
 rw [← HW.out]
 refine NQ.to ?_
 refine wp_region_held_drew (S := (fun wz => (wz.cell? ⟨w.heap.size, 0, none⟩ = some (.slice o1 n1 k1) ∧ wz.cell? ⟨w.heap.size, 1, none⟩ = some (.slice o2 n2 k2) ∧ wz.cell? ⟨w.heap.size, 2, none⟩ = some (.slice o3 n3 k3)) ∧ wz.cell? ⟨w.heap.size + 1, 0, none⟩ = some (.slice o4 n4 k4) ∧ wz.cell? ⟨w.heap.size + 1, 1, none⟩ = some (.slice o5 n5 k5) ∧ wz.cell? ⟨w.heap.size + 1, 2, none⟩ = some (.slice o6 n6 k6))) (by kernel_rfl) (HC.out _ bdr) (fun hS => ?_)
 refine tkR (n := 4) [0, 1, 3, 4] rfl (by decide +kernel) hS ?_
 iterate 4 ((try simp only [Act.put, s1, s2, s3, s4, s5, s6]); refine ⟨_, ?_, rfl, Or.inl ⟨by kernel_rfl, fun w hSw => ok_of fun z hz => ?_⟩, ?_⟩; rotate_left; · (obtain ⟨⟨g0, g1, g2⟩, g3, g4, g5⟩ := hSw; go_simp; exact hz))
 refine RunOK.done ?_
 try simp only [Act.put, s1, s2, s3, s4, s5, s6]
 refine rd1 2 (by decide +kernel) rfl (fun K hK => ?_)
 go_simp
 go_at_call 96
 refine (HMA.out _ bdr).mono ?_
 rintro e w4 ⟨v4, rfl, hr4, hb4⟩
 have hb4w : Below W2.heap.size W2 w4 := (bdr).trans hb4
 go_simp
 refine Shut.out hK _ _ (HC.out _ hb4w) (fun hS2 => ?_); clear hK K hS; have hS := hS2; clear hS2
 try simp only [Act.put, s1, s2, s3, s4, s5, s6]
 refine rd1 5 (by decide +kernel) rfl (fun K hK => ?_)
 go_simp
 go_at_call 96
 refine (HMB.out _ hb4w).mono ?_
 rintro e w5 ⟨v5, rfl, hr5, hb5⟩
 have hb5w := btr hb4w hb5
 go_simp
 refine Shut.out hK _ _ (HC.out _ hb5w) (fun hS2 => ?_); clear hK K hS; have hS := hS2; clear hS2
 refine tkR (n := 2) [6, 7] rfl (by decide +kernel) hS ?_
 iterate 2 ((try simp only [Act.put, s1, s2, s3, s4, s5, s6]); refine ⟨_, ?_, rfl, Or.inl ⟨by kernel_rfl, fun w hSw => ok_of fun z hz => ?_⟩, ?_⟩; rotate_left; · (go_simp; exact hz))
 refine RunOK.done ?_
 try simp only [Act.put, s1, s2, s3, s4, s5, s6]
 refine wpAnyH_done (by kernel_rfl) ?_ _
 try simp only [Act.put, s1, s2, s3, s4, s5, s6]
 simp only [NQ]
 have HB5 := Hd hb5w
 have hr4b := hr4.below (hb5.mono (Nat.le_refl _))
 have hAr4 := Arr.of_marks hr4b HMIA.out
 have hAr5 := Arr.of_marks hr5 HMIB.out
 have HST1 := Hd (fun wz hz => HST.out wz v4 v5 _ _ b _ _ (hb5w.trans ((show Below w5.heap.size w5 wz from hz).mono hb5w.size)) (Or.inl ⟨rfl, rfl, rfl⟩) (hAr4.marks hz) (hAr5.marks hz) HHL2.out.1)
 have HST2 := Hd (fun wz hz => HST.out wz v5 v4 _ _ a _ _ (hb5w.trans ((show Below w5.heap.size w5 wz from hz).mono hb5w.size)) (Or.inr ⟨rfl, rfl, rfl⟩) (hAr5.marks hz) (hAr4.marks hz) HHL2.out.2)
 obtain ⟨ao4, ac4, rfl⟩ := hr4b.slice
 obtain ⟨ao5, ac5, rfl⟩ := hr5.slice
 clear hr4 hr4b hr5 hAr4 hAr5 hb4 hb4w hb5 hb5w hS HMA HMB HST HMIA HMIB HHL2
 generalize (marksOf a.items nm).length = m4 at *
 generalize (marksOf b.items nm).length = m5 at *
 generalize stayM (marksOf a.items nm) (marksOf b.items nm) b = L1 at *
 generalize stayM (marksOf b.items nm) (marksOf a.items nm) a = L2 at *
 go_upto_region 2 with fail
 refine NQ.to ?_
 refine wp_region_held_drew (S := (fun wz => (wz.cell? ⟨w.heap.size, 0, none⟩ = some (.slice o1 n1 k1) ∧ wz.cell? ⟨w.heap.size, 1, none⟩ = some (.slice o2 n2 k2) ∧ wz.cell? ⟨w.heap.size, 2, none⟩ = some (.slice o3 n3 k3)) ∧ wz.cell? ⟨w.heap.size + 1, 0, none⟩ = some (.slice o4 n4 k4) ∧ wz.cell? ⟨w.heap.size + 1, 1, none⟩ = some (.slice o5 n5 k5) ∧ wz.cell? ⟨w.heap.size + 1, 2, none⟩ = some (.slice o6 n6 k6))) (by kernel_rfl) (HC.out _ (below_drew1 HB5.out)) (fun hS => ?_)
 refine tkR (n := 8) [0, 1, 2, 3, 5, 6, 7, 8] rfl (by decide +kernel) hS ?_
 iterate 8 ((try simp only [Act.put, s1, s2, s3, s4, s5, s6]); refine ⟨_, ?_, rfl, Or.inl ⟨by kernel_rfl, fun w hSw => ok_of fun z hz => ?_⟩, ?_⟩; rotate_left; · (obtain ⟨⟨g0, g1, g2⟩, g3, g4, g5⟩ := hSw; go_simp; exact hz))
 refine RunOK.done ?_
 try simp only [Act.put, s1, s2, s3, s4, s5, s6]
 refine rd1 4 (by decide +kernel) rfl (fun K hK => ?_)
 go_simp
 go_at_call 97
 refine (HST1.out _ bdr).mono ?_
 rintro e w6 ⟨v6, rfl, hr6, hb6⟩
 have hb6w := (below_drew1 (Below.refl w5.heap.size w5)).trans hb6
 go_simp
 refine Shut.out hK _ _ (HC.out _ (btr HB5.out hb6w)) (fun hS2 => ?_); clear hK K hS; have hS := hS2; clear hS2
 try simp only [Act.put, s1, s2, s3, s4, s5, s6]
 refine rd1 9 (by decide +kernel) rfl (fun K hK => ?_)
 go_simp
 go_at_call 97
 refine (HST2.out _ hb6w).mono ?_
 rintro e w7 ⟨v7, rfl, hr7, hb7⟩
 have hb7w := btr hb6w hb7
 have hr6b := hr6.below hb7
 go_simp
 refine Shut.out hK _ _ (HC.out _ (btr HB5.out hb7w)) (fun hS2 => ?_); clear hK K hS; have hS := hS2; clear hS2
 try simp only [Act.put, s1, s2, s3, s4, s5, s6]
 refine rd1 10 (by decide +kernel) rfl (fun K hK => ?_)
 refine step_append_row rfl _ _ 53 rfl EMark w5.heap.size (.agg #[.int .i64 0, .int .i64 0, .int .i64 0, .int .u64 0]) 32 Tryz.underlying53 infoMark (by decide) (by decide) _ L1 rfl (hr6b.mono (Nat.le_refl _)) _ L2 rfl hr7.toSrc (by have := HLN.out; omega) hb7w.size ?_
 intro v8 w8 hrow8 hgr8
 have hb8w := hb7w.grown hgr8 hb7w.size (fun j hj => (hr6b.lt _ hj).1)
 refine Shut.out hK _ _ (HC.out _ (btr HB5.out hb8w)) (fun hS2 => ?_); clear hK K hS; have hS := hS2; clear hS2
 refine tkR (n := 1) [11] rfl (by decide +kernel) hS ?_
 ((try simp only [Act.put, s1, s2, s3, s4, s5, s6]); refine ⟨_, ?_, rfl, Or.inl ⟨by kernel_rfl, fun w hSw => ok_of fun z hz => ?_⟩, ?_⟩; rotate_left; · (go_simp; exact hz))
 refine RunOK.done ?_
 try simp only [Act.put, s1, s2, s3, s4, s5, s6]
 refine wpAnyH_done (by kernel_rfl) ?_ _
 try simp only [Act.put, s1, s2, s3, s4, s5, s6]
 simp only [NQ]
 have HSO8 := Hd (HSO.out v8 (L1 ++ L2) w8 w5.heap.size hrow8 (by rw [List.length_append]; exact HLN.out))
 have HB8 := Hd hb8w
 have hz5 : w.heap.size + 3 ≤ w5.heap.size := by rw [← HS2.out]; exact HB5.out.size
 obtain ⟨a8, c8, rfl⟩ := hrow8.slice
 generalize hLL : (L1 ++ L2).length = n8 at *
 clear hS hb6 hb6w hb7 hb7w hr6 hr6b hr7 hrow8 hgr8 hb8w HST1 HST2 HSO HC hLL
 go_wp2_with fail
 refine HSO8.out.mono ?_
 rintro e w9 ⟨rfl, qs, hp, hs, hr9, hb9⟩
 have HB9 := Hd (hb9 w5.heap.size w5 (Nat.le_refl _) HB8.out)
 have HCP := Hd (compactMarks_any qs _ w9 w5.heap.size hr9)
 have HCQ := Hd (HCI.out qs hp hs)
 clear hp hs hr9 hb9 HSO8
 go_wp2_with fail
 refine HCP.out.mono ?_
 rintro e w10 ⟨v10, rfl, hr10, hb10, -⟩
 have hb510 := HB9.out.trans hb10
 have hb210 := btr HB5.out hb510
 obtain ⟨a10, c10, rfl⟩ := hr10.slice
 have hx10 : w10.heap[w.heap.size + 1 + 1]? = some (.cells #[.string ⟨#[]⟩, .slice none 0 0] 55) := (hb210.block _ (lt_of_heap HX2.out)).trans HX2.out
 have d0 : w10.cell? ⟨w.heap.size + 1 + 1, 0, none⟩ = some (.string ⟨#[]⟩) := cl0 hx10 0 rfl
 have d1 : w10.cell? ⟨w.heap.size + 1 + 1, 1, none⟩ = some (.slice none 0 0) := cl0 hx10 1 rfl
 have f0 : w10.frozen? ⟨w.heap.size + 1 + 1, 0, none⟩ = false := froz0 hx10 0
 have f1 : w10.frozen? ⟨w.heap.size + 1 + 1, 1, none⟩ = false := froz0 hx10 1
 rw [HCQ.out] at hr10 ⊢
 have HRF : Hid (EMark.Row w.heap.size ((w10.setCell ⟨w.heap.size + 1 + 1, 0, none⟩ (.string nm)).setCell ⟨w.heap.size + 1 + 1, 1, none⟩ (.slice a10 RES.length c10)) (.slice a10 RES.length c10) RES) := Hd ((hr10.mono (by omega)).stay (fun j hj => by
  have := (hr10.lt j hj).1
  rw [setCell_other (by omega), setCell_other (by omega)]))
 have HBF := Hd (((btr HB.out hb210).setCell (p := ⟨w.heap.size + 1 + 1, 0, none⟩) (by show w.heap.size ≤ w.heap.size + 1 + 1; omega) (.string nm)).setCell (p := ⟨w.heap.size + 1 + 1, 1, none⟩) (by show w.heap.size ≤ w.heap.size + 1 + 1; omega) (.slice a10 RES.length c10))
 clear hr10 hb10 hb510 hb210 hx10 HCP HCQ
 go_wp2_with fail
 (try simp only [Exit.inBlock, Exit.then])
 refine bodyPost_ret (v := .agg #[.string nm, .slice a10 RES.length c10]) ?_ rfl ⟨_, rfl, HRF.out, HBF.out⟩
 rw [results_cell_one rfl]
 go_simp
end Go.Proofs.YtjoljfnlkddfbaaGreatDoor
