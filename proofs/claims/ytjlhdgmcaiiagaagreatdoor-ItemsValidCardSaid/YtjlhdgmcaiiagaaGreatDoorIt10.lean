/- The order of items by name: plain; slices.SortFunc at items. -/
import Derived.Test.YtjlhdgmcaiiagaaGreatDoorIt9
import Derived.Test.YtjlhdgmcaiiagaaGreatDoorIt2
namespace Go.Proofs.YtjlhdgmcaiiagaaGreatDoor
open Go.RowKit Go.Maps Go.Sort Go.Shelf

theorem ltK_total {a b : ByteArray} (h : ¬ ltK a b) (h2 : ¬ ltK b a) : a = b := by
  have e : a.data.toList = b.data.toList := List.le_antisymm h2 h
  obtain ⟨⟨x⟩⟩ := a
  obtain ⟨⟨y⟩⟩ := b
  simp at e
  subst e
  rfl
def scmp (a b : ByteArray) : Int := if ltK a b then -1 else if ltK b a then 1 else 0
set_option maxRecDepth 100000 in
theorem isNaNStr_any (x : ByteArray) (w : World) : Calls Tryz.prog 83 #[.string x] w fun e w' => e = .returned (.bool false) ∧ w' = w := by
  go_enter Tryz.func83, Tryz.ntmps83
  go_wp2
  go_ret
  exact ⟨rfl, rfl⟩
set_option maxRecDepth 100000 in
set_option maxHeartbeats 1000000 in
theorem cmpStr_any (x y : ByteArray) (w : World) : Calls Tryz.prog 57 #[.string x, .string y] w fun e w' => e = .returned (.int .i64 (scmp x y)) ∧ w' = w := by
  have HN := Lib.hid (fun z wz => isNaNStr_any z wz)
  have hl1 := less_ltK x y
  have hl2 := less_ltK y x
  by_cases h1 : ltK x y
  · have hc : Hid (scmp x y = -1) := Lib.hid (by unfold scmp; rw [if_pos h1])
    rw [decide_eq_true h1] at hl1
    clear h1 hl2
    go_enter Tryz.func57, Tryz.ntmps57
    go_wp2_with fail
    refine (HN.out _ _).mono ?_
    rintro e w1 ⟨rfl, rfl⟩
    go_wp2_with fail
    refine (HN.out _ _).mono ?_
    rintro e w2 ⟨rfl, rfl⟩
    go_wp2_with fail
    go_ret
    exact ⟨by rw [hc.out]; rfl, rfl⟩
  · rw [decide_eq_false h1] at hl1
    by_cases h2 : ltK y x
    · have hc : Hid (scmp x y = 1) := Lib.hid (by unfold scmp; rw [if_neg h1, if_pos h2])
      rw [decide_eq_true h2] at hl2
      have heq : (x.toList == y.toList) = false := by rw [strDec]; exact decide_eq_false (fun e => by rw [e] at h2; exact ltK_irrefl _ h2)
      clear h1 h2
      go_enter Tryz.func57, Tryz.ntmps57
      go_wp2_with fail
      refine (HN.out _ _).mono ?_
      rintro e w1 ⟨rfl, rfl⟩
      go_wp2_with fail
      refine (HN.out _ _).mono ?_
      rintro e w2 ⟨rfl, rfl⟩
      go_wp2_with fail
      go_ret
      exact ⟨by rw [hc.out]; rfl, rfl⟩
    · have hc : Hid (scmp x y = 0) := Lib.hid (by unfold scmp; rw [if_neg h1, if_neg h2])
      rw [decide_eq_false h2] at hl2
      have heq : (x.toList == y.toList) = true := by rw [strDec]; exact decide_eq_true (ltK_total h1 h2)
      clear h1 h2
      go_enter Tryz.func57, Tryz.ntmps57
      go_wp2_with fail
      refine (HN.out _ _).mono ?_
      rintro e w1 ⟨rfl, rfl⟩
      go_wp2_with fail
      refine (HN.out _ _).mono ?_
      rintro e w2 ⟨rfl, rfl⟩
      go_wp2_with fail
      go_ret
      exact ⟨by rw [hc.out]; rfl, rfl⟩
theorem grown_two (w : World) (o1 o2 : Obj) : Grown w ((w.alloc o1).alloc o2) :=
  ⟨0, #[o1, o2], by rw [Go.Sort.alloc_eq_grow, Go.Sort.alloc_eq_grow, Go.Sort.grow_grow]; rfl⟩
def icmp (a b : ItW) : Int := scmp a.x.name b.x.name
set_option maxRecDepth 100000 in
theorem itemsPut2_any (a b : ItW) (w : World) : Calls Tryz.prog 56 #[.agg #[.string a.x.name, .slice a.mo a.x.marks.length a.mc], .agg #[.string b.x.name, .slice b.mo b.x.marks.length b.mc]] w fun e w' => e = .returned (.int .i64 (icmp a b)) ∧ Grown w w' := by
  have HC := Lib.hid (fun wz => cmpStr_any a.x.name b.x.name wz)
  have HF : Hid (icmp a b = scmp a.x.name b.x.name) := Lib.hid rfl
  go_enter Tryz.func56, Tryz.ntmps56
  go_wp2_with fail
  refine (HC.out _).mono ?_
  rintro e w1 ⟨rfl, rfl⟩
  go_wp2_with fail
  go_ret
  exact ⟨by rw [HF.out]; rfl, grown_two _ _ _⟩
theorem ltOf_icmp (a b : ItW) : ltOf icmp a b = decide (ltK a.x.name b.x.name) := by
  show decide (icmp a b < 0) = _
  congr 1
  unfold icmp scmp
  apply propext
  split
  · simp_all
  · split <;> simp_all
theorem swoI : SWO (ltOf icmp) where
  irrefl x := by rw [ltOf_icmp]; exact decide_eq_false (ltK_irrefl _)
  trans x y z h k := by
    rw [ltOf_icmp] at *
    exact decide_eq_true (ltK_trans (of_decide_eq_true h) (of_decide_eq_true k))
  ntrans x y z h k := by
    rw [ltOf_icmp] at *
    refine decide_eq_false (fun h3 => ?_)
    have h1 := of_decide_eq_false h
    have h2 := of_decide_eq_false k
    by_cases e : ltK y.x.name x.x.name
    · exact h2 (ltK_trans e h3)
    · rw [ltK_total h1 e] at h3; exact h2 h3
theorem heap_sorted_ot {w : World} {g : Nat} {α : Type} [Inhabited α] (enc : α → List Value) (k n off : Nat) (d : Array α) (os : Array Obj) (b : Nat) (hb : b < w.heap.size) (hg : b ≠ g) : (sortWorldK enc k w g off n d os).heap[b]? = w.heap[b]? := by
  have hh : (sortWorldK enc k w g off n d os).heap = (w.heap.modify g (onCells (putCells id off (flatK enc k d)))) ++ os := rfl
  rw [hh, Array.getElem?_append_left (by simpa using hb), Array.getElem?_modify, if_neg (fun e => hg e.symm)]
def SortPost (w : World) (g cap : Nat) (ps : List ItW) (e : Ending) (w' : World) : Prop :=
  e = .returned (.tuple #[]) ∧ ∃ qs : List ItW, qs.Perm ps ∧ qs.Pairwise (fun a b => ¬ ltK b.x.name a.x.name) ∧ EItem.In w' g cap qs ∧ (∀ B w0, B ≤ g → Below B w0 w → Below B w0 w') ∧ ∀ b, b < w.heap.size → b ≠ g → w'.heap[b]? = w.heap[b]?
theorem sortItems_any (g cap : Nat) (ps : List ItW) (w : World) (h : EItem.In w g cap ps) (hl : ps.length ≤ 10000000) :
    Calls Tryz.prog 55 #[.slice (some ⟨g, 0, none⟩) ps.length cap, .func (.func 56) #[] #[]] w (SortPost w g cap ps) := by
  have eg : ∀ args w, (callFunc 56 args).run Tryz.prog w = .ok (.enter 56 args) w := enters_of Tryz.func56 (by kernel_rfl) rfl
  obtain ⟨C, h1, _⟩ := id h
  have hcl : CmpLays Tryz.prog 56 #[] encT 2 icmp g 0 ps.toArray.size w := fun _ _ _ _ x y => itemsPut2_any x y _
  have hcon := AnyQ.slices_SortFunc Tryz.sortItem 2 Tryz.isAgg31 Tryz.sizeOf31 encT (fun _ => rfl) (fun x => EItem.one x) icmp swoI 56 #[] g 0 cap ps.toArray w eg hcl h.holds (lt_of_heap h1) (by simp; omega)
  change Calls Tryz.prog 55 _ _ _ at hcon
  refine hcon.mono fun _ _ ⟨he, d', n, os, hp, hs, hw⟩ => ⟨he, d'.toList, ?_, ?_, ?_, ?_, ?_⟩
  · obtain ⟨p1, _, p3⟩ := hp
    have e1 : d'.extract 0 ps.toArray.size = d' := by rw [← p1]; exact Array.extract_size
    rw [e1, Array.extract_size] at p3
    exact p3
  · obtain ⟨p1, _⟩ := hp
    rw [List.pairwise_iff_getElem]
    intro i j hi hj hij
    have hj2 : j < d'.size := by simpa using hj
    have := hs i j (Nat.zero_le _) hij (by omega)
    rw [ltOf_icmp, getElem!_pos d' j hj2, getElem!_pos d' i (by omega)] at this
    exact of_decide_eq_false this
  · rw [hw]
    obtain ⟨p1, _⟩ := hp
    have := h.sorted d'.toList (by simpa using p1) n os
    rw [Array.toArray_toList] at this
    exact this
  · rw [hw]; exact (heap_sorted h1 encT 2 n 0 d' os).2
  · rw [hw]; exact fun b hb hg => heap_sorted_ot encT 2 n 0 d' os b hb hg

/-- Items in order, each name once: only one list of them is. -/
theorem sorted_unique {l m : List ItemD} (hp : l.Perm m) (hl : l.Pairwise (fun a b => ¬ ltK b.name a.name)) (hm : m.Pairwise (fun a b => ltK a.name b.name)) : l = m := by
  refine List.Perm.eq_of_pairwise (le := fun a b : ItemD => ¬ ltK b.name a.name) ?_ hl (hm.imp (fun {a b} h h2 => ltK_irrefl _ (ltK_trans h h2))) hp
  intro a b ha hb h1 h2
  have hn := ltK_total h2 h1
  have ha' := hp.mem_iff.1 ha
  obtain ⟨i, hi, rfl⟩ := List.getElem_of_mem ha'
  obtain ⟨j, hj, rfl⟩ := List.getElem_of_mem hb
  have hpw := List.pairwise_iff_getElem.1 hm
  rcases Nat.lt_trichotomy i j with h | h | h
  · have := hpw i j hi hj h
    rw [hn] at this
    exact absurd this (ltK_irrefl _)
  · subst h; rfl
  · have := hpw j i hj hi h
    rw [hn] at this
    exact absurd this (ltK_irrefl _)
def dropN (l : List ItemD) (nm : ByteArray) : List ItemD := l.filter (fun y => !decide (y.name = nm))
def insI (l : List ItemD) (x : ItemD) : List ItemD := l.takeWhile (fun y => decide (ltK y.name x.name)) ++ x :: l.dropWhile (fun y => decide (ltK y.name x.name))
/-- Items with one in the place of the one with its name, or one more. -/
def putI (l : List ItemD) (x : ItemD) : List ItemD := insI (dropN l x.name) x
theorem insI_perm (l : List ItemD) (x : ItemD) : (l ++ [x]).Perm (insI l x) := by
  unfold insI
  have h := List.takeWhile_append_dropWhile (p := fun y : ItemD => decide (ltK y.name x.name)) (l := l)
  have h2 : (l ++ [x]).Perm ((l.takeWhile (fun y => decide (ltK y.name x.name)) ++ l.dropWhile (fun y => decide (ltK y.name x.name))) ++ [x]) := by rw [h]
  refine h2.trans ?_
  rw [List.append_assoc]
  exact (List.perm_append_comm (l₁ := l.dropWhile (fun y => decide (ltK y.name x.name))) (l₂ := [x])).append_left _
theorem mem_takeWhile_ltK {l : List ItemD} {x y : ItemD} (h : y ∈ l.takeWhile (fun y => decide (ltK y.name x.name))) : ltK y.name x.name := by
  induction l with
  | nil => simp at h
  | cons a s ih =>
    rw [List.takeWhile_cons] at h
    split at h
    · rcases List.mem_cons.1 h with e | e
      · subst e; rename_i h2; exact of_decide_eq_true h2
      · exact ih e
    · simp at h
theorem mem_dropWhile_ltK : ∀ {l : List ItemD} {x y : ItemD}, l.Pairwise (fun a b => ltK a.name b.name) → (∀ z ∈ l, z.name ≠ x.name) → y ∈ l.dropWhile (fun y => decide (ltK y.name x.name)) → ltK x.name y.name
  | [], _, _, _, _, h => by simp at h
  | a :: l, x, y, hs, hd, h => by
    obtain ⟨ha, hs'⟩ := List.pairwise_cons.1 hs
    rw [List.dropWhile_cons] at h
    split at h
    · exact mem_dropWhile_ltK hs' (fun z hz => hd z (.tail _ hz)) h
    · rename_i hn
      have hxa : ltK x.name a.name := by
        by_cases e : ltK x.name a.name
        · exact e
        · exact absurd (ltK_total (fun h3 => hn (decide_eq_true h3)) e) (hd a (.head _))
      rcases List.mem_cons.1 h with e | e
      · subst e; exact hxa
      · exact ltK_trans hxa (ha y e)
theorem insI_rising {l : List ItemD} {x : ItemD} (h : l.Pairwise (fun a b => ltK a.name b.name)) (hx : ∀ z ∈ l, z.name ≠ x.name) : (insI l x).Pairwise (fun a b => ltK a.name b.name) := by
  unfold insI
  refine List.pairwise_append.2 ⟨h.sublist (List.takeWhile_sublist _), List.pairwise_cons.2 ⟨fun y hy => mem_dropWhile_ltK h hx hy, h.sublist (List.dropWhile_sublist _)⟩, fun a ha b hb => ?_⟩
  have h1 := mem_takeWhile_ltK ha
  rcases List.mem_cons.1 hb with e | e
  · subst e; exact h1
  · exact ltK_trans h1 (mem_dropWhile_ltK h hx e)
theorem dropN_rising {l : List ItemD} (h : risB l = true) (nm : ByteArray) : (dropN l nm).Pairwise (fun a b => ltK a.name b.name) := (risB_iff.1 h).sublist List.filter_sublist
theorem dropN_ne (l : List ItemD) (nm : ByteArray) : ∀ z ∈ dropN l nm, z.name ≠ nm := by
  intro z hz
  have := (List.mem_filter.1 hz).2
  simpa using this
theorem putI_rising {l : List ItemD} (h : risB l = true) (x : ItemD) : (putI l x).Pairwise (fun a b => ltK a.name b.name) := insI_rising (dropN_rising h _) (dropN_ne _ _)
/-- .. so it is what sorting makes. -/
theorem putI_sorted {l m : List ItemD} {x : ItemD} (h : risB l = true) (hp : m.Perm (dropN l x.name ++ [x])) (hs : m.Pairwise (fun a b => ¬ ltK b.name a.name)) : m = putI l x :=
  sorted_unique (hp.trans (insI_perm _ _)) hs (putI_rising h x)
end Go.Proofs.YtjlhdgmcaiiagaaGreatDoor
