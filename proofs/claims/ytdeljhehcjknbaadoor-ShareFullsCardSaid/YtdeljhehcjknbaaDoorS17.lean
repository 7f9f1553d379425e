/- The plain law of ShareFulls: what the books of the example come to, no program in sight. -/
import Derived.Test.YtdeljhehcjknbaaDoorS15
namespace Go.Proofs.YtdeljhehcjknbaaDoor
open Go.RowKit Go.Maps Go.Sort

def nm (i : Nat) : ByteArray := ⟨#[UInt8.ofNat (97 + i / 100), UInt8.ofNat (48 + i / 10 % 10), UInt8.ofNat (48 + i % 10)]⟩
def wm (i : Nat) : ByteArray := ⟨#[109, UInt8.ofNat (48 + i / 10), UInt8.ofNat (48 + i % 10)]⟩
def zz : ByteArray := ⟨#[122, 122]⟩

theorem bytes_eq3 {a b c a' b' c' : UInt8} (h : (⟨#[a, b, c]⟩ : ByteArray) = ⟨#[a', b', c']⟩) : a = a' ∧ b = b' ∧ c = c' := by
  injection h with h; injection h with h; simp at h; exact h
theorem u8_inj {a b : Nat} (ha : a < 256) (hb : b < 256) (h : UInt8.ofNat a = UInt8.ofNat b) : a = b := by
  have := congrArg UInt8.toNat h
  rw [UInt8.toNat_ofNat_of_lt' (by simpa using ha), UInt8.toNat_ofNat_of_lt' (by simpa using hb)] at this
  exact this
theorem nm_inj {i j : Nat} (hi : i < 1000) (hj : j < 1000) (h : nm i = nm j) : i = j := by
  obtain ⟨h1, h2, h3⟩ := bytes_eq3 h
  have h1 := u8_inj (by omega) (by omega) h1
  have h2 := u8_inj (by omega) (by omega) h2
  have h3 := u8_inj (by omega) (by omega) h3
  omega
theorem wm_inj {i j : Nat} (hi : i < 100) (hj : j < 100) (h : wm i = wm j) : i = j := by
  obtain ⟨_, h2, h3⟩ := bytes_eq3 h
  have h2 := u8_inj (by omega) (by omega) h2
  have h3 := u8_inj (by omega) (by omega) h3
  omega
theorem nm_key : ∀ i, i < 502 → keyB (nm i) = true := by
  intro i hi
  have : ∀ j : Fin 502, keyB (nm j.val) = true := by decide +kernel
  exact this ⟨i, hi⟩
theorem wm_key : ∀ i, i < 52 → keyB (wm i) = true := by
  intro i hi
  have : ∀ j : Fin 52, keyB (wm j.val) = true := by decide +kernel
  exact this ⟨i, hi⟩
theorem wm_ann : ∀ i, wm i ≠ ann := by
  intro i h
  have := (bytes_eq3 h).1
  exact absurd this (by decide)
theorem nm_zz : ∀ i, nm i ≠ zz := by
  intro i h
  have := congrArg ByteArray.size h
  exact absurd this (by show ¬ 3 = 2; decide)

def Pn (n : Nat) : List APg := (List.range n).map fun i => ⟨nm i, ann, []⟩
theorem Pn_succ (n : Nat) : Pn (n + 1) = Pn n ++ [⟨nm n, ann, []⟩] := by simp [Pn, List.range_succ]
theorem Pn_len (n : Nat) : (Pn n).length = n := by simp [Pn]
theorem aFind_none {A : List APg} {c : ByteArray} (h : ∀ x ∈ A, c ≠ x.cart) : aFind A c = none := by
  induction A with
  | nil => rfl
  | cons x A ih => simp only [aFind]; rw [if_neg (h x (.head _))]; exact ih fun y hy => h y (.tail _ hy)
theorem aFind_mem {A : List APg} {c : ByteArray} {x : APg} (h : aFind A c = some x) : x ∈ A ∧ x.cart = c := by
  induction A with
  | nil => cases h
  | cons y A ih =>
    simp only [aFind] at h
    split at h
    · rename_i e; cases h; exact ⟨.head _, e.symm⟩
    · exact ⟨.tail _ (ih h).1, (ih h).2⟩
theorem Pn_none {n i : Nat} (hn : n ≤ i) (hi : i < 1000) : aFind (Pn n) (nm i) = none := by
  refine aFind_none ?_
  intro x hx e
  simp only [Pn, List.mem_map, List.mem_range] at hx
  obtain ⟨j, hj, rfl⟩ := hx
  have := nm_inj hi (by omega) e
  omega
theorem ann_key : keyB ann = true := by decide +kernel
theorem open_Pn {n : Nat} (hn : n < 500) : openE (Pn n) ann (nm n) = 0 ∧ openA (Pn n) ann (nm n) = Pn (n + 1) := by
  have h : openE (Pn n) ann (nm n) = 0 := by
    unfold openE
    rw [ann_key, nm_key n (by omega), Pn_none (Nat.le_refl _) (by omega), Pn_len]
    simp; omega
  exact ⟨h, by unfold openA; rw [h, Pn_succ]; rfl⟩
theorem open_full {i : Nat} (hi : 500 ≤ i) (hi2 : i < 502) : openE (Pn 500) ann (nm i) = 7 ∧ openA (Pn 500) ann (nm i) = Pn 500 := by
  have h : openE (Pn 500) ann (nm i) = 7 := by
    unfold openE
    rw [ann_key, nm_key i hi2, Pn_none hi (by omega), Pn_len]
    simp
  exact ⟨h, by unfold openA; rw [h]; rfl⟩
theorem carts_Pn (n : Nat) : (cartsA (Pn n) ann).length = n := by
  unfold cartsA cartsL
  rw [List.length_map, List.filter_eq_self.2]
  · unfold sortC; simp [Pn_len]
  · intro k hk
    obtain ⟨x, hx, rfl⟩ := sortC_mem _ k hk
    obtain ⟨y, hy⟩ := aFind_some hx
    rw [bytes_back]
    unfold rightsA
    rw [hy]
    obtain ⟨hm, _⟩ := aFind_mem hy
    simp only [Pn, List.mem_map, List.mem_range] at hm
    obtain ⟨j, _, rfl⟩ := hm
    show (APg.rights _ ann != 0) = true
    unfold APg.rights
    rw [if_pos rfl]; rfl

theorem aFind_app {A B : List APg} {c : ByteArray} {x : APg} (h : aFind A c = some x) : aFind (A ++ B) c = some x := by
  induction A with
  | nil => cases h
  | cons y A ih =>
    simp only [List.cons_append, aFind] at h ⊢
    split
    · rename_i e; rw [if_pos e] at h; exact h
    · rename_i e; rw [if_neg e] at h; exact ih h
theorem Pn_first {n : Nat} (hn : 0 < n) : aFind (Pn n) (nm 0) = some ⟨nm 0, ann, []⟩ := by
  cases n with
  | zero => omega
  | succ n =>
    unfold Pn
    rw [List.range_succ_eq_map]
    simp [aFind]
theorem open_bob {n : Nat} (h0 : 0 < n) : aFind (openA (Pn n) bob zz) (nm 0) = some ⟨nm 0, ann, []⟩ ∧ (n < 500 → openE (Pn n) bob zz = 0) := by
  have h1 := Pn_first h0
  constructor
  · unfold openA
    split
    · exact aFind_app h1
    · exact h1
  · intro h
    unfold openE
    have hk : (keyB bob && keyB zz) = true := by decide +kernel
    have hz : aFind (Pn n) zz = none := by
      refine aFind_none ?_
      intro x hx e
      simp only [Pn, List.mem_map, List.mem_range] at hx
      obtain ⟨j, hj, rfl⟩ := hx
      exact nm_zz j e.symm
    rw [hk, hz, Pn_len]; simp; omega

def Mn (n : Nat) : List (ByteArray × Int) := (List.range n).map fun j => (wm j, 1)
theorem Mn_len (n : Nat) : (Mn n).length = n := by simp [Mn]
theorem lk_none {m : List (ByteArray × Int)} {k : ByteArray} (h : ∀ p ∈ m, k ≠ p.1) : lkA m k = none := by
  induction m with
  | nil => rfl
  | cons p m ih => simp only [lkA]; rw [if_neg (h p (.head _))]; exact ih fun q hq => h q (.tail _ hq)
theorem put_none {m : List (ByteArray × Int)} {k : ByteArray} (v : Int) (h : ∀ p ∈ m, k ≠ p.1) : putA m k v = m ++ [(k, v)] := by
  induction m with
  | nil => rfl
  | cons p m ih => simp only [putA]; rw [if_neg (h p (.head _)), ih fun q hq => h q (.tail _ hq)]; rfl
theorem Mn_not {n i : Nat} (hn : n ≤ i) (hi : i < 100) : ∀ p ∈ Mn n, wm i ≠ p.1 := by
  intro p hp e
  simp only [Mn, List.mem_map, List.mem_range] at hp
  obtain ⟨j, hj, rfl⟩ := hp
  have := wm_inj hi (by omega) e
  omega
theorem Mn_ann (n : Nat) : ∀ p ∈ Mn n, ann ≠ p.1 := by
  intro p hp e
  simp only [Mn, List.mem_map, List.mem_range] at hp
  obtain ⟨j, hj, rfl⟩ := hp
  exact wm_ann j e.symm
theorem aFind_set {A : List APg} {c : ByteArray} {x y : APg} (h : aFind A c = some x) (hy : y.cart = c) : aFind (aSet A c y) c = some y := by
  induction A with
  | nil => cases h
  | cons z A ih =>
    simp only [aFind] at h
    simp only [aSet]
    split
    · simp only [aFind]; rw [if_pos hy.symm]
    · rename_i e
      rw [if_neg e] at h
      simp only [aFind]; rw [if_neg e]; exact ih h

/-- The page of the first cart is ann's, with n members. -/
def Pg0 (A : List APg) (m : List (ByteArray × Int)) : Prop := aFind A (nm 0) = some ⟨nm 0, ann, m⟩

theorem denied0 (m : List (ByteArray × Int)) (who : ByteArray) (r : Int) (hw : who ≠ ann) (h : bits .andNot .i64 (bits .xor .i64 r ((lkA m who).getD 0)) 15 = 0) : denied ⟨nm 0, ann, m⟩ ann who r = false := by
  unfold denied
  have hr : APg.rights ⟨nm 0, ann, m⟩ ann = 15 := if_pos rfl
  rw [hr, h]
  have h8 : (bits .and .i64 15 8 == 0) = false := by decide +kernel
  rw [h8]
  simp [hw]
theorem nm0_key : keyB (nm 0) = true := nm_key 0 (by omega)
theorem grant_Mn {A : List APg} {i : Nat} (h : Pg0 A (Mn i)) (hi : i < 50) : grantE A ann (nm 0) (wm i) 1 = 0 ∧ Pg0 (grantA A ann (nm 0) (wm i) 1) (Mn (i + 1)) := by
  have hl := lk_none (Mn_not (Nat.le_refl i) (by omega))
  have hd : denied ⟨nm 0, ann, Mn i⟩ ann (wm i) 1 = false := denied0 _ _ _ (wm_ann i) (by rw [hl]; decide +kernel)
  have hE : grantE A ann (nm 0) (wm i) 1 = 0 := by
    unfold grantE
    unfold Pg0 at h
    rw [if_neg (by decide), nm0_key, ann_key, wm_key i (by omega), h]
    simp only [Bool.and_self, if_true, hd, hl, Mn_len]
    simp; omega
  refine ⟨hE, ?_⟩
  unfold grantA
  rw [if_pos hE]
  unfold Pg0 at h ⊢
  rw [h]
  simp only
  rw [if_neg (by decide), put_none _ (Mn_not (Nat.le_refl i) (by omega))]
  have : Mn (i + 1) = Mn i ++ [(wm i, 1)] := by simp [Mn, List.range_succ]
  rw [this]
  exact aFind_set h rfl
theorem grant_full {A : List APg} {i : Nat} (h : Pg0 A (Mn 50)) (h5 : 50 ≤ i) (hi : i < 52) : grantE A ann (nm 0) (wm i) 1 = 7 ∧ Pg0 (grantA A ann (nm 0) (wm i) 1) (Mn 50) := by
  have hl := lk_none (Mn_not h5 (by omega))
  have hd : denied ⟨nm 0, ann, Mn 50⟩ ann (wm i) 1 = false := denied0 _ _ _ (wm_ann i) (by rw [hl]; decide +kernel)
  have hE : grantE A ann (nm 0) (wm i) 1 = 7 := by
    unfold grantE
    unfold Pg0 at h
    rw [if_neg (by decide), nm0_key, ann_key, wm_key i (by omega), h]
    simp only [Bool.and_self, if_true, hd, hl, Mn_len]
    simp
  exact ⟨hE, by unfold grantA; rw [hE]; exact h⟩
theorem pass_Mn {A : List APg} {i : Nat} (h : Pg0 A (Mn i)) (hi : i < 50) : passE A ann (nm 0) (wm i) = 0 ∧ (membersA (passA A ann (nm 0) (wm i)) (nm 0)).length = i + 1 := by
  have hnot := Mn_not (Nat.le_refl i) (by omega)
  have hl := lk_none hnot
  have hE : passE A ann (nm 0) (wm i) = 0 := by
    unfold passE
    unfold Pg0 at h
    rw [nm0_key, ann_key, wm_key i (by omega), h]
    simp only [Bool.and_self, if_true, hl, Mn_len]
    rw [if_neg (wm_ann i).symm]
    simp; omega
  refine ⟨hE, ?_⟩
  unfold passA
  rw [if_pos ⟨hE, (wm_ann i).symm⟩]
  unfold Pg0 at h
  rw [h]
  unfold membersA
  rw [aFind_set h rfl]
  show (memS _).length = _
  have hdel : delA (Mn i) (wm i) = Mn i := by
    have := (ixA_none (Mn i) (wm i) 0 (by
      clear hE h hl
      generalize Mn i = m at *
      generalize 0 = s
      induction m generalizing s with
      | nil => rfl
      | cons p m ih => simp only [ixA]; rw [if_neg (hnot p (.head _))]; exact ih (fun q hq => hnot q (.tail _ hq)) _)).2.2
    exact this
  rw [memS_len, hdel, put_none _ (Mn_ann i)]
  simp [Mn_len]
theorem pass_full {A : List APg} {i : Nat} (h : Pg0 A (Mn 50)) (h5 : 50 ≤ i) (hi : i < 52) : passE A ann (nm 0) (wm i) = 7 ∧ (membersA (passA A ann (nm 0) (wm i)) (nm 0)).length = 50 := by
  have hl := lk_none (Mn_not h5 (by omega))
  have hE : passE A ann (nm 0) (wm i) = 7 := by
    unfold passE
    unfold Pg0 at h
    rw [nm0_key, ann_key, wm_key i (by omega), h]
    simp only [Bool.and_self, if_true, hl, Mn_len]
    rw [if_neg (wm_ann i).symm]
    simp
  refine ⟨hE, ?_⟩
  unfold passA
  rw [hE]
  unfold membersA
  unfold Pg0 at h
  rw [if_neg (by simp), h]
  show (memS _).length = _
  rw [memS_len, Mn_len]
theorem last_two {A : List APg} {n : Nat} (h : Pg0 A (Mn n)) (h2 : 2 ≤ n) (hn : n ≤ 50) : grantE A ann (nm 0) (wm 0) 7 = 0 ∧ passE (grantA A ann (nm 0) (wm 0) 7) ann (nm 0) (wm 1) = 0 ∧ (membersA (passA (grantA A ann (nm 0) (wm 0) 7) ann (nm 0) (wm 1)) (nm 0)).length = n := by
  obtain ⟨k, rfl⟩ : ∃ k, n = k + 2 := ⟨n - 2, by omega⟩
  have hM : Mn (k + 2) = (wm 0, 1) :: (wm 1, 1) :: (List.range k).map fun j => (wm (j + 2), 1) := by
    unfold Mn
    rw [List.range_succ_eq_map, List.range_succ_eq_map]
    simp [Function.comp_def]
  have hlen : ((List.range k).map fun j => (wm (j + 2), (1 : Int))).length = k := by simp
  have hnot : ∀ p ∈ (List.range k).map fun j => (wm (j + 2), (1 : Int)), ann ≠ p.1 := by
    intro p hp e
    simp only [List.mem_map, List.mem_range] at hp
    obtain ⟨j, _, rfl⟩ := hp
    exact wm_ann _ e.symm
  generalize (List.range k).map (fun j => (wm (j + 2), (1 : Int))) = rest at *
  have w01 : wm 1 ≠ wm 0 := fun e => absurd (wm_inj (by omega) (by omega) e) (by decide)
  unfold Pg0 at h
  rw [hM] at h
  have hd : denied ⟨nm 0, ann, (wm 0, 1) :: (wm 1, 1) :: rest⟩ ann (wm 0) 7 = false := denied0 _ _ _ (wm_ann 0) (by simp only [lkA, if_true, Option.getD_some]; decide +kernel)
  have hE : grantE A ann (nm 0) (wm 0) 7 = 0 := by
    unfold grantE
    rw [if_neg (by decide), nm0_key, ann_key, wm_key 0 (by omega), h]
    simp only [Bool.and_self, if_true, hd]
    simp [lkA]
  have hA : aFind (grantA A ann (nm 0) (wm 0) 7) (nm 0) = some ⟨nm 0, ann, (wm 0, 7) :: (wm 1, 1) :: rest⟩ := by
    unfold grantA
    rw [if_pos hE, h]
    simp only
    rw [if_neg (by decide), aFind_set h rfl]
    simp [putA]
  refine ⟨hE, ?_⟩
  generalize grantA A ann (nm 0) (wm 0) 7 = A2 at *
  have hE2 : passE A2 ann (nm 0) (wm 1) = 0 := by
    unfold passE
    rw [nm0_key, ann_key, wm_key 1 (by omega), hA]
    simp only [Bool.and_self, if_true]
    rw [if_neg (wm_ann 1).symm]
    simp [lkA, w01]
  refine ⟨hE2, ?_⟩
  unfold passA
  rw [if_pos ⟨hE2, (wm_ann 1).symm⟩, hA]
  unfold membersA
  rw [aFind_set hA rfl]
  show (memS _).length = _
  rw [memS_len]
  have e1 : delA ((wm 0, (7 : Int)) :: (wm 1, 1) :: rest) (wm 1) = (wm 0, 7) :: rest := by simp [delA, w01]
  have e2 : ∀ p ∈ (wm 0, (7 : Int)) :: rest, ann ≠ p.1 := by
    intro p hp
    rcases List.mem_cons.1 hp with rfl | hp
    · exact (wm_ann 0).symm
    · exact hnot p hp
  show (putA (delA ((wm 0, (7 : Int)) :: (wm 1, 1) :: rest) (wm 1)) ann 15).length = _
  rw [e1, put_none _ e2]
  simp [hlen]
end Go.Proofs.YtdeljhehcjknbaaDoor
