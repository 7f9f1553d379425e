/- Stage 12: what DeltaMany wants besides: a region's operations in whatever order (with reach), and carts with as many items as there may be (plain). -/
import Derived.Test.YtfnfbcaoihhbpaaGreatDoorE5b
namespace Go.Proofs.YtfnfbcaoihhbpaaGreatDoor
open Go
section
variable {P : Program} {ops : Array Oper} {Q : Exit → Act → World → Prop} {md : Region.Mode}
theorem count_set_true {l : Array Bool} {i : Nat} (h : l.getD i true = false) (hi : i < l.size) : (l.setIfInBounds i true).count true = l.count true + 1 := by
  rw [← Array.getElem_eq_getD (h := hi)] at h
  simp [Array.setIfInBounds, hi]
  rw [Array.count_set]
  simp [h]
theorem wpOp_of {i : Nat} {o : Oper} {K : Act → World → Prop} {a : Act} {w : World} (ho : ops[i]? = some o)
    (h : if Region.wanted o (yielded ops a.tmps) then o.wp P a w K Q else K (a.put o.dst undef) w) : wpOp P ops Q i K a w := by
  unfold wpOp
  rw [ho]
  by_cases q : Region.wanted o (yielded ops a.tmps) = true
  · simp only [q, if_true] at h ⊢
    exact Or.inl h
  · simp only [q] at h ⊢
    exact h
def waitsB (md : Region.Mode) (ops : Array Oper) (i d : Nat) : Bool := ((ops[i]?).map (·.after.any fun e => Region.binds md e && e.on == d)).getD false
theorem any_mem {α : Type} {l : Array α} {p : α → Bool} (h : l.any p = true) : ∃ x, x ∈ l ∧ p x = true := by
  rw [Array.any_eq_true] at h
  obtain ⟨i, hi, h⟩ := h
  exact ⟨l[i], Array.getElem_mem hi, h⟩
def reachB (md : Region.Mode) (ops : Array Oper) : Nat → Nat → Nat → Bool
 | 0, j, d => waitsB md ops j d
 | f + 1, j, d => waitsB md ops j d || (List.range ops.size).any (fun k => waitsB md ops j k && reachB md ops f k d)
theorem waits_listed {listed : Array Bool} {j d : Nat} (h : ∀ o, ops[j]? = some o → ∀ e ∈ o.after, Region.binds md e = true → listed.getD e.on false = true) (hw : waitsB md ops j d = true) : listed.getD d false = true := by
 unfold waitsB at hw
 cases ho : ops[j]? with
 | none => rw [ho] at hw; simp at hw
 | some o =>
  rw [ho] at hw
  simp only [Option.map_some, Option.getD_some] at hw
  obtain ⟨e, he, h2⟩ := any_mem hw
  rw [Bool.and_eq_true] at h2
  have h3 : e.on = d := by simpa using h2.2
  rw [← h3]
  exact h o ho e he h2.1
def Closed (md : Region.Mode) (ops : Array Oper) (listed : Array Bool) : Prop := ∀ i d, listed.getD i false = true → waitsB md ops i d = true → listed.getD d false = true
theorem reach_listed {listed : Array Bool} (hc : Closed md ops listed) : ∀ (f j d : Nat), (∀ k, waitsB md ops j k = true → listed.getD k false = true) → reachB md ops f j d = true → listed.getD d false = true
 | 0, j, d, hj, h => hj d h
 | f + 1, j, d, hj, h => by
  unfold reachB at h
  rw [Bool.or_eq_true, List.any_eq_true] at h
  rcases h with h | ⟨k, _, h⟩
  ·exact hj d h
  ·rw [Bool.and_eq_true] at h
   exact reach_listed hc f k d (fun m hm => hc k m (hj k h.1) hm) h.2
theorem getD_set_same {l : Array Bool} {i : Nat} {d : Bool} (h : i < l.size) : (l.setIfInBounds i true).getD i d = true := by
 rw [Array.getD_eq_getD_getElem?, Array.getElem?_setIfInBounds_self_of_lt h]
 rfl
theorem wpAny_invC0 (n f : Nat) (full pre : Array Bool) (I : Array Bool → Act → World → Prop) (hn : n ≤ ops.size)
  (hfull : full = Array.ofFn (n := ops.size) (fun i => decide (i.val < n))) (hcnt : full.count true = n)
  (hback : ∀ i, i < n → ∀ o, ops[i]? = some o → ∀ e ∈ o.after, Region.binds md e = true → e.on < i)
  (hwait : ∀ j, n ≤ j → j < ops.size → ∀ d, d < n → pre.getD d false = true ∨ reachB md ops f j d = true)
  (step : ∀ i, i < n → ∀ listed a w, (∀ d, waitsB md ops i d = true → listed.getD d false = true) → I listed a w →
   ∀ K : Act → World → Prop, (∀ a' w', I (listed.setIfInBounds i true) a' w' → K a' w') → wpOp P ops Q i K a w)
  (last : ∀ a w, I full a w → wpAny P md ops Q (ops.size - n) full a w) :
  ∀ (fuel : Nat) (listed : Array Bool) (a : Act) (w : World), listed.size = ops.size → fuel + listed.count true = ops.size → (∀ j, n ≤ j → listed.getD j false = false) →
   Closed md ops listed → (∀ d, pre.getD d false = true → listed.getD d false = true) → I listed a w → wpAny P md ops Q fuel listed a w := by
 have hff : ∀ listed : Array Bool, listed.size = ops.size → (∀ j, n ≤ j → listed.getD j false = false) → (∀ j, j < n → listed.getD j false = true) → listed = full := by
  intro listed hs hj hall
  rw [hfull]
  apply Array.ext
  ·simp [hs]
  ·intro i h1 h2
   by_cases h : i < n
   ·have := hall i h
    rw [← Array.getElem_eq_getD (h := h1)] at this
    simp [h, this]
   ·have := hj i (by omega)
    rw [← Array.getElem_eq_getD (h := h1)] at this
    simp [h, this]
 intro fuel
 induction fuel with
 | zero =>
  intro listed a w hs hc hj hcl hpre hI
  have hcc : listed.count true = listed.size := by omega
  have hall := Array.count_eq_size.1 hcc
  have hgall : ∀ j, j < listed.size → listed.getD j false = true := fun j h1 => by
   rw [← Array.getElem_eq_getD (h := h1)]
   exact (hall _ (Array.getElem_mem h1)).symm
  have hf : listed = full := hff listed hs hj (fun j h => hgall j (by omega))
  have hsn : ops.size - n = 0 := by
   by_cases h : n < ops.size
   ·have := hj n (Nat.le_refl _)
    rw [hgall n (by omega)] at this
    cases this
   ·omega
  have := last a w (hf ▸ hI)
  rw [hsn, ← hf] at this
  exact this
 | succ fuel ih =>
  intro listed a w hs hc hj hcl hpre hI
  by_cases hall : ∀ j, j < n → listed.getD j false = true
  ·have hf : listed = full := hff listed hs hj hall
   have hcn : listed.count true = n := by
    rw [hf]; exact hcnt
   have := last a w (hf ▸ hI)
   rw [show ops.size - n = fuel + 1 by omega, ← hf] at this
   exact this
  ·have hmem : ∀ j, j ∈ Region.ready md ops listed → j < n := by
    intro j hjr
    obtain ⟨h1, o, h2, h3⟩ := mem_ready.1 hjr
    by_cases h : j < n
    ·exact h
    ·exfalso
     have hjs : j < ops.size := by
      rcases Nat.lt_or_ge j ops.size with h' | h'
      ·exact h'
      ·rw [Array.getElem?_eq_none h'] at h2; cases h2
     refine hall (fun d hd => ?_)
     rcases hwait j (by omega) hjs d hd with h4 | h4
     ·exact hpre d h4
     ·exact reach_listed hcl f j d (fun k hk => waits_listed (fun o' ho' => by rw [h2] at ho'; cases ho'; exact h3) hk) h4
   refine ⟨fun h0 => ?_, fun i hi => ?_⟩
   ·exfalso
    refine hall (fun j => ?_)
    induction j using Nat.strongRecOn with
    | _ j ihj =>
     intro hjn
     by_cases hl : listed.getD j false = true
     ·exact hl
     ·exfalso
      have hlt : j < ops.size := by omega
      have : j ∈ Region.ready md ops listed := by
       refine mem_ready.2 ⟨?_, ops[j], Array.getElem?_eq_getElem hlt, fun e he hb => ihj e.on (hback j hjn _ (Array.getElem?_eq_getElem hlt) e he hb) ?_⟩
       ·have h1 : j < listed.size := by omega
        rw [← Array.getElem_eq_getD (h := h1)] at hl ⊢
        simpa using hl
       ·have := hback j hjn _ (Array.getElem?_eq_getElem hlt) e he hb
        omega
      rw [h0] at this
      cases this
   ·have hin := hmem i hi
    obtain ⟨h1, o, h2, h3⟩ := mem_ready.1 hi
    have hlt : i < listed.size := by omega
    have hwl : ∀ d, waitsB md ops i d = true → listed.getD d false = true := fun d hd => waits_listed (fun o' ho' => by rw [h2] at ho'; cases ho'; exact h3) hd
    have hset : ∀ d, listed.getD d false = true → (listed.setIfInBounds i true).getD d false = true := fun d hd => by
     by_cases e : d = i
     ·subst e; exact getD_set_same hlt
     ·rw [getD_set_ne e]; exact hd
    refine step i hin listed a w hwl hI _ (fun a' w' h' => ih _ a' w' (by simp [hs]) (by rw [count_set_true h1 hlt]; omega) (fun j hjn => ?_) (fun k d hk hd => ?_) (fun d hd => hset d (hpre d hd)) h')
    ·rw [getD_set_ne (by omega)]
     exact hj j hjn
    ·by_cases e : k = i
     ·subst e
      exact hset d (hwl d hd)
     ·rw [getD_set_ne e] at hk
      exact hset d (hcl k d hk hd)
theorem wpAny_invC (n f : Nat) (full pre : Array Bool) (I : Array Bool → Act → World → Prop) (hn : n ≤ ops.size)
  (hfull : full = Array.ofFn (n := ops.size) (fun i => decide (i.val < n))) (hcnt : full.count true = n)
  (hback : ((List.range n).all fun i => ((ops[i]?).map (·.after.all fun e => !Region.binds md e || decide (e.on < i))).getD true) = true)
  (hwait : ((List.range ops.size).all fun j => decide (j < n) || ((List.range n).all fun d => pre.getD d false || reachB md ops f j d)) = true)
  (hcl : ((List.range ops.size).all fun i => !pre.getD i false || ((List.range ops.size).all fun d => !waitsB md ops i d || pre.getD d false)) = true)
  (hedge : ((List.range ops.size).all fun i => ((ops[i]?).map (·.after.all fun e => decide (e.on < ops.size))).getD true) = true)
  (hpn : ((List.range ops.size).all fun i => decide (i < n) || !pre.getD i false) = true) (hps : pre.size = ops.size)
  (step : ∀ i, i < n → ∀ listed a w, (∀ d, waitsB md ops i d = true → listed.getD d false = true) → I listed a w →
   ∀ K : Act → World → Prop, (∀ a' w', I (listed.setIfInBounds i true) a' w' → K a' w') → wpOp P ops Q i K a w)
  (last : ∀ a w, I full a w → wpAny P md ops Q (ops.size - n) full a w)
  (fuel : Nat) (hfu : fuel + pre.count true = ops.size) (a : Act) (w : World) (hI : I pre a w) : wpAny P md ops Q fuel pre a w := by
 have hlt : ∀ i, pre.getD i false = true → i < ops.size := fun i h => by
  rcases Nat.lt_or_ge i ops.size with h' | h'
  ·exact h'
  ·rw [Array.getD_eq_getD_getElem?, Array.getElem?_eq_none (by omega)] at h
   cases h
 refine wpAny_invC0 n f full pre I hn hfull hcnt (fun i hi o ho e he hb => ?_) (fun j hj hjs d hd => ?_) step last fuel pre a w hps hfu (fun j hj => ?_) (fun i d hi hd => ?_) (fun d h => h) hI
 ·have := List.all_eq_true.1 hback i (List.mem_range.2 hi)
  rw [ho] at this
  simp only [Option.map_some, Option.getD_some] at this
  have := Array.all_eq_true_iff_forall_mem.1 this e he
  rw [hb] at this
  simpa using this
 ·have := List.all_eq_true.1 hwait j (List.mem_range.2 hjs)
  rw [decide_eq_false (by omega : ¬ j < n), Bool.false_or] at this
  have := List.all_eq_true.1 this d (List.mem_range.2 hd)
  simpa using this
 ·rcases h : pre.getD j false with _ | _
  ·rfl
  ·have := List.all_eq_true.1 hpn j (List.mem_range.2 (hlt j h))
   rw [decide_eq_false (by omega : ¬ j < n), h] at this
   cases this
 ·have h1 := List.all_eq_true.1 hcl i (List.mem_range.2 (hlt i hi))
  rw [hi] at h1
  simp only [Bool.not_true, Bool.false_or] at h1
  have hds : d < ops.size := by
   have h2 := List.all_eq_true.1 hedge i (List.mem_range.2 (hlt i hi))
   unfold waitsB at hd
   cases ho : ops[i]? with
   | none => rw [ho] at hd; simp at hd
   | some o =>
    rw [ho] at hd h2
    simp only [Option.map_some, Option.getD_some] at hd h2
    obtain ⟨e, he, h3⟩ := any_mem hd
    rw [Bool.and_eq_true] at h3
    have h4 : e.on = d := by simpa using h3.2
    have := Array.all_eq_true_iff_forall_mem.1 h2 e he
    rw [← h4]
    simpa using this
  have := List.all_eq_true.1 h1 d (List.mem_range.2 hds)
  rw [hd] at this
  simpa using this
end
end Go.Proofs.YtfnfbcaoihhbpaaGreatDoor
namespace Go.Proofs.YtfnfbcaoihhbpaaGreatDoor
def manyName (i : Nat) : ByteArray := ⟨#[UInt8.ofNat (97 + i / 16), UInt8.ofNat (97 + i % 16)]⟩
def manyItem (i : Nat) : ItemD := ⟨manyName i, [⟨⟨1, (i : Int) + 1⟩, 5, 7⟩]⟩
def manyI (n : Nat) : List ItemD := (List.range n).map manyItem
def manyC (n : Nat) : CartD := ⟨[⟨1, n⟩], [], manyI n⟩
theorem manyI_succ (n : Nat) : manyI (n + 1) = manyI n ++ [manyItem n] := by
 unfold manyI
 rw [List.range_succ, List.map_append]; rfl
theorem manyI_len (n : Nat) : (manyI n).length = n := by simp [manyI]
theorem many_one : ((List.range 258).map manyItem).all oneI = true := by decide +kernel
theorem many_ris : risB ((List.range 258).map manyItem) = true := by decide +kernel
theorem many_sub {n : Nat} (h : n ≤ 258) : (manyI n).Sublist (manyI 258) := by
 unfold manyI
 refine List.Sublist.map _ ?_
 have : List.range n = (List.range 258).take n := by rw [List.take_range, Nat.min_eq_left h]
 rw [this]
 exact List.take_sublist _ _
theorem many_meet (n : Nat) : (manyI n).Pairwise (fun a b => meetB a b = false) := by
 unfold manyI
 rw [List.pairwise_map]
 refine List.Pairwise.imp (fun {a b} h => ?_) (List.pairwise_lt_range (n := n))
 rw [meetB_false]
 intro d h1 h2
 simp [dotsM, manyItem] at h1 h2
 rw [h1] at h2
 have := congrArg DotD.ctr h2
 simp at this
 omega
theorem many_valid {n : Nat} (h : n ≤ 258) : validI (manyI n) = true :=
 validI_of (fun x hx => List.all_eq_true.1 many_one x ((many_sub h).subset hx)) (risB_iff.2 ((risB_iff.1 many_ris).sublist (many_sub h))) (many_meet n)
theorem many_mem {n : Nat} {x : ItemD} (hx : x ∈ manyI n) : ∃ i, i < n ∧ x = manyItem i := by
 obtain ⟨i, hi, rfl⟩ := List.mem_map.1 hx
 exact ⟨i, List.mem_range.1 hi, rfl⟩
theorem manyC_valid {n : Nat} (h0 : 1 ≤ n) (h : n ≤ 258) : validC (manyC n) = true := by
 have hv : validV [⟨1, (n : Int)⟩] = true := validV_of (by simp [validDotD]; omega) (List.pairwise_singleton _ _)
 refine validC_of (by unfold compactB validX; show ((validV [⟨1, (n : Int)⟩] && isSetB [] && [].all validDotD) && !([] : List DotD).any _) = true; rw [hv]; rfl) (many_valid h) (fun d hd => ?_)
 obtain ⟨x, hx, m, hm, rfl⟩ := mem_allDots.1 hd
 obtain ⟨i, hi, rfl⟩ := many_mem hx
 have : m.dot = ⟨1, (i : Int) + 1⟩ := by rw [List.mem_singleton.1 hm]
 rw [this]
 show hasX [⟨1, (n : Int)⟩] [] _ = true
 rw [hasX_iff]
 refine ⟨(validDot_iff _).2 (by simp; omega), Or.inl ?_⟩
 simp [getV]
 omega
theorem manyC_fresh {n : Nat} (h0 : 1 ≤ n) (h : n ≤ 258) : freshC (manyC n) ⟨1, (n : Int) + 1⟩ = true := by
 unfold freshC
 rw [manyC_valid h0 h]
 have h1 : validDotD ⟨1, (n : Int) + 1⟩ = true := (validDot_iff _).2 (by simp; omega)
 have h2 : hasC (manyC n) ⟨1, (n : Int) + 1⟩ = false := by
  rw [← Bool.not_eq_true]
  intro hh
  have : hasX [⟨1, (n : Int)⟩] [] ⟨1, (n : Int) + 1⟩ = true := hh
  rw [hasX_iff] at this
  rcases this.2 with h3 | h3
  ·simp [getV] at h3
   omega
  ·simp at h3
 rw [h1, h2]; rfl
theorem many_time {n : Nat} (h0 : 1 ≤ n) (h : n ≤ 258) : timeC (manyC n) = 8 ∧ timeCE (manyC n) = 0 := by
 have hl : lastT (allMarks (manyC n).items) = 7 := by
  rw [lastT_newest (allMarks_time (validC_parts (manyC_valid h0 h)).2.1)]
  have hne : allMarks (manyC n).items ≠ [] := by
   intro e
   have : (⟨⟨1, ((0 : Nat) : Int) + 1⟩, 5, 7⟩ : MarkD) ∈ allMarks (manyC n).items := List.mem_flatMap.2 ⟨manyItem 0, List.mem_map.2 ⟨0, List.mem_range.2 (by omega), rfl⟩, by simp [manyItem]⟩
   rw [e] at this
   simp at this
  obtain ⟨x, hx, hm⟩ := List.mem_flatMap.1 (newestM_mem hne)
  obtain ⟨i, hi, rfl⟩ := many_mem hx
  have e : newestM (allMarks (manyC n).items) = ⟨⟨1, (i : Int) + 1⟩, 5, 7⟩ := List.mem_singleton.1 hm
  rw [e]
 unfold timeC timeCE
 rw [manyC_valid h0 h, hl]
 exact ⟨rfl, rfl⟩
def tTil : ByteArray := ⟨#[126]⟩
def tAA : ByteArray := ⟨#[97, 97]⟩
theorem many_til (n : Nat) : thereB (manyI n) tTil = false := by
 unfold thereB
 rw [List.any_eq_false]
 intro x hx
 obtain ⟨i, hi, rfl⟩ := many_mem hx
 simp only [decide_eq_true_eq]
 intro e
 have := congrArg ByteArray.size e
 have h2 : (manyItem i).name.size = 2 := rfl
 have h3 : tTil.size = 1 := rfl
 omega
theorem many_first {n : Nat} (h0 : 1 ≤ n) (h : n ≤ 258) : marksOf (manyI n) tAA = [⟨⟨1, 1⟩, 5, 7⟩] ∧ thereB (manyI n) tAA = true := by
 have hx : manyItem 0 ∈ manyI n := List.mem_map.2 ⟨0, List.mem_range.2 (by omega), rfl⟩
 have hn : (manyItem 0).name = tAA := by decide +kernel
 constructor
 ·rw [← hn, marksOf_mem (many_valid h) hx]; decide +kernel
 ·rw [← hn]; exact thereB_mem hx
theorem many_gone1 {n : Nat} (h0 : 254 ≤ n) (h : n ≤ 258) : goneC [⟨1, (n : Int) + 1⟩] = ⟨[], [⟨1, (n : Int) + 1⟩], []⟩ := by
 rw [goneK_eq]
 have : n = 254 ∨ n = 255 ∨ n = 256 ∨ n = 257 ∨ n = 258 := by omega
 rcases this with rfl | rfl | rfl | rfl | rfl <;> decide +kernel
theorem many_gone2 {n : Nat} (h0 : 254 ≤ n) (h : n ≤ 258) : goneC [⟨1, (n : Int) + 1⟩, ⟨1, 1⟩] = ⟨[⟨1, 1⟩], [⟨1, (n : Int) + 1⟩], []⟩ := by
 rw [goneK_eq]
 have : n = 254 ∨ n = 255 ∨ n = 256 ∨ n = 257 ∨ n = 258 := by omega
 rcases this with rfl | rfl | rfl | rfl | rfl <;> decide +kernel
theorem nameB_til : nameB tTil = true := by decide +kernel
theorem nameB_aa : nameB tAA = true := by decide +kernel
theorem many_put1 {n : Nat} (h0 : 254 ≤ n) (h : n ≤ 258) : putCE (manyC n) ⟨1, (n : Int) + 1⟩ tTil 3 false = (if 256 ≤ n then 13 else 0) := by
 unfold putCE
 rw [manyC_fresh (by omega) h, nameB_til, show thereB (manyC n).items tTil = false from many_til n, show (manyC n).items.length = n from manyI_len n, (many_time (by omega) h).2]
 simp [validQ]
theorem many_put2 {n : Nat} (h0 : 254 ≤ n) (h : n ≤ 258) : putCE (manyC n) ⟨1, (n : Int) + 1⟩ tTil 3 true = 9 := by
 unfold putCE
 rw [manyC_fresh (by omega) h, nameB_til, show thereB (manyC n).items tTil = false from many_til n]
 simp [validQ]
theorem many_put3 {n : Nat} (h0 : 254 ≤ n) (h : n ≤ 258) (set : Bool) : putCE (manyC n) ⟨1, (n : Int) + 1⟩ tAA 3 set = 0 := by
 unfold putCE
 rw [manyC_fresh (by omega) h, nameB_aa, show thereB (manyC n).items tAA = true from (many_first (by omega) h).2, (many_time (by omega) h).2]
 cases set <;> simp [validQ]
theorem many_new1 {n : Nat} (h0 : 254 ≤ n) (h : n ≤ 258) : putOf (manyC n) ⟨1, (n : Int) + 1⟩ tTil 3 = ⟨[], [⟨1, (n : Int) + 1⟩], [⟨tTil, [⟨⟨1, (n : Int) + 1⟩, 3, 8⟩]⟩]⟩ := by
 unfold putOf newM
 rw [dotsC_named (manyC_valid (by omega) h) nameB_til, show marksOf (manyC n).items tTil = [] from marksOf_none (fun x hx e => by
  have := many_til n
  rw [← e, thereB_mem (l := manyI n) hx] at this
  cases this), (many_time (by omega) h).1]
 show CartD.mk (goneC [⟨1, (n : Int) + 1⟩]).vec (goneC [⟨1, (n : Int) + 1⟩]).cloud _ = _
 rw [many_gone1 h0 h]
theorem many_new2 {n : Nat} (h0 : 254 ≤ n) (h : n ≤ 258) : putOf (manyC n) ⟨1, (n : Int) + 1⟩ tAA 3 = ⟨[⟨1, 1⟩], [⟨1, (n : Int) + 1⟩], [⟨tAA, [⟨⟨1, (n : Int) + 1⟩, 3, 8⟩]⟩]⟩ := by
 unfold putOf newM
 rw [dotsC_named (manyC_valid (by omega) h) nameB_aa, show marksOf (manyC n).items tAA = _ from (many_first (by omega) h).1, (many_time (by omega) h).1]
 show CartD.mk (goneC [⟨1, (n : Int) + 1⟩, ⟨1, 1⟩]).vec (goneC [⟨1, (n : Int) + 1⟩, ⟨1, 1⟩]).cloud _ = _
 rw [many_gone2 h0 h]
end Go.Proofs.YtfnfbcaoihhbpaaGreatDoor
