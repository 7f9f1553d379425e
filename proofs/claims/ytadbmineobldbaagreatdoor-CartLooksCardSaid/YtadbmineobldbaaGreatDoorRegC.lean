/- The rule for drawn regions where some operations were taken first, and where waiting goes over other operations. -/
import Derived.Test.YtadbmineobldbaaGreatDoorReg
namespace Go.Proofs.YtadbmineobldbaaGreatDoor
open Go
section
variable {P : Program} {ops : Array Oper} {Q : Exit → Act → World → Prop} {md : Region.Mode}
def reachB (md : Region.Mode) (ops : Array Oper) : Nat → Nat → Nat → Bool
 | 0, j, d => waitsB md ops j d
 | f + 1, j, d => waitsB md ops j d || (List.range ops.size).any (fun k => waitsB md ops j k && reachB md ops f k d)
theorem waits_listed {listed : Array Bool} {j d : Nat} (h : ∀ o, ops[j]? = some o → ∀ e ∈ o.after, Region.binds md e = true → listed.getD e.on false = true) (hw : waitsB md ops j d = true) : listed.getD d false = true := by
 unfold waitsB at hw
 cases ho : ops[j]? with
 | none => rw [ho] at hw; simp at hw
 | some o =>
  rw [ho] at hw;simp only [Option.map_some, Option.getD_some] at hw;obtain ⟨e, he, h2⟩ := any_mem hw;rw [Bool.and_eq_true] at h2;have h3 : e.on = d := by simpa using h2.2
  rw [← h3];exact h o ho e he h2.1
def Closed (md : Region.Mode) (ops : Array Oper) (listed : Array Bool) : Prop := ∀ i d, listed.getD i false = true → waitsB md ops i d = true → listed.getD d false = true
theorem reach_listed {listed : Array Bool} (hc : Closed md ops listed) : ∀ (f j d : Nat), (∀ k, waitsB md ops j k = true → listed.getD k false = true) → reachB md ops f j d = true → listed.getD d false = true
 | 0, j, d, hj, h => hj d h
 | f + 1, j, d, hj, h => by
  unfold reachB at h;rw [Bool.or_eq_true, List.any_eq_true] at h
  rcases h with h | ⟨k, _, h⟩
  ·exact hj d h
  ·rw [Bool.and_eq_true] at h
   exact reach_listed hc f k d (fun m hm => hc k m (hj k h.1) hm) h.2
theorem getD_set_same {l : Array Bool} {i : Nat} {d : Bool} (h : i < l.size) : (l.setIfInBounds i true).getD i d = true := by
 rw [Array.getD_eq_getD_getElem?, Array.getElem?_setIfInBounds_self_of_lt h]
 rfl
theorem wpAny_invC0 (n f : Nat) (full pre : Array Bool) (I : Array Bool → Act → World → Prop) (hn : n ≤ ops.size)
  (hfull : full = Array.ofFn (n := ops.size) (fun i => decide (i.val < n))) (hcnt : full.count true = n)
  (hback : ∀ i, i < n → ∀ o, ops[i]? = some o → ∀ e ∈ o.after, Region.binds md e = true → e.on < i)
  (hwait : ∀ j, n ≤ j → j < ops.size → ∀ d, d < n → pre.getD d false = true ∨ reachB md ops f j d = true)
  (step : ∀ i, i < n → ∀ listed a w, (∀ d, waitsB md ops i d = true → listed.getD d false = true) → I listed a w →
   ∀ K : Act → World → Prop, (∀ a' w', I (listed.setIfInBounds i true) a' w' → K a' w') → wpOp P ops Q i K a w)
  (last : ∀ a w, I full a w → wpAny P md ops Q (ops.size - n) full a w) :
  ∀ (fuel : Nat) (listed : Array Bool) (a : Act) (w : World), listed.size = ops.size → fuel + listed.count true = ops.size → (∀ j, n ≤ j → listed.getD j false = false) →
   Closed md ops listed → (∀ d, pre.getD d false = true → listed.getD d false = true) → I listed a w → wpAny P md ops Q fuel listed a w := by
 have hff : ∀ listed : Array Bool, listed.size = ops.size → (∀ j, n ≤ j → listed.getD j false = false) → (∀ j, j < n → listed.getD j false = true) → listed = full := by
  intro listed hs hj hall;rw [hfull]
  apply Array.ext
  ·simp [hs]
  ·intro i h1 h2
   by_cases h : i < n
   ·have := hall i h
    rw [← Array.getElem_eq_getD (h := h1)] at this
    simp [h, this]
   ·have := hj i (by omega)
    rw [← Array.getElem_eq_getD (h := h1)] at this
    simp [h, this]
 intro fuel
 induction fuel with
 | zero =>
  intro listed a w hs hc hj hcl hpre hI;have hcc : listed.count true = listed.size := by omega
  have hall := Array.count_eq_size.1 hcc;have hgall : ∀ j, j < listed.size → listed.getD j false = true := fun j h1 => by
   rw [← Array.getElem_eq_getD (h := h1)];exact (hall _ (Array.getElem_mem h1)).symm
  have hf : listed = full := hff listed hs hj (fun j h => hgall j (by omega))
  have hsn : ops.size - n = 0 := by
   by_cases h : n < ops.size
   ·have := hj n (Nat.le_refl _)
    rw [hgall n (by omega)] at this
    cases this
   ·omega
  have := last a w (hf ▸ hI);rw [hsn, ← hf] at this;exact this
 | succ fuel ih =>
  intro listed a w hs hc hj hcl hpre hI
  by_cases hall : ∀ j, j < n → listed.getD j false = true
  ·have hf : listed = full := hff listed hs hj hall
   have hcn : listed.count true = n := by
    rw [hf]; exact hcnt
   have := last a w (hf ▸ hI);rw [show ops.size - n = fuel + 1 by omega, ← hf] at this
   exact this
  ·have hmem : ∀ j, j ∈ Region.ready md ops listed → j < n := by
    intro j hjr;obtain ⟨h1, o, h2, h3⟩ := mem_ready.1 hjr
    by_cases h : j < n
    ·exact h
    ·exfalso
     have hjs : j < ops.size := by
      rcases Nat.lt_or_ge j ops.size with h' | h'
      ·exact h'
      ·rw [Array.getElem?_eq_none h'] at h2; cases h2
     refine hall (fun d hd => ?_)
     rcases hwait j (by omega) hjs d hd with h4 | h4
     ·exact hpre d h4
     ·exact reach_listed hcl f j d (fun k hk => waits_listed (fun o' ho' => by rw [h2] at ho'; cases ho'; exact h3) hk) h4
   refine ⟨fun h0 => ?_, fun i hi => ?_⟩
   ·exfalso
    refine hall (fun j => ?_)
    induction j using Nat.strongRecOn with
    | _ j ihj =>
     intro hjn
     by_cases hl : listed.getD j false = true
     ·exact hl
     ·exfalso
      have hlt : j < ops.size := by omega
      have : j ∈ Region.ready md ops listed := by
       refine mem_ready.2 ⟨?_, ops[j], Array.getElem?_eq_getElem hlt, fun e he hb => ihj e.on (hback j hjn _ (Array.getElem?_eq_getElem hlt) e he hb) ?_⟩
       ·have h1 : j < listed.size := by omega
        rw [← Array.getElem_eq_getD (h := h1)] at hl ⊢
        simpa using hl
       ·have := hback j hjn _ (Array.getElem?_eq_getElem hlt) e he hb
        omega
      rw [h0] at this
      cases this
   ·have hin := hmem i hi
    obtain ⟨h1, o, h2, h3⟩ := mem_ready.1 hi;have hlt : i < listed.size := by omega
    have hwl : ∀ d, waitsB md ops i d = true → listed.getD d false = true := fun d hd => waits_listed (fun o' ho' => by rw [h2] at ho'; cases ho'; exact h3) hd
    have hset : ∀ d, listed.getD d false = true → (listed.setIfInBounds i true).getD d false = true := fun d hd => by
     by_cases e : d = i
     ·subst e; exact getD_set_same hlt
     ·rw [getD_set_ne e]; exact hd
    refine step i hin listed a w hwl hI _ (fun a' w' h' => ih _ a' w' (by simp [hs]) (by rw [count_set_true h1 hlt]; omega) (fun j hjn => ?_) (fun k d hk hd => ?_) (fun d hd => hset d (hpre d hd)) h')
    ·rw [getD_set_ne (by omega)]
     exact hj j hjn
    ·by_cases e : k = i
     ·subst e
      exact hset d (hwl d hd)
     ·rw [getD_set_ne e] at hk
      exact hset d (hcl k d hk hd)
theorem wpAny_invC (n f : Nat) (full pre : Array Bool) (I : Array Bool → Act → World → Prop) (hn : n ≤ ops.size)
  (hfull : full = Array.ofFn (n := ops.size) (fun i => decide (i.val < n))) (hcnt : full.count true = n)
  (hback : ((List.range n).all fun i => ((ops[i]?).map (·.after.all fun e => !Region.binds md e || decide (e.on < i))).getD true) = true)
  (hwait : ((List.range ops.size).all fun j => decide (j < n) || ((List.range n).all fun d => pre.getD d false || reachB md ops f j d)) = true)
  (hcl : ((List.range ops.size).all fun i => !pre.getD i false || ((List.range ops.size).all fun d => !waitsB md ops i d || pre.getD d false)) = true)
  (hedge : ((List.range ops.size).all fun i => ((ops[i]?).map (·.after.all fun e => decide (e.on < ops.size))).getD true) = true)
  (hpn : ((List.range ops.size).all fun i => decide (i < n) || !pre.getD i false) = true) (hps : pre.size = ops.size)
  (step : ∀ i, i < n → ∀ listed a w, (∀ d, waitsB md ops i d = true → listed.getD d false = true) → I listed a w →
   ∀ K : Act → World → Prop, (∀ a' w', I (listed.setIfInBounds i true) a' w' → K a' w') → wpOp P ops Q i K a w)
  (last : ∀ a w, I full a w → wpAny P md ops Q (ops.size - n) full a w)
  (fuel : Nat) (hfu : fuel + pre.count true = ops.size) (a : Act) (w : World) (hI : I pre a w) : wpAny P md ops Q fuel pre a w := by
 have hlt : ∀ i, pre.getD i false = true → i < ops.size := fun i h => by
  rcases Nat.lt_or_ge i ops.size with h' | h'
  ·exact h'
  ·rw [Array.getD_eq_getD_getElem?, Array.getElem?_eq_none (by omega)] at h
   cases h
 refine wpAny_invC0 n f full pre I hn hfull hcnt (fun i hi o ho e he hb => ?_) (fun j hj hjs d hd => ?_) step last fuel pre a w hps hfu (fun j hj => ?_) (fun i d hi hd => ?_) (fun d h => h) hI
 ·have := List.all_eq_true.1 hback i (List.mem_range.2 hi)
  rw [ho] at this;simp only [Option.map_some, Option.getD_some] at this;have := Array.all_eq_true_iff_forall_mem.1 this e he;rw [hb] at this
  simpa using this
 ·have := List.all_eq_true.1 hwait j (List.mem_range.2 hjs)
  rw [decide_eq_false (by omega : ¬ j < n), Bool.false_or] at this
  have := List.all_eq_true.1 this d (List.mem_range.2 hd)
  simpa using this
 ·rcases h : pre.getD j false with _ | _
  ·rfl
  ·have := List.all_eq_true.1 hpn j (List.mem_range.2 (hlt j h))
   rw [decide_eq_false (by omega : ¬ j < n), h] at this
   cases this
 ·have h1 := List.all_eq_true.1 hcl i (List.mem_range.2 (hlt i hi))
  rw [hi] at h1;simp only [Bool.not_true, Bool.false_or] at h1;have hds : d < ops.size := by
   have h2 := List.all_eq_true.1 hedge i (List.mem_range.2 (hlt i hi));unfold waitsB at hd
   cases ho : ops[i]? with
   | none => rw [ho] at hd; simp at hd
   | some o =>
    rw [ho] at hd h2;simp only [Option.map_some, Option.getD_some] at hd h2;obtain ⟨e, he, h3⟩ := any_mem hd;rw [Bool.and_eq_true] at h3;have h4 : e.on = d := by simpa using h3.2
    have := Array.all_eq_true_iff_forall_mem.1 h2 e he;rw [← h4]
    simpa using this
  have := List.all_eq_true.1 h1 d (List.mem_range.2 hds);rw [hd] at this
  simpa using this
end
end Go.Proofs.YtadbmineobldbaaGreatDoor
namespace Go.Proofs.YtadbmineobldbaaGreatDoor
open Go
section
variable {P : Program} {ops : Array Oper} {Q : Exit → Act → World → Prop} {md : Region.Mode}
theorem wpAny_invM0 (G : Array Bool) (f : Nat) (I : Array Bool → Act → World → Prop) (hGs : G.size = ops.size)
  (hback : ∀ i, G.getD i false = true → ∀ o, ops[i]? = some o → ∀ e ∈ o.after, Region.binds md e = true → e.on < i ∧ G.getD e.on false = true)
  (hwait : ∀ j, j < ops.size → G.getD j false = false → ∀ d, G.getD d false = true → reachB md ops f j d = true)
  (step : ∀ i, G.getD i false = true → ∀ listed a w, (∀ d, waitsB md ops i d = true → listed.getD d false = true) → I listed a w →
   ∀ K : Act → World → Prop, (∀ a' w', I (listed.setIfInBounds i true) a' w' → K a' w') → wpOp P ops Q i K a w)
  (last : ∀ a w, I G a w → wpAny P md ops Q (ops.size - G.count true) G a w) :
  ∀ (fuel : Nat) (listed : Array Bool) (a : Act) (w : World), listed.size = ops.size → fuel + listed.count true = ops.size → (∀ j, G.getD j false = false → listed.getD j false = false) →
   Closed md ops listed → I listed a w → wpAny P md ops Q fuel listed a w := by
 have hff : ∀ listed : Array Bool, listed.size = ops.size → (∀ j, G.getD j false = false → listed.getD j false = false) → (∀ j, G.getD j false = true → listed.getD j false = true) → listed = G := by
  intro listed hs hj hall
  apply Array.ext
  ·omega
  ·intro i h1 h2
   rw [Array.getElem_eq_getD (h := h1) (fallback := false), Array.getElem_eq_getD (h := h2) (fallback := false)]
   rcases h : G.getD i false with _ | _
   ·exact hj i h
   ·exact hall i h
 intro fuel
 induction fuel with
 | zero =>
  intro listed a w hs hc hj hcl hI;have hcc : listed.count true = listed.size := by omega
  have hall := Array.count_eq_size.1 hcc;have hgall : ∀ j, j < listed.size → listed.getD j false = true := fun j h1 => by
   rw [← Array.getElem_eq_getD (h := h1)];exact (hall _ (Array.getElem_mem h1)).symm
  have hf : listed = G := hff listed hs hj (fun j h => hgall j (by
   rcases Nat.lt_or_ge j listed.size with h' | h'
   ·exact h'
   ·rw [Array.getD_eq_getD_getElem?, Array.getElem?_eq_none (by omega)] at h
    cases h))
  have := last a w (hf ▸ hI);rw [← hf, show ops.size - listed.count true = 0 by omega] at this
  exact this
 | succ fuel ih =>
  intro listed a w hs hc hj hcl hI
  by_cases hall : ∀ j, G.getD j false = true → listed.getD j false = true
  ·have hf : listed = G := hff listed hs hj hall
   have := last a w (hf ▸ hI);rw [← hf, show ops.size - listed.count true = fuel + 1 by omega] at this
   exact this
  ·have hlt : ∀ i, G.getD i false = true → i < ops.size := fun i h => by
    rcases Nat.lt_or_ge i ops.size with h' | h'
    ·exact h'
    ·rw [Array.getD_eq_getD_getElem?, Array.getElem?_eq_none (by omega)] at h
     cases h
   have hmem : ∀ j, j ∈ Region.ready md ops listed → G.getD j false = true := by
    intro j hjr;obtain ⟨h1, o, h2, h3⟩ := mem_ready.1 hjr
    rcases h : G.getD j false with _ | _
    ·exfalso
     have hjs : j < ops.size := by
      rcases Nat.lt_or_ge j ops.size with h' | h'
      ·exact h'
      ·rw [Array.getElem?_eq_none h'] at h2; cases h2
     exact hall (fun d hd => reach_listed hcl f j d (fun k hk => waits_listed (fun o' ho' => by rw [h2] at ho'; cases ho'; exact h3) hk) (hwait j hjs h d hd))
    ·rfl
   refine ⟨fun h0 => ?_, fun i hi => ?_⟩
   ·exfalso
    refine hall (fun j => ?_)
    induction j using Nat.strongRecOn with
    | _ j ihj =>
     intro hjn
     by_cases hl : listed.getD j false = true
     ·exact hl
     ·exfalso
      have hjs := hlt j hjn;have : j ∈ Region.ready md ops listed := by
       refine mem_ready.2 ⟨?_, ops[j], Array.getElem?_eq_getElem hjs, fun e he hb => ?_⟩
       ·have h1 : j < listed.size := by omega
        rw [← Array.getElem_eq_getD (h := h1)] at hl ⊢
        simpa using hl
       ·have := hback j hjn _ (Array.getElem?_eq_getElem hjs) e he hb
        exact ihj e.on this.1 this.2
      rw [h0] at this
      cases this
   ·have hin := hmem i hi
    obtain ⟨h1, o, h2, h3⟩ := mem_ready.1 hi;have hil : i < listed.size := by have := hlt i hin; omega
    have hwl : ∀ d, waitsB md ops i d = true → listed.getD d false = true := fun d hd => waits_listed (fun o' ho' => by rw [h2] at ho'; cases ho'; exact h3) hd
    have hset : ∀ d, listed.getD d false = true → (listed.setIfInBounds i true).getD d false = true := fun d hd => by
     by_cases e : d = i
     ·subst e; exact getD_set_same hil
     ·rw [getD_set_ne e]; exact hd
    refine step i hin listed a w hwl hI _ (fun a' w' h' => ih _ a' w' (by simp [hs]) (by rw [count_set_true h1 hil]; omega) (fun j hjn => ?_) (fun k d hk hd => ?_) h')
    ·rw [getD_set_ne (fun e => by rw [e, hin] at hjn; cases hjn)]
     exact hj j hjn
    ·by_cases e : k = i
     ·subst e
      exact hset d (hwl d hd)
     ·rw [getD_set_ne e] at hk
      exact hset d (hcl k d hk hd)
theorem wpAny_invM (G : Array Bool) (f : Nat) (I : Array Bool → Act → World → Prop) (hGs : G.size = ops.size)
  (hback : ((List.range ops.size).all fun i => !G.getD i false || ((ops[i]?).map (·.after.all fun e => !Region.binds md e || (decide (e.on < i) && G.getD e.on false))).getD true) = true)
  (hwait : ((List.range ops.size).all fun j => G.getD j false || ((List.range ops.size).all fun d => !G.getD d false || reachB md ops f j d)) = true)
  (step : ∀ i, G.getD i false = true → ∀ listed a w, (∀ d, waitsB md ops i d = true → listed.getD d false = true) → I listed a w →
   ∀ K : Act → World → Prop, (∀ a' w', I (listed.setIfInBounds i true) a' w' → K a' w') → wpOp P ops Q i K a w)
  (last : ∀ a w, I G a w → wpAny P md ops Q (ops.size - G.count true) G a w)
  (a : Act) (w : World) (hI : I (Array.replicate ops.size false) a w) : wpAny P md ops Q ops.size (Array.replicate ops.size false) a w := by
 have hlt : ∀ i, G.getD i false = true → i < ops.size := fun i h => by
  rcases Nat.lt_or_ge i ops.size with h' | h'
  ·exact h'
  ·rw [Array.getD_eq_getD_getElem?, Array.getElem?_eq_none (by omega)] at h
   cases h
 have hrep : ∀ j, (Array.replicate ops.size false).getD j false = false := fun j => by
  rw [Array.getD_eq_getD_getElem?]
  cases h : (Array.replicate ops.size false)[j]? with
  | none => rfl
  | some b =>
   have := Array.mem_of_getElem? h
   simp at this
   simp [this]
 refine wpAny_invM0 G f I hGs (fun i hi o ho e he hb => ?_) (fun j hjs hj d hd => ?_) step last _ _ a w (by simp) (by rw [Array.count_replicate]; simp) (fun j _ => hrep j) (fun i d hi _ => by rw [hrep] at hi; cases hi) hI
 ·have := List.all_eq_true.1 hback i (List.mem_range.2 (hlt i hi))
  rw [hi, ho] at this;simp only [Option.map_some, Option.getD_some, Bool.not_true, Bool.false_or] at this;have := Array.all_eq_true_iff_forall_mem.1 this e he;rw [hb] at this
  simpa using this
 ·have := List.all_eq_true.1 hwait j (List.mem_range.2 hjs)
  rw [hj, Bool.false_or] at this;have := List.all_eq_true.1 this d (List.mem_range.2 (hlt d hd));rw [hd] at this
  simpa using this
end
end Go.Proofs.YtadbmineobldbaaGreatDoor
