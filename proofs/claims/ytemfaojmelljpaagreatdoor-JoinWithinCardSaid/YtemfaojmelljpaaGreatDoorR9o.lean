/- The reference's Owner. -/
import Derived.Test.YtemfaojmelljpaaGreatDoorR9e
import Derived.Test.YtemfaojmelljpaaGreatDoorReg
import Derived.Test.YtemfaojmelljpaaGreatDoorIt10
set_option linter.unusedSimpArgs false
set_option linter.unusedVariables false
set_option maxRecDepth 100000
set_option maxHeartbeats 4000000
namespace Go.Proofs.YtemfaojmelljpaaGreatDoor
open Go.RowKit Go.Maps

def refOwnerV : Option ByteArray → Value
 | some s => .tuple #[.string s, .bool true]
 | none => .tuple #[.string ⟨#[]⟩, .bool false]
theorem r9Owner_any (l : List ItemD) (d : DotD) (v : Value) (w : World) (h : Arr ItemR 2 w v l) : Calls Tryz.prog 48 #[v, dotV d] w fun e w' => e = .returned (refOwnerV (ownerI l d)) ∧ Below w.heap.size w w' := by
 have hn := h.len;obtain ⟨o, c, rfl, hel⟩ := h.itemAt;have HEL := Hd hel;obtain ⟨W1, hW1⟩ : ∃ W1, W1 = w.alloc (.cells #[.int .i64 d.rep, .int .i64 d.ctr] 51) := ⟨_, rfl⟩;have hb1 : Below w.heap.size w W1 := by rw [hW1]; exact bal
 have hg1 : W1.heap[w.heap.size]? = some (.cells #[.int .i64 d.rep, .int .i64 d.ctr] 51) := by rw [hW1]; exact alloc_new _ _
 have HC : Hid (∀ wz, Below W1.heap.size W1 wz → wz.cell? ⟨w.heap.size, 0, none⟩ = some (.int .i64 d.rep) ∧ wz.cell? ⟨w.heap.size, 1, none⟩ = some (.int .i64 d.ctr)) := Hd (fun wz hz => ⟨by rw [hz.cell (p := ⟨w.heap.size, 0, none⟩) (lt_of_heap hg1), cell0 hg1 0]; rfl, by rw [hz.cell (p := ⟨w.heap.size, 1, none⟩) (lt_of_heap hg1), cell0 hg1 1]; rfl⟩)
 have HB1 := Hd hb1;have HW := Hd hW1;clear hel h hg1 hb1 hW1;unfold dotV
 go_enter Tryz.func48, Tryz.ntmps48
 go_wp2_with fail
 rw [← HW.out]
 go_loopw [6] (fun i wr => ∃ k : Nat, k ≤ l.length ∧ i = .int .i64 k ∧ (l.take k).any (ownsP d) = false ∧ Below W1.heap.size W1 wr) (fun i _ => l.length - (intOf i).toNat)
 case atStart => exact ⟨0, Nat.zero_le _, rfl, rfl, Below.refl _ _⟩
 case round =>
  obtain ⟨k, hk, rfl, hall, hB⟩ := hrel;have HALL := Hd hall;have HB := Hd hB;have HBW := Hd (btr HB1.out hB);clear hall hB
  by_cases hlt : k < l.length
  ·obtain ⟨b, off, mv, rfl, hbl, e0, e1, -, hmk⟩ := HEL.out k hlt
   obtain ⟨mo, mc, rfl, -⟩ := id hmk;have HS : Hid (∀ w2, Below wr.heap.size wr w2 → (w2.cell? ⟨b, off + k * 2, none⟩ = some (.string l[k].name) ∧ w2.cell? ⟨b, off + k * 2 + 1, none⟩ = some (.slice mo l[k].marks.length mc)) ∧ w2.cell? ⟨w.heap.size, 0, none⟩ = some (.int .i64 d.rep) ∧ w2.cell? ⟨w.heap.size, 1, none⟩ = some (.int .i64 d.ctr)) := Hd (fun w2 h2 => by
    have h3 := btr HB.out h2;have h5 := btr HBW.out h2;exact ⟨⟨by rw [h5.cell (p := ⟨_, _, _⟩) hbl]; exact e0, by rw [h5.cell (p := ⟨_, _, _⟩) hbl]; exact e1⟩, HC.out w2 h3⟩)
   have HH : Hid (Calls Tryz.prog 85 #[.agg #[.string l[k].name, .slice mo l[k].marks.length mc], .agg #[.int .i64 d.rep, .int .i64 d.ctr]] wr.drew fun e w' => e = .returned (.bool (ownsP d l[k])) ∧ Below wr.heap.size wr w') := Hd ((r9has_any l[k] d _ wr.drew ((hmk.marks HBW.out).marks bdr)).mono (fun _ _ ⟨a1, a2⟩ => ⟨a1, bdr.trans a2⟩))
   have HS1 := Hd (any_take_snoc (ownsP d) l k hlt);have HFA : Hid (ownsP d l[k] = true → ownerI l d = some l[k].name) := Hd (fun h => by unfold ownerI; rw [find_at _ l k hlt HALL.out h]; rfl)
   generalize l[k].marks.length = ml at *
   generalize l[k].name = nm at *
   generalize ownsP d l[k] = r at *
   have a0 : (0 : Int) ≤ k := by omega
   have a1 : (k : Int) < l.length := by omega
   have hkw := wr1 k (by omega)
   clear e0 e1 hmk
   cases r with
   | true =>
    have HF := Hd (HFA.out rfl);clear HFA HS1
    go_upto_region 4 with fail
    refine NQ.to ?_;refine wp_region_held_drew (S := (fun w' => (w'.cell? ⟨b, off + k * 2, none⟩ = some (.string nm) ∧ w'.cell? ⟨b, off + k * 2 + 1, none⟩ = some (.slice mo ml mc)) ∧ w'.cell? ⟨w.heap.size, 0, none⟩ = some (.int .i64 d.rep) ∧ w'.cell? ⟨w.heap.size, 1, none⟩ = some (.int .i64 d.ctr))) (by kernel_rfl) (HS.out _ bdr) (fun hS => ?_)
    try simp only [Act.put, s1, s2, s3]
    refine tkN (i := 0) (v := ?v1) rfl (by decide +kernel) (Or.inl ⟨by kernel_rfl, fun w hSw => ok_of fun z hz => ?h1⟩) hS ?_; (case h1 => (go_simp; exact hz))
    try simp only [Act.put, s1, s2, s3]
    refine tkN (i := 1) (v := ?v2) rfl (by decide +kernel) (Or.inl ⟨by kernel_rfl, fun w hSw => ok_of fun z hz => ?h2⟩) hS ?_; (case h2 => (go_simp; exact hz))
    try simp only [Act.put, s1, s2, s3]
    refine tkN (i := 2) (v := ?v3) rfl (by decide +kernel) (Or.inl ⟨by kernel_rfl, fun w hSw => ok_of fun z hz => ?h3⟩) hS ?_; (case h3 => (go_simp; exact hz))
    try simp only [Act.put, s1, s2, s3]
    refine tkN (i := 3) (v := ?v4) rfl (by decide +kernel) (Or.inl ⟨by kernel_rfl, fun w hSw => ok_of fun z hz => ?h4⟩) hS ?_; (case h4 => (obtain ⟨⟨f1, f2⟩, f3, f4⟩ := hSw; go_simp; exact hz))
    try simp only [Act.put, s1, s2, s3]
    refine tkN (i := 4) (v := ?v5) rfl (by decide +kernel) (Or.inl ⟨by kernel_rfl, fun w hSw => ok_of fun z hz => ?h5⟩) hS ?_; (case h5 => (obtain ⟨⟨f1, f2⟩, f3, f4⟩ := hSw; go_simp; exact hz))
    try simp only [Act.put, s1, s2, s3]
    refine rd1 5 (by decide +kernel) rfl (fun K hK => ?_)
    go_simp
    go_at_call 85
    refine HH.out.mono ?_;rintro e w2 ⟨rfl, hb2⟩;go_simp;refine Shut.out hK _ _ (HS.out w2 hb2) (fun hS2 => ?_); clear hK K hS; have hS := hS2; clear hS2
    try simp only [Act.put, s1, s2, s3]
    refine wpAnyH_done (by kernel_rfl) ?_ _
    try simp only [Act.put, s1, s2, s3]
    simp only [NQ];have hbf := btr HBW.out hb2;obtain ⟨⟨f1, f2⟩, -⟩ := hS
    go_wp2_with fail
    go_ret2
    exact ⟨by rw [HF.out]; rfl, hbf⟩
   | false =>
    have HF : Hid ((l.take (k + 1)).any (ownsP d) = false) := Hd (by rw [HS1.out, HALL.out]; rfl)
    clear HFA HS1
    go_upto_region 4 with fail
    refine NQ.to ?_;refine wp_region_held_drew (S := (fun w' => (w'.cell? ⟨b, off + k * 2, none⟩ = some (.string nm) ∧ w'.cell? ⟨b, off + k * 2 + 1, none⟩ = some (.slice mo ml mc)) ∧ w'.cell? ⟨w.heap.size, 0, none⟩ = some (.int .i64 d.rep) ∧ w'.cell? ⟨w.heap.size, 1, none⟩ = some (.int .i64 d.ctr))) (by kernel_rfl) (HS.out _ bdr) (fun hS => ?_)
    try simp only [Act.put, s1, s2, s3]
    refine tkN (i := 0) (v := ?v6) rfl (by decide +kernel) (Or.inl ⟨by kernel_rfl, fun w hSw => ok_of fun z hz => ?h6⟩) hS ?_; (case h6 => (go_simp; exact hz))
    try simp only [Act.put, s1, s2, s3]
    refine tkN (i := 1) (v := ?v7) rfl (by decide +kernel) (Or.inl ⟨by kernel_rfl, fun w hSw => ok_of fun z hz => ?h7⟩) hS ?_; (case h7 => (go_simp; exact hz))
    try simp only [Act.put, s1, s2, s3]
    refine tkN (i := 2) (v := ?v8) rfl (by decide +kernel) (Or.inl ⟨by kernel_rfl, fun w hSw => ok_of fun z hz => ?h8⟩) hS ?_; (case h8 => (go_simp; exact hz))
    try simp only [Act.put, s1, s2, s3]
    refine tkN (i := 3) (v := ?v9) rfl (by decide +kernel) (Or.inl ⟨by kernel_rfl, fun w hSw => ok_of fun z hz => ?h9⟩) hS ?_; (case h9 => (obtain ⟨⟨f1, f2⟩, f3, f4⟩ := hSw; go_simp; exact hz))
    try simp only [Act.put, s1, s2, s3]
    refine tkN (i := 4) (v := ?v10) rfl (by decide +kernel) (Or.inl ⟨by kernel_rfl, fun w hSw => ok_of fun z hz => ?h10⟩) hS ?_; (case h10 => (obtain ⟨⟨f1, f2⟩, f3, f4⟩ := hSw; go_simp; exact hz))
    try simp only [Act.put, s1, s2, s3]
    refine rd1 5 (by decide +kernel) rfl (fun K hK => ?_)
    go_simp
    go_at_call 85
    refine HH.out.mono ?_;rintro e w2 ⟨rfl, hb2⟩;go_simp;refine Shut.out hK _ _ (HS.out w2 hb2) (fun hS2 => ?_); clear hK K hS; have hS := hS2; clear hS2
    try simp only [Act.put, s1, s2, s3]
    refine wpAnyH_done (by kernel_rfl) ?_ _
    try simp only [Act.put, s1, s2, s3]
    simp only [NQ];have hbf := btr HB.out hb2;clear hb2 hS
    go_wp2_with fail
    go_roundw
    case rel => exact ⟨k + 1, by omega, by go_num, HF.out, hbf⟩
    case measure => simp [intOf]; omega
  ·have hke : k = l.length := by omega
   have HF : Hid (ownerI l d = none) := Hd (by have := HALL.out; rw [hke, List.take_length] at this; unfold ownerI; rw [find_none _ _ this]; rfl)
   clear HALL
   go_wp2_with fail
   go_ret2
   exact ⟨by rw [HF.out]; rfl, HBW.out⟩
end Go.Proofs.YtemfaojmelljpaaGreatDoor

