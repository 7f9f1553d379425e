/- The reference's Within and All. -/
import Derived.Test.YtemfaojmelljpaaGreatDoorR11k
import Derived.Test.YtemfaojmelljpaaGreatDoorC21
set_option linter.unusedSimpArgs false
set_option linter.unusedVariables false
set_option maxRecDepth 100000
set_option maxHeartbeats 8000000
namespace Go.Proofs.YtemfaojmelljpaaGreatDoor
open Go.RowKit Go.Maps

theorem r11Within_any (a b : CartD) (x1 x2 x3 y1 y2 y3 : Value) (w : World) (h : CartA w x1 x2 x3 a) (g : CartA w y1 y2 y3 b) (hva : validC a = true) (hvb : validC b = true) (hsa : SzC a) (hsb : SzC b) :
  Calls Tryz.prog 21 #[.agg #[x1, x2, x3], .agg #[y1, y2, y3]] w fun e w' => e = .returned (.bool (decide (refJoin a b = b))) ∧ Below w.heap.size w w' := by
 obtain ⟨o1, n1, k1, o2, n2, k2, o3, n3, k3, rfl, rfl, rfl, hn1, hn2, hn3⟩ := opn h;obtain ⟨o4, n4, k4, o5, n5, k5, o6, n6, k6, rfl, rfl, rfl, hn4, hn5, hn6⟩ := opn g;obtain ⟨W1, HW, HB, HS, HK0, HK1⟩ := box2 w #[.slice o1 n1 k1, .slice o2 n2 k2, .slice o3 n3 k3] 28 #[.slice o4 n4 k4, .slice o5 n5 k5, .slice o6 n6 k6] 28;have HC := Hd (fun wz (hz : Below W1.heap.size W1 wz) => And.intro (cel3 (HK0.out wz hz)) (cel3 (HK1.out wz hz)))
 have hbb1 := HB.out;have HA := Hd (h.below hbb1);have HG := Hd (g.below hbb1);have HJO : Hid (∀ wz, Below W1.heap.size W1 wz → Calls Tryz.prog 15 #[.agg #[.slice o1 n1 k1, .slice o2 n2 k2, .slice o3 n3 k3], .agg #[.slice o4 n4 k4, .slice o5 n5 k5, .slice o6 n6 k6]] wz fun e w' => ∃ z1 z2 z3, e = .returned (.agg #[z1, z2, z3]) ∧ CartA w' z1 z2 z3 (refJoin a b) ∧ Below wz.heap.size wz w') := Hd (fun wz hz => r11Join_any a b _ _ _ _ _ _ wz (HA.out.below hz) (HG.out.below hz) hva hvb hsa hsb)
 have HEQ : Hid (∀ wz z1 z2 z3, Below W1.heap.size W1 wz → CartA wz z1 z2 z3 (refJoin a b) → Calls Tryz.prog 14 #[.agg #[z1, z2, z3], .agg #[.slice o4 n4 k4, .slice o5 n5 k5, .slice o6 n6 k6]] wz fun e w' => e = .returned (.bool (decide (refJoin a b = b))) ∧ Below wz.heap.size wz w') := Hd (fun wz z1 z2 z3 hz hj => r10Equal_any _ _ _ _ _ _ _ _ wz hj (HG.out.below hz))
 obtain ⟨r, hr⟩ : ∃ r, r = decide (refJoin a b = b) := ⟨_, rfl⟩;rw [← hr] at HEQ ⊢;have HBW := Hd HB.out;clear HB hr hbb1 h g hn1 hn2 hn3 hn4 hn5 hn6 hsa hsb hva hvb
 go_enter Tryz.func21, Tryz.ntmps21
 go_upto_region 1 with fail
 rw [← HW.out];refine NQ.to ?_;refine wp_region_held_drew (S := (fun wz => Below W1.heap.size W1 wz)) (by kernel_rfl) (bdr) (fun hS => ?_)
 refine tkR (n := 3) [0, 1, 3] rfl (by decide +kernel) hS ?_
 iterate 3 ((try simp only [Act.put, s1, s2, s3, s4, s5, s6]); refine ⟨_, ?_, rfl, Or.inl ⟨by kernel_rfl, fun w hSw => ok_of fun z hz => ?_⟩, ?_⟩; rotate_left; · (have HBX := HC.out _ hSw; obtain ⟨⟨f0, f1, f2⟩, f3, f4, f5⟩ := HBX; go_simp; exact hz))
 refine RunOK.done ?_
 try simp only [Act.put, s1, s2, s3, s4, s5, s6]
 refine rd1 2 (by decide +kernel) rfl (fun K hK => ?_)
 go_simp
 go_at_call 15
 refine (HJO.out _ bdr).mono ?_;rintro e w2 ⟨z1, z2, z3, rfl, hj, hb2⟩;have hb12 := (below_drew1 (Below.refl W1.heap.size W1)).trans (hb2.mono (Nat.le_refl _));go_simp;refine Shut.out hK _ _ (hb12) (fun hS2 => ?_); clear hK K hS; have hS := hS2; clear hS2
 try simp only [Act.put, s1, s2, s3, s4, s5, s6]
 refine rd1 4 (by decide +kernel) rfl (fun K hK => ?_)
 go_simp
 go_at_call 14
 refine (HEQ.out _ _ _ _ hb12 hj).mono ?_;rintro e w3 ⟨rfl, hb3⟩;have hb13 := btr hb12 hb3;go_simp;refine Shut.out hK _ _ (hb13) (fun hS2 => ?_); clear hK K hS; have hS := hS2; clear hS2
 refine tkR (n := 1) [5] rfl (by decide +kernel) hS ?_
 ((try simp only [Act.put, s1, s2, s3, s4, s5, s6]); refine ⟨_, ?_, rfl, Or.inl ⟨by kernel_rfl, fun w hSw => ok_of fun z hz => ?_⟩, ?_⟩; rotate_left; · (go_simp; exact hz))
 refine RunOK.done ?_
 try simp only [Act.put, s1, s2, s3, s4, s5, s6]
 refine wpAnyH_done (by kernel_rfl) ?_ _
 try simp only [Act.put, s1, s2, s3, s4, s5, s6]
 simp only [NQ]
 go_wp2_with fail
 go_ret
 exact ⟨rfl, btr HBW.out hb13⟩
end Go.Proofs.YtemfaojmelljpaaGreatDoor

