/- join.marks, join.stay walked. -/
import Derived.Test.YtadbmineobldbaaGreatDoorC13
import Derived.Test.YtadbmineobldbaaGreatDoorCm
import Derived.Test.YtadbmineobldbaaGreatDoorIt6
import Derived.Test.YtadbmineobldbaaGreatDoorX3
set_option linter.unusedSimpArgs false
set_option linter.unusedVariables false
set_option maxRecDepth 100000
set_option maxHeartbeats 8000000
namespace Go.Proofs.YtadbmineobldbaaGreatDoor
open Go.RowKit Go.Maps Go.Sort Go.Shelf

theorem find_marks {nm : ByteArray} {l : List ItemD} {k : Nat} (h : k < l.length) (hn : l[k].name = nm) (ht : (l.take k).any (fun x => decide (x.name = nm)) = false) : marksOf l nm = l[k].marks := by
 unfold marksOf findX;rw [find_at _ l k h ht (by simp [hn])]; rfl
theorem indexMarkQ_any (p : MarkD → Bool) (g q0 : Nat) (eg : ∀ args w, (callFunc g args).run Tryz.prog w = .ok (.enter g args) w)
  (l : List MarkD) (v : Value) (w : World) (hp : ∀ (d : MarkD) W, d ∈ l → Below w.heap.size w W → Calls Tryz.prog g #[markV d, .pointer (some ⟨q0, 0, none⟩)] W fun e w' => e = .returned (.bool (p d)) ∧ Below W.heap.size W w')
  (h : Arr MarkR 4 w v l) : Calls Tryz.prog 182 #[v, .func (.func g) #[] #[.pointer (some ⟨q0, 0, none⟩)]] w (IdxAt p l w) := by
 have hn := h.len;obtain ⟨o, c, rfl, hel⟩ := h.markAt;have HEL := Hd hel;have HP := Hd hp;clear hel h hp
 go_enter Tryz.func182, Tryz.ntmps182
 go_wp2_with fail
 go_loopw [8] (fun i wr => ∃ k : Nat, k ≤ l.length ∧ i = .int .i64 k ∧ (l.take k).any p = false ∧ Below w.heap.size w wr) (fun i _ => l.length - (intOf i).toNat)
 case atStart => exact ⟨0, Nat.zero_le _, rfl, rfl, Below.refl _ _⟩
 case round =>
  obtain ⟨k, hk, rfl, hall, hB⟩ := hrel;have HALL := Hd hall;have HB := Hd hB;clear hall hB
  by_cases hlt : k < l.length
  ·obtain ⟨b, off, rfl, hbl, e0, e1, e2, e3, -⟩ := HEL.out k hlt
   have c0 : wr.cell? ⟨b, off + k * 4, none⟩ = some (.int .i64 l[k].dot.rep) := by rw [HB.out.cell (p := ⟨_, _, _⟩) hbl]; exact e0
   have c1 : wr.cell? ⟨b, off + k * 4 + 1, none⟩ = some (.int .i64 l[k].dot.ctr) := by rw [HB.out.cell (p := ⟨_, _, _⟩) hbl]; exact e1
   have c2 : wr.cell? ⟨b, off + k * 4 + 2, none⟩ = some (.int .i64 l[k].qty) := by rw [HB.out.cell (p := ⟨_, _, _⟩) hbl]; exact e2
   have c3 : wr.cell? ⟨b, off + k * 4 + 3, none⟩ = some (.int .u64 l[k].time) := by rw [HB.out.cell (p := ⟨_, _, _⟩) hbl]; exact e3
   have HS := Hd (any_take_snoc p l k hlt);have HIX : Hid (p l[k] = true → IdxIs p l (k : Int)) := Hd (fun h => Or.inr ⟨k, hlt, rfl, h, HALL.out⟩)
   have HPX := Hd (HP.out l[k] wr (List.getElem_mem hlt) HB.out);unfold markV at HPX;generalize l[k] = x at *
   have a0 : (0 : Int) ≤ k := by omega
   have a1 : (k : Int) < l.length := by omega
   have hkw := wr1 k (by omega)
   clear e0 e1 e2 e3;obtain ⟨r, hr⟩ : ∃ r, r = p x := ⟨_, rfl⟩;rw [← hr] at HPX HS HIX;clear hr
   cases r with
   | true =>
    have HF := Hd (HIX.out rfl)
    go_wp2_with (go_at_fn g; refine HPX.out.mono ?_; rintro e w2 ⟨rfl, hb2⟩)
    go_ret
    exact ⟨k, rfl, HF.out, btr HB.out hb2⟩
   | false =>
    have HF : Hid ((l.take (k + 1)).any p = false) := Hd (by rw [HS.out, HALL.out]; rfl)
    go_wp2_with (go_at_fn g; refine HPX.out.mono ?_; rintro e w2 ⟨rfl, hb2⟩)
    have hbf := btr HB.out hb2
    go_roundw
    case rel => exact ⟨k + 1, by omega, by go_num, HF.out, hbf⟩
    case measure => simp [intOf]; omega
  ·have hke : k = l.length := by omega
   have HF : Hid (IdxIs p l (-1)) := Hd (Or.inl ⟨rfl, by have := HALL.out; rw [hke, List.take_length] at this; exact this⟩)
   clear HALL
   go_wp2_with fail
   go_ret
   exact ⟨-1, rfl, HF.out, HB.out⟩

theorem staysM_none {other : List MarkD} {c : CartD} {m : MarkD} (h : other.any (fun o => decide (o.dot = m.dot)) = false) : staysM other c m = !hasC c m.dot := by
 unfold staysM markD;rw [find_none _ _ h]
theorem staysM_some {other : List MarkD} {c : CartD} {m : MarkD} {n : Nat} (hn : n < other.length) (h : decide (other[n].dot = m.dot) = true) (ht : (other.take n).any (fun o => decide (o.dot = m.dot)) = false) : staysM other c m = decide (0 ≤ mcmp m other[n]) := by
 unfold staysM markD;rw [find_at _ other n hn ht h]
end Go.Proofs.YtadbmineobldbaaGreatDoor

