/- The law's entry. -/
import Derived.Test.YtkedgiklcmkmmaaGreatDoorI10
import Derived.Laws.BytesArg
namespace Go.Proofs.YtkedgiklcmkmmaaGreatDoor
open Go.RowKit Go.Maps

def kE (i : Nat) : ByteArray := ⟨#[101, UInt8.ofNat (48 + i / 1000 % 10), UInt8.ofNat (48 + i / 100 % 10), UInt8.ofNat (48 + i / 10 % 10), UInt8.ofNat (48 + i % 10)]⟩
theorem kE_key (i : Nat) : keyB (kE i) = true := by
  have : ∀ a b c d : Fin 10, keyB ⟨#[101, UInt8.ofNat (48 + a.val), UInt8.ofNat (48 + b.val), UInt8.ofNat (48 + c.val), UInt8.ofNat (48 + d.val)]⟩ = true := by decide +kernel
  exact this ⟨i / 1000 % 10, by omega⟩ ⟨i / 100 % 10, by omega⟩ ⟨i / 10 % 10, by omega⟩ ⟨i % 10, by omega⟩
theorem kE_conv (w : World) (i : Nat) :
    (convert 67 9 (.slice (some ⟨w.heap.size, 0, none⟩) 5 5)).run Tryz.prog (w.alloc (.cells #[.int .u8 101, .int .u8 (48 + (i : Int) / 1000 % 10), .int .u8 (48 + (i : Int) / 100 % 10), .int .u8 (48 + (i : Int) / 10 % 10), .int .u8 (48 + (i : Int) % 10)] 5)) = .ok (.string (kE i)) (w.alloc (.cells #[.int .u8 101, .int .u8 (48 + (i : Int) / 1000 % 10), .int .u8 (48 + (i : Int) / 100 % 10), .int .u8 (48 + (i : Int) / 10 % 10), .int .u8 (48 + (i : Int) % 10)] 5)) := by
  rw [run_convert_bytes_arg _ 67 5 Tryz.underlying67 Tryz.underlying5 w.heap.size 0 5 5 [101, 48 + (i : Int) / 1000 % 10, 48 + (i : Int) / 100 % 10, 48 + (i : Int) / 10 % 10, 48 + (i : Int) % 10] rfl (fun i hi => by
    rw [cell0 (alloc_new w _)]
    match i, hi with
    | 0, _ => rfl
    | 1, _ => rfl
    | 2, _ => rfl
    | 3, _ => rfl
    | 4, _ => rfl) 9 Tryz.underlying9]
  have e : strOfNums [101, 48 + (i : Int) / 1000 % 10, 48 + (i : Int) / 100 % 10, 48 + (i : Int) / 10 % 10, 48 + (i : Int) % 10] = kE i := by
    unfold strOfNums kE
    simp only [List.map_cons, List.map_nil]
    rw [show (48 + (i : Int) / 1000 % 10).toNat = 48 + i / 1000 % 10 by omega, show (48 + (i : Int) / 100 % 10).toNat = 48 + i / 100 % 10 by omega, show (48 + (i : Int) / 10 % 10).toNat = 48 + i / 10 % 10 by omega, show (48 + (i : Int) % 10).toNat = 48 + i % 10 by omega]
    rfl
  rw [e]

set_option maxRecDepth 100000 in
theorem entry_any (i : Nat) (hi : i < 10000) (w : World) : Calls Tryz.prog 12 #[.int .i64 i] w fun e w' => e = .returned (.agg #[.string (kE i), .slice none 0 0, .slice none 0 0, .slice none 0 0]) ∧ Below w.heap.size w w' := by
  have h1 : (i : Int) < 10000 := by omega
  have h0 : (0 : Int) ≤ i := by omega
  have hconv := kE_conv (w.alloc (.cells #[.string ⟨#[]⟩, .slice none 0 0, .slice none 0 0, .slice none 0 0] 41)) i
  simp only [alloc_size] at hconv
  have hc1 : ((w.alloc (.cells #[.string ⟨#[]⟩, .slice none 0 0, .slice none 0 0, .slice none 0 0] 41)).alloc (.cells #[.int .u8 101, .int .u8 (48 + (i : Int) / 1000 % 10), .int .u8 (48 + (i : Int) / 100 % 10), .int .u8 (48 + (i : Int) / 10 % 10), .int .u8 (48 + (i : Int) % 10)] 5)).heap[w.heap.size]? = some (.cells #[.string ⟨#[]⟩, .slice none 0 0, .slice none 0 0, .slice none 0 0] 41) := by
    rw [alloc_old _ _ (by simp)]; exact alloc_new _ _
  have x0 := cell0 hc1 0
  have x1 := cell0 hc1 1
  have x2 := cell0 hc1 2
  have x3 := cell0 hc1 3
  have z0 := froz0 hc1 0
  have z1 := froz0 hc1 1
  have z2 := froz0 hc1 2
  have z3 := froz0 hc1 3
  clear hc1
  go_enter Tryz.func12, Tryz.ntmps12
  go_wp2_with fail
  (try simp only [Exit.inBlock, Exit.then])
  refine bodyPost_ret (v := .agg #[.string (kE i), .slice none 0 0, .slice none 0 0, .slice none 0 0]) ?_ rfl ⟨rfl, ?_⟩
  · rw [results_cell1 rfl]
    go_simp
  · exact ((Below.refl _ _).alloc (Nat.le_refl _) _).alloc (by simp) _
end Go.Proofs.YtkedgiklcmkmmaaGreatDoor
