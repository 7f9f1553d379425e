/- The walks of client.between, find and Valid: whether a call has a text. Conditions: the strings and the data have sizes; the table of rows lies as its initialiser lays it. -/
import Derived.Test.YtdeljhehcjknbaaDoorNames
import Derived.Deep.RegionHeld3
import Derived.Deep.DrawnRows
namespace Go.Proofs.YtdeljhehcjknbaaDoor
open Go.RowKit Go.Maps

def betB (l : Nat) (s : ByteArray) : Bool := s.data.toList.all (fun c => decide (l ≤ c.toNat) && decide (c.toNat ≤ 126)) && decide (s.size ≠ 0) && decide (s.size ≤ 100)

set_option maxHeartbeats 1000000 in
theorem between_any (s : ByteArray) (l : UInt8) (w : World) (hs : s.size ≤ maxLen) :
    Calls Tryd.prog 42 #[.string s, .int .u8 l.toNat] w fun e w' => e = .returned (.bool (betB l.toNat s)) ∧ w = w' := by
  unfold maxLen at hs
  go_enter Tryd.func42, Tryd.ntmps42
  go_wp2
  go_loop [8] (fun i => ∃ k : Nat, k ≤ s.size ∧ i = .int .i64 k ∧ (s.data.toList.take k).all (fun c => decide (l.toNat ≤ c.toNat) && decide (c.toNat ≤ 126)) = true) (fun i => s.size - (intOf i).toNat)
  case atStart => exact ⟨0, Nat.zero_le _, rfl, rfl⟩
  case round =>
    obtain ⟨k, hk, rfl, hall⟩ := hrel
    by_cases hlt : k < s.size
    · have HS := Lib.hid (all_take_snoc (fun c => decide (l.toNat ≤ c.toNat) && decide (c.toNat ≤ 126)) s k hlt)
      have HN := Lib.hid (@not_all (fun c => decide (l.toNat ≤ c.toNat) && decide (c.toNat ≤ 126)) s k hlt)
      have HA := Lib.hid hall
      clear hall
      by_cases h1 : (l.toNat : Int) ≤ s[k].toNat ∧ (s[k].toNat : Int) ≤ 126
      · obtain ⟨h1, h2⟩ := h1
        go_wp2
        go_round
        case rel => exact ⟨k + 1, by omega, by go_num, by rw [HS.out, HA.out]; simp; omega⟩
        case measure => simp [intOf]; omega
      · have HF := Lib.hid (HN.out (by simp; omega))
        clear HN
        go_wp2
        all_goals first
          | (go_ret
             exact ⟨ret_bool (by unfold betB; rw [HF.out]; rfl), rfl⟩)
          | (exfalso; omega)
    · have hke : k = s.size := by omega
      subst hke
      rw [List.take_of_length_le (by simp)] at hall
      have HA := Lib.hid hall
      clear hall
      have he := bytes_isEmpty s
      by_cases h0 : s.size = 0
      · rw [decide_eq_true h0] at he
        have HF : Hid (betB l.toNat s = false) := Lib.hid (by unfold betB; rw [decide_eq_false (by simpa using h0 : ¬ s.size ≠ 0)]; simp)
        clear h0 HA
        go_wp2
        go_ret
        exact ⟨ret_bool (by rw [HF.out]), rfl⟩
      · rw [decide_eq_false h0] at he
        have he2 : (!s.toList.isEmpty) = true := by rw [he]; rfl
        have HF : Hid (betB l.toNat s = decide ((s.size : Int) ≤ 100)) := Lib.hid (by unfold betB; rw [HA.out, decide_eq_true h0]; simp; omega)
        go_wp2
        go_ret
        exact ⟨ret_bool (by rw [HF.out]), rfl⟩

/-- The letters of the parts of each Op's text. -/
def partsOf (n : Int) : ByteArray := if n = 1 ∨ n = 2 then ⟨#[107, 113, 105]⟩ else if n = 3 then ⟨#[107, 105]⟩ else if n = 4 ∨ n = 5 then ⟨#[107]⟩ else if n = 6 then ⟨#[107, 111, 105]⟩ else if n = 7 then ⟨#[107, 111]⟩ else if n = 8 then ⟨#[100]⟩ else ⟨#[]⟩

/-- The table of the rows, as it lies: the parts stand at the odd places. -/
def RowsLie (w : World) : Prop := ∃ C tt fz, w.heap[0]? = some (.cells C tt fz) ∧ ∀ n : Nat, n < 12 → (∃ x, C[2 * n]? = some (.string x)) ∧ C[2 * n + 1]? = some (.string (partsOf n))

set_option maxHeartbeats 1000000 in
theorem find_any (n : Int) (w : World) (h0 : -9223372036854775808 ≤ n) (h1 : n ≤ 9223372036854775807) (hR : RowsLie w) :
    Calls Tryd.prog 41 #[.int .i64 n] w fun e w' => (∃ x, e = .returned (.tuple #[.agg #[.string x, .string (if 1 ≤ n ∧ n < 12 then partsOf n else ⟨#[]⟩)], .bool (decide (1 ≤ n ∧ n < 12))])) ∧ Below w.heap.size w w' := by
  by_cases h : 1 ≤ n ∧ n < 12
  · obtain ⟨k, rfl⟩ := Int.eq_ofNat_of_zero_le (by omega : 0 ≤ n)
    obtain ⟨C, tt, fz, hb, hC⟩ := hR
    obtain ⟨⟨x, hx⟩, hp⟩ := hC k (by omega)
    have c0 : w.cell? ⟨0, k * 2, none⟩ = some (.string x) := by unfold World.cell?; rw [hb]; rw [Nat.mul_comm]; exact hx
    have c1 : w.cell? ⟨0, k * 2 + 1, none⟩ = some (.string (partsOf k)) := by unfold World.cell?; rw [hb]; rw [Nat.mul_comm]; exact hp
    have hz : 0 < w.heap.size := by
      rcases Nat.eq_zero_or_pos w.heap.size with e | e
      · rw [Array.getElem?_eq_none (by omega)] at hb; cases hb
      · exact e
    have HX : Hid ((if 1 ≤ (k : Int) ∧ (k : Int) < 12 then partsOf k else ⟨#[]⟩) = partsOf k) := Lib.hid (if_pos h)
    have HD : Hid (decide (1 ≤ (k : Int) ∧ (k : Int) < 12) = true) := Lib.hid (decide_eq_true h)
    generalize partsOf k = y at c1 HX
    obtain ⟨h2, h3⟩ := h
    clear hb hC hx hp
    go_enter Tryd.func41, Tryd.ntmps41
    go_wp2
    exact bodyPost_ret (v := .tuple #[.agg #[.string x, .string y], .bool true]) (by simp [results, Tryd.results41, go_sem]) rfl ⟨⟨x, rfl⟩, (Below.refl _ _).alloc (Nat.le_refl _) _⟩
  · have HX : Hid ((if 1 ≤ n ∧ n < 12 then partsOf n else ⟨#[]⟩) = ⟨#[]⟩) := Lib.hid (if_neg h)
    have HD : Hid (decide (1 ≤ n ∧ n < 12) = false) := Lib.hid (decide_eq_false h)
    have h' : n < 1 ∨ 12 ≤ n := by omega
    clear h
    rcases h' with h | h
    · go_enter Tryd.func41, Tryd.ntmps41
      go_wp2
      exact bodyPost_ret (v := .tuple #[.agg #[.string ⟨#[]⟩, .string ⟨#[]⟩], .bool false]) (by simp [results, Tryd.results41, go_sem]) rfl ⟨⟨⟨#[]⟩, rfl⟩, (Below.refl _ _).alloc (Nat.le_refl _) _⟩
    · have h2 : ¬ n < 1 := by omega
      go_enter Tryd.func41, Tryd.ntmps41
      go_wp2
      exact bodyPost_ret (v := .tuple #[.agg #[.string ⟨#[]⟩, .string ⟨#[]⟩], .bool false]) (by simp [results, Tryd.results41, go_sem]) rfl ⟨⟨⟨#[]⟩, rfl⟩, (Below.refl _ _).alloc (Nat.le_refl _) _⟩

/-- A row of the table of parts: the letter; is the part right; is it zero. -/
structure PRow where
  c : UInt8
  right : Bool
  zero : Bool
def PRow.ok (p : ByteArray) (x : PRow) : Bool := if decide (0 ≤ Lib.indexByte p.data.toList x.c) then x.right else x.zero
def PRow.cells (x : PRow) : List Value := [.string ⟨#[x.c]⟩, .bool x.right, .bool x.zero]
structure CallR where
  op : Int
  key : ByteArray
  other : ByteArray
  item : ByteArray
  qty : Int
  da : Option Addr
  dl : Nat
  dc : Nat
def CallR.val (c : CallR) : Value := .agg #[.int .i64 c.op, .string c.key, .string c.other, .string c.item, .int .i64 c.qty, .slice c.da c.dl c.dc]
def CallR.rows (c : CallR) : List PRow := [⟨107, betB 33 c.key, decide (c.key.size = 0)⟩, ⟨111, betB 33 c.other, decide (c.other.size = 0)⟩, ⟨105, betB 32 c.item, decide (c.item.size = 0)⟩, ⟨113, true, c.qty == 0⟩, ⟨100, true, (c.dl : Int) == 0⟩]
def CallR.ok (c : CallR) : Bool := decide (1 ≤ c.op ∧ c.op < 12) && decide (c.dl ≤ 65536) && c.rows.all (PRow.ok (partsOf c.op))
/-- The sizes that a call read as data has. -/
structure CallR.fits (c : CallR) : Prop where
  op0 : -9223372036854775808 ≤ c.op
  op1 : c.op ≤ 9223372036854775807
  key : c.key.size ≤ maxLen
  other : c.other.size ≤ maxLen
  item : c.item.size ≤ maxLen
  dl : c.dl ≤ maxLen

attribute [local go_sem ↓] Go.wp_at_zero Go.wp_at_succ
set_option maxRecDepth 100000 in
set_option maxHeartbeats 4000000 in
theorem valid_any (c : CallR) (w : World) (hc : c.fits) (hR : RowsLie w) :
    Calls Tryd.prog 32 #[c.val] w fun e w' => e = .returned (.bool c.ok) ∧ Below w.heap.size w w' := by
  obtain ⟨op, key, other, item, qty, da, dl, dc⟩ := c
  obtain ⟨op0, op1, hk, ho, hi, hd⟩ := hc
  simp only at op0 op1 hk ho hi hd
  unfold maxLen at hd
  have hz : 0 < w.heap.size := by
    obtain ⟨C, tt, fz, hb, hC⟩ := hR
    rcases Nat.eq_zero_or_pos w.heap.size with e | e
    · rw [Array.getElem?_eq_none (by omega)] at hb; cases hb
    · exact e
  have hR1 : ∀ w', Below w.heap.size w w' → RowsLie w' := by
    intro w' hB
    obtain ⟨C, tt, fz, hb, hC⟩ := hR
    exact ⟨C, tt, fz, by rw [hB.block 0 hz, hb], hC⟩
  have HR := Lib.hid hR1
  clear hR1 hR
  unfold CallR.val
  by_cases hv : 1 ≤ op ∧ op < 12
  · have hf := fun w0 h => find_any op w0 op0 op1 h
    simp only [decide_eq_true hv, if_pos hv] at hf
    have HF := Lib.hid hf
    clear hf
    have HV := Lib.hid (decide_eq_true hv)
    clear hv
    by_cases hdl : 65536 < dl
    · have HO : Hid (∀ x, (decide (1 ≤ op ∧ op < 12) && decide (dl ≤ 65536) && x) = false) := Lib.hid (by intro x; rw [decide_eq_false (by omega : ¬ dl ≤ 65536)]; simp)
      go_enter Tryd.func32, Tryd.ntmps32
      go_wp2_with (go_at_call 41; refine (HF.out _ (HR.out _ ((Below.refl _ _).alloc (Nat.le_refl _) _))).mono ?_; rintro e w1 ⟨⟨x, rfl⟩, hb1⟩; obtain ⟨hcl, hfr⟩ := bcell hb1; have hz1 : w.heap.size < w1.heap.size := (by have := hb1.size; simp at this; omega))
      go_ret
      exact ⟨ret_bool (by unfold CallR.ok; rw [HO.out]), (((Below.refl _ _).alloc (Nat.le_refl _) _).trans (hb1.mono (by simp))).alloc (by omega) _⟩
    · have hb3 : ∀ w0, Calls Tryd.prog 42 #[.string key, .int .u8 33] w0 fun e w' => e = .returned (.bool (betB 33 key)) ∧ w' = w0 := fun w0 => (between_any key 33 w0 hk).mono fun _ _ ⟨h, h'⟩ => ⟨h, h'.symm⟩
      have hb4 : ∀ w0, Calls Tryd.prog 42 #[.string other, .int .u8 33] w0 fun e w' => e = .returned (.bool (betB 33 other)) ∧ w' = w0 := fun w0 => (between_any other 33 w0 ho).mono fun _ _ ⟨h, h'⟩ => ⟨h, h'.symm⟩
      have hb5 : ∀ w0, Calls Tryd.prog 42 #[.string item, .int .u8 32] w0 fun e w' => e = .returned (.bool (betB 32 item)) ∧ w' = w0 := fun w0 => (between_any item 32 w0 hi).mono fun _ _ ⟨h, h'⟩ => ⟨h, h'.symm⟩
      have H3 := Lib.hid hb3
      have H4 := Lib.hid hb4
      have H5 := Lib.hid hb5
      clear hb3 hb4 hb5
      go_enter Tryd.func32, Tryd.ntmps32
      go_wp2_with (go_at_call 41; refine (HF.out _ (HR.out _ ((Below.refl _ _).alloc (Nat.le_refl _) _))).mono ?_; rintro e w1 ⟨⟨x, rfl⟩, hb1⟩; obtain ⟨hcl, hfr⟩ := bcell hb1; have hz1 : w.heap.size < w1.heap.size := (by have := hb1.size; simp at this; omega))
      obtain ⟨W, hW⟩ : ∃ W, W = (w1.alloc (.cells #[.string x, .string (partsOf op)] 91)) := ⟨_, rfl⟩
      have f1 : W.cell? ⟨w.heap.size, 1, none⟩ = some (.string key) := by rw [hW]; go_simp
      have f2 : W.cell? ⟨w.heap.size, 2, none⟩ = some (.string other) := by rw [hW]; go_simp
      have f3 : W.cell? ⟨w.heap.size, 3, none⟩ = some (.string item) := by rw [hW]; go_simp
      have f4 : W.cell? ⟨w.heap.size, 4, none⟩ = some (.int .i64 qty) := by rw [hW]; go_simp
      have f5 : W.cell? ⟨w.heap.size, 5, none⟩ = some (.slice da dl dc) := by rw [hW]; go_simp
      have f6 : W.cell? ⟨w1.heap.size, 1, none⟩ = some (.string (partsOf op)) := by rw [hW]; go_simp
      have hB2 := ((((Below.refl w.heap.size w).alloc (Nat.le_refl _) _).trans (hb1.mono (by simp))).alloc (by omega) (.cells #[.string x, .string (partsOf op)] 91))
      rw [← hW] at hB2
      have hz2 : w1.heap.size < W.heap.size := by rw [hW]; simp
      rw [← hW]
      have HB2 := Lib.hid hB2
      clear hB2 hW hcl hfr hb1
      go_region_held3 (fun w' => w'.cell? ⟨w.heap.size, 1, none⟩ = some (.string key) ∧ w'.cell? ⟨w.heap.size, 2, none⟩ = some (.string other) ∧ w'.cell? ⟨w.heap.size, 3, none⟩ = some (.string item) ∧ w'.cell? ⟨w.heap.size, 4, none⟩ = some (.int .i64 qty) ∧ w'.cell? ⟨w.heap.size, 5, none⟩ = some (.slice da dl dc) ∧ w'.cell? ⟨w1.heap.size, 1, none⟩ = some (.string (partsOf op)))
        (first | go_keep)
        (first | ((go_at_call 42; first | ((with_reducible refine (H3.out _).mono ?_); rintro e w' ⟨rfl, rfl⟩) | ((with_reducible refine (H4.out _).mono ?_); rintro e w' ⟨rfl, rfl⟩) | ((with_reducible refine (H5.out _).mono ?_); rintro e w' ⟨rfl, rfl⟩))))
      go_wp2
      obtain ⟨rows, hrows⟩ : ∃ rows : List PRow, rows = [⟨107, betB 33 key, decide (key.size = 0)⟩, ⟨111, betB 33 other, decide (other.size = 0)⟩, ⟨105, betB 32 item, decide (item.size = 0)⟩, ⟨113, true, qty == 0⟩, ⟨100, true, (dl : Int) == 0⟩] := ⟨_, rfl⟩
      have HFIN : Hid (CallR.ok ⟨op, key, other, item, qty, da, dl, dc⟩ = rows.all (PRow.ok (partsOf op))) := Lib.hid (by unfold CallR.ok CallR.rows; rw [HV.out, decide_eq_true (by omega : dl ≤ 65536), hrows]; rfl)
      generalize partsOf op = pt at *
      have hlay : ∀ (WW : World) (C : Array Value), WW = (W.alloc (.cells C 95)).drew → C = (rows.flatMap PRow.cells).toArray → ∀ k, k < 5 → ∃ r, rows[k]? = some r ∧ WW.cell? ⟨W.heap.size, k * 3, none⟩ = some (.string ⟨#[r.c]⟩) ∧ WW.cell? ⟨W.heap.size, k * 3 + 1, none⟩ = some (.bool r.right) ∧ WW.cell? ⟨W.heap.size, k * 3 + 2, none⟩ = some (.bool r.zero) := by
        intro WW C hWW hC k hk
        have hcc : ∀ i, WW.cell? ⟨W.heap.size, i, none⟩ = C[i]? := fun i => by rw [hWW]; exact cell_newd W C 95 (0, 0) i
        rw [hcc, hcc, hcc, hC, hrows]
        match k, hk with
        | 0, _ => exact ⟨_, rfl, rfl, rfl, rfl⟩
        | 1, _ => exact ⟨_, rfl, rfl, rfl, rfl⟩
        | 2, _ => exact ⟨_, rfl, rfl, rfl, rfl⟩
        | 3, _ => exact ⟨_, rfl, rfl, rfl, rfl⟩
        | 4, _ => exact ⟨_, rfl, rfl, rfl, rfl⟩
      have hlen : rows.length = 5 := by rw [hrows]; rfl
      obtain ⟨W1, hW1⟩ : ∃ W1, W1 = (W.alloc (.cells #[.string ⟨#[107]⟩, .bool (betB 33 key), .bool key.toList.isEmpty, .string ⟨#[111]⟩, .bool (betB 33 other), .bool other.toList.isEmpty, .string ⟨#[105]⟩, .bool (betB 32 item), .bool item.toList.isEmpty, .string ⟨#[113]⟩, .bool true, .bool (qty == 0), .string ⟨#[100]⟩, .bool true, .bool ((dl : Int) == 0)] 95)).drew := ⟨_, rfl⟩
      have HL := hlay W1 _ hW1 (by rw [hrows]; simp [PRow.cells, bytes_isEmpty])
      rw [← hW1]
      have hzW : W1.heap.size = W.heap.size + 1 := by rw [hW1]; simp
      have f6' : W1.cell? ⟨w1.heap.size, 1, none⟩ = some (.string pt) := by rw [hW1]; go_simp
      have hBW : Below w.heap.size w W1 := by rw [hW1]; exact (HB2.out.alloc (by have := HB2.out.size; omega) _).drew
      have HBW := Lib.hid hBW
      have HLL := Lib.hid HL
      clear hBW HL hlay hrows hW1 f1 f2 f3 f4 f5 f6 H3 H4 H5 HF HR HB2 HV
      have hzE := Lib.hid hzW
      have hz3 : W.heap.size < W1.heap.size := by omega
      clear hzW
      go_loopw [54] (fun i wr => ∃ k : Nat, k ≤ 5 ∧ i = .int .i64 k ∧ (rows.take k).all (PRow.ok pt) = true ∧ Below W1.heap.size W1 wr) (fun i _ => 5 - (intOf i).toNat)
      case atStart => exact ⟨0, by omega, rfl, rfl, Below.refl _ _⟩
      case round =>
        obtain ⟨k, hk, rfl, hall, hB⟩ := hrel
        have hsz := hB.size
        have hr1 : w1.heap.size < wr.heap.size := by omega
        have hr2 : W.heap.size < wr.heap.size := by omega
        have g6 : wr.cell? ⟨w1.heap.size, 1, none⟩ = some (.string pt) := by rw [hB.cell (p := ⟨_, _, _⟩) (by simp; omega)]; exact f6'
        by_cases hlt : k < 5
        · obtain ⟨r, hr, e0, e1, e2⟩ := HLL.out k hlt
          have d0 : wr.cell? ⟨W.heap.size, k * 3, none⟩ = some (.string ⟨#[r.c]⟩) := by rw [hB.cell (p := ⟨_, _, _⟩) (by simp; omega)]; exact e0
          have d1 : wr.cell? ⟨W.heap.size, k * 3 + 1, none⟩ = some (.bool r.right) := by rw [hB.cell (p := ⟨_, _, _⟩) (by simp; omega)]; exact e1
          have d2 : wr.cell? ⟨W.heap.size, k * 3 + 2, none⟩ = some (.bool r.zero) := by rw [hB.cell (p := ⟨_, _, _⟩) (by simp; omega)]; exact e2
          have HC := Lib.hid (fun w0 => Tryd.strings_Contains_one pt r.c w0)
          have HB := Lib.hid hB
          have HA := Lib.hid hall
          have HS : Hid ((rows.take (k + 1)).all (PRow.ok pt) = ((rows.take k).all (PRow.ok pt) && PRow.ok pt r)) := Lib.hid (by
            rw [List.take_add_one, hr, List.all_append]; simp)
          have HN : Hid (PRow.ok pt r = false → rows.all (PRow.ok pt) = false) := Lib.hid (by
            intro h; rw [List.all_eq_false]; exact ⟨r, List.mem_of_getElem? hr, by simp [h]⟩)
          obtain ⟨rc, rr, rz⟩ := r
          have HO : Hid (PRow.ok pt ⟨rc, rr, rz⟩ = if decide (0 ≤ Lib.indexByte pt.data.toList rc) then rr else rz) := Lib.hid rfl
          simp only at d0 d1 d2 HC
          clear e0 e1 e2 hr hB hall f6'
          generalize decide (0 ≤ Lib.indexByte pt.data.toList rc) = has at *
          cases has <;> cases rr <;> cases rz
          all_goals
            go_wp2_with (go_at_call 43; refine (HC.out _).mono ?_; rintro e w' ⟨rfl, rfl⟩)
          all_goals first
            | (go_ret
               exact ⟨ret_bool (by rw [HFIN.out, HN.out (by rw [HO.out]; rfl)]), HBW.out.trans ((HB.out.mono (by omega)).alloc (by omega) _)⟩)
            | (go_roundw
               case rel => exact ⟨k + 1, by omega, by go_num, by rw [HS.out, HA.out, HO.out]; rfl, HB.out.alloc (by omega) _⟩
               case measure => simp [intOf]; omega)
        · have hke : k = 5 := by omega
          subst hke
          rw [List.take_of_length_le (by omega)] at hall
          have HA := Lib.hid hall
          have HB := Lib.hid hB
          clear hall hB
          go_wp2
          go_ret
          exact ⟨ret_bool (by rw [HFIN.out, HA.out]), HBW.out.trans (HB.out.mono (by omega))⟩
  · have hf := fun w0 h => find_any op w0 op0 op1 h
    simp only [decide_eq_false hv, if_neg hv] at hf
    have HF := Lib.hid hf
    clear hf
    have HO : Hid (∀ x y, (decide (1 ≤ op ∧ op < 12) && x && y) = false) := Lib.hid (by intro x y; rw [decide_eq_false hv]; simp)
    clear hv
    go_enter Tryd.func32, Tryd.ntmps32
    go_wp2_with (go_at_call 41; refine (HF.out _ (HR.out _ ((Below.refl _ _).alloc (Nat.le_refl _) _))).mono ?_; rintro e w1 ⟨⟨x, rfl⟩, hb1⟩; obtain ⟨hcl, hfr⟩ := bcell hb1; have hz1 : w.heap.size < w1.heap.size := (by have := hb1.size; simp at this; omega))
    go_ret
    exact ⟨ret_bool (by unfold CallR.ok; rw [HO.out]), (((Below.refl _ _).alloc (Nat.le_refl _) _).trans (hb1.mono (by simp))).alloc (by omega) _⟩
end Go.Proofs.YtdeljhehcjknbaaDoor
