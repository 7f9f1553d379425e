/- The shape of a Book in memory, and check walked: for every book that lies so. -/
import Derived.Test.YtdeljhehcjknbaaDoorS1
namespace Go.Proofs.YtdeljhehcjknbaaDoor
open Go.RowKit Go.Maps

/-- A page of a book as it lies: the cart, the page's block, the members' block, the owner, the members. -/
structure PgR where
  cart : ByteArray
  p : Nat
  mb : Nat
  owner : ByteArray
  mem : List (ByteArray × Int)

def memV (l : List (ByteArray × Int)) : List (ByteArray × Value) := l.map fun x => (x.1, .int .i64 x.2)
def PgR.ptr (x : PgR) : Value := .pointer (some ⟨x.p, 0, none⟩)
def PgR.is (w : World) (x : PgR) : Prop := w.heap[x.p]? = some (.cells #[.string x.owner, .map (some x.mb)] 80) ∧ MapIs w x.mb (memV x.mem)
def ptrs (L : List PgR) : List (ByteArray × Value) := L.map fun x => (x.cart, x.ptr)
def pgA : List PgR → ByteArray → Option PgR
  | [], _ => none
  | x :: r, c => if c = x.cart then some x else pgA r c
def MapO (w : World) : Option Nat → List (ByteArray × Value) → Prop
  | none, m => m = []
  | some r, m => MapIs w r m
def foot (b : Nat) (mr : Option Nat) (L : List PgR) : List Nat := b :: (mr.toList ++ L.flatMap fun x => [x.p, x.mb])
def PgR.wf (x : PgR) : Prop := keyB x.cart = true ∧ keyB x.owner = true ∧ x.mem.length ≤ 50 ∧ ∀ m ∈ x.mem, keyB m.1 = true ∧ 1 ≤ m.2 ∧ m.2 ≤ 15
/-- The book at block b holds the pages L. -/
structure BookIs (w : World) (b : Nat) (mr : Option Nat) (L : List PgR) : Prop where
  hb : w.heap[b]? = some (.cells #[.map mr] 34)
  hm : MapO w mr (ptrs L)
  hp : ∀ x ∈ L, x.is w
  nd : (foot b mr L).Nodup
  wf : ∀ x ∈ L, x.wf
  len : L.length ≤ 500

theorem keyB_size {s : ByteArray} (h : keyB s = true) : s.size ≤ 64 := by
  unfold keyB at h; simp at h; exact h.2

theorem lt_of_heap {w : World} {b : Nat} {o : Obj} (h : w.heap[b]? = some o) : b < w.heap.size := by
  rcases Nat.lt_or_ge b w.heap.size with h' | h'
  · exact h'
  · rw [Array.getElem?_eq_none h'] at h; cases h
theorem MapIs.lt {w : World} {r : Nat} {m : List (ByteArray × Value)} (h : MapIs w r m) : r < w.heap.size := by
  obtain ⟨_, _, h, _⟩ := h; exact lt_of_heap h

theorem cell0 {w : World} {b : Nat} {c : Array Value} {T : TypeId} (h : w.heap[b]? = some (.cells c T)) (i : Nat) : w.cell? ⟨b, i, none⟩ = c[i]? := by
  unfold World.cell?; rw [h]; rfl
theorem froz0 {w : World} {b : Nat} {c : Array Value} {T : TypeId} (h : w.heap[b]? = some (.cells c T)) (i : Nat) : w.frozen? ⟨b, i, none⟩ = false := by
  unfold World.frozen?; rw [h]; simp

theorem lkA_ptrs (L : List PgR) (c : ByteArray) : lkA (ptrs L) c = (pgA L c).map PgR.ptr := by
  induction L with
  | nil => rfl
  | cons x L ih => simp only [ptrs, List.map_cons, lkA, pgA] at ih ⊢; split <;> simp_all

theorem pgA_mem {L : List PgR} {c : ByteArray} {x : PgR} (h : pgA L c = some x) : x ∈ L ∧ x.cart = c := by
  induction L with
  | nil => cases h
  | cons y L ih =>
    simp only [pgA] at h
    split at h
    · cases h; rename_i e; exact ⟨.head _, e.symm⟩
    · exact ⟨.tail _ (ih h).1, (ih h).2⟩

theorem zero75 (w : World) : (zeroValue 75).run Tryd.prog w = .ok (.pointer none) w := by kernel_rfl
theorem zero27 (w : World) : (zeroValue 27).run Tryd.prog w = .ok (.int .i64 0) w := by kernel_rfl

section
variable {w w' : World} {b : Nat} {mr : Option Nat} {L : List PgR}

theorem look_none {P : Program} {w : World} {t kt et : TypeId} (ht : P.underlying t = some (.map kt et)) (hk : P.underlying kt = some .string) {z : Value} (hz : (zeroValue et).run P w = .ok z w) (k : ByteArray) :
    (Instr.lookup t (.map none) (.string k) false).run P w = .ok z w := by
  have h0 : (Instr.findKey kt (.string k) []).run P w = .ok none w := run_findKey_str (m := []) hk rfl k w
  have e : (Instr.lookup t (.map none) (.string k) false) = (do
      let .map key elem ← underlying t | stuck "Lookup: map type expected"
      let es ← (pure #[] : Sem (Array MapEntry))
      Instr.checkKey es.isEmpty 10000 key (.string k)
      let (v, ok) ← match ← Instr.findKey key (.string k) es.toList with
        | some (_, v) => pure (v, true)
        | none => pure (← zeroValue elem, false)
      pure (if false then .tuple #[v, .bool ok] else v)) := rfl
  rw [e]
  simp [run_underlying ht, run_checkKey_str hk, h0, hz, Result.andThen]

theorem BookIs.look (h : BookIs w b mr L) (c : ByteArray) : (Instr.lookup 32 (.map mr) (.string c) false).run Tryd.prog w = .ok (((pgA L c).map PgR.ptr).getD (.pointer none)) w := by
  rw [← lkA_ptrs]
  have := h.hm
  cases mr with
  | none =>
    have e : ptrs L = [] := this
    rw [e]
    exact look_none Tryd.underlying32 Tryd.underlying9 (zero75 w) c
  | some r => exact MapIs.lookup this Tryd.underlying32 Tryd.underlying9 (zero75 w) c

theorem PgR.is.look {x : PgR} (h : x.is w) (c : ByteArray) : (Instr.lookup 78 (.map (some x.mb)) (.string c) false).run Tryd.prog w = .ok ((lkA (memV x.mem) c).getD (.int .i64 0)) w :=
  h.2.lookup Tryd.underlying78 Tryd.underlying9 (zero27 w) c

theorem BookIs.of_blocks (h : BookIs w b mr L) (hB : ∀ k ∈ foot b mr L, w'.heap[k]? = w.heap[k]?) : BookIs w' b mr L := by
  refine ⟨?_, ?_, ?_, h.nd, h.wf, h.len⟩
  · rw [hB b (by simp [foot])]; exact h.hb
  · have := h.hm
    cases mr with
    | none => exact this
    | some r => exact MapIs.of_block this (hB r (by simp [foot]))
  · intro x hx
    obtain ⟨h1, h2⟩ := h.hp x hx
    have e1 : x.p ∈ foot b mr L := by simp [foot]; right; right; exact ⟨x, hx, Or.inl rfl⟩
    have e2 : x.mb ∈ foot b mr L := by simp [foot]; right; right; exact ⟨x, hx, Or.inr rfl⟩
    exact ⟨by rw [hB _ e1]; exact h1, h2.of_block (hB _ e2)⟩

theorem BookIs.foot_lt (h : BookIs w b mr L) : ∀ k ∈ foot b mr L, k < w.heap.size := by
  intro k hk
  simp only [foot, List.mem_cons, List.mem_append, List.mem_flatMap, List.not_mem_nil, or_false] at hk
  rcases hk with rfl | hk | ⟨x, hx, rfl | rfl⟩
  · exact lt_of_heap h.hb
  · have := h.hm
    cases mr with
    | none => simp at hk
    | some r => simp at hk; subst hk; exact MapIs.lt this
  · exact lt_of_heap (h.hp x hx).1
  · exact (h.hp x hx).2.lt

theorem BookIs.below (h : BookIs w b mr L) (hB : Below w.heap.size w w') : BookIs w' b mr L :=
  h.of_blocks fun k hk => hB.block k (h.foot_lt k hk)

end

/-- What 'check' answers: the page, and the error. -/
def checkR (L : List PgR) (cart : ByteArray) (ss : List ByteArray) : Value × Int :=
  if keyB cart && ss.all keyB then match pgA L cart with
    | none => (.pointer none, 9)
    | some x => (x.ptr, 0)
  else (.pointer none, 2)

set_option maxHeartbeats 1000000 in
theorem check_any (b sb c : Nat) (mr : Option Nat) (L : List PgR) (cart : ByteArray) (ss : List ByteArray) (w : World) (hK : BookIs w b mr L) (hcs : cart.size ≤ maxLen)
    (hl : ss.length ≤ 9223372036854775807) (hsb : sb < w.heap.size) (hS : StrsAt w sb ss) (hm : ∀ s ∈ ss, s.size ≤ maxLen) :
    Calls Tryd.prog 37 #[.pointer (some ⟨b, 0, none⟩), .string cart, .slice (some ⟨sb, 0, none⟩) ss.length c] w fun e w' =>
      e = .returned (.tuple #[(checkR L cart ss).1, .int .i64 (checkR L cart ss).2]) ∧ Below w.heap.size w w' := by
  have HKey := Lib.hid (fun w0 => key_any cart w0 hcs)
  have HKeys := Lib.hid (fun w0 h1 h2 => keys_any sb c ss w0 hl h1 h2 hm)
  have HS := Lib.hid hS
  have HK := Lib.hid hK
  clear hS hm hK
  cases hc : keyB cart
  · have HR : Hid (checkR L cart ss = (.pointer none, 2)) := Lib.hid (by unfold checkR; rw [hc]; rfl)
    rw [hc] at HKey
    clear hc
    go_enter Tryd.func37, Tryd.ntmps37
    go_wp2_with (go_at_call 26; refine (HKey.out _).mono ?_; rintro e w1 ⟨rfl, hb1⟩)
    go_ret2
    exact ⟨by rw [HR.out]; rfl, hb1⟩
  · cases hs : ss.all keyB
    · have HR : Hid (checkR L cart ss = (.pointer none, 2)) := Lib.hid (by unfold checkR; rw [hc, hs]; rfl)
      rw [hc] at HKey
      rw [hs] at HKeys
      clear hc hs
      go_enter Tryd.func37, Tryd.ntmps37
      go_wp2_with (first | (go_at_call 26; refine (HKey.out _).mono ?_; rintro e w1 ⟨rfl, hb1⟩) | (go_at_call 34; refine (HKeys.out _ (by have := hb1.size; omega) (HS.out.below hsb hb1)).mono ?_; rintro e w2 ⟨rfl, hb2⟩))
      go_ret2
      exact ⟨by rw [HR.out]; rfl, hb1.trans (hb2.mono (by have := hb1.size; omega))⟩
    · rw [hc] at HKey
      rw [hs] at HKeys
      cases hp : pgA L cart with
      | none =>
        have HR : Hid (checkR L cart ss = (.pointer none, 9)) := Lib.hid (by unfold checkR; rw [hc, hs, hp]; rfl)
        have HP := Lib.hid hp
        clear hc hs hp
        go_enter Tryd.func37, Tryd.ntmps37
        go_wp2_with (first | (go_at_call 26; refine (HKey.out _).mono ?_; rintro e w1 ⟨rfl, hb1⟩) | (go_at_call 34; refine (HKeys.out _ (by have := hb1.size; omega) (HS.out.below hsb hb1)).mono ?_; rintro e w2 ⟨rfl, hb2⟩; have hb3 := hb1.trans (hb2.mono (by have := hb1.size; omega)); have hBk := HK.out.below hb3; have c0 := cell0 hBk.hb 0; have hlk := hBk.look cart; rw [HP.out] at hlk; clear hBk))
        go_ret2
        exact ⟨by rw [HR.out]; rfl, hb3⟩
      | some x =>
        have HR : Hid (checkR L cart ss = (.pointer (some ⟨x.p, 0, none⟩), 0)) := Lib.hid (by unfold checkR; rw [hc, hs, hp]; rfl)
        have HP := Lib.hid hp
        clear hc hs hp
        go_enter Tryd.func37, Tryd.ntmps37
        go_wp2_with (first | (go_at_call 26; refine (HKey.out _).mono ?_; rintro e w1 ⟨rfl, hb1⟩) | (go_at_call 34; refine (HKeys.out _ (by have := hb1.size; omega) (HS.out.below hsb hb1)).mono ?_; rintro e w2 ⟨rfl, hb2⟩; have hb3 := hb1.trans (hb2.mono (by have := hb1.size; omega)); have hBk := HK.out.below hb3; have c0 := cell0 hBk.hb 0; have hlk := hBk.look cart; rw [HP.out] at hlk; simp only [Option.map_some, Option.getD_some, PgR.ptr] at hlk; clear hBk))
        go_ret2
        exact ⟨by rw [HR.out]; rfl, hb3⟩
end Go.Proofs.YtdeljhehcjknbaaDoor
