/- The law's Model in memory (its pages are those of an abstract book, members in order), and Model.find walked: for every such model. -/
import Derived.Test.YtdeljhehcjknbaaDoorS13
import Derived.Test.YtdeljhehcjknbaaDoorS20
namespace Go.Proofs.YtdeljhehcjknbaaDoor
open Go.RowKit Go.Maps Go.Sort Go.Lib

/-- Members in a block of G: the row of memS. -/
def MemAt (G : Nat → Prop) (w : World) (v : Value) (m : List (ByteArray × Int)) : Prop :=
  ∃ a cap, v = .slice a m.length cap ∧ (a = none → m = [] ∧ cap = 0) ∧ (m ≠ [] → ∃ g, a = some ⟨g, 0, none⟩ ∧ G g ∧ g < w.heap.size ∧ ∀ j u, (flatM (memS m))[j]? = some u → w.cell? ⟨g, j, none⟩ = some u)
def PageAt (G : Nat → Prop) (w : World) (g o : Nat) (x : APg) : Prop :=
  w.cell? ⟨g, o, none⟩ = some (.string x.cart) ∧ w.cell? ⟨g, o + 1, none⟩ = some (.string x.owner) ∧ ∃ mv, w.cell? ⟨g, o + 2, none⟩ = some mv ∧ MemAt G w mv x.mem
def PagesAt (G : Nat → Prop) (w : World) (v : Value) (A : List APg) : Prop :=
  ∃ a cap, v = .slice a A.length cap ∧ ((a = none → A = [] ∧ cap = 0) ∧ A.length ≤ cap) ∧ (A ≠ [] → ∃ g, a = some ⟨g, 0, none⟩ ∧ G g ∧ g < w.heap.size ∧ ∀ i (hi : i < A.length), PageAt G w g (i * 3) A[i])
/-- The model at block b. -/
def ModelIs (G : Nat → Prop) (w : World) (b : Nat) (A : List APg) : Prop :=
  G b ∧ (∃ v, w.heap[b]? = some (.cells #[v] 38 (0, 0)) ∧ PagesAt (fun k => G k ∧ k ≠ b) w v A) ∧ Inv A ∧ A.length ≤ 500 ∧ (∀ x ∈ A, x.mem.length ≤ 50)

theorem MemAt.of {G G' : Nat → Prop} {w w' : World} {v : Value} {m : List (ByteArray × Int)} (h : MemAt G w v m) (hG : ∀ k, G k → G' k) (hk : ∀ k, G k → k < w.heap.size → w'.heap[k]? = w.heap[k]?) (hs : w.heap.size ≤ w'.heap.size) : MemAt G' w' v m := by
  obtain ⟨a, cap, h1, h2, h3⟩ := h
  refine ⟨a, cap, h1, h2, fun hn => ?_⟩
  obtain ⟨g, e1, e2, e3, e4⟩ := h3 hn
  exact ⟨g, e1, hG g e2, Nat.lt_of_lt_of_le e3 hs, fun j u h => by rw [World.cell?_of_block (w := w) (hk g e2 e3)]; exact e4 j u h⟩
theorem PageAt.of {G G' : Nat → Prop} {w w' : World} {g o : Nat} {x : APg} (h : PageAt G w g o x) (hg : w'.heap[g]? = w.heap[g]?) (hG : ∀ k, G k → G' k) (hk : ∀ k, G k → k < w.heap.size → w'.heap[k]? = w.heap[k]?) (hs : w.heap.size ≤ w'.heap.size) : PageAt G' w' g o x := by
  obtain ⟨h1, h2, mv, h3, h4⟩ := h
  refine ⟨?_, ?_, mv, ?_, h4.of hG hk hs⟩ <;> (rw [World.cell?_of_block (w := w) hg]; assumption)
theorem PagesAt.of {G G' : Nat → Prop} {w w' : World} {v : Value} {A : List APg} (h : PagesAt G w v A) (hG : ∀ k, G k → G' k) (hk : ∀ k, G k → k < w.heap.size → w'.heap[k]? = w.heap[k]?) (hs : w.heap.size ≤ w'.heap.size) : PagesAt G' w' v A := by
  obtain ⟨a, cap, h1, h2, h3⟩ := h
  refine ⟨a, cap, h1, h2, fun hn => ?_⟩
  obtain ⟨g, e1, e2, e3, e4⟩ := h3 hn
  exact ⟨g, e1, hG g e2, Nat.lt_of_lt_of_le e3 hs, fun i hi => (e4 i hi).of (hk g e2 e3) hG hk hs⟩
/-- Whatever leaves the model's blocks as they are leaves the model. -/
theorem ModelIs.of {G G' : Nat → Prop} {w w' : World} {b : Nat} {A : List APg} (h : ModelIs G w b A) (hG : ∀ k, G k → G' k) (hk : ∀ k, G k → k < w.heap.size → w'.heap[k]? = w.heap[k]?) (hs : w.heap.size ≤ w'.heap.size) : ModelIs G' w' b A := by
  obtain ⟨h0, ⟨v, h1, h2⟩, h3⟩ := h
  exact ⟨hG b h0, ⟨v, by rw [hk b h0 (lt_of_heap h1)]; exact h1, h2.of (fun k h => ⟨hG k h.1, h.2⟩) (fun k h => hk k h.1) hs⟩, h3⟩
theorem ModelIs.below {G : Nat → Prop} {w w' : World} {b : Nat} {A : List APg} (h : ModelIs G w b A) (hb : Below w.heap.size w w') : ModelIs G w' b A :=
  h.of (fun _ h => h) (fun k _ hk => hb.block k hk) hb.size
theorem ModelIs.lt {G : Nat → Prop} {w : World} {b : Nat} {A : List APg} (h : ModelIs G w b A) : b < w.heap.size := by
  obtain ⟨_, ⟨v, h1, _⟩, _⟩ := h; exact lt_of_heap h1

/-- Where a cart's page stands. -/
def idxA : List APg → ByteArray → Option Nat
  | [], _ => none
  | x :: A, c => if c = x.cart then some 0 else (idxA A c).map (· + 1)
theorem idxA_some : ∀ {A : List APg} {c : ByteArray} {i : Nat}, (hi : i < A.length) → A[i].cart = c → (∀ j (hj : j < i), (A[j]'(by omega)).cart ≠ c) → idxA A c = some i
  | x :: A, c, 0, _, h, _ => by simp only [idxA]; rw [if_pos (show c = x.cart from h.symm)]
  | x :: A, c, i + 1, hi, h, hn => by
    simp only [idxA]
    rw [if_neg (fun e => hn 0 (by omega) e.symm), idxA_some (i := i) (by simpa using hi) (by simpa using h) (fun j hj => by have := hn (j + 1) (by omega); simpa using this)]
    rfl
theorem idxA_none : ∀ {A : List APg} {c : ByteArray}, (∀ j (hj : j < A.length), A[j].cart ≠ c) → idxA A c = none
  | [], _, _ => rfl
  | x :: A, c, h => by
    simp only [idxA]
    rw [if_neg (fun e => h 0 (by simp) e.symm), idxA_none (fun j hj => by have := h (j + 1) (by simpa using hj); simpa using this)]
    rfl
theorem aFind_idx : ∀ {A : List APg} {c : ByteArray}, aFind A c = (idxA A c).bind (A[·]?)
  | [], _ => rfl
  | x :: A, c => by
    simp only [aFind, idxA]
    by_cases h : c = x.cart
    · simp [h]
    · rw [if_neg h, if_neg h, aFind_idx (A := A)]
      cases idxA A c <;> simp
theorem idxA_get {A : List APg} {c : ByteArray} {i : Nat} (h : idxA A c = some i) : ∃ hi : i < A.length, aFind A c = some A[i] ∧ A[i].cart = c := by
  have hf := aFind_idx (A := A) (c := c)
  rw [h] at hf
  have hlt : i < A.length := by
    have : ∀ {A : List APg} {i : Nat}, idxA A c = some i → i < A.length := by
      intro A
      induction A with
      | nil => intro i h; cases h
      | cons x A ih =>
        intro i h
        simp only [idxA] at h
        split at h
        · cases h; simp
        · cases e : idxA A c with
          | none => rw [e] at h; cases h
          | some k => rw [e] at h; cases h; have := ih e; simp; omega
    exact this h
  simp only [Option.bind_some, List.getElem?_eq_getElem hlt] at hf
  exact ⟨hlt, hf, (aFind_in hf).2⟩
def findI (A : List APg) (c : ByteArray) : Int := match idxA A c with
  | some i => i
  | none => -1

set_option maxRecDepth 100000 in
set_option maxHeartbeats 1000000 in
theorem find_m {G : Nat → Prop} {w : World} {b : Nat} {A : List APg} (cart : ByteArray) (h : ModelIs G w b A) :
    Calls Tryd.prog 27 #[.pointer (some ⟨b, 0, none⟩), .string cart] w fun e w' => e = .returned (.int .i64 (findI A cart)) ∧ w = w' := by
  obtain ⟨_, ⟨v, hb, a, cap, rfl, -, hp⟩, _, h500, _⟩ := h
  have c0 := cell0 hb 0
  simp only [List.getElem?_toArray, List.getElem?_cons_zero] at c0
  have HP := Lib.hid hp
  clear hp hb
  go_enter Tryd.func27, Tryd.ntmps27
  go_wp2
  go_loopw [5] (fun i wr => ∃ k : Nat, k ≤ A.length ∧ i = .int .i64 k ∧ (∀ j (_ : j < k) (h2 : j < A.length), A[j].cart ≠ cart) ∧ wr = w) (fun i _ => A.length - (intOf i).toNat)
  case atStart => exact ⟨0, Nat.zero_le _, rfl, fun j hj => by omega, rfl⟩
  case round =>
    obtain ⟨k, hk, rfl, hno, rfl⟩ := hrel
    have HNO := Lib.hid hno
    clear hno
    by_cases hlt : k < A.length
    · obtain ⟨g, rfl, _, hg1, hpg⟩ := HP.out (by intro e; rw [e] at hlt; simp at hlt)
      have d0 := (hpg k hlt).1
      have hk0 : (0 : Int) ≤ k := by omega
      have hk1 : (k : Int) < A.length := by omega
      clear hpg
      by_cases hc : A[k].cart = cart
      · have HF : Hid (findI A cart = k) := Lib.hid (by unfold findI; rw [idxA_some hlt hc (fun j hj => HNO.out j hj (by omega))])
        have hcs := str_eq hc
        clear hc
        generalize A[k].cart = pc at *
        go_wp2
        go_ret
        exact ⟨by rw [HF.out]; rfl, rfl⟩
      · have HN := Lib.hid hc
        have hcs := str_ne hc
        clear hc
        have HST : Hid (∀ j (_ : j < k + 1) (h2 : j < A.length), A[j].cart ≠ cart) := Lib.hid (fun j hj h2 => by
          by_cases e : j = k
          · subst e; exact HN.out
          · exact HNO.out j (by omega) h2)
        clear HN
        generalize A[k].cart = pc at *
        go_wp2
        go_roundw
        case rel => exact ⟨k + 1, by omega, by go_num, HST.out, trivial⟩
        case measure => simp [intOf]; omega
    · have hke : k = A.length := by omega
      subst hke
      have HF : Hid (findI A cart = -1) := Lib.hid (by unfold findI; rw [idxA_none (fun j hj => HNO.out j hj hj)])
      go_wp2
      go_ret
      exact ⟨by rw [HF.out]; rfl, rfl⟩
end Go.Proofs.YtdeljhehcjknbaaDoor
