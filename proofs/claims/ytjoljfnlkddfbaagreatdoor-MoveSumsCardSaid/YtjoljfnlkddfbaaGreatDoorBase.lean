/- Maps keyed by strings as they lie, and their operations: for every map block that holds its entries in order. -/
import Derived.Test.YtjoljfnlkddfbaaGreatDoorRows
import Derived.WalkKit
import Derived.WalkSpells
import Derived.WalkLawsBesides
import Derived.Maps.Own
import Derived.Maps.OwnOps
import Derived.Maps.OwnSet
namespace Go.Proofs.YtjoljfnlkddfbaaGreatDoor
open Go.RowKit Go.Maps Go.MapKept

/-- The value at a key of a list of pairs, in order. -/
def lkA {α : Type} : List (ByteArray × α) → ByteArray → Option α
  | [], _ => none
  | p :: r, k => if k = p.1 then some p.2 else lkA r k
/-- The place of a key. -/
def ixA {α : Type} : List (ByteArray × α) → ByteArray → Nat → Option (Nat × α)
  | [], _, _ => none
  | p :: r, k, i => if k = p.1 then some (i, p.2) else ixA r k (i + 1)
/-- A value laid at a key: in its place, or behind the rest. -/
def putA {α : Type} : List (ByteArray × α) → ByteArray → α → List (ByteArray × α)
  | [], k, v => [(k, v)]
  | p :: r, k, v => if k = p.1 then (p.1, v) :: r else p :: putA r k v
/-- A key taken out. -/
def delA {α : Type} : List (ByteArray × α) → ByteArray → List (ByteArray × α)
  | [], _ => []
  | p :: r, k => if k = p.1 then r else p :: delA r k

/-- A block that is a map keyed by strings: its entries in order. -/
def MapIs (w : World) (r : Nat) (m : List (ByteArray × Value)) : Prop :=
  ∃ es clk, w.heap[r]? = some (.map es clk) ∧ Stamped es clk ∧ es.toList.map (fun e => (e.key, e.val)) = m.map (fun p => (Value.string p.1, p.2))

theorem lkA_ixA {α : Type} (m : List (ByteArray × α)) (k : ByteArray) (i : Nat) : (ixA m k i).map (·.2) = lkA m k := by
  induction m generalizing i with
  | nil => rfl
  | cons p r ih => simp only [ixA, lkA]; split <;> simp [ih]

theorem beqB (a b : ByteArray) : (a == b) = decide (a = b) := by
  by_cases h : a = b
  · rw [(MapKept.bytes_beq a b).2 h]; simp [h]
  · have : ¬ (a == b) = true := fun e => h ((MapKept.bytes_beq a b).1 e)
    simp [h, this]

theorem findNow_str (k : ByteArray) : ∀ (es : List MapEntry) (m : List (ByteArray × Value)) (i : Nat),
    es.map (fun e => (e.key, e.val)) = m.map (fun p => (Value.string p.1, p.2)) →
    Instr.findNow .string (.string k) es i = some (ixA m k i)
  | [], [], _, _ => rfl
  | [], _ :: _, _, h => by simp at h
  | _ :: _, [], _, h => by simp at h
  | e :: es, p :: m, i, h => by
    simp only [List.map_cons, List.cons.injEq, Prod.mk.injEq] at h
    obtain ⟨⟨h1, h2⟩, h3⟩ := h
    simp only [Instr.findNow, h1, Instr.sameNow, ixA]
    by_cases hk : k = p.1
    · subst hk; simp [beqB, h2]
    · simp [beqB, hk, findNow_str k es m (i + 1) h3]

section
variable {P : Program} {w : World} {r : Nat} {m : List (ByteArray × Value)} {t kt et : TypeId}

theorem run_checkKey_str (hk : P.underlying kt = some .string) (em : Bool) (k : ByteArray) (w : World) : (Instr.checkKey em 10000 kt (.string k)).run P w = .ok () w := by
  show Sem.run P (Instr.checkKey em (9999 + 1) kt (.string k)) w = _
  unfold Instr.checkKey
  simp [run_underlying hk, Result.andThen]

theorem run_findKey_str (hk : P.underlying kt = some .string) {es : List MapEntry} (h : es.map (fun e => (e.key, e.val)) = m.map (fun p => (Value.string p.1, p.2))) (k : ByteArray) (w : World) :
    (Instr.findKey kt (.string k) es).run P w = .ok (ixA m k 0) w := by
  simp [Instr.findKey, run_underlying hk, Result.andThen, findNow_str k es m 0 h]

theorem MapIs.lookup (h : MapIs w r m) (ht : P.underlying t = some (.map kt et)) (hk : P.underlying kt = some .string) {z : Value} (hz : (zeroValue et).run P w = .ok z w) (k : ByteArray) :
    (Instr.lookup t (.map (some r)) (.string k) false).run P w = .ok ((lkA m k).getD z) w := by
  obtain ⟨es, clk, hb, _, he⟩ := h
  rw [← lkA_ixA m k 0]
  cases hx : ixA m k 0 <;> simp [Instr.lookup, run_underlying ht, MapKept.run_getObj_map hb, run_checkKey_str hk, run_findKey_str hk he, hx, hz, Result.andThen]

theorem MapIs.len (h : MapIs w r m) (ht : P.underlying t = some (.map kt et)) (ty : TypeId) : (Builtin.len_ #[t] ty #[.map (some r)]).run P w = .ok (.int .i64 m.length) w := by
  obtain ⟨es, clk, hb, _, he⟩ := h
  have : es.size = m.length := by have := congrArg List.length he; simpa using this
  simp [Builtin.len_, run_underlying ht, MapKept.run_getObj_map hb, Result.andThen, this, goInt]

theorem ixA_none {α : Type} : ∀ (m : List (ByteArray × α)) (k : ByteArray) (i : Nat), ixA m k i = none → (∀ p ∈ m, k ≠ p.1) ∧ (∀ v, putA m k v = m ++ [(k, v)]) ∧ delA m k = m
  | [], _, _, _ => by simp [putA, delA]
  | p :: m, k, i, h => by
    simp only [ixA] at h
    by_cases e : k = p.1
    · simp [e] at h
    · rw [if_neg e] at h
      obtain ⟨h1, h2, h3⟩ := ixA_none m k (i + 1) h
      refine ⟨?_, ?_, ?_⟩
      · intro q hq
        rcases List.mem_cons.1 hq with rfl | hq
        · exact e
        · exact h1 q hq
      · intro v; simp [putA, e, h2]
      · simp [delA, e, h3]

theorem ixA_some {α : Type} : ∀ (m : List (ByteArray × α)) (k : ByteArray) (i j : Nat) (v : α), ixA m k i = some (j, v) → i ≤ j ∧ m[j - i]? = some (k, v) ∧ (∀ u, putA m k u = m.set (j - i) (k, u)) ∧ delA m k = m.eraseIdx (j - i)
  | [], _, _, _, _, h => by simp [ixA] at h
  | p :: m, k, i, j, v, h => by
    simp only [ixA] at h
    by_cases e : k = p.1
    · rw [if_pos e] at h
      simp only [Option.some.injEq, Prod.mk.injEq] at h
      obtain ⟨rfl, rfl⟩ := h
      subst e
      simp [putA, delA]
    · rw [if_neg e] at h
      obtain ⟨h1, h2, h3, h4⟩ := ixA_some m k (i + 1) j v h
      have hj : j - i = (j - (i + 1)) + 1 := by omega
      refine ⟨by omega, ?_, ?_, ?_⟩
      · rw [hj]; simpa using h2
      · intro u; rw [hj]; simp [putA, e, h3]
      · rw [hj]; simp [delA, e, h4]

theorem sameBits_str (k : ByteArray) : Instr.sameBits 10000 (.string k) (.string k) = true := by
  show (k == k) = true
  simp [beqB]

theorem grownBy_set (w : World) (r : Nat) (o : Obj) : w.grownBy { w with heap := w.heap.setIfInBounds r o } (some r) :=
  ⟨rfl, rfl, rfl, by simp, fun k _ hne => by
    show (w.heap.setIfInBounds r o)[k]? = _
    rw [Array.getElem?_setIfInBounds]; rw [if_neg (fun e => hne (by rw [e]))]⟩

theorem MapIs.update (h : MapIs w r m) (ht : P.underlying t = some (.map kt et)) (hk : P.underlying kt = some .string) (k : ByteArray) (v : Value) :
    ∃ w', (Instr.mapUpdate t (.map (some r)) (.string k) v).run P w = .ok () w' ∧ MapIs w' r (putA m k v) ∧ w.grownBy w' (some r) := by
  obtain ⟨es, clk, hb, ⟨hs1, hs2, hs3⟩, he⟩ := h
  have hr : r < w.heap.size := by
    rcases Nat.lt_or_ge r w.heap.size with h | h
    · exact h
    · rw [Array.getElem?_eq_none h] at hb; cases hb
  cases hx : ixA m k 0 with
  | none =>
    obtain ⟨h1, h2, _⟩ := ixA_none m k 0 hx
    refine ⟨{ w with heap := w.heap.setIfInBounds r (.map (es.push { key := .string k, val := v, born := clk }) (clk + 1)) }, ?_, ?_, grownBy_set _ _ _⟩
    · simp [Instr.mapUpdate, run_underlying ht, MapKept.run_getObj_map hb, run_checkKey_str hk, run_findKey_str hk he, hx, Result.andThen, setObj, Sem.run, hb]
    · refine ⟨_, _, by simp [hr]; exact ⟨rfl, rfl⟩, ⟨?_, ?_, ?_⟩, ?_⟩
      · intro x hx'
        simp only [Array.toList_push, List.mem_append, List.mem_singleton] at hx'
        rcases hx' with hx' | rfl
        · have := hs1 x hx'; omega
        · simp
      · simp only [Array.toList_push, List.map_append, List.map_cons, List.map_nil]
        refine List.nodup_append.2 ⟨hs2, by simp, ?_⟩
        intro a ha b hb' e
        simp only [List.mem_singleton] at hb'
        obtain ⟨x, hx', rfl⟩ := List.mem_map.1 ha
        have := hs1 x hx'; omega
      · simp only [Array.toList_push, List.map_append, List.map_cons, List.map_nil]
        refine List.nodup_append.2 ⟨hs3, by simp, ?_⟩
        intro a ha b hb' e
        simp only [List.mem_singleton] at hb'
        obtain ⟨x, hx', rfl⟩ := List.mem_map.1 ha
        have hmem : (x.key, x.val) ∈ m.map (fun p => (Value.string p.1, p.2)) := by rw [← he]; exact List.mem_map.2 ⟨x, hx', rfl⟩
        obtain ⟨p, hp, hpe⟩ := List.mem_map.1 hmem
        simp only [Prod.mk.injEq] at hpe
        subst hb'
        rw [← hpe.1] at e
        exact h1 p hp (by simpa using e.symm)
      · simp [he, h2]
  | some jv =>
    obtain ⟨j, u⟩ := jv
    obtain ⟨_, h2, h3, _⟩ := ixA_some m k 0 j u hx
    simp only [Nat.sub_zero] at h2 h3
    have hlen : es.size = m.length := by have := congrArg List.length he; simpa using this
    have hj : j < m.length := by
      rcases Nat.lt_or_ge j m.length with h | h
      · exact h
      · rw [List.getElem?_eq_none h] at h2; cases h2
    have hjs : j < es.size := by omega
    have hkey : es[j].key = .string k ∧ es[j].val = u := by
      have := congrArg (fun l => l[j]?) he
      simp only [List.getElem?_map, h2, Array.getElem?_toList, Array.getElem?_eq_getElem hjs, Option.map_some, Option.some.injEq, Prod.mk.injEq] at this
      exact this
    have hkt : ((es[j]?).map (·.key)).getD (.string k) = .string k := by
      rw [Array.getElem?_eq_getElem hjs]; simp [hkey.1]
    refine ⟨{ w with heap := w.heap.setIfInBounds r (.map (es.modify j fun e => { e with key := .string k, val := v }) clk) }, ?_, ?_, grownBy_set _ _ _⟩
    · have hst : (Instr.keyThatStays (.string k) (.string k)).run P w = .ok (.string k) w := by simp [Instr.keyThatStays, sameBits_str]
      simp [Instr.mapUpdate, run_underlying ht, MapKept.run_getObj_map hb, run_checkKey_str hk, run_findKey_str hk he, hx, Result.andThen, hkt, hst]
      simp [setObj, Sem.run, hb]
    · have hml : (es.modify j fun e => { e with key := .string k, val := v }).toList = es.toList.set j { es[j] with key := .string k, val := v } := by
        apply List.ext_getElem?
        intro i
        rw [Array.getElem?_toList, Array.getElem?_modify, List.getElem?_set]
        by_cases hij : j = i
        · subst hij; simp [hjs]
        · simp [hij]
      refine ⟨_, _, by simp [hr]; exact ⟨rfl, rfl⟩, ⟨?_, ?_, ?_⟩, ?_⟩
      · intro x hx'
        rw [hml] at hx'
        rcases List.mem_or_eq_of_mem_set hx' with hx' | rfl
        · exact hs1 x hx'
        · exact hs1 es[j] (by simp)
      · rw [hml, List.map_set]
        have : (es.toList.map (·.born)).set j es[j].born = es.toList.map (·.born) := by
          apply List.ext_getElem?; intro i; rw [List.getElem?_set]; by_cases hij : j = i
          · subst hij; simp [hjs]
          · simp [hij]
        simpa [this] using hs2
      · rw [hml, List.map_set]
        have : (es.toList.map (·.key)).set j (.string k) = es.toList.map (·.key) := by
          apply List.ext_getElem?; intro i; rw [List.getElem?_set]; by_cases hij : j = i
          · subst hij; simp [hjs, hkey.1]
          · simp [hij]
        simpa [this] using hs3
      · rw [hml, List.map_set, he, h3, List.map_set]

theorem mapIs_new (w : World) : MapIs (w.alloc (.map #[] 0)) w.heap.size [] :=
  ⟨#[], 0, by show (w.heap.push _)[w.heap.size]? = _; simp, ⟨by simp, by simp, by simp⟩, by simp⟩

theorem MapIs.of_block {w' : World} (h : MapIs w r m) (hb : w'.heap[r]? = w.heap[r]?) : MapIs w' r m := by
  obtain ⟨es, clk, h1, h2⟩ := h
  exact ⟨es, clk, by rw [hb, h1], h2⟩

theorem MapIs.nodup (h : MapIs w r m) : (m.map (·.1)).Nodup := by
  obtain ⟨es, clk, _, ⟨_, _, h3⟩, he⟩ := h
  have : es.toList.map (·.key) = (m.map (·.1)).map Value.string := by
    have := congrArg (List.map Prod.fst) he
    simpa [List.map_map, Function.comp_def] using this
  rw [this] at h3
  exact (List.pairwise_map.1 h3).imp fun hab e => hab (by rw [e])

end

theorem toList_loop (s : ByteArray) : ∀ (n i : Nat) (r : List UInt8), s.size - i = n → ByteArray.toList.loop s i r = r.reverse ++ s.data.toList.drop i
  | 0, i, r, h => by
    unfold ByteArray.toList.loop
    rw [if_neg (by omega), List.drop_of_length_le (by simp; show s.size ≤ i; omega)]
    simp
  | n + 1, i, r, h => by
    unfold ByteArray.toList.loop
    rw [if_pos (by omega), toList_loop s n (i + 1) _ (by omega)]
    have hi : i < s.data.toList.length := by simp; show i < s.size; omega
    rw [List.drop_eq_getElem_cons hi]
    simp only [List.reverse_cons, List.append_assoc, List.singleton_append]
    congr 2
    have : s.get! i = s.data.toList[i] := by
      show s.data[i]! = _
      rw [getElem!_pos s.data i (by simpa using hi)]
      simp
    rw [this]
theorem bytes_toList (s : ByteArray) : s.toList = s.data.toList := by
  unfold ByteArray.toList
  rw [toList_loop s _ 0 [] rfl]; simp
theorem bytes_toList_beq (a b : ByteArray) : (a.toList == b.toList) = decide (a = b) := by
  rw [bytes_toList, bytes_toList]
  by_cases h : a = b
  · subst h; rw [beq_self_eq_true]; simp
  · have : ¬ a.data.toList = b.data.toList := fun e => h (by cases a; cases b; simp only [ByteArray.mk.injEq]; exact Array.toList_inj.1 e)
    rw [decide_eq_false h, beq_eq_false_iff_ne.2 this]
theorem str_eq {a b : ByteArray} (h : a = b) : (a.toList == b.toList) = true := by rw [bytes_toList_beq]; simp [h]
theorem str_ne {a b : ByteArray} (h : ¬ a = b) : (a.toList == b.toList) = false := by rw [bytes_toList_beq]; simp [h]

theorem bytes_isEmpty (s : ByteArray) : s.toList.isEmpty = decide (s.size = 0) := by
  rw [bytes_toList]
  have : s.data.toList.length = s.size := by simp
  cases h : s.data.toList with
  | nil => rw [h] at this; simp at this; simp [← this]
  | cons a l => rw [h] at this; simp at this; simp [← this]

section
variable {P : Program} {w : World} {ops : Array Oper} {rest : List Oper} {o : Oper} {a : Act} {Q : Exit → Act → World → Prop} {r : Nat} {m : List (ByteArray × Value)} {t kt et : TypeId}

theorem wpList_wanted (hg : Region.wanted o (yielded ops a.tmps) = true)
    (h : ∀ K : Act → World → Prop, (∀ a w, wpList P ops Q rest a w → K a w) → o.wp P a w K Q) : wpList P ops Q (o :: rest) a w :=
  wpList_step fun K hK => by rw [if_pos hg]; exact h K hK

theorem wpList_updS (hg : Region.wanted o (yielded ops a.tmps) = true) (x k v : Operand) (hop : o.op = Op.mapUpdate t x k v) (ht : P.underlying t = some (.map kt et)) (hk : P.underlying kt = some .string)
    (hx : a.eval x = .map (some r)) (hm : MapIs w r m) (key : ByteArray) (hkey : a.eval k = .string key) (val : Value) (hval : a.eval v = val)
    (hK : ∀ w', MapIs w' r (putA m key val) → w.grownBy w' (some r) → wpList P ops Q rest (a.put o.dst undef) w') : wpList P ops Q (o :: rest) a w := by
  refine wpList_wanted hg fun K' hK' => ?_
  obtain ⟨w', hrun, h1, h2⟩ := hm.update ht hk key val
  unfold Oper.wp
  simp [execOp, hop, hx, hkey, hval, hrun, Result.andThen]
  exact hK' _ _ (hK w' h1 h2)

/-- An entry found or made, and its value laid later: together they are one store. -/
theorem MapIs.entry (h : MapIs w r m) (ht : P.underlying t = some (.map kt et)) (hk : P.underlying kt = some .string) {z : Value} (hz : ∀ w, (zeroValue et).run P w = .ok z w) (k : ByteArray) :
    ∃ w1 st, (Instr.mapEntry t (.map (some r)) (.string k)).run P w = .ok (.tuple #[(lkA m k).getD z, .int .i64 st]) w1 ∧ w.grownBy w1 (some r) ∧
      ∀ w2, w2.heap[r]? = w1.heap[r]? → ∀ val, ∃ w3, (Instr.entryStore t (.map (some r)) (.int .i64 st) val).run P w2 = .ok () w3 ∧ MapIs w3 r (putA m k val) ∧ w2.grownBy w3 (some r) := by
  obtain ⟨es, clk, hb, ⟨hs1, hs2, hs3⟩, he⟩ := h
  have hr : r < w.heap.size := by
    rcases Nat.lt_or_ge r w.heap.size with h | h
    · exact h
    · rw [Array.getElem?_eq_none h] at hb; cases hb
  have hset : ∀ (w : World) (o : Obj), r < w.heap.size → ({ w with heap := w.heap.setIfInBounds r o } : World).heap[r]? = some o := by
    intro w o h; simp [h]
  cases hx : ixA m k 0 with
  | none =>
    obtain ⟨h1, h2, _⟩ := ixA_none m k 0 hx
    have hz0 : lkA m k = none := by rw [← lkA_ixA m k 0, hx]; rfl
    refine ⟨{ w with heap := w.heap.setIfInBounds r (.map (es.push { key := .string k, val := z, born := clk }) (clk + 1)) }, clk, ?_, grownBy_set _ _ _, ?_⟩
    · simp [Instr.mapEntry, run_underlying ht, MapKept.run_getObj_map hb, run_checkKey_str hk, run_findKey_str hk he, hx, hz, hz0, Result.andThen, setObj, Sem.run, hb, goInt]
    · intro w2 hw2 val
      rw [hset w _ hr] at hw2
      have hr2 : r < w2.heap.size := by
        rcases Nat.lt_or_ge r w2.heap.size with h | h
        · exact h
        · rw [Array.getElem?_eq_none h] at hw2; cases hw2
      have hfi : (es.push { key := .string k, val := z, born := clk }).findIdx? (fun e => ((e.born : Int) == (clk : Int))) = some es.size := by
        rw [Array.findIdx?_eq_some_iff_getElem]
        refine ⟨by simp, by simp, ?_⟩
        intro j hj
        have hj' : j < es.size := hj
        have := hs1 es[j] (by simp)
        simp [Array.getElem_push, hj']
        omega
      have hmod : (es.push { key := .string k, val := z, born := clk }).modify es.size (fun e => { e with val := val }) = es.push { key := .string k, val := val, born := clk } := by
        apply Array.ext
        · simp
        · intro i h1 h2
          simp only [Array.getElem_modify, Array.getElem_push]
          by_cases h : es.size = i
          · subst h; simp
          · have hi : i < es.size := by simp at h1; omega
            simp [h, hi]
      refine ⟨{ w2 with heap := w2.heap.setIfInBounds r (.map (es.push { key := .string k, val := val, born := clk }) (clk + 1)) }, ?_, ?_, grownBy_set _ _ _⟩
      · simp only [Instr.entryStore]
        simp [MapKept.run_getObj_map hw2, Result.andThen, asInt, asIntOf, hfi, hmod]
        simp [setObj, Sem.run, hw2]
      · refine ⟨_, _, hset w2 _ hr2, ⟨?_, ?_, ?_⟩, ?_⟩
        · intro x hx'
          simp only [Array.toList_push, List.mem_append, List.mem_singleton] at hx'
          rcases hx' with hx' | rfl
          · have := hs1 x hx'; omega
          · simp
        · simp only [Array.toList_push, List.map_append, List.map_cons, List.map_nil]
          refine List.nodup_append.2 ⟨hs2, by simp, ?_⟩
          intro a ha b hb' e
          simp only [List.mem_singleton] at hb'
          obtain ⟨x, hx', rfl⟩ := List.mem_map.1 ha
          have := hs1 x hx'; omega
        · simp only [Array.toList_push, List.map_append, List.map_cons, List.map_nil]
          refine List.nodup_append.2 ⟨hs3, by simp, ?_⟩
          intro a ha b hb' e
          simp only [List.mem_singleton] at hb'
          obtain ⟨x, hx', rfl⟩ := List.mem_map.1 ha
          have hmem : (x.key, x.val) ∈ m.map (fun p => (Value.string p.1, p.2)) := by rw [← he]; exact List.mem_map.2 ⟨x, hx', rfl⟩
          obtain ⟨p, hp, hpe⟩ := List.mem_map.1 hmem
          simp only [Prod.mk.injEq] at hpe
          subst hb'
          rw [← hpe.1] at e
          exact h1 p hp (by simpa using e.symm)
        · simp [he, h2]
  | some jv =>
    obtain ⟨j, u⟩ := jv
    have hz0 : lkA m k = some u := by rw [← lkA_ixA m k 0, hx]; rfl
    obtain ⟨_, h2, h3, _⟩ := ixA_some m k 0 j u hx
    simp only [Nat.sub_zero] at h2 h3
    have hlen : es.size = m.length := by have := congrArg List.length he; simpa using this
    have hj : j < m.length := by
      rcases Nat.lt_or_ge j m.length with h | h
      · exact h
      · rw [List.getElem?_eq_none h] at h2; cases h2
    have hjs : j < es.size := by omega
    have hkey : es[j].key = .string k ∧ es[j].val = u := by
      have := congrArg (fun l => l[j]?) he
      simp only [List.getElem?_map, h2, Array.getElem?_toList, Array.getElem?_eq_getElem hjs, Option.map_some, Option.some.injEq, Prod.mk.injEq] at this
      exact this
    have hkt : ((es[j]?).map (·.key)).getD (.string k) = .string k := by
      rw [Array.getElem?_eq_getElem hjs]; simp [hkey.1]
    have hmod0 : es.modify j (fun e => { e with key := .string k }) = es := by
      apply Array.ext
      · simp
      · intro i h1 h2
        simp only [Array.getElem_modify]
        by_cases h : j = i
        · subst h; simp [← hkey.1]
        · simp [h]
    have hst : (Instr.keyThatStays (.string k) (.string k)).run P w = .ok (.string k) w := by simp [Instr.keyThatStays, sameBits_str]
    refine ⟨{ w with heap := w.heap.setIfInBounds r (.map es clk) }, es[j].born, ?_, grownBy_set _ _ _, ?_⟩
    · simp [Instr.mapEntry, run_underlying ht, MapKept.run_getObj_map hb, run_checkKey_str hk, run_findKey_str hk he, hx, hz0, Result.andThen, hkt, hst, goInt, hmod0]
      simp [setObj, Sem.run, hb, Array.getElem?_eq_getElem hjs]
    · intro w2 hw2 val
      rw [hset w _ hr] at hw2
      have hr2 : r < w2.heap.size := by
        rcases Nat.lt_or_ge r w2.heap.size with h | h
        · exact h
        · rw [Array.getElem?_eq_none h] at hw2; cases hw2
      have hfi : es.findIdx? (fun e => ((e.born : Int) == (es[j].born : Int))) = some j := by
        rw [Array.findIdx?_eq_some_iff_getElem]
        refine ⟨hjs, by simp, ?_⟩
        intro i hi
        have hne : es[i].born ≠ es[j].born := by
          intro e
          have hp := List.pairwise_iff_getElem.1 hs2 i j (by simp; omega) (by simp; omega) hi
          exact hp (by simpa using e)
        simp; omega
      have hml : (es.modify j fun e => { e with val := val }).toList = es.toList.set j { es[j] with val := val } := by
        apply List.ext_getElem?
        intro i
        rw [Array.getElem?_toList, Array.getElem?_modify, List.getElem?_set]
        by_cases hij : j = i
        · subst hij; simp [hjs]
        · simp [hij]
      refine ⟨{ w2 with heap := w2.heap.setIfInBounds r (.map (es.modify j fun e => { e with val := val }) clk) }, ?_, ?_, grownBy_set _ _ _⟩
      · simp only [Instr.entryStore]
        simp [MapKept.run_getObj_map hw2, Result.andThen, asInt, asIntOf, hfi]
        simp [setObj, Sem.run, hw2]
      · refine ⟨_, _, hset w2 _ hr2, ⟨?_, ?_, ?_⟩, ?_⟩
        · intro x hx'
          rw [hml] at hx'
          rcases List.mem_or_eq_of_mem_set hx' with hx' | rfl
          · exact hs1 x hx'
          · exact hs1 es[j] (by simp)
        · rw [hml, List.map_set]
          have : (es.toList.map (·.born)).set j es[j].born = es.toList.map (·.born) := by
            apply List.ext_getElem?; intro i; rw [List.getElem?_set]; by_cases hij : j = i
            · subst hij; simp [hjs]
            · simp [hij]
          simpa [this] using hs2
        · rw [hml, List.map_set]
          have : (es.toList.map (·.key)).set j es[j].key = es.toList.map (·.key) := by
            apply List.ext_getElem?; intro i; rw [List.getElem?_set]; by_cases hij : j = i
            · subst hij; simp [hjs]
            · simp [hij]
          simpa [this] using hs3
        · rw [hml, List.map_set, he, h3, List.map_set, hkey.1]

end

end Go.Proofs.YtjoljfnlkddfbaaGreatDoor
