/- A law that returns true and changes nothing below the old heap meets its row; a world for the witness. -/
import Derived.Test.YtdeljhehcjknbaaDoorBase
import Derived.Test.YtdeljhehcjknbaaDoorCards
import Derived.Test.YtdeljhehcjknbaaDoorTie
import Derived.ProofKit
import Derived.OpenShut
import Derived.Deep.DeepHandedRow
import Derived.Lib.LaidTab
namespace Go.Proofs.YtdeljhehcjknbaaDoor
open Go.ChangeShapes Go.WideShapes Go.ChangeAt Go.RowKit

theorem own : ownKnob Tryd.prog.godebug = none := by kernel_rfl
theorem laidOut : laidOutB Tryd.prog = true := by kernel_rfl

/-- Arguments read again: below the heap's old size nothing has turned. -/
theorem trodAll_stays {H : Type} {enc : TypeId × Value → H} {P : Program} (hl : laidOutB P = true) {W W' : World} (hb : Below W.heap.size W W') :
    ∀ {ts : List TypeId} {vs : List Value} {ds : List (DataW H)} {ps : List MemPlace}, (∀ t ∈ ts, P.readableRec t = true ∧ t < P.types.size) →
      DataW.TrodAll enc P W 0 (fun _ => true) true ts vs ds ps → (∀ x ∈ ps, x.block < W.heap.size) → DataW.TrodAll enc P W' 0 (fun b => decide (b < W.heap.size)) true ts vs ds ps
  | [], vs, ds, ps, _, h, _ => by obtain ⟨rfl, rfl, rfl⟩ := trodAll_nil h; exact trodAll_mk0
  | t :: ts, vs, ds, ps, ht, h, hlt => by
    obtain ⟨v, vs', d, ds', p, q, rfl, rfl, rfl, h0, h1⟩ := trodAll_cons h
    exact trodAll_cons_mk (Below.trod hl (ht t (.head _)).1 (ht t (.head _)).2 h0 hb (fun x hx => hlt x (List.mem_append.2 (Or.inl hx))))
      (trodAll_stays hl hb (fun u hu => ht u (.tail _ hu)) h1 (fun x hx => hlt x (List.mem_append.2 (Or.inr hx))))

/-- A law: true; the arguments read as they did. -/
theorem law_post {H : Type} (enc : TypeId × Value → H) {P : Program} (hl : laidOutB P = true) {f : Func} {s : ChangeSpec} {t : TypeId} {W W' : World} {args : Array Value} {ds gs : List (DataW H)} {before : List MemPlace}
    (hts : ∀ u ∈ f.params.toList, P.readableRec u = true ∧ u < P.types.size) (hr : f.resultTypes = #[t]) (ht : P.underlying t = some .bool) (hv : s.vars = [])
    (hfn : s.fn H (ds ++ gs) = { results := [.lit (.bool true)], args := ds })
    (hW : DataW.Whole enc P f.params.toList s.vars false W args.toList ds gs before) (hb : Below W.heap.size W W') : s.post enc P f false true false false W args (.bool true) W' := by
  have hlt := hW.lt
  have hW0 := hW
  obtain ⟨p, q, hA, hV, hbe, hfz, hnd⟩ := hW
  rw [hv] at hV
  obtain ⟨rfl, rfl⟩ := trodVars_none hV
  have hpb : before = p := by rw [hbe]; simp
  subst hpb
  refine ⟨ds, [], before, [], before, [], hW0, ?_, ?_, ?_, ?_, fun h => by cases h⟩
  · rw [hr, hfn]
    exact trodAll_cons_mk (shut_bool ht true) trodAll_mk0
  · rw [hfn]
    exact trodAll_stays hl hb hts hA (fun x hx => hlt x hx)
  · rw [hv, hfn]; rfl
  · exact hb.frame _

/-- The table of rows of package client, out of what the row lists. -/
theorem gRows : Tryd.prog.globalNamed "pannier/client.rows" = some 0 := by kernel_rfl
theorem gRowsT : (Tryd.prog.globals[0]?).map (·.type) = some 102 := by kernel_rfl
theorem cells102 : Tryd.prog.cellsOf 102 = 24 := by kernel_rfl
theorem cells91 : Tryd.prog.cellsOf 91 = 2 := by kernel_rfl
theorem cells9 : Tryd.prog.cellsOf 9 = 1 := by kernel_rfl
end Go.Proofs.YtdeljhehcjknbaaDoor
namespace Go.Proofs.YtdeljhehcjknbaaDoor
/-- A world for the witness: the table of rows stands in block 0. -/
noncomputable def laidWorld (os : Os) : World :=
  { World.holding Tryd.prog os ⟨#[], #[], []⟩ with heap := (World.holding Tryd.prog os ⟨#[], #[], []⟩).heap.modify 0 fun
      | .cells _ t frozen => .cells #[.string ⟨#[]⟩, .string ⟨#[]⟩, .string ⟨#[97, 100, 100]⟩, .string ⟨#[107, 113, 105]⟩, .string ⟨#[115, 101, 116]⟩, .string ⟨#[107, 113, 105]⟩, .string ⟨#[114, 101, 109, 111, 118, 101]⟩, .string ⟨#[107, 105]⟩, .string ⟨#[103, 101, 116]⟩, .string ⟨#[107]⟩, .string ⟨#[99, 108, 101, 97, 114]⟩, .string ⟨#[107]⟩, .string ⟨#[119, 105, 115, 104]⟩, .string ⟨#[107, 111, 105]⟩, .string ⟨#[108, 111, 103, 105, 110]⟩, .string ⟨#[107, 111]⟩, .string ⟨#[100, 101, 108, 105, 118, 101, 114]⟩, .string ⟨#[100]⟩, .string ⟨#[109, 101, 114, 103, 101]⟩, .string ⟨#[]⟩, .string ⟨#[100, 114, 97, 105, 110]⟩, .string ⟨#[]⟩, .string ⟨#[99, 108, 111, 115, 101]⟩, .string ⟨#[]⟩] t frozen
      | o => o }
end Go.Proofs.YtdeljhehcjknbaaDoor
