/- The examples of chapter 9: data, literals, contracts at them. -/
import Derived.Test.YtjlhdgmcaiiagaaGreatDoorL9b
namespace Go.Proofs.YtjlhdgmcaiiagaaGreatDoor
open Go.RowKit Go.Maps

def kX : ItemD := ⟨⟨#[84, 101, 97]⟩, [⟨⟨1, 1⟩, 5, 3⟩]⟩
def kY : ItemD := ⟨⟨#[78, 117, 116]⟩, [⟨⟨2, 1⟩, 7, 4⟩, ⟨⟨1, 2⟩, 2, 9⟩]⟩
def kB : ItemD := ⟨⟨#[84, 101, 97]⟩, []⟩
def kN : ItemD := ⟨⟨#[]⟩, []⟩
def kZ : ItemD := ⟨⟨#[84, 101, 97]⟩, [⟨⟨3, 1⟩, 1, 1⟩]⟩
def kT : ItemD := ⟨⟨#[84, 101, 97]⟩, [⟨⟨1, 1⟩, 9, 9⟩]⟩
def kO : ItemD := ⟨⟨#[79, 105, 108]⟩, [⟨⟨1, 1⟩, 1, 1⟩]⟩
/-- A literal row of elements in a new block. -/
theorem row_lit {α : Type} (E : Enc α) (l : List α) (w : World) (h : l.length ≤ maxLen) : E.Row w.heap.size (w.alloc (.cells (E.flat l).toArray E.T)) (.slice (some ⟨w.heap.size, 0, none⟩) l.length l.length) l :=
  Enc.In.own ⟨_, alloc_new _ _, by simp [E.flat_len], Nat.le_refl _, h, fun t _ => by simp⟩ (Nat.le_refl _)
theorem lit_items {W : World} (ps : List ItW) (hl : ps.length ≤ maxLen) (h : ∀ p ∈ ps, p.x.name.size ≤ maxLen ∧ Arr MarkR 4 W p.v p.x.marks) : Arr ItemR 2 (W.alloc (.cells (EItem.flat ps).toArray 31)) (.slice (some ⟨W.heap.size, 0, none⟩) ps.length ps.length) (ps.map (·.x)) :=
  (Arr.of_row (R := ItwR) (row_lit EItem ps W hl) (fun p hp => ⟨rfl, (h p hp).1, (h p hp).2.marks ((Below.refl _ _).alloc (Nat.le_refl _) _)⟩)).of_itw
theorem lit_marks {W : World} (ms : List MarkD) (hl : ms.length ≤ maxLen) (h : ∀ m ∈ ms, MI m) : Arr MarkR 4 (W.alloc (.cells (EMark.flat ms).toArray 62)) (.slice (some ⟨W.heap.size, 0, none⟩) ms.length ms.length) ms :=
  Arr.of_marks (row_lit EMark ms W hl) h
theorem lit_dots {W : World} (ds : List DotD) (hl : ds.length ≤ maxLen) (h : ∀ d ∈ ds, DI d) : Arr DotR 2 (W.alloc (.cells (EDot.flat ds).toArray 24)) (.slice (some ⟨W.heap.size, 0, none⟩) ds.length ds.length) ds :=
  Arr.of_row (E := EDot) (R := DotR) (row_lit EDot ds W hl) (fun d hd => ⟨rfl, h d hd⟩)
/-- An item lies in a block. -/
def ItP (W : World) (p : Nat) (x : ItemD) (o : Option Addr) (c : Nat) : Prop := W.heap[p]? = some (.cells #[.string x.name, .slice o x.marks.length c] 31) ∧ Arr MarkR 4 W (.slice o x.marks.length c) x.marks
theorem ItP.below {W W' : World} {p : Nat} {x : ItemD} {o : Option Addr} {c : Nat} (h : ItP W p x o c) (hb : Below W.heap.size W W') : ItP W' p x o c := ⟨by rw [hb.block _ (lt_of_heap h.1)]; exact h.1, h.2.marks hb⟩
theorem ItP.cells {W : World} {p : Nat} {x : ItemD} {o : Option Addr} {c : Nat} (h : ItP W p x o c) : W.cell? ⟨p, 0, none⟩ = some (.string x.name) ∧ W.cell? ⟨p, 1, none⟩ = some (.slice o x.marks.length c) := ⟨by rw [cell0 h.1 0]; rfl, by rw [cell0 h.1 1]; rfl⟩
def KW (p1 p2 p4 p5 : Nat) (o1 : Option Addr) (c1 : Nat) (o2 : Option Addr) (c2 : Nat) (v3 : Value) (W : World) : Prop :=
  ItP W p1 kX o1 c1 ∧ ItP W p2 kY o2 c2 ∧ ItP W p4 kB none 0 ∧ ItP W p5 kN none 0 ∧ Arr ItemR 2 W v3 [kY, kX] ∧ GlobIs W
theorem KW.below {p1 p2 p4 p5 : Nat} {o1 : Option Addr} {c1 : Nat} {o2 : Option Addr} {c2 : Nat} {v3 : Value} {W W' : World} (h : KW p1 p2 p4 p5 o1 c1 o2 c2 v3 W) (hb : Below W.heap.size W W') : KW p1 p2 p4 p5 o1 c1 o2 c2 v3 W' :=
  ⟨h.1.below hb, h.2.1.below hb, h.2.2.1.below hb, h.2.2.2.1.below hb, h.2.2.2.2.1.items hb, h.2.2.2.2.2.below hb⟩
theorem KW.facts {p1 p2 p4 p5 : Nat} {o1 : Option Addr} {c1 : Nat} {o2 : Option Addr} {c2 : Nat} {v3 : Value} {W : World} (h : KW p1 p2 p4 p5 o1 c1 o2 c2 v3 W) :
    W.cell? ⟨p1, 0, none⟩ = some (.string kX.name) ∧ W.cell? ⟨p1, 1, none⟩ = some (.slice o1 1 c1) ∧ W.cell? ⟨p2, 0, none⟩ = some (.string kY.name) ∧ W.cell? ⟨p2, 1, none⟩ = some (.slice o2 2 c2) ∧ W.cell? ⟨p4, 0, none⟩ = some (.string kB.name) ∧ W.cell? ⟨p4, 1, none⟩ = some (.slice none 0 0) ∧ W.cell? ⟨p5, 0, none⟩ = some (.string kN.name) ∧ W.cell? ⟨p5, 1, none⟩ = some (.slice none 0 0) :=
  ⟨h.1.cells.1, h.1.cells.2, h.2.1.cells.1, h.2.1.cells.2, h.2.2.1.cells.1, h.2.2.1.cells.2, h.2.2.2.1.cells.1, h.2.2.2.1.cells.2⟩
theorem kv_valid {l : List ItemD} {v : Value} {W : World} (b : Bool) (hb : validI l = b) (h : Arr ItemR 2 W v l) (hG : GlobIs W) (hl : Lt l) : Calls Tryz.prog 32 #[v] W fun e w' => e = .returned (.bool b) ∧ Below W.heap.size W w' := by
  rw [← hb]; exact itemsValid_any l v W h hl hG
theorem kv_has {x : ItemD} {mv : Value} {W : World} (want no : Int) (h : Arr MarkR 4 W mv x.marks) (hG : GlobIs W) (hs : x.name.size ≤ maxLen) (hl : x.marks.length ≤ 100000) (hb : (decide (qtyI x = want) && decide (qtyIE x = no)) = true) : Calls Tryz.prog 19 #[.agg #[.string x.name, mv], .int .i64 want, .int .i64 no] W fun e w' => e = .returned (.bool true) ∧ Below W.heap.size W w' := by
  rw [← hb]; exact l9has_any x want no mv W h hs hl hG
theorem kv_puts {l want : List ItemD} {x : ItemD} {v mv wv : Value} {W : World} (no : Int) (h : Arr ItemR 2 W v l) (hm : Arr MarkR 4 W mv x.marks) (hw : Arr ItemR 2 W wv want) (hG : GlobIs W) (hs : x.name.size ≤ maxLen) (hl : Lt l) (hl2 : l.length ≤ 900 ∧ x.marks.length ≤ 1000) (hb : (decide (putR l x = want) && decide (putE l x = no)) = true) : Calls Tryz.prog 23 #[v, .agg #[.string x.name, mv], wv, .int .i64 no] W fun e w' => e = .returned (.bool true) ∧ Below W.heap.size W w' := by
  rw [← hb]; exact l9puts_any l want x no v mv wv W h hm hw hs hl hl2 hG
theorem kv_finds {l : List ItemD} {want : ItemD} {v wv : Value} {W : World} (nm : ByteArray) (no : Int) (h : Arr ItemR 2 W v l) (hw : Arr MarkR 4 W wv want.marks) (hs : want.name.size ≤ maxLen) (hl : Lt l) (hb : (decide (findX l nm = want) && decide (findN l nm = no)) = true) : Calls Tryz.prog 12 #[v, .string nm, .agg #[.string want.name, wv], .int .i64 no] W fun e w' => e = .returned (.bool true) ∧ Below W.heap.size W w' := by
  rw [← hb]; exact l9finds_any l nm want no v wv W h hw hs hl
theorem kv_removes {l want : List ItemD} {v wv : Value} {W : World} (nm : ByteArray) (no : Int) (h : Arr ItemR 2 W v l) (hw : Arr ItemR 2 W wv want) (hG : GlobIs W) (hl : Lt l) (hb : (decide (remR l nm = want) && decide (remE l nm = no)) = true) : Calls Tryz.prog 29 #[v, .string nm, wv, .int .i64 no] W fun e w' => e = .returned (.bool true) ∧ Below W.heap.size W w' := by
  rw [← hb]; exact l9removes_any l want nm no v wv W h hw hl hG
theorem kv_owns {l : List ItemD} {v : Value} {W : World} (d : DotD) (want : ByteArray) (no : Int) (h : Arr ItemR 2 W v l) (hl : Lt l) (hb : (decide (ownerS (ownerI l d) = want) && decide (ownerN (ownerI l d) = no)) = true) : Calls Tryz.prog 14 #[v, dotV d, .string want, .int .i64 no] W fun e w' => e = .returned (.bool true) ∧ Below W.heap.size W w' := by
  rw [← hb]; exact l9owns_any l d want no v W h hl
theorem setD_eq {l m : List DotD} (hm : isSetB m = true) (h1 : l.all (fun x => decide (x ∈ m)) = true) (h2 : m.all (fun x => decide (x ∈ l)) = true) : setD l = m := by
  refine ss_ext (setD_ss l) (isSetB_iff.1 hm) (fun x => ?_)
  rw [setD_mem]
  exact ⟨fun h => of_decide_eq_true (List.all_eq_true.1 h1 x h), fun h => of_decide_eq_true (List.all_eq_true.1 h2 x h)⟩
/-- .. in a form that can be reckoned. -/
def validB (l : List ItemD) : Bool := l.all oneI && risB l && decide (l.Pairwise (fun a b => meetB a b = false))
theorem validI_eqB (l : List ItemD) : validI l = validB l := by
  rw [Bool.eq_iff_iff, validI_iff]
  unfold validB
  simp only [Bool.and_eq_true, decide_eq_true_eq, and_assoc]
theorem kd : setD (allDots [kY, kX]) = [⟨1, 1⟩, ⟨2, 1⟩, ⟨1, 2⟩] := setD_eq (by decide +kernel) (by decide +kernel) (by decide +kernel)
theorem kv1 : validI [kY, kX] = true := by rw [validI_eqB]; decide +kernel
theorem kv2 : validI [kX, kY] = false := by rw [validI_eqB]; decide +kernel
theorem kv3 : validI [kX, kX] = false := by rw [validI_eqB]; decide +kernel
theorem kv4 : validI [kB] = false := by rw [validI_eqB]; decide +kernel
theorem kh1 : (decide (qtyI kX = 5) && decide (qtyIE kX = 0)) = true := by decide +kernel
theorem kh2 : (decide (qtyI kY = 2) && decide (qtyIE kY = 0)) = true := by decide +kernel
theorem kh3 : (decide (qtyI kB = 0) && decide (qtyIE kB = 2)) = true := by decide +kernel
theorem kp1 : (decide (putR [kX] kY = [kY, kX]) && decide (putE [kX] kY = 0)) = true := by unfold putR putE; simp only [validI_eqB]; decide +kernel
theorem kp2 : (decide (putR [kY, kX] kZ = [kY, kZ]) && decide (putE [kY, kX] kZ = 0)) = true := by unfold putR putE; simp only [validI_eqB]; decide +kernel
theorem kp3 : (decide (putR [kX] kO = []) && decide (putE [kX] kO = 11)) = true := by unfold putR putE; simp only [validI_eqB]; decide +kernel
theorem kp4 : (decide (putR [kX] kT = [kT]) && decide (putE [kX] kT = 0)) = true := by unfold putR putE; simp only [validI_eqB]; decide +kernel
theorem kf1 : (decide (findX [kY, kX] ⟨#[84, 101, 97]⟩ = kX) && decide (findN [kY, kX] ⟨#[84, 101, 97]⟩ = 0)) = true := by decide +kernel
theorem kf2 : (decide (findX [kY, kX] ⟨#[79, 105, 108]⟩ = kN) && decide (findN [kY, kX] ⟨#[79, 105, 108]⟩ = 9)) = true := by decide +kernel
theorem kr1 : (decide (remR [kY, kX] ⟨#[78, 117, 116]⟩ = [kX]) && decide (remE [kY, kX] ⟨#[78, 117, 116]⟩ = 0)) = true := by unfold remR remE; simp only [validI_eqB]; decide +kernel
theorem kr2 : (decide (remR [kY, kX] ⟨#[79, 105, 108]⟩ = []) && decide (remE [kY, kX] ⟨#[79, 105, 108]⟩ = 9)) = true := by unfold remR remE; simp only [validI_eqB]; decide +kernel
theorem klt : Lt [kY, kX] := ⟨by decide, by decide⟩
end Go.Proofs.YtjlhdgmcaiiagaaGreatDoor
