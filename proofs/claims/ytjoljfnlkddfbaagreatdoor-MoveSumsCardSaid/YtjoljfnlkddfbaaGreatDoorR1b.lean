/- The reference's dots: IsSet, Same, With, Union. -/
import Derived.Test.YtjoljfnlkddfbaaGreatDoorRow
set_option linter.unusedSimpArgs false
set_option linter.unusedVariables false
set_option maxRecDepth 100000
set_option maxHeartbeats 2000000
namespace Go.Proofs.YtjoljfnlkddfbaaGreatDoor
open Go.RowKit Go.Maps

end Go.Proofs.YtjoljfnlkddfbaaGreatDoor
namespace Go.Proofs.YtjoljfnlkddfbaaGreatDoor
open Go.RowKit Go.Maps

theorem take_eq_of {α : Type} {a b : List α} (h : a.length = b.length) {k : Nat} (hk : k = a.length) (ht : a.take k = b.take k) : a = b := by
 subst hk
 rwa [List.take_length, h, List.take_length] at ht
theorem take_snoc_eq {α : Type} {a b : List α} {k : Nat} (h1 : k < a.length) (h2 : k < b.length) (h : a.take k = b.take k) (he : a[k] = b[k]) : a.take (k + 1) = b.take (k + 1) := by
 rw [List.take_succ_eq_append_getElem h1, List.take_succ_eq_append_getElem h2, h, he]

end Go.Proofs.YtjoljfnlkddfbaaGreatDoor

