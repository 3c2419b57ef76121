/- Rows of ints. -/
import Derived.Test.YtpmbebofinlmmaaGreatDoorLod
namespace Go.Proofs.YtpmbebofinlmmaaGreatDoor
open Go.RowKit
set_option linter.unusedVariables false
set_option linter.unusedSimpArgs false

def intz (l : List Int) : List Value := l.map (Value.int .i64)
abbrev IntsAt (w : World) (B : Nat) (v : Value) (l : List Int) : Prop := w.ownsRow B 3 1 v l.length (intz l)
theorem intz_get (l : List Int) (j : Nat) (h : j < l.length) : (intz l)[j]? = some (.int .i64 (l.getD j 0)) := by
  unfold intz
  rw [List.getElem?_map, List.getElem?_eq_getElem h, List.getD_eq_getElem?_getD, List.getElem?_eq_getElem h]
  rfl
def CloneSaid (l : List Int) (w : World) (e : Ending) (w' : World) : Prop := ∃ v', e = .returned v' ∧ IntsAt w' w.heap.size v' l ∧ Below w.heap.size w w'
end Go.Proofs.YtpmbebofinlmmaaGreatDoor
