/- strings.IndexAny(s, "=:") where s is longer than 8 bytes or ASCII; props.category's test. -/
import Derived.Test.YtchkckfadennhaaGreatDoorResW
import Derived.Test.YtchkckfadennhaaGreatDoorSetQ
namespace Go.Proofs.YtchkckfadennhaaGreatDoor
open Go.RowKit
set_option linter.unusedVariables false
set_option linter.unusedSimpArgs false

theorem idxS_any : ∀ l : Sp.Str, Lib.indexAny l [61, 58] = match l.findIdx? Sp.splitter with | some i => (i : Int) | none => -1
  | [] => rfl
  | b :: l => by
    have ih := idxS_any l
    rw [List.findIdx?_cons]
    show (if [61, 58].contains b then (0 : Int) else if Lib.indexAny l [61, 58] == -1 then -1 else Lib.indexAny l [61, 58] + 1) = _
    have e : [61, 58].contains b = Sp.splitter b := by
      unfold Sp.splitter
      simp
      rfl
    rw [e]
    cases Sp.splitter b with
    | true => rfl
    | false =>
      simp only [Bool.false_eq_true, if_false]
      cases hx : l.findIdx? Sp.splitter with
      | none =>
        rw [hx] at ih
        have ih' : Lib.indexAny l [61, 58] = -1 := ih
        rw [ih']
        rfl
      | some i =>
        rw [hx] at ih
        have ih' : Lib.indexAny l [61, 58] = (i : Int) := ih
        rw [ih', if_neg (by simp)]
        show (i : Int) + 1 = ((i + 1 : Nat) : Int)
        omega
theorem idx_long (l : Sp.Str) (h8 : 8 < l.length) (hl : l.length ≤ 2000000) : IdxOk l := fun w => by
  have hsz : (ByteArray.mk l.toArray).size = l.length := List.size_toArray
  refine (Tryz.strings_IndexAny_long (zero_of_info asciiSet_info).1 ⟨l.toArray⟩ ⟨#[61, 58]⟩ w (by decide) (by rw [hsz]; exact h8) (by rw [hsz]; omega) (by decide) (fun j b hj => ?_)).mono ?_
  · have : b ∈ [61, 58] := List.mem_of_getElem? hj
    simp at this
    rcases this with rfl | rfl <;> decide
  · rintro e w' ⟨rfl, rfl⟩
    refine ⟨?_, (alloc_below w _).trans ((alloc_below _ _).mono (by rw [size_new]; omega))⟩
    exact congrArg (fun x => Ending.returned (.int .i64 x)) (idxS_any l)
theorem idx_ascii (l : Sp.Str) (ha : ∀ b ∈ l, b.toNat < 128) (hl : l.length ≤ 2000000) : IdxOk l := fun w => by
  have hsz : (ByteArray.mk l.toArray).size = l.length := List.size_toArray
  refine (Tryz.strings_IndexAny (zero_of_info asciiSet_info).1 ⟨l.toArray⟩ ⟨#[61, 58]⟩ w (by rw [hsz]; omega) (by decide) (fun j b hj => ha b (List.mem_of_getElem? hj)) (fun j b hj => ?_)).mono ?_
  · have : b ∈ [61, 58] := List.mem_of_getElem? hj
    simp at this
    rcases this with rfl | rfl <;> decide
  · rintro e w' ⟨rfl, hb⟩
    exact ⟨congrArg (fun x => Ending.returned (.int .i64 x)) (idxS_any l), hb⟩

theorem which_walk (v c : Sp.Str) (b : Nat) (w : World) (h : w.cell? ⟨b, 0, none⟩ = some (.string ⟨v.toArray⟩)) : Calls Tryz.prog 57 #[.string ⟨c.toArray⟩, .pointer (some ⟨b, 0, none⟩)] w fun e w' => e = .returned (.bool (which v c)) ∧ w = w' := by
  have hvs : (ByteArray.mk v.toArray).size = v.length := List.size_toArray
  by_cases h1 : c = v
  · have e1 : (c == v) = true := beq_iff_eq.2 h1
    have hw : which v c = true := by unfold which; rw [e1]; rfl
    rw [hw]
    clear h1 hw
    go_enter Tryz.func57, Tryz.ntmps57
    go_wp2_with fail
    go_ret
    exact ⟨rfl, rfl⟩
  · have e1 : (c == v) = false := beq_eq_false_iff_ne.2 h1
    by_cases h2 : v.length = 1
    · have hw : which v c = Lib.hasPrefix c v := by unfold which Lib.hasPrefix; rw [e1, h2]; rfl
      have HP := Lib.hid (Tryz.strings_HasPrefix ⟨c.toArray⟩ ⟨v.toArray⟩ w)
      have e2 : ((v.length : Int) == 1) = true := by rw [h2]; rfl
      rw [hw]
      clear h1 hw
      go_enter Tryz.func57, Tryz.ntmps57
      go_wp2_with fail
      refine HP.out.mono ?_
      rintro e w1 ⟨rfl, rfl⟩
      go_wp2_with fail
      go_ret
      exact ⟨rfl, rfl⟩
    · have e2 : ((v.length : Int) == 1) = false := beq_eq_false_iff_ne.2 (by omega)
      have e3 : (v.length == 1) = false := beq_eq_false_iff_ne.2 h2
      have hw : which v c = false := by unfold which; rw [e1, e3]; rfl
      rw [hw]
      clear h1 hw
      go_enter Tryz.func57, Tryz.ntmps57
      go_wp2_with fail
      go_ret
      exact ⟨rfl, rfl⟩
end Go.Proofs.YtchkckfadennhaaGreatDoor
