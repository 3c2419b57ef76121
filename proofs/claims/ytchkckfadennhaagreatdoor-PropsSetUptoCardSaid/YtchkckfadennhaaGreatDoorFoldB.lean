/- fold.Same; what foldings come to. -/
import Derived.Test.YtchkckfadennhaaGreatDoorAcc2M
import Derived.Test.YtchkckfadennhaaGreatDoorLod2
import Derived.Test.YtchkckfadennhaaGreatDoorPur
namespace Go.Proofs.YtchkckfadennhaaGreatDoor
open Go.RowKit
set_option linter.unusedVariables false
set_option linter.unusedSimpArgs false

section
variable {w : World} {m : Nat} {Φ : Files}
theorem foldz_cons (hok : FilesOk Φ) (full : Bool) (r : Int) : ∃ n l, foldz Φ full r = n :: l := by
  unfold foldz
  cases hF : foldsOf full Φ.fol r with
  | none => exact ⟨r, [], rfl⟩
  | some l =>
    obtain ⟨x, hx, _, _, _, rfl⟩ := foldsOf_some full Φ.fol Φ.fol (fun _ => none) (fun _ h => h) (fun _ _ h => by cases h) r l hF
    obtain ⟨n, l, hp⟩ := List.exists_cons_of_ne_nil (hok.fol x hx).pts
    rw [hp]
    exact ⟨_, _, rfl⟩
theorem foldz_wf (hok : FilesOk Φ) (full : Bool) (r : Int) (hr : (Lit.int .i64 r).wf = true) : ∀ x ∈ foldz Φ full r, (Lit.int .i64 x).wf = true := by
  intro x hx
  unfold foldz at hx
  cases hF : foldsOf full Φ.fol r with
  | none =>
    rw [hF] at hx
    obtain rfl : x = r := by simpa using hx
    exact hr
  | some l =>
    rw [hF] at hx
    obtain ⟨y, hy, _, h1, h2, rfl⟩ := foldsOf_some full Φ.fol Φ.fol (fun _ => none) (fun _ h => h) (fun _ _ h => by cases h) r l hF
    obtain ⟨n, hn, rfl⟩ := List.mem_map.1 hx
    have hle := pts_le (fld1 y)
    have hhi := (hok.fol y hy).hi
    have hn2 : n ≤ 2228222 := by
      cases hp : Sp.pts (fld1 y) with
      | nil => rw [hp] at hn; simp [bump] at hn
      | cons a b =>
        rw [hp] at hn hle
        have ha := hle a List.mem_cons_self
        rcases List.mem_cons.1 hn with rfl | hn
        · omega
        · have := hle n (List.mem_cons_of_mem _ hn)
          omega
    exact wf_i64 (by omega) (by omega)
end
theorem foldz_settles (r : Int) : ∀ x ∈ foldz files true r, foldz files true x = [x] := by
  intro x hx
  have key : foldsOf true files.fol x = none ∨ (x = r ∧ foldsOf true files.fol r = none) := by
    unfold foldz at hx
    cases hF : foldsOf true files.fol r with
    | none =>
      rw [hF] at hx
      exact .inr ⟨by simpa using hx, rfl⟩
    | some l =>
      rw [hF] at hx
      obtain ⟨n, hn, rfl⟩ := List.mem_map.1 hx
      exact .inl ((folds_settle (fol_settle true) hF).2 n hn)
  have : foldsOf true files.fol x = none := by
    rcases key with h | ⟨rfl, h⟩
    · exact h
    · exact h
  unfold foldz
  rw [this]
theorem simple_settles (r : Int) : simpleOf files (simpleOf files r) = simpleOf files r := by
  have key : ∀ x, foldsOf false files.fol x = none → simpleOf files x = x := fun x h => by
    unfold simpleOf foldz
    rw [h]
    rfl
  cases hF : foldsOf false files.fol r with
  | none => rw [key r hF, key r hF]
  | some l =>
    obtain ⟨h1, h2⟩ := folds_settle (fol_settle false) hF
    obtain ⟨n, l, rfl⟩ := List.exists_cons_of_ne_nil h1
    have e : simpleOf files r = (n : Int) := by
      unfold simpleOf foldz
      rw [hF]
      rfl
    rw [e]
    exact key _ (h2 n List.mem_cons_self)
theorem simple_wf (r : Int) (hr : (Lit.int .i64 r).wf = true) : (Lit.int .i64 (simpleOf files r)).wf = true := by
  obtain ⟨n, l, h⟩ := foldz_cons files_ok false r
  have := foldz_wf files_ok false r hr
  rw [h] at this
  unfold simpleOf
  rw [h]
  exact this n List.mem_cons_self
end Go.Proofs.YtchkckfadennhaaGreatDoor
