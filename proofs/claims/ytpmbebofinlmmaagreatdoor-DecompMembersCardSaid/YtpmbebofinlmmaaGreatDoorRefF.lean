/- rubricatorref09: Simple, Full, Same: they tell what fold.Simple, Full and Same tell. -/
import Derived.Test.YtpmbebofinlmmaaGreatDoorRef6C
import Derived.Test.YtpmbebofinlmmaaGreatDoorFoldB
namespace Go.Proofs.YtpmbebofinlmmaaGreatDoor
open Go.RowKit
set_option linter.unusedVariables false
set_option linter.unusedSimpArgs false

theorem inRec2_iff (r : Int) (x : Rec) : inRec2 r x = true ↔ (x.lo : Int) ≤ r ∧ r ≤ x.hi := by
  unfold inRec2
  rw [Bool.and_eq_true, decide_eq_true_eq, decide_eq_true_eq]
theorem foldl_find (full : Bool) (r : Int) : ∀ (rs : List Rec) (F : Int → Option (List Nat)), (rs.foldl (fun F x => foldRec x full F) F) r = match F r with
    | some l => some l
    | none => (rs.find? (inFold r full)).map fun x => bump (Sp.pts (fld1 x)) (r - x.lo).toNat
  | [], F => by cases h : F r <;> simp [h]
  | x :: rs, F => by
    rw [List.foldl_cons, foldl_find full r rs, List.find?_cons]
    unfold foldRec inFold
    cases hs : skips x full with
    | true => simp
    | false =>
      simp only [Bool.false_eq_true, if_false, Bool.not_false, Bool.and_true]
      unfold foldTo
      cases hF : F r with
      | some l => rfl
      | none =>
        by_cases h : (x.lo : Int) ≤ r ∧ r ≤ x.hi
        · simp only
          rw [if_pos h, (inRec2_iff r x).2 h]
          rfl
        · have h2 : inRec2 r x = false := by
            cases h3 : inRec2 r x with
            | false => rfl
            | true => exact absurd ((inRec2_iff r x).1 h3) h
          simp only
          rw [if_neg h, h2]
theorem foldR_eq (Φ : Files) (full : Bool) (r : Int) : foldR Φ full r = foldz Φ full r := by
  unfold foldR foldz foldsOf
  rw [foldl_find full r Φ.fol]
  cases Φ.fol.find? (inFold r full) <;> rfl
/-! ### foldings -/
section
variable {w : World} {B b : Nat} {Φ : Files}
theorem fold_refz (hr : RefAt w B b Φ) (hok : FilesOk Φ) (r : Int) (full : Bool) : Calls Tryz.prog 42 #[.pointer (some ⟨b, 0, none⟩), .int .i64 r, .bool full] w (CloneSaid (foldz Φ full r) w) := by
  rw [← foldR_eq]
  exact fold_ref hr hok r full
end
end Go.Proofs.YtpmbebofinlmmaaGreatDoor
