/- rubricatorref09: Simple, Full, Same: they tell what fold.Simple, Full and Same tell. -/
import Derived.Test.YtkgomgfhfoomhaaGreatDoorRef6C
import Derived.Test.YtkgomgfhfoomhaaGreatDoorFoldB
namespace Go.Proofs.YtkgomgfhfoomhaaGreatDoor
open Go.RowKit
set_option linter.unusedVariables false
set_option linter.unusedSimpArgs false

theorem inRec2_iff (r : Int) (x : Rec) : inRec2 r x = true ↔ (x.lo : Int) ≤ r ∧ r ≤ x.hi := by
  unfold inRec2
  rw [Bool.and_eq_true, decide_eq_true_eq, decide_eq_true_eq]
theorem foldl_find (full : Bool) (r : Int) : ∀ (rs : List Rec) (F : Int → Option (List Nat)), (rs.foldl (fun F x => foldRec x full F) F) r = match F r with
    | some l => some l
    | none => (rs.find? (inFold r full)).map fun x => bump (Sp.pts (fld1 x)) (r - x.lo).toNat
  | [], F => by cases h : F r <;> simp [h]
  | x :: rs, F => by
    rw [List.foldl_cons, foldl_find full r rs, List.find?_cons]
    unfold foldRec inFold
    cases hs : skips x full with
    | true => simp
    | false =>
      simp only [Bool.false_eq_true, if_false, Bool.not_false, Bool.and_true]
      unfold foldTo
      cases hF : F r with
      | some l => rfl
      | none =>
        by_cases h : (x.lo : Int) ≤ r ∧ r ≤ x.hi
        · simp only
          rw [if_pos h, (inRec2_iff r x).2 h]
          rfl
        · have h2 : inRec2 r x = false := by
            cases h3 : inRec2 r x with
            | false => rfl
            | true => exact absurd ((inRec2_iff r x).1 h3) h
          simp only
          rw [if_neg h, h2]
theorem foldR_eq (Φ : Files) (full : Bool) (r : Int) : foldR Φ full r = foldz Φ full r := by
  unfold foldR foldz foldsOf
  rw [foldl_find full r Φ.fol]
  cases Φ.fol.find? (inFold r full) <;> rfl
/-! ### foldings -/
section
variable {w : World} {B b : Nat} {Φ : Files}
theorem fold_refz (hr : RefAt w B b Φ) (hok : FilesOk Φ) (r : Int) (full : Bool) : Calls Tryz.prog 57 #[.pointer (some ⟨b, 0, none⟩), .int .i64 r, .bool full] w (CloneSaid (foldz Φ full r) w) := by
  rw [← foldR_eq]
  exact fold_ref hr hok r full
set_option maxRecDepth 100000 in
theorem full09_walk (hr : RefAt w B b Φ) (hok : FilesOk Φ) (r : Int) : Calls Tryz.prog 17 #[.pointer (some ⟨b, 0, none⟩), .int .i64 r] w (CloneSaid (foldz Φ true r) w) := by
  have HF := Lib.hid (fold_refz hr hok r true)
  clear hr
  go_enter Tryz.func17, Tryz.ntmps17
  go_wp2_with fail
  refine HF.out.mono ?_
  rintro e w1 ⟨v1, rfl, hv1, hb1⟩
  have HV := Lib.hid hv1
  have HB := Lib.hid hb1
  clear hv1 hb1
  obtain ⟨A1, c1, rfl⟩ := own_slice HV.out
  go_wp2_with fail
  go_ret
  exact ⟨_, rfl, HV.out, HB.out⟩
set_option maxRecDepth 100000 in
theorem simple09_walk (hr : RefAt w B b Φ) (hok : FilesOk Φ) (r : Int) : Calls Tryz.prog 14 #[.pointer (some ⟨b, 0, none⟩), .int .i64 r] w fun e w' => e = .returned (.int .i64 (simpleOf Φ r)) ∧ Below w.heap.size w w' := by
  have HF := Lib.hid (fold_refz hr hok r false)
  obtain ⟨n0, l0, el0⟩ := foldz_cons hok false r
  have Hs := Lib.hid (show simpleOf Φ r = n0 by unfold simpleOf; rw [el0]; rfl)
  rw [el0] at HF
  clear hr el0
  go_enter Tryz.func14, Tryz.ntmps14
  go_wp2_with fail
  refine HF.out.mono ?_
  rintro e w1 ⟨v1, rfl, hv1, hb1⟩
  have hlen := own_len hv1
  unfold maxLen at hlen
  obtain ⟨g1, k1, rfl, _, _, _, _⟩ := own_form hv1 (by simp)
  have c0 : w1.cell? ⟨g1, 0, none⟩ = some (.int .i64 n0) := own_cell hv1 0 _ rfl
  have HB := Lib.hid hb1
  have b1 : (0 : Int) < (l0.length : Int) + 1 := by omega
  clear hv1 hb1
  simp only [List.length_cons] at hlen ⊢
  go_wp2_with fail
  go_ret
  exact ⟨by rw [Hs.out]; first | done | rfl, HB.out⟩
set_option maxRecDepth 100000 in
theorem same09_walk (hr : RefAt w B b Φ) (hok : FilesOk Φ) (a c : Int) : Calls Tryz.prog 19 #[.pointer (some ⟨b, 0, none⟩), .int .i64 a, .int .i64 c] w fun e w' => e = .returned (.bool (simpleOf Φ a == simpleOf Φ c)) ∧ Below w.heap.size w w' := by
  have HR := Lib.hid hr
  have H1 := Lib.hid (fun W (h : RefAt W B b Φ) => simple09_walk h hok a)
  have H2 := Lib.hid (fun W (h : RefAt W B b Φ) => simple09_walk h hok c)
  clear hr
  generalize simpleOf Φ a = sa at *
  generalize simpleOf Φ c = sc at *
  go_enter Tryz.func19, Tryz.ntmps19
  go_wp2_with fail
  refine (H1.out _ HR.out).mono ?_
  rintro e w1 ⟨rfl, hb1⟩
  have HB := Lib.hid hb1
  replace HR := Lib.hid (HR.out.below hb1)
  clear hb1
  go_wp2_with fail
  refine (H2.out _ HR.out).mono ?_
  rintro e w2 ⟨rfl, hb2⟩
  replace HB := Lib.hid (HB.out.trans (hb2.mono HB.out.size))
  clear hb2
  go_wp2_with fail
  go_ret
  exact ⟨rfl, HB.out⟩
end
end Go.Proofs.YtkgomgfhfoomhaaGreatDoor
