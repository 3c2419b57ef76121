/- What the folding's records come to: what they fold to is folded no further. No code is walked here. -/
import Derived.Test.YtmdkjljcnegmeaaDoorTab
namespace Go.Proofs.YtmdkjljcnegmeaaDoor
open Go.RowKit
set_option linter.unusedVariables false

/-- A folding is some record's. -/
theorem foldsOf_some (full : Bool) : ∀ (rs all : List Rec) (F : Int → Option (List Nat)), (∀ x ∈ rs, x ∈ all) → (∀ r l, F r = some l → ∃ x ∈ all, skips x full = false ∧ (x.lo : Int) ≤ r ∧ r ≤ x.hi ∧ l = bump (Sp.pts (fld1 x)) (r - x.lo).toNat) →
    ∀ r l, rs.foldl (fun F x => foldRec x full F) F r = some l → ∃ x ∈ all, skips x full = false ∧ (x.lo : Int) ≤ r ∧ r ≤ x.hi ∧ l = bump (Sp.pts (fld1 x)) (r - x.lo).toNat
  | [], all, F, _, h, r, l, hl => h r l hl
  | x :: rs, all, F, hm, h, r, l, hl => by
    rw [List.foldl_cons] at hl
    refine foldsOf_some full rs all _ (fun y hy => hm y (List.mem_cons_of_mem _ hy)) ?_ r l hl
    intro r l hl
    unfold foldRec at hl
    split at hl
    · exact h r l hl
    · rename_i hs
      unfold foldTo at hl
      cases hF : F r with
      | some l' =>
        rw [hF] at hl
        exact h r l (hF.trans hl)
      | none =>
        rw [hF] at hl
        simp only at hl
        split at hl
        · rename_i hr
          exact ⟨x, hm x List.mem_cons_self, by simpa using hs, hr.1, hr.2, (Option.some.inj hl).symm⟩
        · cases hl
def mask (lo hi : Nat) : Nat := (2 ^ (hi - lo + 1) - 1) <<< lo
theorem mask_bit {lo hi n : Nat} (h1 : lo ≤ n) (h2 : n ≤ hi) : (mask lo hi).testBit n = true := by
  unfold mask
  rw [Nat.testBit_shiftLeft, Nat.testBit_two_pow_sub_one]
  simp
  omega
def domOf (full : Bool) (rs : List Rec) : Nat := rs.foldl (fun d x => if skips x full then d else d ||| mask x.lo x.hi) 0
theorem dom_keeps (full : Bool) : ∀ (rs : List Rec) (d n : Nat), d.testBit n = true → (rs.foldl (fun d x => if skips x full then d else d ||| mask x.lo x.hi) d).testBit n = true
  | [], d, n, h => h
  | x :: rs, d, n, h => by
    rw [List.foldl_cons]
    refine dom_keeps full rs _ n ?_
    split
    · exact h
    · rw [Nat.testBit_or, h, Bool.true_or]
theorem dom_has (full : Bool) : ∀ (rs : List Rec) (d n : Nat) (x : Rec), x ∈ rs → skips x full = false → x.lo ≤ n → n ≤ x.hi → (rs.foldl (fun d x => if skips x full then d else d ||| mask x.lo x.hi) d).testBit n = true
  | y :: rs, d, n, x, hx, hs, h1, h2 => by
    rw [List.foldl_cons]
    rcases List.mem_cons.1 hx with rfl | hx
    · refine dom_keeps full rs _ n ?_
      rw [hs, if_neg (by decide), Nat.testBit_or, mask_bit h1 h2, Bool.or_true]
    · exact dom_has full rs _ n x hx hs h1 h2
theorem folds_none {full : Bool} {rs : List Rec} {n : Nat} (h : (domOf full rs).testBit n = false) : foldsOf full rs n = none := by
  cases hF : foldsOf full rs n with
  | none => rfl
  | some l =>
    obtain ⟨x, hx, hs, h1, h2, _⟩ := foldsOf_some full rs rs (fun _ => none) (fun _ h => h) (fun _ _ h => by cases h) n l hF
    have := dom_has full rs 0 n x hx hs (by omega) (by omega)
    unfold domOf at h
    rw [h] at this
    cases this
def settlesAt (full : Bool) (d : Nat) (x : Rec) : Bool :=
  skips x full || (match Sp.pts (fld1 x) with
    | [] => false
    | n :: l => Nat.beq ((d >>> n) &&& (2 ^ (x.hi - x.lo + 1) - 1)) 0 && l.all (fun m => !d.testBit m))
def settlesB (full : Bool) (rs : List Rec) : Bool := rs.all (settlesAt full (domOf full rs))
theorem folds_settle {full : Bool} {rs : List Rec} (h : settlesB full rs = true) {r : Int} {l : List Nat} (hl : foldsOf full rs r = some l) : l ≠ [] ∧ ∀ n ∈ l, foldsOf full rs n = none := by
  obtain ⟨x, hx, hs, h1, h2, rfl⟩ := foldsOf_some full rs rs (fun _ => none) (fun _ h => h) (fun _ _ h => by cases h) r l hl
  have hb := List.all_eq_true.1 h x hx
  unfold settlesAt at hb
  rw [hs, Bool.false_or] at hb
  cases hp : Sp.pts (fld1 x) with
  | nil => rw [hp] at hb; cases hb
  | cons n l =>
    rw [hp] at hb
    simp only [Bool.and_eq_true, List.all_eq_true, Bool.not_eq_true'] at hb
    refine ⟨by simp [bump], fun m hm => folds_none ?_⟩
    have hm' : m = n + (r - x.lo).toNat ∨ m ∈ l := by simpa [bump] using hm
    rcases hm' with rfl | hm'
    · have h0 := congrArg (fun q => q.testBit (r - x.lo).toNat) (Nat.eq_of_beq_eq_true hb.1)
      simp only [Nat.testBit_and, Nat.testBit_shiftRight, Nat.testBit_two_pow_sub_one, Nat.zero_testBit] at h0
      rw [decide_eq_true (by omega : (r - (x.lo : Int)).toNat < x.hi - x.lo + 1), Bool.and_true] at h0
      exact h0
    · exact hb.2 m hm'
end Go.Proofs.YtmdkjljcnegmeaaDoor
