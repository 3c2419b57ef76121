/- What the folding's records come to: what they fold to is folded no further. No code is walked here. What the decompositions' records come to in the end. No code is walked here. What holds of the files' records, by the kernel: foldings settle, decompositions end. -/
import Derived.Test.YtchkckfadennhaaGreatDoorLod
import Derived.Test.YtchkckfadennhaaGreatDoorLod2
namespace Go.Proofs.YtchkckfadennhaaGreatDoor
open Go.RowKit
set_option linter.unusedVariables false

/-- A folding is some record's. -/
theorem foldsOf_some (full : Bool) : ∀ (rs all : List Rec) (F : Int → Option (List Nat)), (∀ x ∈ rs, x ∈ all) → (∀ r l, F r = some l → ∃ x ∈ all, skips x full = false ∧ (x.lo : Int) ≤ r ∧ r ≤ x.hi ∧ l = bump (Sp.pts (fld1 x)) (r - x.lo).toNat) →
    ∀ r l, rs.foldl (fun F x => foldRec x full F) F r = some l → ∃ x ∈ all, skips x full = false ∧ (x.lo : Int) ≤ r ∧ r ≤ x.hi ∧ l = bump (Sp.pts (fld1 x)) (r - x.lo).toNat
  | [], all, F, _, h, r, l, hl => h r l hl
  | x :: rs, all, F, hm, h, r, l, hl => by
    rw [List.foldl_cons] at hl
    refine foldsOf_some full rs all _ (fun y hy => hm y (List.mem_cons_of_mem _ hy)) ?_ r l hl
    intro r l hl
    unfold foldRec at hl
    split at hl
    · exact h r l hl
    · rename_i hs
      unfold foldTo at hl
      cases hF : F r with
      | some l' =>
        rw [hF] at hl
        exact h r l (hF.trans hl)
      | none =>
        rw [hF] at hl
        simp only at hl
        split at hl
        · rename_i hr
          exact ⟨x, hm x List.mem_cons_self, by simpa using hs, hr.1, hr.2, (Option.some.inj hl).symm⟩
        · cases hl
def mask (lo hi : Nat) : Nat := (2 ^ (hi - lo + 1) - 1) <<< lo
theorem mask_bit {lo hi n : Nat} (h1 : lo ≤ n) (h2 : n ≤ hi) : (mask lo hi).testBit n = true := by
  unfold mask
  rw [Nat.testBit_shiftLeft, Nat.testBit_two_pow_sub_one]
  simp
  omega
def domOf (full : Bool) (rs : List Rec) : Nat := rs.foldl (fun d x => if skips x full then d else d ||| mask x.lo x.hi) 0
theorem dom_keeps (full : Bool) : ∀ (rs : List Rec) (d n : Nat), d.testBit n = true → (rs.foldl (fun d x => if skips x full then d else d ||| mask x.lo x.hi) d).testBit n = true
  | [], d, n, h => h
  | x :: rs, d, n, h => by
    rw [List.foldl_cons]
    refine dom_keeps full rs _ n ?_
    split
    · exact h
    · rw [Nat.testBit_or, h, Bool.true_or]
theorem dom_has (full : Bool) : ∀ (rs : List Rec) (d n : Nat) (x : Rec), x ∈ rs → skips x full = false → x.lo ≤ n → n ≤ x.hi → (rs.foldl (fun d x => if skips x full then d else d ||| mask x.lo x.hi) d).testBit n = true
  | y :: rs, d, n, x, hx, hs, h1, h2 => by
    rw [List.foldl_cons]
    rcases List.mem_cons.1 hx with rfl | hx
    · refine dom_keeps full rs _ n ?_
      rw [hs, if_neg (by decide), Nat.testBit_or, mask_bit h1 h2, Bool.or_true]
    · exact dom_has full rs _ n x hx hs h1 h2
theorem folds_none {full : Bool} {rs : List Rec} {n : Nat} (h : (domOf full rs).testBit n = false) : foldsOf full rs n = none := by
  cases hF : foldsOf full rs n with
  | none => rfl
  | some l =>
    obtain ⟨x, hx, hs, h1, h2, _⟩ := foldsOf_some full rs rs (fun _ => none) (fun _ h => h) (fun _ _ h => by cases h) n l hF
    have := dom_has full rs 0 n x hx hs (by omega) (by omega)
    unfold domOf at h
    rw [h] at this
    cases this
def settlesAt (full : Bool) (d : Nat) (x : Rec) : Bool :=
  skips x full || (match Sp.pts (fld1 x) with
    | [] => false
    | n :: l => Nat.beq ((d >>> n) &&& (2 ^ (x.hi - x.lo + 1) - 1)) 0 && l.all (fun m => !d.testBit m))
def settlesB (full : Bool) (rs : List Rec) : Bool := rs.all (settlesAt full (domOf full rs))
theorem folds_settle {full : Bool} {rs : List Rec} (h : settlesB full rs = true) {r : Int} {l : List Nat} (hl : foldsOf full rs r = some l) : l ≠ [] ∧ ∀ n ∈ l, foldsOf full rs n = none := by
  obtain ⟨x, hx, hs, h1, h2, rfl⟩ := foldsOf_some full rs rs (fun _ => none) (fun _ h => h) (fun _ _ h => by cases h) r l hl
  have hb := List.all_eq_true.1 h x hx
  unfold settlesAt at hb
  rw [hs, Bool.false_or] at hb
  cases hp : Sp.pts (fld1 x) with
  | nil => rw [hp] at hb; cases hb
  | cons n l =>
    rw [hp] at hb
    simp only [Bool.and_eq_true, List.all_eq_true, Bool.not_eq_true'] at hb
    refine ⟨by simp [bump], fun m hm => folds_none ?_⟩
    have hm' : m = n + (r - x.lo).toNat ∨ m ∈ l := by simpa [bump] using hm
    rcases hm' with rfl | hm'
    · have h0 := congrArg (fun q => q.testBit (r - x.lo).toNat) (Nat.eq_of_beq_eq_true hb.1)
      simp only [Nat.testBit_and, Nat.testBit_shiftRight, Nat.testBit_two_pow_sub_one, Nat.zero_testBit] at h0
      rw [decide_eq_true (by omega : (r - (x.lo : Int)).toNat < x.hi - x.lo + 1), Bool.and_true] at h0
      exact h0
    · exact hb.2 m hm'
end Go.Proofs.YtchkckfadennhaaGreatDoor
namespace Go.Proofs.YtchkckfadennhaaGreatDoor
open Go.RowKit
set_option linter.unusedVariables false

def isSyl (r : Int) : Bool := decide (44032 ≤ r) && decide (r ≤ 55203)
def sylOf (r : Int) : List Int :=
  [4352 + (r - 44032) / 588, 4449 + (r - 44032) / 28 % 21] ++ (if (r - 44032) % 28 = 0 then [] else [4519 + (r - 44032) % 28])
/-- What a code point is made of, taken apart at most so often. -/
def dfull (P : Int → Option (List Nat)) : Nat → Int → List Int
  | 0, r => if isSyl r then sylOf r else [r]
  | k + 1, r => if isSyl r then sylOf r else match P r with
    | some (n :: l) => (n :: l).flatMap fun m => dfull P k (m : Nat)
    | _ => [r]
/-- How many code points are looked at. -/
def dcost (P : Int → Option (List Nat)) : Nat → Int → Nat
  | 0, r => 1
  | k + 1, r => if isSyl r then 1 else match P r with
    | some (n :: l) => 1 + ((n :: l).map fun m => dcost P k (m : Nat)).sum
    | _ => 1
theorem dfull_succ (P : Int → Option (List Nat)) (k : Nat) (r : Int) : dfull P (k + 1) r = if isSyl r then sylOf r else match P r with
    | some (n :: l) => (n :: l).flatMap fun m => dfull P k (m : Nat)
    | _ => [r] := by rw [dfull]
theorem dcost_succ (P : Int → Option (List Nat)) (k : Nat) (r : Int) : dcost P (k + 1) r = if isSyl r then 1 else match P r with
    | some (n :: l) => 1 + ((n :: l).map fun m => dcost P k (m : Nat)).sum
    | _ => 1 := by rw [dcost]
theorem dcost_pos (P : Int → Option (List Nat)) (k : Nat) (r : Int) : 0 < dcost P k r := by
  cases k with
  | zero => exact Nat.one_pos
  | succ k =>
    unfold dcost
    split
    · exact Nat.one_pos
    · split <;> omega
/-- The code points whose parts have parts, and so on. -/
def levTop (rs : List Rec) : Nat := rs.foldl (fun d x => d ||| mask x.lo x.hi) 0
def levNext (rs : List Rec) (L : Nat) : Nat := rs.foldl (fun d x => if (Sp.pts (fld0 x)).any (fun n => L.testBit n) then d ||| mask x.lo x.hi else d) 0
def lev (rs : List Rec) : Nat → Nat
  | 0 => levTop rs
  | k + 1 => levNext rs (lev rs k)
theorem partsOf_some : ∀ (rs all : List Rec) (F : Int → Option (List Nat)), (∀ x ∈ rs, x ∈ all) → (∀ r l, F r = some l → ∃ x ∈ all, (x.lo : Int) ≤ r ∧ r ≤ x.hi ∧ l = Sp.pts (fld0 x)) →
    ∀ r l, rs.foldl (fun F x => partsRec x F) F r = some l → ∃ x ∈ all, (x.lo : Int) ≤ r ∧ r ≤ x.hi ∧ l = Sp.pts (fld0 x)
  | [], all, F, _, h, r, l, hl => h r l hl
  | x :: rs, all, F, hm, h, r, l, hl => by
    rw [List.foldl_cons] at hl
    refine partsOf_some rs all _ (fun y hy => hm y (List.mem_cons_of_mem _ hy)) ?_ r l hl
    intro r l hl
    unfold partsRec at hl
    split at hl
    · rename_i hr
      exact ⟨x, hm x List.mem_cons_self, hr.1, hr.2, (Option.some.inj hl).symm⟩
    · exact h r l hl
theorem fold_keeps (c : Rec → Bool) : ∀ (rs : List Rec) (d n : Nat), d.testBit n = true → (rs.foldl (fun d x => if c x then d ||| mask x.lo x.hi else d) d).testBit n = true
  | [], d, n, h => h
  | x :: rs, d, n, h => by
    rw [List.foldl_cons]
    refine fold_keeps c rs _ n ?_
    split
    · rw [Nat.testBit_or, h, Bool.true_or]
    · exact h
theorem fold_has (c : Rec → Bool) : ∀ (rs : List Rec) (d n : Nat) (x : Rec), x ∈ rs → c x = true → x.lo ≤ n → n ≤ x.hi → (rs.foldl (fun d x => if c x then d ||| mask x.lo x.hi else d) d).testBit n = true
  | y :: rs, d, n, x, hx, hs, h1, h2 => by
    rw [List.foldl_cons]
    rcases List.mem_cons.1 hx with rfl | hx
    · refine fold_keeps c rs _ n ?_
      rw [if_pos hs, Nat.testBit_or, mask_bit h1 h2, Bool.or_true]
    · exact fold_has c rs _ n x hx hs h1 h2
theorem levTop_eq (rs : List Rec) : levTop rs = rs.foldl (fun d x => if (fun _ => true) x then d ||| mask x.lo x.hi else d) 0 := by
  unfold levTop
  congr 1
section
variable {rs : List Rec}
theorem parts_rec {r : Int} {l : List Nat} (h : partsOf rs r = some l) : ∃ x ∈ rs, (x.lo : Int) ≤ r ∧ r ≤ x.hi ∧ l = Sp.pts (fld0 x) := partsOf_some rs rs (fun _ => none) (fun _ h => h) (fun _ _ h => by cases h) r l h
theorem parts_top {n : Nat} (h : (lev rs 0).testBit n = false) : partsOf rs n = none := by
  cases hP : partsOf rs n with
  | none => rfl
  | some l =>
    obtain ⟨x, hx, h1, h2, _⟩ := parts_rec hP
    have := fold_has (fun _ => true) rs 0 n x hx rfl (by omega) (by omega)
    rw [← levTop_eq] at this
    rw [show lev rs 0 = levTop rs from rfl, this] at h
    cases h
theorem parts_next {k n : Nat} (h : (lev rs (k + 1)).testBit n = false) {l : List Nat} (hl : partsOf rs n = some l) : ∀ m ∈ l, (lev rs k).testBit m = false := by
  intro m hm
  cases hb : (lev rs k).testBit m with
  | false => rfl
  | true =>
    obtain ⟨x, hx, h1, h2, rfl⟩ := parts_rec hl
    have := fold_has (fun x => (Sp.pts (fld0 x)).any fun n => (lev rs k).testBit n) rs 0 n x hx (List.any_eq_true.2 ⟨m, hm, hb⟩) (by omega) (by omega)
    rw [show lev rs (k + 1) = levNext rs (lev rs k) from rfl] at h
    unfold levNext at h
    rw [this] at h
    cases h
/-- A code point that so many steps take apart: more steps take it no further. -/
theorem dfull_more : ∀ (k n : Nat), (lev rs k).testBit n = false → dfull (partsOf rs) (k + 1) (n : Nat) = dfull (partsOf rs) k (n : Nat) ∧ dcost (partsOf rs) (k + 1) (n : Nat) = dcost (partsOf rs) k (n : Nat)
  | 0, n, h => by
    unfold dfull dcost
    rw [parts_top h]
    simp
  | k + 1, n, h => by
    rw [dfull_succ _ (k + 1), dcost_succ _ (k + 1), dfull_succ _ k, dcost_succ _ k]
    cases isSyl n with
    | true => simp
    | false =>
      cases hP : partsOf rs n with
      | none => simp
      | some l =>
        have hm := parts_next h hP
        cases l with
        | nil => simp
        | cons a l =>
          simp only [Bool.false_eq_true, if_false]
          refine ⟨?_, ?_⟩
          · rw [List.flatMap_def, List.flatMap_def, List.map_congr_left fun m hm' => (dfull_more k m (hm m hm')).1]
          · rw [List.map_congr_left fun m hm' => (dfull_more k m (hm m hm')).2]
end
/-- What five steps take apart: what code points are made of in the end. -/
def dall (P : Int → Option (List Nat)) (r : Int) : List Int := dfull P 5 r
def dsteps (P : Int → Option (List Nat)) (r : Int) : Nat := dcost P 5 r
section
variable {rs : List Rec}
theorem dall_eq (h0 : lev rs 4 = 0) (r : Int) : dall (partsOf rs) r = (if isSyl r then sylOf r else match partsOf rs r with | some (n :: l) => (n :: l).flatMap fun m => dall (partsOf rs) (m : Nat) | _ => [r]) ∧
    dsteps (partsOf rs) r = (if isSyl r then 1 else match partsOf rs r with | some (n :: l) => 1 + ((n :: l).map fun m => dsteps (partsOf rs) (m : Nat)).sum | _ => 1) := by
  have hz : ∀ n : Nat, (lev rs 4).testBit n = false := fun n => by rw [h0]; exact Nat.zero_testBit n
  have e1 : ∀ n : Nat, dfull (partsOf rs) 5 (n : Nat) = dfull (partsOf rs) 4 (n : Nat) := fun n => (dfull_more 4 n (hz n)).1
  have e2 : ∀ n : Nat, dcost (partsOf rs) 5 (n : Nat) = dcost (partsOf rs) 4 (n : Nat) := fun n => (dfull_more 4 n (hz n)).2
  unfold dall dsteps
  simp only [e1, e2]
  refine ⟨?_, ?_⟩
  · exact dfull_succ _ 4 r
  · exact dcost_succ _ 4 r
/-- Nothing that it is made of is made of anything else. -/
def endB (rs : List Rec) : Bool := Nat.beq (lev rs 4) 0 && Nat.beq (lev rs 0 &&& (mask 4352 4370 ||| mask 4449 4469 ||| mask 4519 4546)) 0
theorem syl_none (h : endB rs = true) {r : Int} (hr : isSyl r = true) : ∀ x ∈ sylOf r, isSyl x = false ∧ partsOf rs x = none := by
  unfold endB at h
  simp only [Bool.and_eq_true] at h
  have h2 := Nat.eq_of_beq_eq_true h.2
  unfold isSyl at hr
  simp only [Bool.and_eq_true, decide_eq_true_eq] at hr
  have key : ∀ n : Nat, (mask 4352 4370 ||| mask 4449 4469 ||| mask 4519 4546).testBit n = true → partsOf rs n = none := fun n hn => parts_top (by
    have := congrArg (fun q => q.testBit n) h2
    simp only [Nat.testBit_and, hn, Bool.and_true, Nat.zero_testBit] at this
    exact this)
  intro x hx
  have hx' : x = 4352 + (r - 44032) / 588 ∨ x = 4449 + (r - 44032) / 28 % 21 ∨ (x = 4519 + (r - 44032) % 28 ∧ (r - 44032) % 28 ≠ 0) := by
    unfold sylOf at hx
    split at hx
    · simp at hx; rcases hx with h | h <;> simp [h]
    · rename_i hne; simp at hx; rcases hx with h | h | h <;> simp [h, hne]
  have hns : 0 ≤ x ∧ x < 44032 := by omega
  refine ⟨by unfold isSyl; rw [decide_eq_false (by omega), Bool.false_and], ?_⟩
  obtain ⟨n, rfl⟩ := Int.eq_ofNat_of_zero_le hns.1
  refine key n ?_
  simp only [Nat.testBit_or, Bool.or_eq_true]
  rcases hx' with h | h | ⟨h, _⟩
  · exact .inl (.inl (mask_bit (by omega) (by omega)))
  · exact .inl (.inr (mask_bit (by omega) (by omega)))
  · exact .inr (mask_bit (by omega) (by omega))
/-- Such a code point stays. -/
theorem dall_end (h0 : lev rs 4 = 0) {x : Int} (h1 : isSyl x = false) (h2 : partsOf rs x = none ∨ partsOf rs x = some []) : dall (partsOf rs) x = [x] := by
  rw [(dall_eq h0 x).1, h1, if_neg (by decide)]
  rcases h2 with h | h <;> rw [h]
theorem dfull_ends (h : endB rs = true) : ∀ (k : Nat) (r : Int), (∀ n : Nat, r = n → (lev rs k).testBit n = false) → ∀ x ∈ dfull (partsOf rs) k r, isSyl x = false ∧ (partsOf rs x = none ∨ partsOf rs x = some [])
  | k, r, hr, x, hx => by
    by_cases hs : isSyl r = true
    · have : dfull (partsOf rs) k r = sylOf r := by cases k <;> (unfold dfull; rw [if_pos hs])
      rw [this] at hx
      obtain ⟨h1, h2⟩ := syl_none h hs x hx
      exact ⟨h1, .inl h2⟩
    · have hs' : isSyl r = false := by simpa using hs
      cases k with
      | zero =>
        rw [dfull, if_neg hs] at hx
        have : x = r := by simpa using hx
        subst this
        refine ⟨hs', .inl ?_⟩
        cases hP : partsOf rs x with
        | none => rfl
        | some l =>
          obtain ⟨y, _, h1, _⟩ := parts_rec hP
          obtain ⟨n, rfl⟩ := Int.eq_ofNat_of_zero_le (show 0 ≤ x by omega)
          rw [parts_top (hr n rfl)] at hP
          cases hP
      | succ k =>
        rw [dfull, if_neg hs] at hx
        cases hP : partsOf rs r with
        | none =>
          rw [hP] at hx
          have : x = r := by simpa using hx
          subst this
          exact ⟨hs', .inl hP⟩
        | some l =>
          cases l with
          | nil =>
            rw [hP] at hx
            have : x = r := by simpa using hx
            subst this
            exact ⟨hs', .inr hP⟩
          | cons a l =>
            rw [hP] at hx
            obtain ⟨m, hm, hx2⟩ := List.mem_flatMap.1 hx
            obtain ⟨y, _, h1, _⟩ := parts_rec hP
            obtain ⟨n, rfl⟩ := Int.eq_ofNat_of_zero_le (show 0 ≤ r by omega)
            exact dfull_ends h k m (fun q hq => by
              have := parts_next (hr n rfl) hP m hm
              have e : q = m := by omega
              rw [e]; exact this) x hx2
theorem dall_ends (h : endB rs = true) (r : Int) : ∀ x ∈ dall (partsOf rs) r, dall (partsOf rs) x = [x] := by
  have h' := h
  unfold endB at h'
  simp only [Bool.and_eq_true] at h'
  have h4 := Nat.eq_of_beq_eq_true h'.1
  have h5 : lev rs 5 = 0 ∨ True := .inr trivial
  intro x hx
  have hx' : ∃ k, (∀ n : Nat, r = n → (lev rs k).testBit n = false) ∧ x ∈ dfull (partsOf rs) k r := by
    by_cases hr : 0 ≤ r
    · obtain ⟨n, rfl⟩ := Int.eq_ofNat_of_zero_le hr
      refine ⟨4, fun q _ => by rw [h4]; exact Nat.zero_testBit q, ?_⟩
      rw [← (dfull_more 4 n (by rw [h4]; exact Nat.zero_testBit n)).1]
      exact hx
    · exact ⟨5, fun n hn => absurd hn (by omega), hx⟩
  obtain ⟨k, h1, h2⟩ := hx'
  obtain ⟨h6, h7⟩ := dfull_ends h k r h1 x h2
  exact dall_end h4 h6 h7
theorem dall_ne (P : Int → Option (List Nat)) : ∀ (k : Nat) (r : Int), dfull P k r ≠ []
  | 0, r => by
    unfold dfull
    split
    · simp [sylOf]
    · simp
  | k + 1, r => by
    unfold dfull
    split
    · simp [sylOf]
    · split
      · rename_i n l _
        intro he
        rw [List.flatMap_cons] at he
        exact dall_ne P k n (List.append_eq_nil_iff.1 he).1
      · simp
end
end Go.Proofs.YtchkckfadennhaaGreatDoor
namespace Go.Proofs.YtchkckfadennhaaGreatDoor
open Go.RowKit
set_option linter.unusedVariables false

theorem settle_simple : settlesB false (recsOf Tryz.f26) = true := by kernel_rfl
theorem settle_full : settlesB true (recsOf Tryz.f26) = true := by kernel_rfl
theorem parts_end : endB (recsOf Tryz.f24) = true := by kernel_rfl
set_option maxRecDepth 100000 in
theorem fol_settle (full : Bool) : settlesB full files.fol = true := by
  cases full
  · exact settle_simple
  · exact settle_full
set_option maxRecDepth 100000 in
theorem dec_end : endB files.dec = true := parts_end
end Go.Proofs.YtchkckfadennhaaGreatDoor
