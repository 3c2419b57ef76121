/- What the reference's tables tell of foldings and decompositions is what the program's tell. No code is walked here. -/
import Derived.Test.YtpmbebofinlmmaaGreatDoorRefF
import Derived.Test.YtpmbebofinlmmaaGreatDoorAcc2W
import Derived.Test.YtpmbebofinlmmaaGreatDoorPur
import Derived.Test.YtpmbebofinlmmaaGreatDoorDecB
namespace Go.Proofs.YtpmbebofinlmmaaGreatDoor
open Go.RowKit
set_option linter.unusedVariables false
set_option linter.unusedSimpArgs false

def apartB : Nat → List Rec → Bool
  | _, [] => true
  | n, x :: rs => Nat.ble n x.lo && apartB (x.hi + 1) rs
theorem apart_ge : ∀ (rs : List Rec) (n : Nat), apartB n rs = true → (∀ x ∈ rs, x.lo ≤ x.hi) → ∀ x ∈ rs, n ≤ x.lo
  | [], _, _, _, x, hx => by cases hx
  | y :: rs, n, h, hl, x, hx => by
    unfold apartB at h
    rw [Bool.and_eq_true, Nat.ble_eq] at h
    rcases List.mem_cons.1 hx with rfl | hx
    · exact h.1
    · have h1 := apart_ge rs (y.hi + 1) h.2 (fun z hz => hl z (List.mem_cons_of_mem _ hz)) x hx
      have h2 := hl y List.mem_cons_self
      omega
theorem parts_find (r : Int) : ∀ (rs : List Rec) (n : Nat) (F : Int → Option (List Nat)), apartB n rs = true → (∀ x ∈ rs, x.lo ≤ x.hi) → (rs.foldl (fun F x => partsRec x F) F) r = match rs.find? (inRec2 r) with
    | some x => some (Sp.pts (fld0 x))
    | none => F r
  | [], n, F, _, _ => rfl
  | y :: rs, n, F, h, hl => by
    have h' := h
    unfold apartB at h'
    rw [Bool.and_eq_true, Nat.ble_eq] at h'
    have hl2 := fun z hz => hl z (List.mem_cons_of_mem _ hz)
    rw [List.foldl_cons, parts_find r rs (y.hi + 1) _ h'.2 hl2, List.find?_cons]
    have hg := apart_ge rs (y.hi + 1) h'.2 hl2
    by_cases hy : (y.lo : Int) ≤ r ∧ r ≤ y.hi
    · rw [(inRec2_iff r y).2 hy]
      have hn : rs.find? (inRec2 r) = none := by
        rw [List.find?_eq_none]
        intro x hx hin
        have h1 := (inRec2_iff r x).1 hin
        have h2 := hg x hx
        omega
      rw [hn]
      unfold partsRec
      simp only
      rw [if_pos hy]
    · have h2 : inRec2 r y = false := by
        cases h3 : inRec2 r y with
        | false => rfl
        | true => exact absurd ((inRec2_iff r y).1 h3) hy
      rw [h2]
      cases hf : rs.find? (inRec2 r) with
      | some x => rfl
      | none =>
        unfold partsRec
        simp only
        rw [if_neg hy]
theorem partsR_eq {Φ : Files} (h : apartB 0 Φ.dec = true) (hl : ∀ x ∈ Φ.dec, x.lo ≤ x.hi) (r : Int) : partsR Φ r = partz Φ r := by
  unfold partsR partz partsOf
  rw [parts_find r Φ.dec 0 _ h hl]
  cases Φ.dec.find? (inRec2 r) <;> rfl
theorem dec_apart : apartB 0 (recsOf Tryz.f60) = true := by kernel_rfl
set_option maxRecDepth 100000 in
theorem files_apart : apartB 0 files.dec = true := dec_apart
theorem dec_le {Φ : Files} (hok : FilesOk Φ) : ∀ x ∈ Φ.dec, x.lo ≤ x.hi := fun x hx => ((hok.dec x hx).ok).1
theorem files_parts (r : Int) : partsR files r = partz files r := partsR_eq files_apart (dec_le files_ok) r
/-! ### taken apart by recursion -/
theorem dfull_len (P : Int → Option (List Nat)) : ∀ (k : Nat) (r : Int), (dfull P k r).length ≤ 3 * dcost P k r
  | 0, r => by
    unfold dfull dcost
    split
    · exact (sylOf_len r).1
    · simp
  | k + 1, r => by
    rw [dfull_succ, dcost_succ]
    split
    · exact (sylOf_len r).1
    · split
      · rename_i n l _
        have h : ∀ m : List Nat, (m.flatMap fun x => dfull P k (x : Nat)).length ≤ 3 * (m.map fun x => dcost P k (x : Nat)).sum := by
          intro m
          induction m with
          | nil => simp
          | cons x m ih =>
            have := dfull_len P k (x : Nat)
            simp only [List.flatMap_cons, List.length_append, List.map_cons, List.sum_cons]
            omega
        exact Nat.le_trans (h (n :: l)) (Nat.mul_le_mul_left 3 (Nat.le_add_left _ _))
      · simp
/-- One level: what is neither a syllable nor without parts is its parts', one behind the other. -/
def dstep (ps : List Int) (D : Int → List Int) (r : Int) : List Int := if isSyl r then sylOf r else if ps = [] then [r] else ps.flatMap D
theorem dfull_step {Φ : Files} (k : Nat) (r : Int) : dfull (partsOf Φ.dec) (k + 1) r = dstep (partz Φ r) (dfull (partsOf Φ.dec) k) r := by
  rw [dfull_succ]
  unfold dstep partz
  by_cases hs : isSyl r = true
  · rw [if_pos hs, if_pos hs]
  · rw [if_neg hs, if_neg hs]
    cases hP : partsOf Φ.dec r with
    | none => rfl
    | some l =>
      cases l with
      | nil => rfl
      | cons n l =>
        rw [if_neg (by simp)]
        simp only [Option.getD_some, List.map_cons, List.flatMap_cons, List.flatMap_map]
theorem dfull_base {Φ : Files} (r : Int) (h : partsOf Φ.dec r = none) (D : Int → List Int) : dfull (partsOf Φ.dec) 0 r = dstep (partz Φ r) D r := by
  unfold dstep partz dfull
  rw [h]
  rfl
theorem parts_neg {Φ : Files} (r : Int) (h : r < 0) : partsOf Φ.dec r = none := by
  cases hP : partsOf Φ.dec r with
  | none => rfl
  | some l =>
    obtain ⟨x, hx, h1, h2, _⟩ := parts_rec hP
    omega
end Go.Proofs.YtpmbebofinlmmaaGreatDoor
