/- Edges of clusters about a line end, about a mark, between flags. No code is walked here. -/
import Derived.Test.YtkgomgfhfoomhaaGreatDoorTxP
import Derived.Test.YtkgomgfhfoomhaaGreatDoorCluAw
namespace Go.Proofs.YtkgomgfhfoomhaaGreatDoor
open Go.RowKit
set_option linter.unusedVariables false
set_option linter.unusedSimpArgs false

theorem glued_lf : ∀ k, k ≤ 14 → gluedB k 2 = Nat.beq k 1 := by decide
theorem glued_from_lf : ∀ k, k ≤ 14 → gluedB 2 k = false := by decide
theorem glued_mark : ∀ k, k ≤ 14 → gluedB k 4 = false := by decide
/-- What the laws ask of the breaks. -/
def breaksB (rs : List Rec) : Bool := Nat.beq (kindN (firstOf rs 10 [])) 2 && Nat.beq (kindN (firstOf rs 13 [])) 1 && Nat.beq (kindN (firstOf rs 769 [])) 4 && Nat.beq (kindN (firstOf rs 127462 [])) 9 && rs.all fun x => !(Nat.beq (kindN (fld0 x)) 1) || (Nat.beq x.lo 13 && Nat.beq x.hi 13)
theorem clu_breaks : breaksB (recsOf Tryz.f47) = true := by kernel_rfl
structure Breaks (Φ : Files) : Prop where
  lf : kindN (cluOf Φ 10) = 2
  cr : ∀ r, kindN (cluOf Φ r) = 1 ↔ r = 13
  mark : kindN (cluOf Φ 769) = 4
  flag : kindN (cluOf Φ 127462) = 9
theorem cluOf_first {Φ : Files} (hok : FilesOk Φ) (r : Int) : cluOf Φ r = if 44032 ≤ r ∧ r ≤ 55203 then (if (r - 44032) % 28 = 0 then [76, 86] else [76, 86, 84]) else firstOf Φ.clu r [] := by
  unfold cluOf
  rw [txOf_first (listOk_hi hok.clu)]
theorem kindN_one {s : Sp.Str} : kindN s = 1 ↔ s = [67, 82] := by
  constructor
  · intro h
    unfold kindN at h
    by_cases hm : s ∈ kindNames
    · have hl := List.idxOf_lt_length_of_mem hm
      have hl' : kindNames.idxOf s < 14 := hl
      have h0 : kindNames.idxOf s = 0 := by omega
      have := List.getElem_idxOf (x := s) (xs := kindNames) hl
      rw [← this]
      simp only [h0]
      rfl
    · rw [List.idxOf_eq_length hm] at h
      exact absurd h (by decide)
  · rintro rfl
    rfl
theorem breaks_of {Φ : Files} (hok : FilesOk Φ) (h : breaksB Φ.clu = true) : Breaks Φ := by
  unfold breaksB at h
  simp only [Bool.and_eq_true, List.all_eq_true, Bool.or_eq_true, Bool.not_eq_true'] at h
  obtain ⟨⟨⟨⟨h1, h2⟩, h3⟩, h4⟩, h5⟩ := h
  have hsm : ∀ r : Int, ¬ (44032 ≤ r ∧ r ≤ 55203) → cluOf Φ r = firstOf Φ.clu r [] := fun r hr => by rw [cluOf_first hok, if_neg hr]
  refine ⟨?_, fun r => ⟨fun hr => ?_, ?_⟩, ?_, ?_⟩
  · rw [hsm 10 (by decide)]
    exact Nat.eq_of_beq_eq_true h1
  · have hs := kindN_one.1 hr
    rw [cluOf_first hok] at hs
    split at hs
    · split at hs
      · exact absurd hs (by decide)
      · exact absurd hs (by decide)
    · exact first_only (c := 13) (fun x hx hf => by
        rcases h5 x hx with hn | hn
        · rw [hf] at hn
          exact absurd hn (by decide)
        · exact ⟨Nat.eq_of_beq_eq_true hn.1, Nat.eq_of_beq_eq_true hn.2⟩) (by decide) r hs
  · rintro rfl
    rw [hsm 13 (by decide)]
    exact Nat.eq_of_beq_eq_true h2
  · rw [hsm 769 (by decide)]
    exact Nat.eq_of_beq_eq_true h3
  · rw [hsm 127462 (by decide)]
    exact Nat.eq_of_beq_eq_true h4
set_option maxRecDepth 100000 in
theorem files_breaks : Breaks files := breaks_of files_ok clu_breaks
theorem ofK_at (Φ : Files) (zs : List Int) (n : Nat) : ofK Φ zs n = kindN (cluOf Φ (zs.getD n 0)) := by
  unfold ofK
  rw [if_neg (by omega)]
  rfl
/-! ### a line end -/
theorem edge_ahead {Φ : Files} (hb : Breaks Φ) (a b : List Int) : edgeOf Φ (a ++ [10] ++ b) (a.length : Nat) = !(decide (0 < a.length) && (a.getD (a.length - 1) 0 == 13)) := by
  unfold edgeOf
  have hl : (a ++ [10] ++ b).length = a.length + 1 + b.length := by simp; omega
  rw [if_neg (by omega)]
  by_cases h0 : a.length = 0
  · rw [if_pos (by omega), decide_eq_false (by omega)]
    rfl
  · rw [if_neg (by omega), decide_eq_true (by omega)]
    have e1 : ofK Φ (a ++ [10] ++ b) ((a.length : Int)) = 2 := by
      rw [ofK_at]
      have : (a ++ [10] ++ b).getD a.length 0 = 10 := by simp
      rw [this]
      exact hb.lf
    have e2 : ofK Φ (a ++ [10] ++ b) ((a.length : Int) - 1) = kindN (cluOf Φ (a.getD (a.length - 1) 0)) := by
      rw [show (a.length : Int) - 1 = ((a.length - 1 : Nat) : Int) by omega, ofK_at]
      congr 2
      rw [List.getD_eq_getElem?_getD, List.getD_eq_getElem?_getD, List.append_assoc, List.getElem?_append_left (by omega)]
    rw [e1, e2]
    have hk := kindN_le (cluOf Φ (a.getD (a.length - 1) 0))
    have hc := hb.cr (a.getD (a.length - 1) 0)
    generalize a.getD (a.length - 1) 0 = z at *
    generalize kindN (cluOf Φ z) = k at *
    unfold edgeMid
    rw [glued_lf k hk]
    by_cases hz : z = 13
    · rw [hc.2 hz, hz]
      rfl
    · have hk1 : k ≠ 1 := fun h => hz (hc.1 h)
      have : Nat.beq k 1 = false := by cases h : Nat.beq k 1 with | false => rfl | true => exact absurd (Nat.eq_of_beq_eq_true h) hk1
      rw [this, if_neg (by decide), if_pos (.inr (by decide)), beq_eq_false_iff_ne.2 hz]
      rfl
theorem edge_behind {Φ : Files} (hb : Breaks Φ) (a b : List Int) : edgeOf Φ (a ++ [10] ++ b) ((a.length : Nat) + 1) = true := by
  unfold edgeOf
  have hl : (a ++ [10] ++ b).length = a.length + 1 + b.length := by simp; omega
  rw [if_neg (by omega)]
  by_cases h0 : b.length = 0
  · rw [if_pos (by omega)]
  · rw [if_neg (by omega)]
    have e1 : ofK Φ (a ++ [10] ++ b) ((a.length : Int) + 1 - 1) = 2 := by
      rw [show (a.length : Int) + 1 - 1 = ((a.length : Nat) : Int) by omega, ofK_at]
      have : (a ++ [10] ++ b).getD a.length 0 = 10 := by simp
      rw [this]
      exact hb.lf
    rw [e1]
    have hk := (show ofK Φ (a ++ [10] ++ b) ((a.length : Int) + 1) ≤ 14 from ofK_le _ _ _)
    generalize ofK Φ (a ++ [10] ++ b) ((a.length : Int) + 1) = k at *
    unfold edgeMid
    rw [glued_from_lf k hk, if_neg (by decide), if_pos (.inl (by decide))]
/-! ### a mark -/
def freeB (s : Sp.Str) : Bool := s == [67, 82] || s == [76, 70] || s == [67, 111, 110, 116, 114, 111, 108]
theorem free_kind (s : Sp.Str) : freeB s = decide (1 ≤ kindN s ∧ kindN s ≤ 3) := by
  unfold freeB
  by_cases h0 : s = [67, 82]
  · subst h0; rfl
  by_cases h1 : s = [76, 70]
  · subst h1; rfl
  by_cases h2 : s = [67, 111, 110, 116, 114, 111, 108]
  · subst h2; rfl
  rw [beq_eq_false_iff_ne.2 h0, beq_eq_false_iff_ne.2 h1, beq_eq_false_iff_ne.2 h2]
  symm
  rw [Bool.or_false, Bool.or_false, decide_eq_false_iff_not]
  rintro ⟨q1, q2⟩
  unfold kindN at q1 q2
  by_cases hm : s ∈ kindNames
  · have hl := List.idxOf_lt_length_of_mem hm
    have hl' : kindNames.idxOf s < 14 := hl
    have hg := List.getElem_idxOf (x := s) (xs := kindNames) hl
    have : kindNames.idxOf s = 0 ∨ kindNames.idxOf s = 1 ∨ kindNames.idxOf s = 2 := by omega
    rcases this with e | e | e
    · simp only [e] at hg
      exact h0 hg.symm
    · simp only [e] at hg
      exact h1 hg.symm
    · simp only [e] at hg
      exact h2 hg.symm
  · rw [List.idxOf_eq_length hm] at q1
    exact absurd q1 (by decide)
theorem edge_mark {Φ : Files} (hb : Breaks Φ) (a b : List Int) : edgeOf Φ (a ++ [769] ++ b) (a.length : Nat) = (decide (a.length = 0) || freeB (cluOf Φ (a.getD (a.length - 1) 0))) := by
  unfold edgeOf
  have hl : (a ++ [769] ++ b).length = a.length + 1 + b.length := by simp; omega
  rw [if_neg (by omega)]
  by_cases h0 : a.length = 0
  · rw [if_pos (by omega), decide_eq_true h0]
    rfl
  · rw [if_neg (by omega), decide_eq_false h0]
    have e1 : ofK Φ (a ++ [769] ++ b) ((a.length : Int)) = 4 := by
      rw [ofK_at]
      have : (a ++ [769] ++ b).getD a.length 0 = 769 := by simp
      rw [this]
      exact hb.mark
    have e2 : ofK Φ (a ++ [769] ++ b) ((a.length : Int) - 1) = kindN (cluOf Φ (a.getD (a.length - 1) 0)) := by
      rw [show (a.length : Int) - 1 = ((a.length - 1 : Nat) : Int) by omega, ofK_at]
      congr 2
      rw [List.getD_eq_getElem?_getD, List.getD_eq_getElem?_getD, List.append_assoc, List.getElem?_append_left (by omega)]
    rw [e1, e2, free_kind]
    have hk := kindN_le (cluOf Φ (a.getD (a.length - 1) 0))
    generalize kindN (cluOf Φ (a.getD (a.length - 1) 0)) = k at *
    unfold edgeMid
    rw [glued_mark k hk, if_neg (by decide)]
    by_cases h1 : 1 ≤ k ∧ k ≤ 3
    · rw [if_pos (.inl h1), decide_eq_true h1]
      rfl
    · rw [if_neg (by omega), if_pos (.inl rfl), decide_eq_false h1]
      rfl
/-! ### flags -/
theorem flags_all {K : Int → Nat} {n : Nat} (h : ∀ j : Int, 0 ≤ j → j < n → K j = 9) : ∀ p : Nat, p ≤ n → flagsAt K ((p : Int) - 1) = p
  | 0, _ => by
    unfold flagsAt
    rw [show ((((0 : Nat) : Int) - 1) + 1).toNat = 0 by decide]
    rfl
  | p + 1, hp => by
    rw [show (((p + 1 : Nat) : Int) - 1) = (p : Int) by omega, flagsAt_more (h p (by omega) (by omega)) (by omega), flags_all h p (by omega)]
    omega
theorem edge_flags {Φ : Files} (hb : Breaks Φ) (n p : Nat) (hp : p ≤ n) (hn : 0 < n) : edgeOf Φ (List.replicate n 127462) (p : Nat) = (p % 2 == 0 || p == n) := by
  unfold edgeOf
  rw [List.length_replicate, if_neg (by omega)]
  by_cases h0 : p = 0 ∨ p = n
  · rw [if_pos (by omega)]
    rcases h0 with rfl | rfl
    · rfl
    · simp
  · rw [if_neg (by omega)]
    have hk : ∀ j : Int, 0 ≤ j → j < n → ofK Φ (List.replicate n 127462) j = 9 := by
      intro j h1 h2
      obtain ⟨q, rfl⟩ := Int.eq_ofNat_of_zero_le h1
      rw [ofK_at]
      have : (List.replicate n (127462 : Int)).getD q 0 = 127462 := by
        rw [List.getD_eq_getElem?_getD, List.getElem?_replicate, if_pos (by omega)]
        rfl
      rw [this]
      exact hb.flag
    rw [hk _ (by omega) (by omega), hk _ (by omega) (by omega), flags_all hk p hp]
    have e : (p == n) = false := beq_eq_false_iff_ne.2 (by omega)
    rw [e, Bool.or_false]
    rfl
end Go.Proofs.YtkgomgfhfoomhaaGreatDoor
