/- Ranging over a map of pairs: what stays; sets of hits. -/
import Derived.Test.YtmdkjljcnegmeaaDoorPairsW
import Derived.Test.YtmdkjljcnegmeaaDoorHasW
namespace Go.Proofs.YtmdkjljcnegmeaaDoor
open Go.RowKit Go.Maps
set_option linter.unusedVariables false
section
variable {κ : Type} {P : Program} {k : TypeId} {K : KK P k κ} {w w' : World} {b r n cnt : Nat} {f : κ → Option Value} {left : κ → Bool}
theorem Ranging.kept {row : Option Nat} (h : Ranging w K b r n f left cnt) (hg : w.grownBy w' row) (hb : some b ≠ row) (hr : some r ≠ row) : Ranging w' K b r n f left cnt := by
  obtain ⟨D, l, h1, h2, h3⟩ := h
  exact ⟨D, l, h1.kept hg hb hr, h2, h3⟩
theorem Ranging.below (h : Ranging w K b r n f left cnt) (hb : Below w.heap.size w w') : Ranging w' K b r n f left cnt := h.kept (grown_of_below hb none) (by simp) (by simp)
theorem Ranging.left_eq (h : Ranging w K b r n f left cnt) : w.rangeLeft b r = cnt := by
  obtain ⟨D, l, h1, h2, h3⟩ := h
  exact h1.left_eq
theorem Ranging.lt (h : Ranging w K b r n f left cnt) : r < w.heap.size := by
  obtain ⟨D, l, h1, h2, h3⟩ := h
  exact h1.lt
theorem Ranging.cnt_le (h : Ranging w K b r n f left cnt) : cnt ≤ n := by
  obtain ⟨D, l, ⟨es, clock, since, seen, c0, _, _, hs, _, _, _, hc, _⟩, _, _⟩ := h
  rw [← hc]
  refine Nat.le_trans ?_ hs
  unfold leftOf
  exact Array.size_filter_le
end
noncomputable def hitF (T : Int → Prop) : Int → Option Value := fun x => open Classical in if T x then some (.bool true) else none
theorem hitF_set (T : Int → Prop) (x : Int) : setF (hitF T) x (.bool true) = hitF (fun y => y = x ∨ T y) := by
  funext y
  unfold setF hitF
  by_cases h : y = x
  · rw [if_pos h, if_pos (.inl h)]
  · rw [if_neg h]
    by_cases hT : T y
    · rw [if_pos hT, if_pos (.inr hT)]
    · rw [if_neg hT, if_neg (by rintro (e | e); exact h e; exact hT e)]
/-- The hits of the pairs that have come. -/
def hitT (S : Int × Int → Prop) (rs : List Rg) (left : PK → Bool) (k : Int) : Prop := ∃ p : PK, S p.1 ∧ left p = false ∧ hasB rs p.1.1 = true ∧ p.1.2 = k
theorem hitT_has {S : Int × Int → Prop} {rs : List Rg} {left : PK → Bool} {x : PK} (hS : S x.1) (hl : left x = true) (hh : hasB rs x.1.1 = true) : hitT S rs (fun y => left y && !decide (y = x)) = fun k => k = x.1.2 ∨ hitT S rs left k := by
  funext k
  apply propext
  unfold hitT
  constructor
  · rintro ⟨p, h1, h2, h3, h4⟩
    by_cases e : p = x
    · subst e
      exact .inl h4.symm
    · simp only [e, decide_false, Bool.not_false, Bool.and_true] at h2
      exact .inr ⟨p, h1, h2, h3, h4⟩
  · rintro (h | ⟨p, h1, h2, h3, h4⟩)
    · exact ⟨x, hS, by simp, hh, h.symm⟩
    · exact ⟨p, h1, by show (left p && _) = false; rw [h2]; rfl, h3, h4⟩
theorem hitT_not {S : Int × Int → Prop} {rs : List Rg} {left : PK → Bool} {x : PK} (hh : hasB rs x.1.1 = false) : hitT S rs (fun y => left y && !decide (y = x)) = hitT S rs left := by
  funext k
  apply propext
  unfold hitT
  constructor
  · rintro ⟨p, h1, h2, h3, h4⟩
    by_cases e : p = x
    · subst e
      rw [hh] at h3
      cases h3
    · simp only [e, decide_false, Bool.not_false, Bool.and_true] at h2
      exact ⟨p, h1, h2, h3, h4⟩
  · rintro ⟨p, h1, h2, h3, h4⟩
    exact ⟨p, h1, by show (left p && _) = false; rw [h2]; rfl, h3, h4⟩
/-- The singles of the pairs that have come. -/
def oneT (S : Int × Int → Prop) (T : Int → Prop) (left : PK → Bool) (x : Rg) : Prop := ∃ p : PK, S p.1 ∧ left p = false ∧ T p.1.2 ∧ x = ⟨p.1.1, p.1.1⟩
theorem oneT_has {S : Int × Int → Prop} {T : Int → Prop} {left : PK → Bool} {x : PK} (hS : S x.1) (hT : T x.1.2) (y : Rg) : oneT S T (fun y => left y && !decide (y = x)) y ↔ oneT S T left y ∨ y = ⟨x.1.1, x.1.1⟩ := by
  unfold oneT
  constructor
  · rintro ⟨p, h1, h2, h3, h4⟩
    by_cases e : p = x
    · subst e
      exact .inr h4
    · simp only [e, decide_false, Bool.not_false, Bool.and_true] at h2
      exact .inl ⟨p, h1, h2, h3, h4⟩
  · rintro (⟨p, h1, h2, h3, h4⟩ | h)
    · exact ⟨p, h1, by show (left p && _) = false; rw [h2]; rfl, h3, h4⟩
    · exact ⟨x, hS, by simp, hT, h⟩
theorem oneT_not {S : Int × Int → Prop} {T : Int → Prop} {left : PK → Bool} {x : PK} (hT : ¬ T x.1.2) (y : Rg) : oneT S T (fun y => left y && !decide (y = x)) y ↔ oneT S T left y := by
  unfold oneT
  constructor
  · rintro ⟨p, h1, h2, h3, h4⟩
    by_cases e : p = x
    · subst e
      exact absurd h3 hT
    · simp only [e, decide_false, Bool.not_false, Bool.and_true] at h2
      exact ⟨p, h1, h2, h3, h4⟩
  · rintro ⟨p, h1, h2, h3, h4⟩
    exact ⟨p, h1, by show (left p && _) = false; rw [h2]; rfl, h3, h4⟩
theorem own_fresh0 (w : World) (e : TypeId) (k : Nat) : (w.alloc (.cells #[] e)).ownsRow w.heap.size e k (.slice (some ⟨w.heap.size, 0, none⟩) 0 0) 0 [] :=
  ⟨by simp, .inr ⟨w.heap.size, 0, #[], rfl, Nat.le_refl _, row_new _ _, Nat.le_refl _, by unfold maxLen; omega, by simp, by simp⟩⟩
end Go.Proofs.YtmdkjljcnegmeaaDoor
