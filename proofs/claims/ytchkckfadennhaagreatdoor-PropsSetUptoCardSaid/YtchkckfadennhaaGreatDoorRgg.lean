/- Ranging over a map: what stays. No program stands here. -/
import Derived.Test.YtchkckfadennhaaGreatDoorBase
namespace Go.Proofs.YtchkckfadennhaaGreatDoor
open Go.RowKit Go.Maps
set_option linter.unusedVariables false
section
variable {κ : Type} {P : Program} {k : TypeId} {K : KK P k κ} {w w' : World} {b r n cnt : Nat} {f : κ → Option Value} {left : κ → Bool}
theorem Ranging.kept {row : Option Nat} (h : Ranging w K b r n f left cnt) (hg : w.grownBy w' row) (hb : some b ≠ row) (hr : some r ≠ row) : Ranging w' K b r n f left cnt := by
  obtain ⟨D, l, h1, h2, h3⟩ := h
  exact ⟨D, l, h1.kept hg hb hr, h2, h3⟩
theorem Ranging.below (h : Ranging w K b r n f left cnt) (hb : Below w.heap.size w w') : Ranging w' K b r n f left cnt := h.kept (grown_of_below hb none) (by simp) (by simp)
theorem Ranging.left_eq (h : Ranging w K b r n f left cnt) : w.rangeLeft b r = cnt := by
  obtain ⟨D, l, h1, h2, h3⟩ := h
  exact h1.left_eq
theorem Ranging.lt (h : Ranging w K b r n f left cnt) : r < w.heap.size := by
  obtain ⟨D, l, h1, h2, h3⟩ := h
  exact h1.lt
theorem Ranging.cnt_le (h : Ranging w K b r n f left cnt) : cnt ≤ n := by
  obtain ⟨D, l, ⟨es, clock, since, seen, c0, _, _, hs, _, _, _, hc, _⟩, _, _⟩ := h
  rw [← hc]
  refine Nat.le_trans ?_ hs
  unfold leftOf
  exact Array.size_filter_le
end
theorem Ranging.own_ne {κ : Type} {P : Program} {k : TypeId} {K : KK P k κ} {w : World} {b r n cnt base m size : Nat} {f : κ → Option Value} {left : κ → Bool} {e : TypeId} {v : Value} {xs : List Value} (h : Ranging w K b r n f left cnt) (ho : w.ownsRow base e size v m xs) : (v.ownBlock = none ∨ v.ownBlock ≠ some r) ∧ some r ≠ v.ownBlock ∧ some b ≠ v.ownBlock := by
  obtain ⟨D, l, ⟨es, clock, since, seen, c0, hb, _, _, _, hr, _⟩, _, _⟩ := h
  rcases ho.2 with ⟨rfl, _⟩ | ⟨g, cap, cur, rfl, _, hg, _⟩
  · exact ⟨.inl rfl, by simp [Value.ownBlock], by simp [Value.ownBlock]⟩
  · have h1 : g ≠ r := by
      rintro rfl
      rw [hr] at hg
      cases hg
    have h2 : g ≠ b := by
      rintro rfl
      rw [hb] at hg
      cases hg
    exact ⟨.inr (by simpa [Value.ownBlock] using h1), by simpa [Value.ownBlock] using Ne.symm h1, by simpa [Value.ownBlock] using Ne.symm h2⟩
end Go.Proofs.YtchkckfadennhaaGreatDoor
