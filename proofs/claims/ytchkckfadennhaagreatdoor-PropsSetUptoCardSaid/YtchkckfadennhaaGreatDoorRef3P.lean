/- rubricatorref03: what its sets come to. No code is walked here. -/
import Derived.Test.YtchkckfadennhaaGreatDoorSetP
import Derived.Test.YtchkckfadennhaaGreatDoorClo
namespace Go.Proofs.YtchkckfadennhaaGreatDoor
open Go.RowKit
set_option linter.unusedVariables false
set_option linter.unusedSimpArgs false

def joinEq (out : List Rg) (lo hi : Int) : List Rg := match out.getLast? with
  | some x => if x.hi = lo - 1 then out.dropLast ++ [⟨x.lo, hi⟩] else out ++ [⟨lo, hi⟩]
  | none => [⟨lo, hi⟩]
def hiOf : List Int → Int
  | [] => 1114111
  | x :: _ => x - 1
def bothGo (P : Int → Bool) : List Rg → List Int → List Rg
  | out, [] => out
  | out, lo :: rest => bothGo P (if P lo then joinEq out lo (hiOf rest) else out) rest
theorem joinEq_len (out : List Rg) (lo hi : Int) : (joinEq out lo hi).length ≤ out.length + 1 := by
  unfold joinEq
  split
  · split
    · simp
    · simp
  · simp
theorem joinEq_join {out : List Rg} {lo hi : Int} (hlt : ∀ x ∈ out, x.hi < lo) (h : lo ≤ hi) : joinEq out lo hi = joinRg out ⟨lo, hi⟩ := by
  unfold joinEq joinRg
  cases hl : out.getLast? with
  | none =>
    rw [List.getLast?_eq_none_iff.1 hl]
  | some x =>
    have hx := hlt x (List.mem_of_getLast? hl)
    simp only
    by_cases e : x.hi = lo - 1
    · rw [if_pos e, if_pos (by omega)]
      have : max x.hi hi = hi := by omega
      rw [this]
    · rw [if_neg e, if_neg (by omega)]
theorem bothGo_set (P : Int → Bool) : ∀ (rest : List Int) (lo : Int) (out : List Rg), (lo :: rest).Pairwise (· < ·) → (∀ x ∈ lo :: rest, x ≤ 1114111) → 0 ≤ lo →
    CanL out → (∀ x ∈ out, x.hi < lo) → (∀ r, inSet out r ↔ (0 ≤ r ∧ r < lo) ∧ P r = true) → (∀ r, lo < r → r ≤ 1114111 → r ∉ rest → P r = P (r - 1)) →
    CanL (bothGo P out (lo :: rest)) ∧ ∀ r, inSet (bothGo P out (lo :: rest)) r ↔ (0 ≤ r ∧ r ≤ 1114111) ∧ P r = true := by
  intro rest
  induction rest with
  | nil =>
    intro lo out hp hm h0 hc hlt hset hcon
    have hlo := hm lo List.mem_cons_self
    have hseg : ∀ n : Nat, lo + n ≤ 1114111 → P (lo + n) = P lo := by
      intro n
      induction n with
      | zero => intro _; rw [show lo + ((0 : Nat) : Int) = lo by omega]
      | succ n ih =>
        intro h
        rw [hcon (lo + ((n + 1 : Nat) : Int)) (by omega) h (by simp), show lo + ((n + 1 : Nat) : Int) - 1 = lo + (n : Int) by omega]
        exact ih (by omega)
    have hseg' : ∀ r, lo ≤ r → r ≤ 1114111 → P r = P lo := fun r h1 h2 => by
      have := hseg (r - lo).toNat (by omega)
      rw [show lo + ((r - lo).toNat : Int) = r by omega] at this
      exact this
    have e : bothGo P out [lo] = if P lo then joinEq out lo 1114111 else out := rfl
    rw [e]
    cases hP : P lo with
    | true =>
      rw [if_pos rfl, joinEq_join hlt hlo]
      obtain ⟨c1, c2⟩ := joinRg_can (y := ⟨lo, 1114111⟩) hc (fun x hx => by have := hlt x hx; have := hc.2 x hx; show x.lo ≤ lo; omega) hlo
      refine ⟨c1, fun r => ?_⟩
      rw [c2 r, hset r]
      show _ ∨ (lo ≤ r ∧ r ≤ 1114111) ↔ _
      constructor
      · rintro (⟨h1, h2⟩ | ⟨h1, h2⟩)
        · exact ⟨by omega, h2⟩
        · exact ⟨by omega, by rw [hseg' r h1 h2]; exact hP⟩
      · rintro ⟨h1, h2⟩
        by_cases h3 : lo ≤ r
        · exact .inr ⟨h3, h1.2⟩
        · exact .inl ⟨by omega, h2⟩
    | false =>
      rw [if_neg (by decide)]
      refine ⟨hc, fun r => ?_⟩
      rw [hset r]
      constructor
      · rintro ⟨h1, h2⟩
        exact ⟨by omega, h2⟩
      · rintro ⟨h1, h2⟩
        by_cases h3 : lo ≤ r
        · rw [hseg' r h3 h1.2, hP] at h2
          cases h2
        · exact ⟨by omega, h2⟩
  | cons x rest ih =>
    intro lo out hp hm h0 hc hlt hset hcon
    have hp' := List.pairwise_cons.1 hp
    have hp2 := List.pairwise_cons.1 hp'.2
    have hlx := hp'.1 x List.mem_cons_self
    have hxm := hm x (by simp)
    have hnr : ∀ r, r < x → r ∉ x :: rest := by
      intro r hr hmem
      rcases List.mem_cons.1 hmem with rfl | hmem
      · omega
      · have := hp2.1 r hmem
        omega
    have hseg : ∀ n : Nat, lo + n < x → P (lo + n) = P lo := by
      intro n
      induction n with
      | zero => intro _; rw [show lo + ((0 : Nat) : Int) = lo by omega]
      | succ n ih =>
        intro h
        rw [hcon (lo + ((n + 1 : Nat) : Int)) (by omega) (by omega) (hnr _ h), show lo + ((n + 1 : Nat) : Int) - 1 = lo + (n : Int) by omega]
        exact ih (by omega)
    have hseg' : ∀ r, lo ≤ r → r < x → P r = P lo := fun r h1 h2 => by
      have := hseg (r - lo).toNat (by omega)
      rw [show lo + ((r - lo).toNat : Int) = r by omega] at this
      exact this
    have hcon2 : ∀ r, x < r → r ≤ 1114111 → r ∉ rest → P r = P (r - 1) := fun r h1 h2 h3 => hcon r (by omega) h2 (by
      intro hmem
      rcases List.mem_cons.1 hmem with rfl | hmem
      · omega
      · exact h3 hmem)
    have e : bothGo P out (lo :: x :: rest) = bothGo P (if P lo then joinEq out lo (x - 1) else out) (x :: rest) := rfl
    rw [e]
    cases hP : P lo with
    | true =>
      rw [if_pos rfl, joinEq_join hlt (by omega)]
      obtain ⟨c1, c2⟩ := joinRg_can (y := ⟨lo, x - 1⟩) hc (fun y hy => by have := hlt y hy; have := hc.2 y hy; show y.lo ≤ lo; omega) (show lo ≤ x - 1 by omega)
      have hs2 : ∀ r, inSet (joinRg out ⟨lo, x - 1⟩) r ↔ (0 ≤ r ∧ r < x) ∧ P r = true := fun r => by
        rw [c2 r, hset r]
        show _ ∨ (lo ≤ r ∧ r ≤ x - 1) ↔ _
        constructor
        · rintro (⟨h1, h2⟩ | ⟨h1, h2⟩)
          · exact ⟨by omega, h2⟩
          · exact ⟨by omega, by rw [hseg' r h1 (by omega)]; exact hP⟩
        · rintro ⟨h1, h2⟩
          by_cases h3 : lo ≤ r
          · exact .inr ⟨h3, by omega⟩
          · exact .inl ⟨by omega, h2⟩
      refine ih x _ hp'.2 (fun y hy => hm y (List.mem_cons_of_mem _ hy)) (by omega) c1 ?_ hs2 hcon2
      intro y hy
      have hle := c1.2 y hy
      have := (hs2 y.hi).1 ⟨y, hy, hle, Int.le_refl _⟩
      omega
    | false =>
      rw [if_neg (by decide)]
      refine ih x _ hp'.2 (fun y hy => hm y (List.mem_cons_of_mem _ hy)) (by omega) hc (fun y hy => by have := hlt y hy; omega) (fun r => ?_) hcon2
      rw [hset r]
      constructor
      · rintro ⟨h1, h2⟩
        exact ⟨by omega, h2⟩
      · rintro ⟨h1, h2⟩
        by_cases h3 : lo ≤ r
        · rw [hseg' r h3 h1.2, hP] at h2
          cases h2
        · exact ⟨by omega, h2⟩
/-- The places at which lists may change. -/
def edgePts (rs : List Rg) : List Int := rs.flatMap fun x => (if 0 < x.lo ∧ x.lo ≤ 1114111 then [x.lo] else []) ++ (if 0 ≤ x.hi ∧ x.hi < 1114111 then [x.hi + 1] else [])
theorem edgePts_snoc (rs : List Rg) (x : Rg) : edgePts (rs ++ [x]) = edgePts rs ++ ((if 0 < x.lo ∧ x.lo ≤ 1114111 then [x.lo] else []) ++ (if 0 ≤ x.hi ∧ x.hi < 1114111 then [x.hi + 1] else [])) := by
  unfold edgePts
  rw [List.flatMap_append]
  simp
theorem edgePts_in (rs : List Rg) : ∀ r ∈ edgePts rs, 0 < r ∧ r ≤ 1114111 := by
  intro r hr
  obtain ⟨x, _, hx⟩ := List.mem_flatMap.1 hr
  rcases List.mem_append.1 hx with h | h
  · split at h
    · obtain rfl : r = x.lo := by simpa using h
      assumption
    · cases h
  · split at h
    · obtain rfl : r = x.hi + 1 := by simpa using h
      omega
    · cases h
theorem edgePts_len : ∀ (rs : List Rg), (edgePts rs).length ≤ 2 * rs.length
  | [] => Nat.le_refl _
  | x :: rs => by
    have := edgePts_len rs
    have e : edgePts (x :: rs) = ((if 0 < x.lo ∧ x.lo ≤ 1114111 then [x.lo] else []) ++ (if 0 ≤ x.hi ∧ x.hi < 1114111 then [x.hi + 1] else [])) ++ edgePts rs := rfl
    rw [e, List.length_append, List.length_append, List.length_cons]
    have h1 : (if 0 < x.lo ∧ x.lo ≤ 1114111 then [x.lo] else []).length ≤ 1 := by split <;> simp
    have h2 : (if 0 ≤ x.hi ∧ x.hi < 1114111 then [x.hi + 1] else []).length ≤ 1 := by split <;> simp
    omega
theorem hasB_step (rs : List Rg) (r : Int) (h0 : 0 < r) (h1 : r ≤ 1114111) (hr : r ∉ edgePts rs) : hasB rs r = hasB rs (r - 1) := by
  unfold hasB
  rw [decide_eq_true (show 0 ≤ r by omega), decide_eq_true h1, decide_eq_true (show 0 ≤ r - 1 by omega), decide_eq_true (show r - 1 ≤ 1114111 by omega)]
  congr 1
  rw [Bool.eq_iff_iff, List.any_eq_true, List.any_eq_true]
  have key : ∀ x ∈ rs, inRg r x = inRg (r - 1) x := by
    intro x hx
    have hn : ∀ y, y ∈ ((if 0 < x.lo ∧ x.lo ≤ 1114111 then [x.lo] else []) ++ (if 0 ≤ x.hi ∧ x.hi < 1114111 then [x.hi + 1] else [])) → y ≠ r := by
      rintro y hy rfl
      exact hr (List.mem_flatMap.2 ⟨x, hx, hy⟩)
    have a1 : x.lo ≠ r := by
      intro e
      refine hn x.lo (List.mem_append_left _ ?_) e
      rw [if_pos (by omega)]
      simp
    have a2 : x.hi + 1 ≠ r := by
      intro e
      refine hn (x.hi + 1) (List.mem_append_right _ ?_) e
      rw [if_pos (by omega)]
      simp
    unfold inRg
    congr 1
    · rw [decide_eq_decide]
      omega
    · rw [decide_eq_decide]
      omega
  constructor
  · rintro ⟨x, hx, h⟩
    exact ⟨x, hx, by rw [← key x hx]; exact h⟩
  · rintro ⟨x, hx, h⟩
    exact ⟨x, hx, by rw [key x hx]; exact h⟩
def inK (kind : Int) (x y : Bool) : Bool := if kind = 0 then x || y else if kind = 1 then x && y else if kind = 2 then x && !y else x != y
/-- What both comes to: the one list of its set. -/
theorem both_set (a b : List Rg) (kind : Int) (l : List Int) (hl : l.Pairwise (· < ·)) (hm : ∀ x, x ∈ l ↔ x = 0 ∨ x ∈ edgePts (a ++ b)) :
    CanL (bothGo (fun r => inK kind (hasB a r) (hasB b r)) [] l) ∧ ∀ r, inSet (bothGo (fun r => inK kind (hasB a r) (hasB b r)) [] l) r ↔ (0 ≤ r ∧ r ≤ 1114111) ∧ inK kind (hasB a r) (hasB b r) = true := by
  have hin : ∀ x ∈ l, 0 ≤ x ∧ x ≤ 1114111 := by
    intro x hx
    rcases (hm x).1 hx with rfl | h
    · omega
    · have := edgePts_in _ x h
      omega
  cases l with
  | nil => exact absurd ((hm 0).2 (.inl rfl)) (by simp)
  | cons lo rest =>
    have hlo : lo = 0 := by
      have h1 := (hin lo List.mem_cons_self).1
      rcases List.mem_cons.1 ((hm 0).2 (.inl rfl)) with h | h
      · exact h.symm
      · have := (List.pairwise_cons.1 hl).1 0 h
        omega
    subst hlo
    refine bothGo_set _ rest 0 [] hl (fun x hx => (hin x hx).2) (Int.le_refl _) ⟨List.Pairwise.nil, fun x hx => by cases hx⟩ (fun x hx => by cases hx) (fun r => ⟨fun h => absurd h (inSet_nil r), fun h => by omega⟩) ?_
    intro r h1 h2 h3
    have hne : r ∉ edgePts (a ++ b) := fun h => by
      rcases List.mem_cons.1 ((hm r).2 (.inr h)) with h | h
      · omega
      · exact h3 h
    have e : edgePts (a ++ b) = edgePts a ++ edgePts b := by unfold edgePts; rw [List.flatMap_append]
    rw [e] at hne
    try simp only
    rw [hasB_step a r h1 h2 (fun h => hne (List.mem_append_left _ h)), hasB_step b r h1 h2 (fun h => hne (List.mem_append_right _ h))]
/-! ### sorting by insertion -/
theorem take_sorted {ys : List Int} (hs : ys.Pairwise (· ≤ ·)) {j : Nat} (hj : j ≤ ys.length) {x : Int} (h1 : ∀ h : 0 < j, ys[j - 1]'(by omega) ≤ x) (h2 : ∀ y ∈ ys.drop j, x < y) : (ys.take j ++ x :: ys.drop j).Pairwise (· ≤ ·) := by
  have hs' := hs
  rw [← List.take_append_drop j ys, List.pairwise_append] at hs'
  obtain ⟨p1, p2, p3⟩ := hs'
  have hx : ∀ a ∈ ys.take j, a ≤ x := by
    intro a ha
    by_cases h0 : 0 < j
    · obtain ⟨i, hi, rfl⟩ := List.getElem_of_mem ha
      have hi' : i < j := by rw [List.length_take] at hi; omega
      rw [List.getElem_take]
      have := h1 h0
      by_cases e : i = j - 1
      · subst e
        exact this
      · have := List.pairwise_iff_getElem.1 hs i (j - 1) (by omega) (by omega) (by omega)
        omega
    · have : j = 0 := by omega
      subst this
      simp at ha
  rw [List.pairwise_append, List.pairwise_cons]
  refine ⟨p1, ⟨fun y hy => by have := h2 y hy; omega, p2⟩, fun a ha b hb => ?_⟩
  have := hx a ha
  rcases List.mem_cons.1 hb with rfl | hb
  · exact this
  · have := h2 b hb
    omega
theorem take_mem {ys : List Int} {j : Nat} {x : Int} (z : Int) : z ∈ ys.take j ++ x :: ys.drop j ↔ z = x ∨ z ∈ ys := by
  conv => rhs; rw [← List.take_append_drop j ys]
  simp only [List.mem_append, List.mem_cons]
  constructor
  · rintro (h | h | h)
    · exact .inr (.inl h)
    · exact .inl h
    · exact .inr (.inr h)
  · rintro (h | h | h)
    · exact .inr (.inl h)
    · exact .inl h
    · exact .inr (.inr h)
end Go.Proofs.YtchkckfadennhaaGreatDoor
