/- fold.Closure as a set. No code is walked here. -/
import Derived.Test.YtchkckfadennhaaGreatDoorClo
import Derived.Test.YtchkckfadennhaaGreatDoorSetP
import Derived.Test.YtchkckfadennhaaGreatDoorFoldB
namespace Go.Proofs.YtchkckfadennhaaGreatDoor
open Go.RowKit
set_option linter.unusedVariables false

/-- What the closure's proofs ask of the foldings: what is folded to is folded no further; all stays in range. -/
structure Settled (Φ : Files) : Prop where
  twice : ∀ r, simpleOf Φ (simpleOf Φ r) = simpleOf Φ r
  wf : ∀ r : Int, (Lit.int .i64 r).wf = true → (Lit.int .i64 (simpleOf Φ r)).wf = true
/-- The code points that the pairs speak of. -/
def pairDom (Φ : Files) (r : Int) : Prop := ∃ p : PK, pairsIn Φ Φ.fol p.1 ∧ p.1.1 = r
theorem pairs_fun {Φ : Files} (hS : Settled Φ) {p : Int × Int} (h : pairsIn Φ Φ.fol p) : p.2 = simpleOf Φ p.1 := by
  obtain ⟨x, hx, r, h1, h2, h3⟩ := h
  rcases h3 with h | h
  · rw [h]
  · rw [h]
    exact (hS.twice r).symm
theorem allHits_iff {Φ : Files} (hS : Settled Φ) (rs : List Rg) (k : Int) : allHits Φ rs k ↔ ∃ r, pairDom Φ r ∧ hasB rs r = true ∧ simpleOf Φ r = k := by
  unfold allHits pairDom
  constructor
  · rintro ⟨p, h1, h2, h3⟩
    exact ⟨p.1.1, ⟨p, h1, rfl⟩, h2, by rw [← pairs_fun hS h1]; exact h3⟩
  · rintro ⟨r, ⟨p, h1, rfl⟩, h2, h3⟩
    exact ⟨p, h1, h2, by rw [pairs_fun hS h1]; exact h3⟩
/-- The closure as a set. -/
def cloSet (Φ : Files) (rs : List Rg) (r : Int) : Prop := (0 ≤ r ∧ r ≤ 1114111) ∧ (inSet rs r ∨ (pairDom Φ r ∧ allHits Φ rs (simpleOf Φ r)))
theorem closure_set2 {Φ : Files} (hS : Settled Φ) {rs : List Rg} {w w' : World} {e : Ending} (h : ClosureSaid Φ rs w e w') : ∃ v L, e = .returned v ∧ RgsAt w' w.heap.size v L ∧ CanL L ∧ (∀ r, inSet L r ↔ cloSet Φ rs r) ∧ Below w.heap.size w w' ∧ L.length ≤ rs.length + 200000 := by
  obtain ⟨v, M, s, he, hp, hs, hr, hM, hb, hMl⟩ := h
  obtain ⟨h1, h2⟩ := make_set hp hs
  have hlen : (joinAll s).length ≤ rs.length + 200000 := by
    have q1 := joinAll_len s
    have q2 := clipped_len (rs ++ M)
    rw [List.length_append] at q2
    have q3 := hp.length_eq
    omega
  refine ⟨v, joinAll s, he, hr, h1, fun r => ?_, hb, hlen⟩
  rw [h2 r, inSet_append]
  unfold cloSet
  have hm : inSet M r ↔ pairDom Φ r ∧ allHits Φ rs (simpleOf Φ r) := by
    constructor
    · rintro ⟨x, hx, q1, q2⟩
      obtain ⟨p, p1, p2, rfl⟩ := (hM x).1 hx
      have q1' : p.1.1 ≤ r := q1
      have q2' : r ≤ p.1.1 := q2
      have e : p.1.1 = r := by omega
      exact ⟨⟨p, p1, e⟩, by rw [← e, ← pairs_fun hS p1]; exact p2⟩
    · rintro ⟨⟨p, p1, rfl⟩, h⟩
      exact ⟨⟨p.1.1, p.1.1⟩, (hM _).2 ⟨p, p1, by rw [pairs_fun hS p1]; exact h, rfl⟩, Int.le_refl _, Int.le_refl _⟩
  rw [hm]
theorem closure_set {Φ : Files} (hS : Settled Φ) {rs : List Rg} {w w' : World} {e : Ending} (h : ClosureSaid Φ rs w e w') : ∃ v L, e = .returned v ∧ RgsAt w' w.heap.size v L ∧ CanL L ∧ (∀ r, inSet L r ↔ cloSet Φ rs r) ∧ Below w.heap.size w w' := by
  obtain ⟨v, L, h1, h2, h3, h4, h5, _⟩ := closure_set2 hS h
  exact ⟨v, L, h1, h2, h3, h4, h5⟩
theorem hasB_iff (rs : List Rg) (r : Int) : hasB rs r = true ↔ (0 ≤ r ∧ r ≤ 1114111) ∧ inSet rs r := by
  unfold hasB inSet inRg
  simp [List.any_eq_true]
/-- Its own closure is it. -/
theorem clo_twice {Φ : Files} (hS : Settled Φ) {rs L : List Rg} (hL : ∀ r, inSet L r ↔ cloSet Φ rs r) (r : Int) : cloSet Φ L r ↔ inSet L r := by
  constructor
  · rintro ⟨h0, h | ⟨h1, h2⟩⟩
    · exact h
    · rw [hL r]
      refine ⟨h0, .inr ⟨h1, ?_⟩⟩
      obtain ⟨q, q1, q2, q3⟩ := (allHits_iff hS L _).1 h2
      obtain ⟨q4, q5⟩ := (hasB_iff L q).1 q2
      rcases ((hL q).1 q5).2 with h | ⟨_, h⟩
      · exact (allHits_iff hS rs _).2 ⟨q, q1, (hasB_iff rs q).2 ⟨q4, h⟩, q3⟩
      · rw [← q3]
        exact h
  · intro h
    exact ⟨((hL r).1 h).1, .inl h⟩
theorem clo_has {Φ : Files} {rs L : List Rg} (hL : ∀ r, inSet L r ↔ cloSet Φ rs r) (r : Int) (h0 : 0 ≤ r ∧ r ≤ 1114111) (h : inSet rs r) : inSet L r := (hL r).2 ⟨h0, .inl h⟩
/-- A code point that folds to another one is one that the pairs speak of, and so is that other one. -/
theorem dom_of_moves {Φ : Files} (hS : Settled Φ) (r : Int) (hr : (Lit.int .i64 r).wf = true) (h : simpleOf Φ r ≠ r) : pairDom Φ r ∧ pairDom Φ (simpleOf Φ r) := by
  have key : ∃ q : Nat, r = q ∧ ∃ x ∈ Φ.fol, x.lo ≤ q ∧ q ≤ x.hi := by
    cases hF : foldsOf false Φ.fol r with
    | none =>
      exfalso
      apply h
      unfold simpleOf foldz
      rw [hF]
      rfl
    | some l =>
      obtain ⟨x, hx, _, q1, q2, _⟩ := foldsOf_some false Φ.fol Φ.fol (fun _ => none) (fun _ h => h) (fun _ _ h => by cases h) r l hF
      exact ⟨r.toNat, by omega, x, hx, by omega, by omega⟩
  obtain ⟨q, rfl, x, hx, h1, h2⟩ := key
  have hw := hS.wf _ hr
  exact ⟨⟨⟨((q : Int), simpleOf Φ q), hr, hw⟩, ⟨x, hx, q, h1, by omega, .inl rfl⟩, rfl⟩, ⟨⟨(simpleOf Φ q, simpleOf Φ q), hw, hw⟩, ⟨x, hx, q, h1, by omega, .inr rfl⟩, rfl⟩⟩
/-- Two code points fold the same where one is in the other one's closure. -/
theorem clo_meets {Φ : Files} (hS : Settled Φ) (a b : Int) (ha : 0 ≤ a ∧ a ≤ 1114111) (hb : 0 ≤ b ∧ b ≤ 1114111) : cloSet Φ [⟨a, a⟩] b ↔ simpleOf Φ a = simpleOf Φ b := by
  have wa : (Lit.int .i64 a).wf = true := wf_i64 (by omega) (by omega)
  have wb : (Lit.int .i64 b).wf = true := wf_i64 (by omega) (by omega)
  have h1 : ∀ r, inSet [⟨a, a⟩] r ↔ r = a := fun r => by
    rw [inSet_one]
    show a ≤ r ∧ r ≤ a ↔ r = a
    omega
  have hh : ∀ k, allHits Φ [⟨a, a⟩] k ↔ pairDom Φ a ∧ simpleOf Φ a = k := by
    intro k
    rw [allHits_iff hS]
    constructor
    · rintro ⟨r, q1, q2, q3⟩
      have := (h1 r).1 ((hasB_iff _ r).1 q2).2
      subst this
      exact ⟨q1, q3⟩
    · rintro ⟨q1, q3⟩
      exact ⟨a, q1, (hasB_iff _ a).2 ⟨ha, (h1 a).2 rfl⟩, q3⟩
  unfold cloSet
  rw [h1, hh]
  constructor
  · rintro ⟨_, rfl | ⟨_, _, h⟩⟩
    · rfl
    · exact h
  · intro h
    refine ⟨hb, ?_⟩
    by_cases e : b = a
    · exact .inl e
    · right
      by_cases hma : simpleOf Φ a = a
      · by_cases hmb : simpleOf Φ b = b
        · exact absurd (by rw [← hmb, ← h, hma]) e
        · obtain ⟨d1, d2⟩ := dom_of_moves hS b wb hmb
          rw [← h, hma] at d2
          exact ⟨d1, d2, h⟩
      · obtain ⟨d1, d2⟩ := dom_of_moves hS a wa hma
        by_cases hmb : simpleOf Φ b = b
        · rw [h, hmb] at d2
          exact ⟨d2, d1, h⟩
        · exact ⟨(dom_of_moves hS b wb hmb).1, d1, h⟩
theorem files_settled : Settled files := ⟨simple_settles, simple_wf⟩
end Go.Proofs.YtchkckfadennhaaGreatDoor
