/- Sets of ranges: what ranges.Make comes to is one list for one set. No code is walked here. -/
import Derived.Test.YtchkckfadennhaaGreatDoorRng
namespace Go.Proofs.YtchkckfadennhaaGreatDoor
open Go.RowKit
set_option linter.unusedVariables false

def inSet (l : List Rg) (r : Int) : Prop := ∃ x ∈ l, x.lo ≤ r ∧ r ≤ x.hi
def CanL (l : List Rg) : Prop := l.Pairwise (fun a b => a.hi + 1 < b.lo) ∧ ∀ x ∈ l, x.lo ≤ x.hi
theorem inSet_nil (r : Int) : ¬ inSet [] r := by rintro ⟨x, hx, _⟩; cases hx
theorem inSet_append (l m : List Rg) (r : Int) : inSet (l ++ m) r ↔ inSet l r ∨ inSet m r := by
  unfold inSet
  constructor
  · rintro ⟨x, hx, h⟩
    rcases List.mem_append.1 hx with hx | hx
    · exact .inl ⟨x, hx, h⟩
    · exact .inr ⟨x, hx, h⟩
  · rintro (⟨x, hx, h⟩ | ⟨x, hx, h⟩)
    · exact ⟨x, List.mem_append_left _ hx, h⟩
    · exact ⟨x, List.mem_append_right _ hx, h⟩
theorem inSet_one (a : Rg) (r : Int) : inSet [a] r ↔ a.lo ≤ r ∧ r ≤ a.hi := by
  unfold inSet
  constructor
  · rintro ⟨x, hx, h⟩
    obtain rfl : x = a := by simpa using hx
    exact h
  · intro h
    exact ⟨a, by simp, h⟩
theorem inSet_cons (a : Rg) (l : List Rg) (r : Int) : inSet (a :: l) r ↔ (a.lo ≤ r ∧ r ≤ a.hi) ∨ inSet l r := by
  have := inSet_append [a] l r
  rw [inSet_one] at this
  exact this
theorem CanL.tail {a : Rg} {l : List Rg} (h : CanL (a :: l)) : CanL l ∧ (∀ x ∈ l, a.hi + 1 < x.lo) ∧ a.lo ≤ a.hi := by
  obtain ⟨h1, h2⟩ := h
  rw [List.pairwise_cons] at h1
  exact ⟨⟨h1.2, fun x hx => h2 x (List.mem_cons_of_mem _ hx)⟩, h1.1, h2 a List.mem_cons_self⟩
theorem can_first {a : Rg} {l : List Rg} (h : CanL (a :: l)) {r : Int} (hr : inSet (a :: l) r) : a.lo ≤ r := by
  obtain ⟨_, h1, h2⟩ := h.tail
  rcases (inSet_cons a l r).1 hr with h | ⟨x, hx, h⟩
  · exact h.1
  · have := h1 x hx
    omega
theorem can_gap {a : Rg} {l : List Rg} (h : CanL (a :: l)) : ¬ inSet (a :: l) (a.hi + 1) := by
  obtain ⟨_, h1, h2⟩ := h.tail
  intro hr
  rcases (inSet_cons a l _).1 hr with h | ⟨x, hx, h⟩
  · omega
  · have := h1 x hx
    omega
theorem can_unique : ∀ {l m : List Rg}, CanL l → CanL m → (∀ r, inSet l r ↔ inSet m r) → l = m
  | [], [], _, _, _ => rfl
  | [], b :: m, _, hm, h => absurd ((h b.lo).2 ((inSet_cons b m _).2 (.inl ⟨Int.le_refl _, hm.tail.2.2⟩))) (inSet_nil _)
  | a :: l, [], hl, _, h => absurd ((h a.lo).1 ((inSet_cons a l _).2 (.inl ⟨Int.le_refl _, hl.tail.2.2⟩))) (inSet_nil _)
  | a :: l, b :: m, hl, hm, h => by
    obtain ⟨hl1, hl2, hl3⟩ := hl.tail
    obtain ⟨hm1, hm2, hm3⟩ := hm.tail
    have e1 : a.lo = b.lo := by
      have p := can_first hm ((h a.lo).1 ((inSet_cons a l _).2 (.inl ⟨Int.le_refl _, hl3⟩)))
      have q := can_first hl ((h b.lo).2 ((inSet_cons b m _).2 (.inl ⟨Int.le_refl _, hm3⟩)))
      omega
    have e2 : a.hi = b.hi := by
      rcases Int.lt_trichotomy a.hi b.hi with c | c | c
      · exact absurd ((h _).2 ((inSet_cons b m _).2 (.inl ⟨by omega, by omega⟩))) (can_gap hl)
      · exact c
      · exact absurd ((h _).1 ((inSet_cons a l _).2 (.inl ⟨by omega, by omega⟩))) (can_gap hm)
    have e : a = b := by cases a; cases b; simp_all
    subst e
    rw [can_unique hl1 hm1 fun r => ?_]
    constructor
    · rintro ⟨x, hx, hr⟩
      have hg := hl2 x hx
      rcases (inSet_cons a m r).1 ((h r).1 ((inSet_cons a l r).2 (.inr ⟨x, hx, hr⟩))) with c | c
      · omega
      · exact c
    · rintro ⟨x, hx, hr⟩
      have hg := hm2 x hx
      rcases (inSet_cons a l r).1 ((h r).2 ((inSet_cons a m r).2 (.inr ⟨x, hx, hr⟩))) with c | c
      · omega
      · exact c
theorem joinRg_can {out : List Rg} {y : Rg} (hc : CanL out) (hlo : ∀ x ∈ out, x.lo ≤ y.lo) (hy : y.lo ≤ y.hi) : CanL (joinRg out y) ∧ ∀ r, inSet (joinRg out y) r ↔ inSet out r ∨ (y.lo ≤ r ∧ r ≤ y.hi) := by
  rcases List.eq_nil_or_concat out with rfl | ⟨o, l, rfl⟩
  · have e : joinRg [] y = [y] := rfl
    rw [e]
    refine ⟨⟨List.pairwise_singleton _ _, fun x hx => (List.mem_singleton.1 hx) ▸ hy⟩, fun r => ?_⟩
    rw [inSet_one]
    exact ⟨.inr, fun h => h.resolve_left (inSet_nil r)⟩
  · simp only [List.concat_eq_append] at *
    obtain ⟨h1, h2⟩ := hc
    rw [List.pairwise_append] at h1
    obtain ⟨p1, _, p3⟩ := h1
    have hll := h2 l (by simp)
    have hly := hlo l (by simp)
    have e : joinRg (o ++ [l]) y = if y.lo ≤ l.hi + 1 then o ++ [⟨l.lo, max l.hi y.hi⟩] else o ++ [l] ++ [y] := by
      unfold joinRg
      rw [List.getLast?_concat, List.dropLast_concat]
    rw [e]
    by_cases c : y.lo ≤ l.hi + 1
    · rw [if_pos c]
      refine ⟨⟨?_, ?_⟩, fun r => ?_⟩
      · rw [List.pairwise_append]
        refine ⟨p1, List.pairwise_singleton _ _, fun a ha b hb => ?_⟩
        obtain rfl : b = ⟨l.lo, max l.hi y.hi⟩ := by simpa using hb
        exact p3 a ha l (by simp)
      · intro x hx
        rcases List.mem_append.1 hx with hx | hx
        · exact h2 x (List.mem_append_left _ hx)
        · obtain rfl : x = ⟨l.lo, max l.hi y.hi⟩ := by simpa using hx
          show l.lo ≤ max l.hi y.hi
          omega
      · rw [inSet_append, inSet_append, inSet_one, inSet_one]
        constructor
        · rintro (h | h)
          · exact .inl (.inl h)
          · have h' : l.lo ≤ r ∧ r ≤ max l.hi y.hi := h
            by_cases d : r ≤ l.hi
            · exact .inl (.inr ⟨h'.1, d⟩)
            · exact .inr (by omega)
        · rintro ((h | h) | h)
          · exact .inl h
          · exact .inr (by show l.lo ≤ r ∧ r ≤ max l.hi y.hi; omega)
          · exact .inr (by show l.lo ≤ r ∧ r ≤ max l.hi y.hi; omega)
    · rw [if_neg c]
      refine ⟨⟨?_, ?_⟩, fun r => ?_⟩
      · rw [List.pairwise_append, List.pairwise_append]
        refine ⟨⟨p1, List.pairwise_singleton _ _, p3⟩, List.pairwise_singleton _ _, fun a ha b hb => ?_⟩
        obtain rfl : b = y := by simpa using hb
        rcases List.mem_append.1 ha with ha | ha
        · have := p3 a ha l (by simp)
          omega
        · obtain rfl : a = l := by simpa using ha
          omega
      · intro x hx
        rcases List.mem_append.1 hx with hx | hx
        · exact h2 x hx
        · obtain rfl : x = y := by simpa using hx
          exact hy
      · rw [inSet_append, inSet_one]
theorem joinAll_can : ∀ (s out : List Rg), CanL out → (∀ x ∈ out, ∀ y ∈ s, x.lo ≤ y.lo) → s.Pairwise (fun a b => a.lo ≤ b.lo) → (∀ y ∈ s, y.lo ≤ y.hi) → CanL (s.foldl joinRg out) ∧ ∀ r, inSet (s.foldl joinRg out) r ↔ inSet out r ∨ inSet s r
  | [], out, hc, _, _, _ => ⟨hc, fun r => ⟨.inl, fun h => h.resolve_right (inSet_nil r)⟩⟩
  | y :: s, out, hc, hlo, hs, hy => by
    rw [List.pairwise_cons] at hs
    obtain ⟨c1, c2⟩ := joinRg_can hc (fun x hx => hlo x hx y List.mem_cons_self) (hy y List.mem_cons_self)
    have hlo2 : ∀ x ∈ joinRg out y, ∀ z ∈ s, x.lo ≤ z.lo := by
      intro x hx z hz
      have hxs : inSet (joinRg out y) x.lo := ⟨x, hx, Int.le_refl _, c1.2 x hx⟩
      have hyz := hs.1 z hz
      have key : ∀ x ∈ joinRg out y, x.lo = y.lo ∨ ∃ u ∈ out, x.lo = u.lo := by
        intro x hx
        unfold joinRg at hx
        split at hx
        · rename_i l hl
          split at hx
          · rcases List.mem_append.1 hx with hx | hx
            · exact .inr ⟨x, (List.dropLast_sublist out).subset hx, rfl⟩
            · obtain rfl : x = ⟨l.lo, max l.hi y.hi⟩ := by simpa using hx
              exact .inr ⟨l, List.mem_of_getLast? hl, rfl⟩
          · rcases List.mem_append.1 hx with hx | hx
            · exact .inr ⟨x, hx, rfl⟩
            · obtain rfl : x = y := by simpa using hx
              exact .inl rfl
        · obtain rfl : x = y := by simpa using hx
          exact .inl rfl
      rcases key x hx with e | ⟨u, hu, e⟩
      · omega
      · have := hlo u hu z (List.mem_cons_of_mem _ hz)
        omega
    obtain ⟨d1, d2⟩ := joinAll_can s (joinRg out y) c1 hlo2 hs.2 (fun z hz => hy z (List.mem_cons_of_mem _ hz))
    refine ⟨d1, fun r => ?_⟩
    rw [List.foldl_cons, d2 r, c2 r, inSet_cons]
    constructor
    · rintro ((h | h) | h)
      · exact .inl h
      · exact .inr (.inl h)
      · exact .inr (.inr h)
    · rintro (h | h | h)
      · exact .inl (.inl h)
      · exact .inl (.inr h)
      · exact .inr h
theorem clipped_set (rs : List Rg) (r : Int) : inSet (clipped rs) r ↔ (0 ≤ r ∧ r ≤ 1114111) ∧ inSet rs r := by
  unfold inSet clipped
  constructor
  · rintro ⟨x, hx, h1, h2⟩
    obtain ⟨hx, _⟩ := List.mem_filter.1 hx
    obtain ⟨y, hy, rfl⟩ := List.mem_map.1 hx
    unfold Rg.clip at h1 h2
    have h1' : max y.lo 0 ≤ r := h1
    have h2' : r ≤ min y.hi 1114111 := h2
    exact ⟨by omega, y, hy, by omega, by omega⟩
  · rintro ⟨h0, y, hy, h1, h2⟩
    refine ⟨y.clip, List.mem_filter.2 ⟨List.mem_map.2 ⟨y, hy, rfl⟩, ?_⟩, ?_, ?_⟩
    · unfold Rg.clip
      show decide (max y.lo 0 ≤ min y.hi 1114111) = true
      rw [decide_eq_true_eq]
      omega
    · show max y.lo 0 ≤ r
      omega
    · show r ≤ min y.hi 1114111
      omega
/-- What ranges.Make comes to: the one list of its set. -/
theorem make_set {rs s : List Rg} (hp : s.Perm (clipped rs)) (hs : s.Pairwise (fun a b => a.lo ≤ b.lo)) : CanL (joinAll s) ∧ ∀ r, inSet (joinAll s) r ↔ (0 ≤ r ∧ r ≤ 1114111) ∧ inSet rs r := by
  have hle : ∀ y ∈ s, y.lo ≤ y.hi := by
    intro y hy
    have := hp.mem_iff.1 hy
    unfold clipped at this
    have := (List.mem_filter.1 this).2
    simpa using this
  obtain ⟨h1, h2⟩ := joinAll_can s [] ⟨List.Pairwise.nil, fun x hx => by cases hx⟩ (fun x hx => by cases hx) hs hle
  refine ⟨h1, fun r => ?_⟩
  have e : inSet s r ↔ inSet (clipped rs) r := by
    unfold inSet
    constructor
    · rintro ⟨x, hx, h⟩
      exact ⟨x, hp.mem_iff.1 hx, h⟩
    · rintro ⟨x, hx, h⟩
      exact ⟨x, hp.mem_iff.2 hx, h⟩
  rw [← clipped_set, ← e]
  have := h2 r
  constructor
  · intro h
    exact (this.1 h).resolve_left (inSet_nil r)
  · intro h
    exact this.2 (.inr h)
end Go.Proofs.YtchkckfadennhaaGreatDoor
