/- A label that the run jumps back to, with a number that falls at every jump and need not be read off the frame. No program stands here. -/
import Derived.ScopeJumps
import Derived.WalkMore
import Derived.WalkKit
namespace Go.Proofs.YtpmbebofinlmmaaGreatDoor
open Go
set_option linter.unusedVariables false
theorem least_of (p : Nat → Prop) : ∀ n, p n → ∃ k, p k ∧ ∀ m, p m → k ≤ m := by
  intro n
  induction n using Nat.strongRecOn with
  | _ n ih =>
    intro h
    by_cases hex : ∃ m, m < n ∧ p m
    · obtain ⟨m, hm, hp⟩ := hex
      exact ih m hm hp
    · exact ⟨n, h, fun m hm => Nat.le_of_not_lt fun hlt => hex ⟨m, hlt, hm⟩⟩
noncomputable def leastOf (p : Nat → Prop) : Nat := open Classical in if h : ∃ n, p n then (least_of p h.choose h.choose_spec).choose else 0
theorem leastOf_spec {p : Nat → Prop} {n : Nat} (h : p n) : p (leastOf p) ∧ leastOf p ≤ n := by
  unfold leastOf
  have hex : ∃ n, p n := ⟨n, h⟩
  rw [dif_pos hex]
  have := (least_of p hex.choose hex.choose_spec).choose_spec
  exact ⟨this.1, this.2 n h⟩
theorem wp_scope_ghost {P : Program} {a : Act} {w : World} {Q : Exit → Act → World → Prop} {c rest : Code} (l : Nat) (J : Nat → Act → World → Prop) (hf : findLabel c l = some rest)
    (pass : ∀ n a w, J n a w → rest.wp P (Exit.jump l (fun a' w' => ∃ n', n' < n ∧ J n' a' w') Q) a w)
    (first : (∀ n a w, J n a w → rest.wp P (Exit.jump l (fun a' w' => ∃ n, J n a' w') Q) a w) → c.wp P (Exit.jump l (fun a' w' => ∃ n, J n a' w') Q) a w) : (Code.scope c).wp P Q a w := by
  refine wp_scope_jumps l (fun a w => ∃ n, J n a w) (fun a w => leastOf fun n => J n a w) hf (first fun n a w h => ?_) ?_
  · refine wp_mono (pass n a w h) ?_
    intro e a' w' hq
    cases e with
    | goto l' => exact ⟨hq.1, hq.2.choose, hq.2.choose_spec.2⟩
    | _ => exact hq
  · rintro a w ⟨n, h⟩
    have hs := (leastOf_spec (p := fun n => J n a w) h).1
    refine wp_mono (pass _ a w hs) ?_
    intro e a' w' hq
    cases e with
    | goto l' =>
      obtain ⟨h1, n', hlt, hJ⟩ := hq
      exact ⟨h1, ⟨n', hJ⟩, Nat.lt_of_le_of_lt (leastOf_spec (p := fun n => J n a' w') hJ).2 hlt⟩
    | _ => exact hq
/-- The label's own place is a step that does nothing. -/
theorem wp_scope_label {P : Program} {a : Act} {w : World} {Q : Exit → Act → World → Prop} {c X : Code} (l : Nat) (J : Nat → Act → World → Prop) (hf : findLabel c l = some (Code.seq Code.skip X))
    (pass : ∀ n a w, J n a w → X.wp P (Exit.jump l (fun a' w' => ∃ n', n' < n ∧ J n' a' w') Q) a w)
    (first : (∀ n a w, J n a w → X.wp P (Exit.jump l (fun a' w' => ∃ n, J n a' w') Q) a w) → c.wp P (Exit.jump l (fun a' w' => ∃ n, J n a' w') Q) a w) : (Code.scope c).wp P Q a w := by
  refine wp_scope_ghost l J hf (fun n a w h => wp_seq (wp_skip (pass n a w h))) (fun _ => first fun n a w h => wp_mono (pass n a w h) ?_)
  intro e a' w' hq
  cases e with
  | goto l' => exact ⟨hq.1, hq.2.choose, hq.2.choose_spec.2⟩
  | _ => exact hq
end Go.Proofs.YtpmbebofinlmmaaGreatDoor
