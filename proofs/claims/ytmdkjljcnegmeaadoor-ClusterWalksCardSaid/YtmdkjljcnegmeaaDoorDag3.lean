/- A region that draws, whose values are what they are whatever the order, with calls that keep a predicate of the world. No program stands here. -/
import Derived.Test.YtmdkjljcnegmeaaDoorDag2
namespace Go.Proofs.YtmdkjljcnegmeaaDoor
open Go.RowKit
set_option linter.unusedVariables false
section
variable {P : Program} {ops : Array Oper} {Q : Exit → Act → World → Prop}
theorem wp_region_inv {id : Nat} {a : Act} {w : World} (hm : P.follows .mixedOrders = true) (ds : List (Option Tmp)) (hok : dagOk ops ds = true) (V : Nat → Value) (K : World → Prop) (h0 : K { w with drawn := w.drawn + 1 })
    (hstep : ∀ i o, ops[i]? = some o → ∀ ρ : Operand → Value, (∀ j ∈ waits ops i, ∀ t, ds[j]? = some (some t) → t < a.tmps.size → ρ (.tmp t) = V j) → (∀ t, (∀ d ∈ ds, d ≠ some t) → ρ (.tmp t) = a.tmps.getD t undef) → (∀ v, ρ (.const v) = v) → (∀ f, ρ (.func f) = a.eval (.func f)) → (∀ g, ρ (.global g) = a.eval (.global g)) →
      ∀ W, K W → (∃ W', K W' ∧ RunsTo P ρ o W (V i) W') ∨ ∃ f args, (execOp ρ o).run P W = .ok (.enter f args) W ∧ Calls P f args W fun e W' => e = .returned (V i) ∧ K W')
    (hend : ∀ W, K W → Q .normal { a with tmps := frS (fun j => decide (j < ops.size)) V 0 ds a.tmps } W) : (Code.region id ops true).wp P Q a w := by
  have hn : (ds.filterMap (_root_.id : Option Tmp → Option Tmp)).Nodup := by
    unfold dagOk at hok
    simp only [Bool.and_eq_true, decide_eq_true_eq] at hok
    exact hok.1.2
  refine wp_region_dag hm ds hok (fun S vs W => (∀ j, S j = true → vs j = V j) ∧ K W) ?_ ?_ ?_
  · intro vs
    exact ⟨(fun j h => by cases h), h0⟩
  · rintro i o ho S vs W hS hpre ⟨hv, hW⟩
    have hv' : ∀ j, (S j || j == i) = true → (fun j => if j = i then V i else vs j) j = V j := by
      intro j hj
      by_cases e : j = i
      · subst e; simp
      · simp only [if_neg e]
        have : (j == i) = false := beq_eq_false_iff_ne.2 e
        rw [this, Bool.or_false] at hj
        exact hv j hj
    rcases hstep i o ho (Act.eval { a with tmps := frS S vs 0 ds a.tmps }) (fun j hj t ht hlt => (ev_done hn j t ht (hpre j hj) hlt).trans (hv j (hpre j hj))) (fun t ht => ev_old t ht) (fun _ => rfl) (fun _ => rfl) (fun _ => rfl) W hW with ⟨W', hK, hr⟩ | ⟨f, args, hr, hC⟩
    · exact dag_runs (V i) hr ⟨hv', hK⟩
    · unfold Oper.wp
      rw [hr, Oper.upon_enter]
      refine hC.mono ?_
      rintro e W' ⟨rfl, hK⟩
      exact ⟨V i, rfl, hv', hK⟩
  · rintro vs W ⟨hv, hW⟩
    have e : frS (fun j => decide (j < ops.size)) vs 0 ds a.tmps = frS (fun j => decide (j < ops.size)) V 0 ds a.tmps := frS_congr ds 0 _ (fun _ _ => rfl) (fun j _ hj => hv j hj)
    rw [e]
    exact hend W hW
end
end Go.Proofs.YtmdkjljcnegmeaaDoor
