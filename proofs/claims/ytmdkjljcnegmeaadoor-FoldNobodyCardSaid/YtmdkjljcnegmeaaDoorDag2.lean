/- A region that draws, with one call that makes memory and one last operation that waits for all the others. No program stands here. -/
import Derived.Test.YtmdkjljcnegmeaaDoorDag
namespace Go.Proofs.YtmdkjljcnegmeaaDoor
open Go.RowKit
set_option linter.unusedVariables false
section
variable {P : Program} {ops : Array Oper} {Q : Exit → Act → World → Prop}
def lastOk (ops : Array Oper) (c l : Nat) : Bool := decide (ops.size = l + 1) && decide (c < l) && (List.range l).all (fun j => (waits ops l).contains j)
/-- The call is operation c, the last one l; V: what the others come to; R: what the call hands back, and the world behind it; F: the world behind the last one. -/
theorem wp_region_call {id : Nat} {a : Act} {w : World} (hm : P.follows .mixedOrders = true) (ds : List (Option Tmp)) (hok : dagOk ops ds = true) (c l : Nat) (hl : lastOk ops c l = true)
    (V : Nat → Value) (hVl : V l = undef) (R : Value → World → Prop) (F : World → Prop)
    (hstep : ∀ i o, ops[i]? = some o → i ≠ c → i ≠ l → ∀ ρ : Operand → Value, (∀ j ∈ waits ops i, j ≠ c → ∀ t, ds[j]? = some (some t) → t < a.tmps.size → ρ (.tmp t) = V j) → (∀ t, (∀ d ∈ ds, d ≠ some t) → ρ (.tmp t) = a.tmps.getD t undef) → (∀ v, ρ (.const v) = v) → (∀ f, ρ (.func f) = a.eval (.func f)) → (∀ g, ρ (.global g) = a.eval (.global g)) →
      ∀ W, (W = { w with drawn := w.drawn + 1 } ∨ ∃ v, R v W) → RunsTo P ρ o W (V i) W)
    (hcall : ∀ o, ops[c]? = some o → ∀ ρ : Operand → Value, (∀ j ∈ waits ops c, ∀ t, ds[j]? = some (some t) → t < a.tmps.size → ρ (.tmp t) = V j) → (∀ t, (∀ d ∈ ds, d ≠ some t) → ρ (.tmp t) = a.tmps.getD t undef) → (∀ v, ρ (.const v) = v) → (∀ f, ρ (.func f) = a.eval (.func f)) → (∀ g, ρ (.global g) = a.eval (.global g)) →
      ∃ f args, (execOp ρ o).run P { w with drawn := w.drawn + 1 } = .ok (.enter f args) { w with drawn := w.drawn + 1 } ∧ Calls P f args { w with drawn := w.drawn + 1 } fun e W => ∃ v, e = .returned v ∧ R v W)
    (hlast : ∀ o, ops[l]? = some o → ∀ ρ : Operand → Value, ∀ vc W, (∀ j, j < l → j ≠ c → ∀ t, ds[j]? = some (some t) → t < a.tmps.size → ρ (.tmp t) = V j) → (∀ t, ds[c]? = some (some t) → t < a.tmps.size → ρ (.tmp t) = vc) → (∀ t, (∀ d ∈ ds, d ≠ some t) → ρ (.tmp t) = a.tmps.getD t undef) → (∀ v, ρ (.const v) = v) → R vc W →
      ∃ W', F W' ∧ RunsTo P ρ o W undef W')
    (hend : ∀ vc W, F W → Q .normal { a with tmps := frS (fun j => decide (j < ops.size)) (fun j => if j = c then vc else V j) 0 ds a.tmps } W) : (Code.region id ops true).wp P Q a w := by
  have hn : (ds.filterMap (_root_.id : Option Tmp → Option Tmp)).Nodup := by
    unfold dagOk at hok
    simp only [Bool.and_eq_true, decide_eq_true_eq] at hok
    exact hok.1.2
  unfold lastOk at hl
  simp only [Bool.and_eq_true, decide_eq_true_eq, List.all_eq_true, List.contains_iff_mem] at hl
  obtain ⟨⟨hsz, hcl⟩, hwl⟩ := hl
  have hwl' : ∀ j, j < l → j ∈ waits ops l := fun j hj => hwl j (List.mem_range.2 hj)
  refine wp_region_dag hm ds hok (fun S vs W => (∀ j, S j = true → j ≠ c → vs j = V j) ∧ (S l = true → ∀ j, j < l → S j = true) ∧ (if S l then F W else if S c then R (vs c) W else W = { w with drawn := w.drawn + 1 })) ?_ ?_ ?_
  · intro vs
    exact ⟨(fun j h => by cases h), (fun h => by cases h), rfl⟩
  · rintro i o ho S vs W hS hpre ⟨hv, hc, hW⟩
    have hil : i < ops.size := (Array.getElem?_eq_some_iff.1 ho).1
    have hSl : S l = false := by
      cases h : S l with
      | false => rfl
      | true =>
        rcases Nat.lt_or_ge i l with h1 | h1
        · rw [hc h i h1] at hS; cases hS
        · have : i = l := by omega
          subst this; rw [h] at hS; cases hS
    rw [hSl] at hW
    simp only [Bool.false_eq_true, if_false] at hW
    have hv' : ∀ x : Value, (i ≠ c → x = V i) → ∀ j, (S j || j == i) = true → j ≠ c → (fun j => if j = i then x else vs j) j = V j := by
      intro x hx j hj hjc
      by_cases e : j = i
      · subst e; simp only [if_pos]; exact hx hjc
      · simp only [if_neg e]
        have : (j == i) = false := beq_eq_false_iff_ne.2 e
        rw [this, Bool.or_false] at hj
        exact hv j hj hjc
    by_cases hi : i = l
    · subst hi
      have hSc : S c = true := hpre c (hwl' c hcl)
      rw [hSc] at hW
      simp only [if_true] at hW
      obtain ⟨W', hF, hr⟩ := hlast o ho (Act.eval { a with tmps := frS S vs 0 ds a.tmps }) (vs c) W (fun j hj hjc t ht hlt => (ev_done hn j t ht (hpre j (hwl' j hj)) hlt).trans (hv j (hpre j (hwl' j hj)) hjc)) (fun t ht hlt => ev_done hn c t ht hSc hlt) (fun t ht => ev_old t ht) (fun _ => rfl) hW
      refine dag_runs undef hr ⟨hv' undef (fun _ => hVl.symm), (fun _ j hj => by show (S j || j == i) = true; rw [hpre j (hwl' j hj)]; rfl), ?_⟩
      simp only [beq_self_eq_true, Bool.or_true, if_true]
      exact hF
    · have hbl : (l == i) = false := beq_eq_false_iff_ne.2 (Ne.symm hi)
      by_cases hic : i = c
      · subst hic
        rw [hS] at hW
        simp only [Bool.false_eq_true, if_false] at hW
        subst hW
        obtain ⟨f, args, hr, hC⟩ := hcall o ho (Act.eval { a with tmps := frS S vs 0 ds a.tmps }) (fun j hj t ht hlt => (ev_done hn j t ht (hpre j hj) hlt).trans (hv j (hpre j hj) (by
          intro e
          subst e
          rw [hpre j hj] at hS; cases hS))) (fun t ht => ev_old t ht) (fun _ => rfl) (fun _ => rfl) (fun _ => rfl)
        unfold Oper.wp
        rw [hr, Oper.upon_enter]
        refine hC.mono ?_
        rintro e W ⟨v, rfl, hR⟩
        refine ⟨v, rfl, hv' v (fun h => absurd rfl h), (fun h => ?_), ?_⟩
        · simp only [hSl, hbl, Bool.or_false] at h; cases h
        · simp only [hSl, hbl, Bool.or_false, Bool.false_eq_true, if_false, beq_self_eq_true, Bool.or_true, if_true]
          exact hR
      · have hbc : (c == i) = false := beq_eq_false_iff_ne.2 (Ne.symm hic)
        have hr := hstep i o ho hic hi (Act.eval { a with tmps := frS S vs 0 ds a.tmps }) (fun j hj hjc t ht hlt => (ev_done hn j t ht (hpre j hj) hlt).trans (hv j (hpre j hj) hjc)) (fun t ht => ev_old t ht) (fun _ => rfl) (fun _ => rfl) (fun _ => rfl) W (by
          cases h : S c with
          | true => rw [h] at hW; simp only [if_true] at hW; exact .inr ⟨_, hW⟩
          | false => rw [h] at hW; simp only [Bool.false_eq_true, if_false] at hW; exact .inl hW)
        refine dag_runs (V i) hr ⟨hv' (V i) (fun _ => rfl), (fun h => ?_), ?_⟩
        · simp only [hSl, hbl, Bool.or_false] at h; cases h
        · simp only [hSl, hbl, hbc, Bool.or_false, Bool.false_eq_true, if_false]
          rw [if_neg (Ne.symm hic)]
          exact hW
  · rintro vs W ⟨hv, _, hW⟩
    have : decide (l < ops.size) = true := by rw [decide_eq_true_eq]; omega
    have hW' : F W := by
      simp only [this, if_true] at hW
      exact hW
    have e : frS (fun j => decide (j < ops.size)) vs 0 ds a.tmps = frS (fun j => decide (j < ops.size)) (fun j => if j = c then vs c else V j) 0 ds a.tmps := frS_congr ds 0 _ (fun _ _ => rfl) (fun j _ hj => by
      by_cases h : j = c
      · subst h; simp
      · rw [if_neg h]; exact hv j hj h)
    rw [e]
    exact hend _ _ hW'
end
end Go.Proofs.YtmdkjljcnegmeaaDoor
