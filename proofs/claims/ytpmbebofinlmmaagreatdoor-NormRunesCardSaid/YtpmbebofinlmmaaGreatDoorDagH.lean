/- A region that draws, whose operations that turn the world stand in a chain, calls among them: what holds of the world behind each is told. No program stands here. -/
import Derived.Test.YtpmbebofinlmmaaGreatDoorDagG
namespace Go.Proofs.YtpmbebofinlmmaaGreatDoor
open Go.RowKit
set_option linter.unusedVariables false
set_option linter.unusedSimpArgs false
section
variable {P : Program} {ops : Array Oper} {Q : Exit → Act → World → Prop}
/-- l: the chain; V: the values of the others; T k vs W: what holds of the world behind k operations of the chain, where vs are their values. -/
theorem wp_region_path {id : Nat} {a : Act} {w : World} (hm : P.follows .mixedOrders = true) (ds : List (Option Tmp)) (hok : dagOk ops ds = true) (l : List Nat) (hl : chainOk ops l = true)
    (V : Nat → Value) (T : Nat → (Nat → Value) → World → Prop) (hT : ∀ k vs vs' W, (∀ j kk, chOf l 0 j = some kk → kk < k → vs j = vs' j) → T k vs W → T k vs' W) (h0 : ∀ vs, T 0 vs { w with drawn := w.drawn + 1 })
    (hstep : ∀ i o, ops[i]? = some o → ∀ ρ : Operand → Value, ∀ vs : Nat → Value, (∀ j ∈ waits ops i, ∀ t, ds[j]? = some (some t) → t < a.tmps.size → ρ (.tmp t) = match chOf l 0 j with | some _ => vs j | none => V j) → (∀ t, (∀ d ∈ ds, d ≠ some t) → ρ (.tmp t) = a.tmps.getD t undef) → (∀ v, ρ (.const v) = v) → (∀ f, ρ (.func f) = a.eval (.func f)) → (∀ g, ρ (.global g) = a.eval (.global g)) →
      match chOf l 0 i with
      | some k => ∀ W, T k vs W → (∃ v W', T (k + 1) (fun j => if j = i then v else vs j) W' ∧ RunsTo P ρ o W v W') ∨ ∃ f args, (execOp ρ o).run P W = .ok (.enter f args) W ∧ Calls P f args W fun e W' => ∃ v, e = .returned v ∧ T (k + 1) (fun j => if j = i then v else vs j) W'
      | none => ∀ k, k ≤ l.length → (∀ j kk, j ∈ waits ops i → chOf l 0 j = some kk → kk < k) → (∀ j kk, i ∈ waits ops j → chOf l 0 j = some kk → k ≤ kk) → ∀ W, T k vs W → RunsTo P ρ o W (V i) W)
    (hend : ∀ vs W, T l.length vs W → Q .normal { a with tmps := frS (fun j => decide (j < ops.size)) (fun j => match chOf l 0 j with | some _ => vs j | none => V j) 0 ds a.tmps } W) : (Code.region id ops true).wp P Q a w := by
  have hl' := hl
  unfold chainOk at hl'
  simp only [Bool.and_eq_true, decide_eq_true_eq, List.all_eq_true] at hl'
  obtain ⟨⟨hnl, hlt⟩, hcz⟩ := hl'
  have hch : ∀ i j k, chOf l 0 i = some k → chOf l 0 j = some k → i = j := fun i j k hi hj => by
    have h1 := (chOf_get l 0 i k hi).2
    have h2 := (chOf_get l 0 j k hj).2
    rw [h1] at h2
    exact Option.some.inj h2
  have hchain : ∀ i k, chOf l 0 i = some (k + 1) → ∃ j ∈ waits ops i, chOf l 0 j = some k := fun i k hi => by
    have h1 := (chOf_get l 0 i (k + 1) hi).2
    simp only [Nat.sub_zero] at h1
    have hk : k < l.length := by
      have := (List.getElem?_eq_some_iff.1 h1).1
      omega
    refine ⟨l[k], ?_, by have := get_chOf l 0 l[k] k hnl (List.getElem?_eq_getElem hk); rwa [Nat.zero_add] at this⟩
    have hz : (l.zip l.tail)[k]? = some (l[k], i) := by
      rw [List.getElem?_zip_eq_some]
      exact ⟨List.getElem?_eq_getElem hk, by rw [List.getElem?_tail]; exact h1⟩
    have := hcz _ (List.mem_of_getElem? hz)
    simpa using this
  have hall : ∀ k, k < l.length → ∃ i, i < ops.size ∧ chOf l 0 i = some k := fun k hk => by
    refine ⟨l[k], hlt _ (List.getElem_mem _), ?_⟩
    have := get_chOf l 0 l[k] k hnl (List.getElem?_eq_getElem hk)
    rwa [Nat.zero_add] at this
  have hle : ∀ i k, chOf l 0 i = some k → k < l.length := fun i k hi => by
    have h1 := (chOf_get l 0 i k hi).2
    exact (List.getElem?_eq_some_iff.1 h1).1
  have hn : (ds.filterMap (_root_.id : Option Tmp → Option Tmp)).Nodup := by
    unfold dagOk at hok
    simp only [Bool.and_eq_true, decide_eq_true_eq] at hok
    exact hok.1.2
  refine wp_region_dag hm ds hok (fun S vs W => (∀ j, S j = true → chOf l 0 j = none → vs j = V j) ∧ (∀ j, S j = true → ∀ x ∈ waits ops j, S x = true) ∧ ∃ k, k ≤ l.length ∧ T k vs W ∧ ∀ i kk, chOf l 0 i = some kk → (S i = true ↔ kk < k)) ?_ ?_ ?_
  · intro vs
    exact ⟨(fun j h => by cases h), (fun j h => by cases h), 0, Nat.zero_le _, h0 vs, (fun i kk _ => by simp)⟩
  · rintro i o ho S vs W hS hpre ⟨hv, hcl, k, hk, hTk, hc⟩
    have h := hstep i o ho (Act.eval { a with tmps := frS S vs 0 ds a.tmps }) vs (fun j hj t ht hlt => by
      rw [ev_done hn j t ht (hpre j hj) hlt]
      cases hj2 : chOf l 0 j with
      | some _ => rfl
      | none => exact hv j (hpre j hj) hj2) (fun t ht => ev_old t ht) (fun _ => rfl) (fun _ => rfl) (fun _ => rfl)
    have hv' : ∀ x, (chOf l 0 i = none → x = V i) → ∀ j, (S j || j == i) = true → chOf l 0 j = none → (fun j => if j = i then x else vs j) j = V j := by
      intro x hx j hj hjn
      by_cases e : j = i
      · subst e; simpa using hx hjn
      · simp only [if_neg e]
        refine hv j ?_ hjn
        have : (j == i) = false := beq_eq_false_iff_ne.2 e
        rwa [this, Bool.or_false] at hj
    have hcl' : ∀ j, (S j || j == i) = true → ∀ x ∈ waits ops j, (S x || x == i) = true := by
      intro j hj x hx
      by_cases e : j = i
      · subst e; rw [hpre x hx]; rfl
      · have : (j == i) = false := beq_eq_false_iff_ne.2 e
        rw [this, Bool.or_false] at hj
        rw [hcl j hj x hx]; rfl
    cases hci : chOf l 0 i with
    | some k' =>
      rw [hci] at h
      have hkk : k' = k := by
        have h1 := (hc i k' hci)
        rw [hS] at h1
        have h2 : ¬ k' < k := fun hlt => by have := h1.2 hlt; cases this
        rcases Nat.lt_or_ge k k' with h3 | h3
        · obtain ⟨j, hj, hjk⟩ := hchain i (k' - 1) (by rw [hci]; congr 1; omega)
          have h4 := (hc j _ hjk).1 (hpre j hj)
          omega
        · omega
      subst hkk
      have hltk := hle i k' hci
      have hset : ∀ j kk, chOf l 0 j = some kk → ((S j || j == i) = true ↔ kk < k' + 1) := by
        intro j kk hj
        by_cases e : j = i
        · subst e
          rw [hci] at hj
          cases hj
          simp
        · have hb : (j == i) = false := beq_eq_false_iff_ne.2 e
          rw [hb, Bool.or_false, hc j kk hj]
          constructor
          · intro h; omega
          · intro h
            rcases Nat.lt_or_ge kk k' with h5 | h5
            · exact h5
            · have : kk = k' := by omega
              subst this
              exact absurd (hch j i kk hj hci) e
      rcases h W hTk with ⟨v, W', hT', hr⟩ | ⟨f, args, hr, hC⟩
      · exact dag_runs v hr ⟨hv' v (fun h => by rw [hci] at h; cases h), hcl', k' + 1, by omega, hT', hset⟩
      · unfold Oper.wp
        rw [hr, Oper.upon_enter]
        refine hC.mono ?_
        rintro e W' ⟨v, rfl, hT'⟩
        exact ⟨v, rfl, hv' v (fun h => by rw [hci] at h; cases h), hcl', k' + 1, by omega, hT', hset⟩
    | none =>
      rw [hci] at h
      have h1 := h k hk (fun j kk hj hjk => (hc j kk hjk).1 (hpre j hj)) (fun j kk hj hjk => by
        rcases Nat.lt_or_ge kk k with h5 | h5
        · have := hcl j ((hc j kk hjk).2 h5) i hj
          rw [hS] at this; cases this
        · exact h5) W hTk
      refine dag_runs (V i) h1 ⟨hv' (V i) (fun _ => rfl), hcl', k, hk, hT k vs _ W (fun j kk hj _ => ?_) hTk, fun j kk hj => ?_⟩
      · have e : j ≠ i := fun e => by rw [e, hci] at hj; cases hj
        simp only [if_neg e]
      · have e : j ≠ i := fun e => by rw [e, hci] at hj; cases hj
        have hb : (j == i) = false := beq_eq_false_iff_ne.2 e
        show (S j || j == i) = true ↔ _
        rw [hb, Bool.or_false, hc j kk hj]
  · rintro vs W ⟨hv, _, k, hk, hTk, hc⟩
    have hkm : k = l.length := by
      rcases Nat.lt_or_ge k l.length with h | h
      · obtain ⟨i, hi, hik⟩ := hall k h
        have := (hc i k hik).1 (by simpa using hi)
        omega
      · omega
    subst hkm
    have : frS (fun j => decide (j < ops.size)) vs 0 ds a.tmps = frS (fun j => decide (j < ops.size)) (fun j => match chOf l 0 j with | some _ => vs j | none => V j) 0 ds a.tmps := frS_congr ds 0 _ (fun _ _ => rfl) (fun j _ hj => by
      cases hj2 : chOf l 0 j with
      | some _ => rfl
      | none => exact hv j hj hj2)
    rw [this]
    exact hend vs W hTk
end
end Go.Proofs.YtpmbebofinlmmaaGreatDoor
