/- A region that draws its order, with operations that are guarded and calls that make memory: each value is what it is told to be, in the world it comes to and all later ones. No program stands here. -/
import Derived.Test.YtpmbebofinlmmaaGreatDoorDags
namespace Go.Proofs.YtpmbebofinlmmaaGreatDoor
open Go.RowKit
set_option linter.unusedVariables false
set_option linter.unusedSimpArgs false
/-- The slot of an operation that is not done stands as it stood. -/
theorem frS_undone (S : Nat → Bool) (vs : Nat → Value) (t : Tmp) : ∀ (ds : List (Option Tmp)) (i k : Nat) (a : Array Value), (ds.filterMap id).Nodup → ds[k]? = some (some t) → S (i + k) = false → (frS S vs i ds a).getD t undef = a.getD t undef
  | [], _, _, _, _, h, _ => by simp at h
  | d :: ds, i, 0, a, hn, h, hs => by
    simp only [List.getElem?_cons_zero, Option.some.injEq] at h
    subst h
    have hnot : ∀ x ∈ ds, x ≠ some t := fun x hx e => by
      subst e
      simp only [List.filterMap_cons, id] at hn
      exact (List.nodup_cons.1 hn).1 (List.mem_filterMap.2 ⟨_, hx, rfl⟩)
    rw [frS_cons, frS_other S vs t ds _ _ hnot, stepS_some, if_neg (by rw [Nat.add_zero] at hs; rw [hs]; decide)]
  | d :: ds, i, k + 1, a, hn, h, hs => by
    have hn' : (ds.filterMap id).Nodup := by
      cases d with
      | none => simpa using hn
      | some d => simp only [List.filterMap_cons, id] at hn; exact (List.nodup_cons.1 hn).2
    rw [frS_cons, frS_undone S vs t ds (i + 1) k _ hn' (by simpa using h) (by rw [show i + 1 + k = i + (k + 1) by omega]; exact hs)]
    cases d with
    | none => rw [stepS_none]
    | some d =>
      have hd : d ≠ t := fun e => by
        subst e
        simp only [List.filterMap_cons, id] at hn
        exact (List.nodup_cons.1 hn).1 (List.mem_filterMap.2 ⟨some d, List.mem_of_getElem? (by simpa using h), rfl⟩)
      rw [stepS_some]
      split
      · simp only [Array.getD_eq_getD_getElem?, Array.getElem?_setIfInBounds]
        rw [if_neg hd]
      · rfl
def dagOkG (ops : Array Oper) (ds : List (Option Tmp)) : Bool :=
  decide ((ops.toList.map (·.dst)) = ds) && decide ((ds.filterMap id).Nodup) && (List.range ops.size).all (fun i => match ops[i]? with | some o => (match o.guard with | none => true | some (g, _) => (waits ops i).contains g && (ds.getD g none).isSome) && o.after.all (fun e => decide (e.on < i)) | none => true)
section
variable {P : Program} {ops : Array Oper} {Q : Exit → Act → World → Prop}
theorem wp_region_dagG {id : Nat} {a : Act} {w : World} (hm : P.follows .mixedOrders = true) (ds : List (Option Tmp)) (hok : dagOkG ops ds = true)
    (J : (Nat → Bool) → (Nat → Value) → World → Prop) (h0 : ∀ vs, J (fun _ => false) vs { w with drawn := w.drawn + 1 })
    (hstep : ∀ i o, ops[i]? = some o → ∀ S vs w', S i = false → (∀ j ∈ waits ops i, S j = true) → J S vs w' →
      if Region.wanted o (yielded ops (frS S vs 0 ds a.tmps)) then o.wp P { a with tmps := frS S vs 0 ds a.tmps } w' (fun a' w'' => ∃ v, a' = Act.put { a with tmps := frS S vs 0 ds a.tmps } o.dst v ∧ J (fun j => S j || j == i) (fun j => if j = i then v else vs j) w'') Q
      else J (fun j => S j || j == i) (fun j => if j = i then undef else vs j) w')
    (hend : ∀ vs w', J (fun j => decide (j < ops.size)) vs w' → Q .normal { a with tmps := frS (fun j => decide (j < ops.size)) vs 0 ds a.tmps } w') : (Code.region id ops true).wp P Q a w := by
  unfold dagOkG at hok
  simp only [Bool.and_eq_true, decide_eq_true_eq, List.all_eq_true] at hok
  obtain ⟨⟨hd, hn⟩, hb⟩ := hok
  refine wp_region_any hm ?_
  have key : ∀ (fuel : Nat) (listed : Array Bool) (S : Nat → Bool) (vs : Nat → Value) (w' : World), listed.size = ops.size → (∀ i, i < ops.size → listed.getD i false = S i) → (∀ i, ops.size ≤ i → S i = false) →
      (List.range ops.size).countP (fun i => !S i) ≤ fuel → J S vs w' → wpAny P .any ops Q fuel listed { a with tmps := frS S vs 0 ds a.tmps } w' := by
    have full : ∀ (listed : Array Bool) (S : Nat → Bool), listed.size = ops.size → (∀ i, i < ops.size → listed.getD i false = S i) → (∀ i, ops.size ≤ i → S i = false) → Region.ready .any ops listed = [] → S = fun j => decide (j < ops.size) := by
      intro listed S hl hS hS' hr
      have : ∀ i, i < ops.size → S i = true := by
        intro i
        induction i using Nat.strongRecOn with
        | ind i ih =>
          intro hi
          cases hsi : S i with
          | true => rfl
          | false =>
            have ho : ops[i]? = some ops[i] := Array.getElem?_eq_getElem hi
            have h1 := hb i (List.mem_range.2 hi)
            rw [ho] at h1
            simp only [Bool.and_eq_true] at h1
            have hm : i ∈ Region.ready .any ops listed := mem_ready.2 ⟨by
              rw [← hsi, ← hS i hi]
              simp [Array.getD_eq_getD_getElem?, hl, hi], _, ho, fun e he _ => by
                have h2 := Array.all_eq_true_iff_forall_mem.1 h1.2 e he
                have h3 := of_decide_eq_true h2
                rw [hS e.on (by omega)]
                exact ih e.on h3 (by omega)⟩
            rw [hr] at hm
            simp at hm
      funext j
      by_cases hj : j < ops.size
      · rw [this j hj]; simp [hj]
      · rw [hS' j (by omega)]; simp [hj]
    intro fuel
    induction fuel with
    | zero =>
      intro listed S vs w' hl hS hS' hc hJ
      have hall : ∀ i, i < ops.size → S i = true := by
        intro i hi
        have h1 : (List.range ops.size).countP (fun i => !S i) = 0 := by omega
        have h2 := List.countP_eq_zero.1 h1 i (List.mem_range.2 hi)
        simpa using h2
      have hr : Region.ready .any ops listed = [] := by
        cases hr : Region.ready .any ops listed with
        | nil => rfl
        | cons x l =>
          have hx : x ∈ Region.ready .any ops listed := by rw [hr]; simp
          obtain ⟨h1, o, h2, _⟩ := mem_ready.1 hx
          have hlt := (Array.getElem?_eq_some_iff.1 h2).1
          have h3 := hS x hlt
          rw [hall x hlt] at h3
          simp [Array.getD_eq_getD_getElem?, hl, hlt] at h1 h3
          rw [h1] at h3
          cases h3
      refine ⟨hr, ?_⟩
      have hSf := full listed S hl hS hS' hr
      subst hSf
      exact hend vs w' hJ
    | succ fuel ih =>
      intro listed S vs w' hl hS hS' hc hJ
      refine ⟨fun hr => ?_, fun i hi => ?_⟩
      · have hSf := full listed S hl hS hS' hr
        subst hSf
        exact hend vs w' hJ
      · obtain ⟨h1, o, ho, hpre⟩ := mem_ready.1 hi
        have hlt := (Array.getElem?_eq_some_iff.1 ho).1
        have hSi : S i = false := by
          rw [← hS i hlt]
          simp [Array.getD_eq_getD_getElem?, hl, hlt] at h1 ⊢
          exact h1
        have h2 := hb i (List.mem_range.2 hlt)
        rw [ho] at h2
        simp only [Bool.and_eq_true] at h2
        have hw : ∀ j ∈ waits ops i, S j = true := by
          intro j hj
          unfold waits at hj
          rw [ho] at hj
          simp only [List.mem_map, List.mem_filter, Array.mem_toList_iff] at hj
          obtain ⟨e, ⟨he, hbd⟩, rfl⟩ := hj
          have h3 := of_decide_eq_true (Array.all_eq_true_iff_forall_mem.1 h2.2 e he)
          rw [← hS e.on (by omega)]
          exact hpre e he hbd
        have go : ∀ v w'', J (fun j => S j || j == i) (fun j => if j = i then v else vs j) w'' → wpAny P .any ops Q fuel (listed.setIfInBounds i true) (Act.put { a with tmps := frS S vs 0 ds a.tmps } o.dst v) w'' := by
          intro v w'' hJ'
          have hput : Act.put { a with tmps := frS S vs 0 ds a.tmps } o.dst v = { a with tmps := frS (fun j => S j || j == i) (fun j => if j = i then v else vs j) 0 ds a.tmps } := by
            have hdi : ds[i]? = some o.dst := by rw [← hd]; simp [ho]
            have := frS_put (S := S) (vs := vs) (v := v) ds 0 i a.tmps hn o.dst hdi (by simpa using hSi)
            simp only [Nat.zero_add] at this
            rw [this]
            unfold Act.put
            cases o.dst <;> rfl
          rw [hput]
          refine ih _ _ _ _ (by simpa using hl) (fun j hj => ?_) (fun j hj => ?_) ?_ hJ'
          · by_cases e : j = i
            · subst e
              simp [Array.getD_eq_getD_getElem?, hl, hlt]
            · rw [getD_set_ne false (Ne.symm e), hS j hj]
              simp [e]
          · have : ¬ j = i := by omega
            simp [hS' j hj, this]
          · have hcount : (List.range ops.size).countP (fun k => !(S k || k == i)) < (List.range ops.size).countP (fun k => !S k) := by
              have h3 : (List.range ops.size).countP (fun k => !(S k || k == i)) = ((List.range ops.size).filter (fun k => !S k)).countP (fun k => !(k == i)) := by
                rw [List.countP_filter]
                congr 1
                funext k
                cases S k <;> simp
              rw [h3, List.countP_eq_length_filter (p := fun k => !S k), List.countP_eq_length_filter]
              have hmem : i ∈ (List.range ops.size).filter (fun k => !S k) := List.mem_filter.2 ⟨List.mem_range.2 hlt, by simp [hSi]⟩
              exact List.length_filter_lt_length_iff_exists.2 ⟨i, hmem, by simp⟩
            omega
        have hs := hstep i o ho S vs w' hSi hw hJ
        unfold wpOp
        rw [ho]
        show if Region.wanted o (yielded ops (frS S vs 0 ds a.tmps)) then _ else _
        split at hs
        · next hwant =>
          rw [if_pos hwant]
          exact .inl (Oper.wp_mono (fun a' w'' ⟨v, e, hJ'⟩ => e ▸ go v w'' hJ') hs)
        · next hwant =>
          rw [if_neg hwant]
          exact go undef w' hs
  have := key ops.size (Array.replicate ops.size false) (fun _ => false) (fun _ => undef) _ (by simp) (fun i hi => by simp [Array.getD_eq_getD_getElem?, hi]) (fun _ _ => rfl) (by
    have := List.countP_le_length (p := fun i => !(fun _ => false) i) (l := List.range ops.size)
    exact Nat.le_trans this (by simp)) (h0 _)
  have e : frS (fun _ => false) (fun _ => undef) 0 ds a.tmps = a.tmps := by
    have : ∀ (ds : List (Option Tmp)) (i : Nat) (t : Array Value), frS (fun _ => false) (fun _ => undef) i ds t = t := by
      intro ds
      induction ds with
      | nil => intro i t; rfl
      | cons d ds ih => intro i t; rw [frS_cons, ih]; rfl
    exact this _ _ _
  rw [e] at this
  exact this
/-- What an operation does: it comes to a value, by itself or by a call; memory that was there stands. -/
def Does (P : Program) (ρ : Operand → Value) (o : Oper) (W : World) (K : World → Prop) (R : Value → World → Prop) : Prop :=
  (∃ v, R v W ∧ RunsTo P ρ o W v W) ∨ (∃ v W', K W' ∧ Below W.heap.size W W' ∧ R v W' ∧ RunsTo P ρ o W v W') ∨
  ∃ f args, (execOp ρ o).run P W = .ok (.enter f args) W ∧ Calls P f args W fun e W' => ∃ v, e = .returned v ∧ K W' ∧ Below W.heap.size W W' ∧ R v W'
theorem wp_region_rel {id : Nat} {a : Act} {w : World} (hm : P.follows .mixedOrders = true) (ds : List (Option Tmp)) (hok : dagOkG ops ds = true) (hsz : ∀ t, some t ∈ ds → t < a.tmps.size) (R : Nat → Value → World → Prop) (K : World → Prop)
    (hR : ∀ i v W W', R i v W → Below W.heap.size W W' → R i v W') (h0 : K { w with drawn := w.drawn + 1 })
    (hstep : ∀ i o, ops[i]? = some o → ∀ ρ : Operand → Value, ∀ W, K W → (∀ j ∈ waits ops i, ∀ t, ds[j]? = some (some t) → R j (ρ (.tmp t)) W) → (∀ t, (∀ d ∈ ds, d ≠ some t) → ρ (.tmp t) = a.tmps.getD t undef) → (∀ t j, ds[j]? = some (some t) → i ∈ waits ops j → ρ (.tmp t) = a.tmps.getD t undef) → (∀ v, ρ (.const v) = v) → (∀ f, ρ (.func f) = a.eval (.func f)) → (∀ g, ρ (.global g) = a.eval (.global g)) →
      match o.guard with
      | none => Does P ρ o W K (R i)
      | some (g, b) => ∀ t, ds[g]? = some (some t) → (ρ (.tmp t) = .bool b → Does P ρ o W K (R i)) ∧ (ρ (.tmp t) ≠ .bool b → R i undef W))
    (hend : ∀ vs W, K W → (∀ j, j < ops.size → R j (vs j) W) → Q .normal { a with tmps := frS (fun j => decide (j < ops.size)) vs 0 ds a.tmps } W) : (Code.region id ops true).wp P Q a w := by
  have hok' := hok
  unfold dagOkG at hok'
  simp only [Bool.and_eq_true, decide_eq_true_eq, List.all_eq_true] at hok'
  obtain ⟨⟨hd, hn⟩, hb⟩ := hok'
  refine wp_region_dagG hm ds hok (fun S vs W => K W ∧ (∀ j, S j = true → R j (vs j) W) ∧ ∀ j, S j = true → ∀ x ∈ waits ops j, S x = true) ?_ ?_ ?_
  · intro vs
    exact ⟨h0, (fun j h => by cases h), fun j h => by cases h⟩
  · rintro i o ho S vs W hS hpre ⟨hK, hv, hcl⟩
    have hcl' : ∀ j, (S j || j == i) = true → ∀ x ∈ waits ops j, (S x || x == i) = true := by
      intro j hj x hx
      by_cases e : j = i
      · subst e; rw [hpre x hx]; rfl
      · have : (j == i) = false := beq_eq_false_iff_ne.2 e
        rw [this, Bool.or_false] at hj
        rw [hcl j hj x hx]; rfl
    have hlt := (Array.getElem?_eq_some_iff.1 ho).1
    have hst := hstep i o ho (Act.eval { a with tmps := frS S vs 0 ds a.tmps }) W hK (fun j hj t ht => by rw [ev_done hn j t ht (hpre j hj) (hsz t (List.mem_of_getElem? ht))]; exact hv j (hpre j hj)) (fun t ht => ev_old t ht) (fun t j hj hi => frS_undone S vs t ds 0 j a.tmps hn hj (by
      rw [Nat.zero_add]
      cases hSj : S j with
      | false => rfl
      | true => exact absurd (hcl j hSj i hi) (by rw [hS]; decide))) (fun _ => rfl) (fun _ => rfl) (fun _ => rfl)
    have keep : ∀ W', Below W.heap.size W W' → ∀ x, R i x W' → ∀ j, (S j || j == i) = true → R j ((fun j => if j = i then x else vs j) j) W' := by
      intro W' hbl x hx j hj
      by_cases e : j = i
      · subst e; simpa using hx
      · simp only [if_neg e]
        have : (j == i) = false := beq_eq_false_iff_ne.2 e
        rw [this, Bool.or_false] at hj
        exact hR _ _ _ _ (hv j hj) hbl
    have does : Does P (Act.eval { a with tmps := frS S vs 0 ds a.tmps }) o W K (R i) → o.wp P { a with tmps := frS S vs 0 ds a.tmps } W (fun a' w'' => ∃ v, a' = Act.put { a with tmps := frS S vs 0 ds a.tmps } o.dst v ∧ (fun S vs W => K W ∧ (∀ j, S j = true → R j (vs j) W) ∧ ∀ j, S j = true → ∀ x ∈ waits ops j, S x = true) (fun j => S j || j == i) (fun j => if j = i then v else vs j) w'') Q := by
      rintro (⟨v, hr, hrun⟩ | ⟨v, W', hK', hbl, hr, hrun⟩ | ⟨f, args, hrun, hC⟩)
      · exact dag_runs v hrun ⟨hK, keep W (Below.refl _ _) v hr, hcl'⟩
      · exact dag_runs v hrun ⟨hK', keep W' hbl v hr, hcl'⟩
      · unfold Oper.wp
        rw [hrun, Oper.upon_enter]
        refine hC.mono ?_
        rintro e W' ⟨v, rfl, hK', hbl, hr⟩
        exact ⟨v, rfl, hK', keep W' hbl v hr, hcl'⟩
    cases hg : o.guard with
    | none =>
      rw [hg] at hst
      have : Region.wanted o (yielded ops (frS S vs 0 ds a.tmps)) = true := by unfold Region.wanted; rw [hg]
      rw [if_pos this]
      exact does hst
    | some p =>
      obtain ⟨g, b⟩ := p
      rw [hg] at hst
      have h2 := hb i (List.mem_range.2 hlt)
      rw [ho] at h2
      simp only [hg, Bool.and_eq_true, List.contains_iff_mem] at h2
      obtain ⟨⟨h3, h4⟩, _⟩ := h2
      obtain ⟨t, ht⟩ := Option.isSome_iff_exists.1 h4
      have hdg : ds[g]? = some (some t) := by
        rw [List.getD_eq_getElem?_getD] at ht
        cases hx : ds[g]? with
        | none => rw [hx] at ht; cases ht
        | some x => rw [hx] at ht; simp at ht; rw [ht]
      obtain ⟨s1, s2⟩ := hst t hdg
      have hyv : (frS S vs 0 ds a.tmps)[t]? = some (vs g) := by
        have h5 := ev_done (a := a) (vs := vs) hn g t hdg (hpre g h3) (hsz t (List.mem_of_getElem? hdg))
        have h6 : t < (frS S vs 0 ds a.tmps).size := by rw [frS_size]; exact hsz t (List.mem_of_getElem? hdg)
        rw [Array.getElem?_eq_getElem h6]
        congr 1
        have h7 : (frS S vs 0 ds a.tmps).getD t undef = vs g := h5
        rw [← h7]
        simp [Array.getD_eq_getD_getElem?, h6]
      have hev : Act.eval { a with tmps := frS S vs 0 ds a.tmps } (.tmp t) = vs g := ev_done (a := a) hn g t hdg (hpre g h3) (hsz t (List.mem_of_getElem? hdg))
      rw [hev] at s1 s2
      have hgo : ((ops[g]?).bind (·.dst)) = some t := by
        have : (ops.toList.map (·.dst))[g]? = some (some t) := by rw [hd]; exact hdg
        rw [List.getElem?_map, Array.getElem?_toList] at this
        cases hx : ops[g]? with
        | none => rw [hx] at this; cases this
        | some x => rw [hx] at this; simpa using this
      have hy : Region.wanted o (yielded ops (frS S vs 0 ds a.tmps)) = true ↔ vs g = .bool b := by
        unfold Region.wanted yielded
        rw [hg]
        simp only [hgo, Option.bind_some, hyv]
        cases hvg : vs g <;> simp
      by_cases hw : vs g = .bool b
      · rw [if_pos (hy.2 hw)]
        exact does (s1 hw)
      · rw [if_neg (fun h => hw (hy.1 h))]
        exact ⟨hK, keep W (Below.refl _ _) undef (s2 hw), hcl'⟩
  · rintro vs W ⟨hK, hv, _⟩
    exact hend vs W hK fun j hj => hv j (by simpa using hj)
end
end Go.Proofs.YtpmbebofinlmmaaGreatDoor
