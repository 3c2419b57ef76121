/- Dags, DagG, DagH: in one text. -/
import Derived.Orders
import Derived.OrdersHeld
import Derived.WalkKit
namespace Go.Proofs.YtchkckfadennhaaGreatDoor
open Go.RowKit
set_option linter.unusedVariables false
set_option linter.unusedSimpArgs false

/-- The frame's slots: of each operation that is done (S) its value (vs) stands at its place (ds). -/
def stepS (S : Nat → Bool) (vs : Nat → Value) (i : Nat) (d : Option Tmp) (t : Array Value) : Array Value := if S i then (match d with | some d => t.setIfInBounds d (vs i) | none => t) else t
def frS (S : Nat → Bool) (vs : Nat → Value) : Nat → List (Option Tmp) → Array Value → Array Value
  | _, [], t => t
  | i, d :: ds, t => frS S vs (i + 1) ds (stepS S vs i d t)
theorem frS_cons (S : Nat → Bool) (vs : Nat → Value) (i : Nat) (d : Option Tmp) (ds : List (Option Tmp)) (t : Array Value) : frS S vs i (d :: ds) t = frS S vs (i + 1) ds (stepS S vs i d t) := rfl
theorem frS_size (S : Nat → Bool) (vs : Nat → Value) : ∀ (ds : List (Option Tmp)) (i : Nat) (t : Array Value), (frS S vs i ds t).size = t.size
  | [], _, _ => rfl
  | d :: ds, i, t => by
    rw [frS_cons, frS_size S vs ds]
    cases d with
    | none => unfold stepS; split <;> rfl
    | some d => unfold stepS; split <;> simp
theorem frS_congr {S S' : Nat → Bool} {vs vs' : Nat → Value} : ∀ (ds : List (Option Tmp)) (i : Nat) (t : Array Value), (∀ j, i ≤ j → S j = S' j) → (∀ j, i ≤ j → S j = true → vs j = vs' j) → frS S vs i ds t = frS S' vs' i ds t
  | [], _, _, _, _ => rfl
  | d :: ds, i, t, h, h2 => by
    rw [frS_cons, frS_cons]
    unfold stepS
    rw [← h i (Nat.le_refl _)]
    cases hs : S i with
    | false => exact frS_congr ds (i + 1) _ (fun j hj => h j (by omega)) (fun j hj => h2 j (by omega))
    | true =>
      rw [← h2 i (Nat.le_refl _) hs]
      exact frS_congr ds (i + 1) _ (fun j hj => h j (by omega)) (fun j hj => h2 j (by omega))
theorem stepS_none (S : Nat → Bool) (vs : Nat → Value) (i : Nat) (t : Array Value) : stepS S vs i none t = t := by unfold stepS; split <;> rfl
theorem stepS_some (S : Nat → Bool) (vs : Nat → Value) (i : Nat) (d : Tmp) (t : Array Value) : stepS S vs i (some d) t = if S i then t.setIfInBounds d (vs i) else t := rfl
theorem stepS_size (S : Nat → Bool) (vs : Nat → Value) (i : Nat) (d : Option Tmp) (t : Array Value) : (stepS S vs i d t).size = t.size := by
  cases d with
  | none => rw [stepS_none]
  | some d => rw [stepS_some]; split <;> simp
/-- A slot that is none of the places stands as it stood. -/
theorem frS_other (S : Nat → Bool) (vs : Nat → Value) (t : Tmp) : ∀ (ds : List (Option Tmp)) (i : Nat) (a : Array Value), (∀ d ∈ ds, d ≠ some t) → (frS S vs i ds a).getD t undef = a.getD t undef
  | [], _, _, _ => rfl
  | d :: ds, i, a, h => by
    rw [frS_cons, frS_other S vs t ds _ _ (fun x hx => h x (by simp [hx]))]
    cases d with
    | none => rw [stepS_none]
    | some d =>
      have hd : d ≠ t := fun e => h (some d) (by simp) (by rw [e])
      rw [stepS_some]
      split
      · simp only [Array.getD_eq_getD_getElem?, Array.getElem?_setIfInBounds]
        rw [if_neg hd]
      · rfl
theorem frS_set (S : Nat → Bool) (vs : Nat → Value) (t : Tmp) (v : Value) : ∀ (ds : List (Option Tmp)) (i : Nat) (a : Array Value), (∀ d ∈ ds, d ≠ some t) → frS S vs i ds (a.setIfInBounds t v) = (frS S vs i ds a).setIfInBounds t v
  | [], _, _, _ => rfl
  | d :: ds, i, a, h => by
    rw [frS_cons, frS_cons, ← frS_set S vs t v ds _ _ (fun x hx => h x (by simp [hx]))]
    congr 1
    cases d with
    | none => rw [stepS_none, stepS_none]
    | some d =>
      have hd : d ≠ t := fun e => h (some d) (by simp) (by rw [e])
      rw [stepS_some, stepS_some]
      split
      · apply Array.ext_getElem?
        intro k
        simp only [Array.getElem?_setIfInBounds, Array.size_setIfInBounds]
        by_cases e1 : d = k
        · have e2 : ¬ t = k := fun e => hd (e1.trans e.symm)
          simp [e1, e2]
        · simp [e1]
      · rfl
/-- The slot of an operation that is done. -/
theorem frS_at (S : Nat → Bool) (vs : Nat → Value) (t : Tmp) : ∀ (ds : List (Option Tmp)) (i k : Nat) (a : Array Value), (ds.filterMap id).Nodup → ds[k]? = some (some t) → S (i + k) = true → t < a.size → (frS S vs i ds a).getD t undef = vs (i + k)
  | [], _, _, _, _, h, _, _ => by simp at h
  | d :: ds, i, 0, a, hn, h, hs, ht => by
    simp only [List.getElem?_cons_zero, Option.some.injEq] at h
    subst h
    have hnot : ∀ x ∈ ds, x ≠ some t := fun x hx e => by
      subst e
      simp only [List.filterMap_cons, id] at hn
      exact (List.nodup_cons.1 hn).1 (List.mem_filterMap.2 ⟨_, hx, rfl⟩)
    rw [frS_cons, frS_other S vs t ds _ _ hnot, stepS_some, if_pos (by simpa using hs)]
    simp [Array.getD_eq_getD_getElem?, ht]
  | d :: ds, i, k + 1, a, hn, h, hs, ht => by
    have hn' : (ds.filterMap id).Nodup := by
      cases d with
      | none => simpa using hn
      | some d => simp only [List.filterMap_cons, id] at hn; exact (List.nodup_cons.1 hn).2
    rw [frS_cons, frS_at S vs t ds (i + 1) k _ hn' (by simpa using h) (by rw [show i + 1 + k = i + (k + 1) by omega]; exact hs) (by rw [stepS_size]; exact ht), show i + 1 + k = i + (k + 1) by omega]
/-- One operation more. -/
theorem frS_put {S : Nat → Bool} {vs : Nat → Value} {v : Value} : ∀ (ds : List (Option Tmp)) (i k : Nat) (a : Array Value), (ds.filterMap id).Nodup → (d : Option Tmp) → ds[k]? = some d → S (i + k) = false →
    frS (fun j => S j || j == i + k) (fun j => if j = i + k then v else vs j) i ds a = (match d with | some t => (frS S vs i ds a).setIfInBounds t v | none => frS S vs i ds a)
  | [], _, _, _, _, _, h, _ => by simp at h
  | d0 :: ds, i, 0, a, hn, d, h, hs => by
    simp only [List.getElem?_cons_zero, Option.some.injEq] at h
    subst h
    have hs' : S i = false := hs
    have e1 : frS (fun j => S j || j == i + 0) (fun j => if j = i + 0 then v else vs j) (i + 1) ds = frS S vs (i + 1) ds := by
      funext t
      refine frS_congr ds (i + 1) t (fun j hj => ?_) (fun j hj _ => if_neg (by omega))
      have : (j == i + 0) = false := by rw [beq_eq_false_iff_ne]; omega
      rw [this, Bool.or_false]
    rw [frS_cons, frS_cons, e1]
    cases d0 with
    | none => rw [stepS_none, stepS_none]
    | some t =>
      have hnot : ∀ x ∈ ds, x ≠ some t := fun x hx e => by
        subst e
        simp only [List.filterMap_cons, id] at hn
        exact (List.nodup_cons.1 hn).1 (List.mem_filterMap.2 ⟨_, hx, rfl⟩)
      have a1 : stepS (fun j => S j || j == i + 0) (fun j => if j = i + 0 then v else vs j) i (some t) a = a.setIfInBounds t v := by rw [stepS_some]; simp
      have a2 : stepS S vs i (some t) a = a := by rw [stepS_some, hs']; simp
      rw [a1, a2]
      exact frS_set S vs t v ds _ _ hnot
  | d0 :: ds, i, k + 1, a, hn, d, h, hs => by
    have hn' : (ds.filterMap id).Nodup := by
      cases d0 with
      | none => simpa using hn
      | some d0 => simp only [List.filterMap_cons, id] at hn; exact (List.nodup_cons.1 hn).2
    have e : i + (k + 1) = i + 1 + k := by omega
    have ne : (i == i + (k + 1)) = false := by rw [beq_eq_false_iff_ne]; omega
    have ni : ¬ i = i + (k + 1) := by omega
    have e4 : stepS (fun j => S j || j == i + (k + 1)) (fun j => if j = i + (k + 1) then v else vs j) i d0 a = stepS S vs i d0 a := by
      unfold stepS
      simp only [ne, Bool.or_false, if_neg ni]
    rw [frS_cons, frS_cons, e4, e]
    exact frS_put ds (i + 1) k _ hn' d (by simpa using h) (by rw [← e]; exact hs)

section
variable {P : Program} {ops : Array Oper} {Q : Exit → Act → World → Prop}
/-- What is told of the operations by their text: the places differ, each waits for earlier ones alone, none is guarded. -/
def dagOk (ops : Array Oper) (ds : List (Option Tmp)) : Bool :=
  decide ((ops.toList.map (·.dst)) = ds) && decide ((ds.filterMap id).Nodup) && (List.range ops.size).all (fun i => match ops[i]? with | some o => o.guard.isNone && o.after.all (fun e => decide (e.on < i)) | none => true)
/-- Whom operation i waits for. -/
def waits (ops : Array Oper) (i : Nat) : List Nat := match ops[i]? with | some o => (o.after.toList.filter (Region.binds .any)).map (·.on) | none => []
theorem wp_region_dag {id : Nat} {a : Act} {w : World} (hm : P.follows .mixedOrders = true) (ds : List (Option Tmp)) (hok : dagOk ops ds = true)
    (J : (Nat → Bool) → (Nat → Value) → World → Prop) (h0 : ∀ vs, J (fun _ => false) vs { w with drawn := w.drawn + 1 })
    (hstep : ∀ i o, ops[i]? = some o → ∀ S vs w', S i = false → (∀ j ∈ waits ops i, S j = true) → J S vs w' →
      o.wp P { a with tmps := frS S vs 0 ds a.tmps } w' (fun a' w'' => ∃ v, a' = Act.put { a with tmps := frS S vs 0 ds a.tmps } o.dst v ∧ J (fun j => S j || j == i) (fun j => if j = i then v else vs j) w'') Q)
    (hend : ∀ vs w', J (fun j => decide (j < ops.size)) vs w' → Q .normal { a with tmps := frS (fun j => decide (j < ops.size)) vs 0 ds a.tmps } w') : (Code.region id ops true).wp P Q a w := by
  unfold dagOk at hok
  simp only [Bool.and_eq_true, decide_eq_true_eq, List.all_eq_true] at hok
  obtain ⟨⟨hd, hn⟩, hb⟩ := hok
  refine wp_region_any hm ?_
  have key : ∀ (fuel : Nat) (listed : Array Bool) (S : Nat → Bool) (vs : Nat → Value) (w' : World), listed.size = ops.size → (∀ i, i < ops.size → listed.getD i false = S i) → (∀ i, ops.size ≤ i → S i = false) →
      (List.range ops.size).countP (fun i => !S i) ≤ fuel → J S vs w' → wpAny P .any ops Q fuel listed { a with tmps := frS S vs 0 ds a.tmps } w' := by
    have full : ∀ (listed : Array Bool) (S : Nat → Bool), listed.size = ops.size → (∀ i, i < ops.size → listed.getD i false = S i) → (∀ i, ops.size ≤ i → S i = false) → Region.ready .any ops listed = [] → S = fun j => decide (j < ops.size) := by
      intro listed S hl hS hS' hr
      have : ∀ i, i < ops.size → S i = true := by
        intro i
        induction i using Nat.strongRecOn with
        | ind i ih =>
          intro hi
          cases hsi : S i with
          | true => rfl
          | false =>
            have ho : ops[i]? = some ops[i] := Array.getElem?_eq_getElem hi
            have h1 := hb i (List.mem_range.2 hi)
            rw [ho] at h1
            simp only [Bool.and_eq_true] at h1
            have hm : i ∈ Region.ready .any ops listed := mem_ready.2 ⟨by
              rw [← hsi, ← hS i hi]
              simp [Array.getD_eq_getD_getElem?, hl, hi], _, ho, fun e he _ => by
                have h2 := Array.all_eq_true_iff_forall_mem.1 h1.2 e he
                have h3 := of_decide_eq_true h2
                rw [hS e.on (by omega)]
                exact ih e.on h3 (by omega)⟩
            rw [hr] at hm
            simp at hm
      funext j
      by_cases hj : j < ops.size
      · rw [this j hj]; simp [hj]
      · rw [hS' j (by omega)]; simp [hj]
    intro fuel
    induction fuel with
    | zero =>
      intro listed S vs w' hl hS hS' hc hJ
      have hall : ∀ i, i < ops.size → S i = true := by
        intro i hi
        have h1 : (List.range ops.size).countP (fun i => !S i) = 0 := by omega
        have h2 := List.countP_eq_zero.1 h1 i (List.mem_range.2 hi)
        simpa using h2
      have hr : Region.ready .any ops listed = [] := by
        cases hr : Region.ready .any ops listed with
        | nil => rfl
        | cons x l =>
          have hx : x ∈ Region.ready .any ops listed := by rw [hr]; simp
          obtain ⟨h1, o, h2, _⟩ := mem_ready.1 hx
          have hlt := (Array.getElem?_eq_some_iff.1 h2).1
          have h3 := hS x hlt
          rw [hall x hlt] at h3
          simp [Array.getD_eq_getD_getElem?, hl, hlt] at h1 h3
          rw [h1] at h3
          cases h3
      refine ⟨hr, ?_⟩
      have hSf := full listed S hl hS hS' hr
      subst hSf
      exact hend vs w' hJ
    | succ fuel ih =>
      intro listed S vs w' hl hS hS' hc hJ
      refine ⟨fun hr => ?_, fun i hi => ?_⟩
      · have hSf := full listed S hl hS hS' hr
        subst hSf
        exact hend vs w' hJ
      · obtain ⟨h1, o, ho, hpre⟩ := mem_ready.1 hi
        have hlt := (Array.getElem?_eq_some_iff.1 ho).1
        have hSi : S i = false := by
          rw [← hS i hlt]
          simp [Array.getD_eq_getD_getElem?, hl, hlt] at h1 ⊢
          exact h1
        have h2 := hb i (List.mem_range.2 hlt)
        rw [ho] at h2
        simp only [Bool.and_eq_true] at h2
        have hg : o.guard = none := by simpa using h2.1
        have hw : ∀ j ∈ waits ops i, S j = true := by
          intro j hj
          unfold waits at hj
          rw [ho] at hj
          simp only [List.mem_map, List.mem_filter, Array.mem_toList_iff] at hj
          obtain ⟨e, ⟨he, hbd⟩, rfl⟩ := hj
          have h3 := of_decide_eq_true (Array.all_eq_true_iff_forall_mem.1 h2.2 e he)
          rw [← hS e.on (by omega)]
          exact hpre e he hbd
        unfold wpOp
        rw [ho]
        simp only [Region.wanted, hg, if_true]
        refine .inl (Oper.wp_mono (fun a' w'' h => ?_) (hstep i o ho S vs w' hSi hw hJ))
        obtain ⟨v, rfl, hJ'⟩ := h
        have hput : Act.put { a with tmps := frS S vs 0 ds a.tmps } o.dst v = { a with tmps := frS (fun j => S j || j == i) (fun j => if j = i then v else vs j) 0 ds a.tmps } := by
          have hdi : ds[i]? = some o.dst := by rw [← hd]; simp [ho]
          have := frS_put (S := S) (vs := vs) (v := v) ds 0 i a.tmps hn o.dst hdi (by simpa using hSi)
          simp only [Nat.zero_add] at this
          rw [this]
          unfold Act.put
          cases o.dst <;> rfl
        rw [hput]
        refine ih _ _ _ _ (by simpa using hl) (fun j hj => ?_) (fun j hj => ?_) ?_ hJ'
        · by_cases e : j = i
          · subst e
            simp [Array.getD_eq_getD_getElem?, hl, hlt]
          · rw [getD_set_ne false (Ne.symm e), hS j hj]
            simp [e]
        · have : ¬ j = i := by omega
          simp [hS' j hj, this]
        · have hcount : (List.range ops.size).countP (fun k => !(S k || k == i)) < (List.range ops.size).countP (fun k => !S k) := by
            have h3 : (List.range ops.size).countP (fun k => !(S k || k == i)) = ((List.range ops.size).filter (fun k => !S k)).countP (fun k => !(k == i)) := by
              rw [List.countP_filter]
              congr 1
              funext k
              cases S k <;> simp
            rw [h3, List.countP_eq_length_filter (p := fun k => !S k), List.countP_eq_length_filter]
            have hmem : i ∈ (List.range ops.size).filter (fun k => !S k) := List.mem_filter.2 ⟨List.mem_range.2 hlt, by simp [hSi]⟩
            exact List.length_filter_lt_length_iff_exists.2 ⟨i, hmem, by simp⟩
          omega
  have := key ops.size (Array.replicate ops.size false) (fun _ => false) (fun _ => undef) _ (by simp) (fun i hi => by simp [Array.getD_eq_getD_getElem?, hi]) (fun _ _ => rfl) (by
    have := List.countP_le_length (p := fun i => !(fun _ => false) i) (l := List.range ops.size)
    exact Nat.le_trans this (by simp)) (h0 _)
  have e : frS (fun _ => false) (fun _ => undef) 0 ds a.tmps = a.tmps := by
    have : ∀ (ds : List (Option Tmp)) (i : Nat) (t : Array Value), frS (fun _ => false) (fun _ => undef) i ds t = t := by
      intro ds
      induction ds with
      | nil => intro i t; rfl
      | cons d ds ih => intro i t; rw [frS_cons, ih]; rfl
    exact this _ _ _
  rw [e] at this
  exact this
theorem ev_done {a : Act} {ds : List (Option Tmp)} {S : Nat → Bool} {vs : Nat → Value} (hn : (ds.filterMap id).Nodup) (k : Nat) (t : Tmp) (h : ds[k]? = some (some t)) (hs : S k = true) (ht : t < a.tmps.size) :
    Act.eval { a with tmps := frS S vs 0 ds a.tmps } (.tmp t) = vs k := by
  have := frS_at S vs t ds 0 k a.tmps hn h (by simpa using hs) ht
  rw [Nat.zero_add] at this
  exact this
theorem ev_old {a : Act} {ds : List (Option Tmp)} {S : Nat → Bool} {vs : Nat → Value} (t : Tmp) (h : ∀ d ∈ ds, d ≠ some t) :
    Act.eval { a with tmps := frS S vs 0 ds a.tmps } (.tmp t) = a.tmps.getD t undef := frS_other S vs t ds 0 a.tmps h
theorem dag_value {P : Program} {o : Oper} {A : Act} {w w' : World} {Q : Exit → Act → World → Prop} {J : Value → World → Prop} (v : Value) (h : (execOp A.eval o).run P w = .ok (.value v) w') (hJ : J v w') :
    o.wp P A w (fun a' w'' => ∃ v, a' = Act.put A o.dst v ∧ J v w'') Q := by
  unfold Oper.wp
  rw [h]
  exact ⟨v, rfl, hJ⟩
theorem dag_skip {P : Program} {o : Oper} {A : Act} {w w' : World} {Q : Exit → Act → World → Prop} {J : Value → World → Prop} (h : (execOp A.eval o).run P w = .ok .skip w') (hJ : J undef w') :
    o.wp P A w (fun a' w'' => ∃ v, a' = Act.put A o.dst v ∧ J v w'') Q := by
  unfold Oper.wp
  rw [h]
  exact ⟨undef, rfl, hJ⟩
/-- The operation runs: to a value, or (a store) to nothing. -/
def RunsTo (P : Program) (ρ : Operand → Value) (o : Oper) (w : World) (v : Value) (w' : World) : Prop :=
  (execOp ρ o).run P w = .ok (.value v) w' ∨ ((execOp ρ o).run P w = .ok .skip w' ∧ v = undef)
theorem dag_runs {P : Program} {o : Oper} {A : Act} {w w' : World} {Q : Exit → Act → World → Prop} {J : Value → World → Prop} (v : Value) (h : RunsTo P A.eval o w v w') (hJ : J v w') :
    o.wp P A w (fun a' w'' => ∃ v, a' = Act.put A o.dst v ∧ J v w'') Q := by
  rcases h with h | ⟨h, rfl⟩
  · exact dag_value v h hJ
  · exact dag_skip h hJ
/-- Where the operations that turn the world stand in a chain (ch i = some k: operation i takes Ws k to Ws (k + 1)) all orders come to one end: V tells the values, Ws the worlds. -/
theorem wp_region_det {id : Nat} {a : Act} {w : World} (hm : P.follows .mixedOrders = true) (ds : List (Option Tmp)) (hok : dagOk ops ds = true)
    (V : Nat → Value) (Ws : Nat → World) (m : Nat) (ch : Nat → Option Nat) (h0 : Ws 0 = { w with drawn := w.drawn + 1 })
    (hch : ∀ i j k, ch i = some k → ch j = some k → i = j) (hchain : ∀ i k, ch i = some (k + 1) → ∃ j ∈ waits ops i, ch j = some k) (hall : ∀ k, k < m → ∃ i, i < ops.size ∧ ch i = some k) (hle : ∀ i k, ch i = some k → k < m)
    (hstep : ∀ i o, ops[i]? = some o → ∀ ρ : Operand → Value, (∀ j ∈ waits ops i, ∀ t, ds[j]? = some (some t) → t < a.tmps.size → ρ (.tmp t) = V j) → (∀ t, (∀ d ∈ ds, d ≠ some t) → ρ (.tmp t) = a.tmps.getD t undef) → (∀ v, ρ (.const v) = v) → (∀ f, ρ (.func f) = a.eval (.func f)) → (∀ g, ρ (.global g) = a.eval (.global g)) →
      match ch i with
      | some k => RunsTo P ρ o (Ws k) (V i) (Ws (k + 1))
      | none => ∀ k, k ≤ m → (∀ j kk, j ∈ waits ops i → ch j = some kk → kk < k) → (∀ j kk, i ∈ waits ops j → ch j = some kk → k ≤ kk) → RunsTo P ρ o (Ws k) (V i) (Ws k))
    (hend : Q .normal { a with tmps := frS (fun j => decide (j < ops.size)) V 0 ds a.tmps } (Ws m)) : (Code.region id ops true).wp P Q a w := by
  have hn : (ds.filterMap (_root_.id : Option Tmp → Option Tmp)).Nodup := by
    unfold dagOk at hok
    simp only [Bool.and_eq_true, decide_eq_true_eq] at hok
    exact hok.1.2
  refine wp_region_dag hm ds hok (fun S vs W => (∀ j, S j = true → vs j = V j) ∧ (∀ j, S j = true → ∀ x ∈ waits ops j, S x = true) ∧ ∃ k, k ≤ m ∧ W = Ws k ∧ ∀ i kk, ch i = some kk → (S i = true ↔ kk < k)) ?_ ?_ ?_
  · intro vs
    exact ⟨(fun j h => by cases h), (fun j h => by cases h), 0, Nat.zero_le _, h0.symm, (fun i kk _ => by simp)⟩
  · rintro i o ho S vs W hS hpre ⟨hv, hcl, k, hk, rfl, hc⟩
    have hds : (ops.toList.map (·.dst)) = ds := by
      unfold dagOk at hok
      simp only [Bool.and_eq_true, decide_eq_true_eq] at hok
      exact hok.1.1
    have h := hstep i o ho (Act.eval { a with tmps := frS S vs 0 ds a.tmps }) (fun j hj t ht hlt => (ev_done hn j t ht (hpre j hj) hlt).trans (hv j (hpre j hj))) (fun t ht => ev_old t ht) (fun _ => rfl) (fun _ => rfl) (fun _ => rfl)
    have hv' : ∀ j, (S j || j == i) = true → (fun j => if j = i then V i else vs j) j = V j := by
      intro j hj
      by_cases e : j = i
      · subst e; simp
      · simp only [if_neg e]
        refine hv j ?_
        have : (j == i) = false := beq_eq_false_iff_ne.2 e
        rwa [this, Bool.or_false] at hj
    have hcl' : ∀ j, (S j || j == i) = true → ∀ x ∈ waits ops j, (S x || x == i) = true := by
      intro j hj x hx
      by_cases e : j = i
      · subst e; rw [hpre x hx]; rfl
      · have : (j == i) = false := beq_eq_false_iff_ne.2 e
        rw [this, Bool.or_false] at hj
        rw [hcl j hj x hx]; rfl
    cases hci : ch i with
    | some k' =>
      rw [hci] at h
      have hkk : k' = k := by
        have h1 := (hc i k' hci)
        rw [hS] at h1
        have h2 : ¬ k' < k := fun hlt => by have := h1.2 hlt; cases this
        rcases Nat.lt_or_ge k k' with h3 | h3
        · obtain ⟨j, hj, hjk⟩ := hchain i (k' - 1) (by rw [hci]; congr 1; omega)
          have h4 := (hc j _ hjk).1 (hpre j hj)
          omega
        · omega
      subst hkk
      have hlt := hle i k' hci
      refine dag_runs (V i) h ⟨hv', hcl', k' + 1, by omega, rfl, fun j kk hj => ?_⟩
      by_cases e : j = i
      · subst e
        rw [hci] at hj
        cases hj
        simp
      · have hb : (j == i) = false := beq_eq_false_iff_ne.2 e
        show (S j || j == i) = true ↔ _
        rw [hb, Bool.or_false, hc j kk hj]
        constructor
        · intro h; omega
        · intro h
          rcases Nat.lt_or_ge kk k' with h5 | h5
          · exact h5
          · have : kk = k' := by omega
            subst this
            exact absurd (hch j i kk hj hci) e
    | none =>
      rw [hci] at h
      have h1 := h k hk (fun j kk hj hjk => (hc j kk hjk).1 (hpre j hj)) (fun j kk hj hjk => by
        rcases Nat.lt_or_ge kk k with h5 | h5
        · have := hcl j ((hc j kk hjk).2 h5) i hj
          rw [hS] at this; cases this
        · exact h5)
      refine dag_runs (V i) h1 ⟨hv', hcl', k, hk, rfl, fun j kk hj => ?_⟩
      have e : j ≠ i := fun e => by rw [e, hci] at hj; cases hj
      have hb : (j == i) = false := beq_eq_false_iff_ne.2 e
      show (S j || j == i) = true ↔ _
      rw [hb, Bool.or_false, hc j kk hj]
  · rintro vs W ⟨hv, _, k, hk, rfl, hc⟩
    have hkm : k = m := by
      rcases Nat.lt_or_ge k m with h | h
      · obtain ⟨i, hi, hik⟩ := hall k h
        have := (hc i k hik).1 (by simpa using hi)
        omega
      · omega
    subst hkm
    have : frS (fun j => decide (j < ops.size)) vs 0 ds a.tmps = frS (fun j => decide (j < ops.size)) V 0 ds a.tmps := frS_congr ds 0 _ (fun _ _ => rfl) (fun j _ hj => hv j hj)
    rw [this]
    exact hend
/-- Where operation i stands in the chain. -/
def chOf : List Nat → Nat → Nat → Option Nat
  | [], _, _ => none
  | x :: l, s, i => if x = i then some s else chOf l (s + 1) i
theorem chOf_get : ∀ (l : List Nat) (s i k : Nat), chOf l s i = some k → s ≤ k ∧ l[k - s]? = some i
  | [], _, _, _, h => by simp [chOf] at h
  | x :: l, s, i, k, h => by
    unfold chOf at h
    split at h
    · rename_i e
      cases h
      exact ⟨Nat.le_refl _, by rw [Nat.sub_self]; simp [e]⟩
    · obtain ⟨h1, h2⟩ := chOf_get l (s + 1) i k h
      refine ⟨by omega, ?_⟩
      obtain ⟨m, hm⟩ : ∃ m, k - s = m + 1 := ⟨k - (s + 1), by omega⟩
      rw [hm, List.getElem?_cons_succ, show m = k - (s + 1) by omega]
      exact h2
theorem get_chOf : ∀ (l : List Nat) (s i j : Nat), l.Nodup → l[j]? = some i → chOf l s i = some (s + j)
  | [], _, _, _, _, h => by simp at h
  | x :: l, s, i, 0, hn, h => by
    simp only [List.getElem?_cons_zero, Option.some.injEq] at h
    unfold chOf
    rw [if_pos h]; rfl
  | x :: l, s, i, j + 1, hn, h => by
    rw [List.getElem?_cons_succ] at h
    have hx : x ≠ i := fun e => (List.nodup_cons.1 hn).1 (by rw [e]; exact List.mem_of_getElem? h)
    unfold chOf
    rw [if_neg hx, get_chOf l (s + 1) i j (List.nodup_cons.1 hn).2 h]
    congr 1
    omega
/-- The operations of l turn the world, one behind the other: each waits for the one ahead of it. -/
def chainOk (ops : Array Oper) (l : List Nat) : Bool :=
  decide l.Nodup && l.all (fun i => decide (i < ops.size)) && (l.zip l.tail).all (fun p => (waits ops p.2).contains p.1)
theorem wp_region_chain {id : Nat} {a : Act} {w : World} (hm : P.follows .mixedOrders = true) (ds : List (Option Tmp)) (hok : dagOk ops ds = true) (l : List Nat) (hl : chainOk ops l = true)
    (V : Nat → Value) (Ws : Nat → World) (h0 : Ws 0 = { w with drawn := w.drawn + 1 })
    (hstep : ∀ i o, ops[i]? = some o → ∀ ρ : Operand → Value, (∀ j ∈ waits ops i, ∀ t, ds[j]? = some (some t) → t < a.tmps.size → ρ (.tmp t) = V j) → (∀ t, (∀ d ∈ ds, d ≠ some t) → ρ (.tmp t) = a.tmps.getD t undef) → (∀ v, ρ (.const v) = v) → (∀ f, ρ (.func f) = a.eval (.func f)) → (∀ g, ρ (.global g) = a.eval (.global g)) →
      match chOf l 0 i with
      | some k => RunsTo P ρ o (Ws k) (V i) (Ws (k + 1))
      | none => ∀ k, k ≤ l.length → (∀ j kk, j ∈ waits ops i → chOf l 0 j = some kk → kk < k) → (∀ j kk, i ∈ waits ops j → chOf l 0 j = some kk → k ≤ kk) → RunsTo P ρ o (Ws k) (V i) (Ws k))
    (hend : Q .normal { a with tmps := frS (fun j => decide (j < ops.size)) V 0 ds a.tmps } (Ws l.length)) : (Code.region id ops true).wp P Q a w := by
  unfold chainOk at hl
  simp only [Bool.and_eq_true, decide_eq_true_eq, List.all_eq_true] at hl
  obtain ⟨⟨hn, hlt⟩, hc⟩ := hl
  refine wp_region_det hm ds hok V Ws l.length (chOf l 0) h0 (fun i j k hi hj => ?_) (fun i k hi => ?_) (fun k hk => ?_) (fun i k hi => ?_) hstep hend
  · have h1 := (chOf_get l 0 i k hi).2
    have h2 := (chOf_get l 0 j k hj).2
    rw [h1] at h2
    exact Option.some.inj h2
  · have h1 := (chOf_get l 0 i (k + 1) hi).2
    simp only [Nat.sub_zero] at h1
    have hk : k < l.length := by
      have := (List.getElem?_eq_some_iff.1 h1).1
      omega
    refine ⟨l[k], ?_, by have := get_chOf l 0 l[k] k hn (List.getElem?_eq_getElem hk); rwa [Nat.zero_add] at this⟩
    have hz : (l.zip l.tail)[k]? = some (l[k], i) := by
      rw [List.getElem?_zip_eq_some]
      exact ⟨List.getElem?_eq_getElem hk, by rw [List.getElem?_tail]; exact h1⟩
    have := hc _ (List.mem_of_getElem? hz)
    simpa using this
  · refine ⟨l[k], hlt _ (List.getElem_mem _), ?_⟩
    have := get_chOf l 0 l[k] k hn (List.getElem?_eq_getElem hk)
    rwa [Nat.zero_add] at this
  · have h1 := (chOf_get l 0 i k hi).2
    exact (List.getElem?_eq_some_iff.1 h1).1
end
end Go.Proofs.YtchkckfadennhaaGreatDoor
namespace Go.Proofs.YtchkckfadennhaaGreatDoor
open Go.RowKit
set_option linter.unusedVariables false
section
variable {P : Program} {ops : Array Oper} {Q : Exit → Act → World → Prop}
def lastOk (ops : Array Oper) (c l : Nat) : Bool := decide (ops.size = l + 1) && decide (c < l) && (List.range l).all (fun j => (waits ops l).contains j)
/-- The call is operation c, the last one l; V: what the others come to; R: what the call hands back, and the world behind it; F: the world behind the last one. -/
theorem wp_region_call {id : Nat} {a : Act} {w : World} (hm : P.follows .mixedOrders = true) (ds : List (Option Tmp)) (hok : dagOk ops ds = true) (c l : Nat) (hl : lastOk ops c l = true)
    (V : Nat → Value) (hVl : V l = undef) (R : Value → World → Prop) (F : World → Prop)
    (hstep : ∀ i o, ops[i]? = some o → i ≠ c → i ≠ l → ∀ ρ : Operand → Value, (∀ j ∈ waits ops i, j ≠ c → ∀ t, ds[j]? = some (some t) → t < a.tmps.size → ρ (.tmp t) = V j) → (∀ t, (∀ d ∈ ds, d ≠ some t) → ρ (.tmp t) = a.tmps.getD t undef) → (∀ v, ρ (.const v) = v) → (∀ f, ρ (.func f) = a.eval (.func f)) → (∀ g, ρ (.global g) = a.eval (.global g)) →
      ∀ W, (W = { w with drawn := w.drawn + 1 } ∨ ∃ v, R v W) → RunsTo P ρ o W (V i) W)
    (hcall : ∀ o, ops[c]? = some o → ∀ ρ : Operand → Value, (∀ j ∈ waits ops c, ∀ t, ds[j]? = some (some t) → t < a.tmps.size → ρ (.tmp t) = V j) → (∀ t, (∀ d ∈ ds, d ≠ some t) → ρ (.tmp t) = a.tmps.getD t undef) → (∀ v, ρ (.const v) = v) → (∀ f, ρ (.func f) = a.eval (.func f)) → (∀ g, ρ (.global g) = a.eval (.global g)) →
      ∃ f args, (execOp ρ o).run P { w with drawn := w.drawn + 1 } = .ok (.enter f args) { w with drawn := w.drawn + 1 } ∧ Calls P f args { w with drawn := w.drawn + 1 } fun e W => ∃ v, e = .returned v ∧ R v W)
    (hlast : ∀ o, ops[l]? = some o → ∀ ρ : Operand → Value, ∀ vc W, (∀ j, j < l → j ≠ c → ∀ t, ds[j]? = some (some t) → t < a.tmps.size → ρ (.tmp t) = V j) → (∀ t, ds[c]? = some (some t) → t < a.tmps.size → ρ (.tmp t) = vc) → (∀ t, (∀ d ∈ ds, d ≠ some t) → ρ (.tmp t) = a.tmps.getD t undef) → (∀ v, ρ (.const v) = v) → R vc W →
      ∃ W', F W' ∧ RunsTo P ρ o W undef W')
    (hend : ∀ vc W, F W → Q .normal { a with tmps := frS (fun j => decide (j < ops.size)) (fun j => if j = c then vc else V j) 0 ds a.tmps } W) : (Code.region id ops true).wp P Q a w := by
  have hn : (ds.filterMap (_root_.id : Option Tmp → Option Tmp)).Nodup := by
    unfold dagOk at hok
    simp only [Bool.and_eq_true, decide_eq_true_eq] at hok
    exact hok.1.2
  unfold lastOk at hl
  simp only [Bool.and_eq_true, decide_eq_true_eq, List.all_eq_true, List.contains_iff_mem] at hl
  obtain ⟨⟨hsz, hcl⟩, hwl⟩ := hl
  have hwl' : ∀ j, j < l → j ∈ waits ops l := fun j hj => hwl j (List.mem_range.2 hj)
  refine wp_region_dag hm ds hok (fun S vs W => (∀ j, S j = true → j ≠ c → vs j = V j) ∧ (S l = true → ∀ j, j < l → S j = true) ∧ (if S l then F W else if S c then R (vs c) W else W = { w with drawn := w.drawn + 1 })) ?_ ?_ ?_
  · intro vs
    exact ⟨(fun j h => by cases h), (fun h => by cases h), rfl⟩
  · rintro i o ho S vs W hS hpre ⟨hv, hc, hW⟩
    have hil : i < ops.size := (Array.getElem?_eq_some_iff.1 ho).1
    have hSl : S l = false := by
      cases h : S l with
      | false => rfl
      | true =>
        rcases Nat.lt_or_ge i l with h1 | h1
        · rw [hc h i h1] at hS; cases hS
        · have : i = l := by omega
          subst this; rw [h] at hS; cases hS
    rw [hSl] at hW
    simp only [Bool.false_eq_true, if_false] at hW
    have hv' : ∀ x : Value, (i ≠ c → x = V i) → ∀ j, (S j || j == i) = true → j ≠ c → (fun j => if j = i then x else vs j) j = V j := by
      intro x hx j hj hjc
      by_cases e : j = i
      · subst e; simp only [if_pos]; exact hx hjc
      · simp only [if_neg e]
        have : (j == i) = false := beq_eq_false_iff_ne.2 e
        rw [this, Bool.or_false] at hj
        exact hv j hj hjc
    by_cases hi : i = l
    · subst hi
      have hSc : S c = true := hpre c (hwl' c hcl)
      rw [hSc] at hW
      simp only [if_true] at hW
      obtain ⟨W', hF, hr⟩ := hlast o ho (Act.eval { a with tmps := frS S vs 0 ds a.tmps }) (vs c) W (fun j hj hjc t ht hlt => (ev_done hn j t ht (hpre j (hwl' j hj)) hlt).trans (hv j (hpre j (hwl' j hj)) hjc)) (fun t ht hlt => ev_done hn c t ht hSc hlt) (fun t ht => ev_old t ht) (fun _ => rfl) hW
      refine dag_runs undef hr ⟨hv' undef (fun _ => hVl.symm), (fun _ j hj => by show (S j || j == i) = true; rw [hpre j (hwl' j hj)]; rfl), ?_⟩
      simp only [beq_self_eq_true, Bool.or_true, if_true]
      exact hF
    · have hbl : (l == i) = false := beq_eq_false_iff_ne.2 (Ne.symm hi)
      by_cases hic : i = c
      · subst hic
        rw [hS] at hW
        simp only [Bool.false_eq_true, if_false] at hW
        subst hW
        obtain ⟨f, args, hr, hC⟩ := hcall o ho (Act.eval { a with tmps := frS S vs 0 ds a.tmps }) (fun j hj t ht hlt => (ev_done hn j t ht (hpre j hj) hlt).trans (hv j (hpre j hj) (by
          intro e
          subst e
          rw [hpre j hj] at hS; cases hS))) (fun t ht => ev_old t ht) (fun _ => rfl) (fun _ => rfl) (fun _ => rfl)
        unfold Oper.wp
        rw [hr, Oper.upon_enter]
        refine hC.mono ?_
        rintro e W ⟨v, rfl, hR⟩
        refine ⟨v, rfl, hv' v (fun h => absurd rfl h), (fun h => ?_), ?_⟩
        · simp only [hSl, hbl, Bool.or_false] at h; cases h
        · simp only [hSl, hbl, Bool.or_false, Bool.false_eq_true, if_false, beq_self_eq_true, Bool.or_true, if_true]
          exact hR
      · have hbc : (c == i) = false := beq_eq_false_iff_ne.2 (Ne.symm hic)
        have hr := hstep i o ho hic hi (Act.eval { a with tmps := frS S vs 0 ds a.tmps }) (fun j hj hjc t ht hlt => (ev_done hn j t ht (hpre j hj) hlt).trans (hv j (hpre j hj) hjc)) (fun t ht => ev_old t ht) (fun _ => rfl) (fun _ => rfl) (fun _ => rfl) W (by
          cases h : S c with
          | true => rw [h] at hW; simp only [if_true] at hW; exact .inr ⟨_, hW⟩
          | false => rw [h] at hW; simp only [Bool.false_eq_true, if_false] at hW; exact .inl hW)
        refine dag_runs (V i) hr ⟨hv' (V i) (fun _ => rfl), (fun h => ?_), ?_⟩
        · simp only [hSl, hbl, Bool.or_false] at h; cases h
        · simp only [hSl, hbl, hbc, Bool.or_false, Bool.false_eq_true, if_false]
          rw [if_neg (Ne.symm hic)]
          exact hW
  · rintro vs W ⟨hv, _, hW⟩
    have : decide (l < ops.size) = true := by rw [decide_eq_true_eq]; omega
    have hW' : F W := by
      simp only [this, if_true] at hW
      exact hW
    have e : frS (fun j => decide (j < ops.size)) vs 0 ds a.tmps = frS (fun j => decide (j < ops.size)) (fun j => if j = c then vs c else V j) 0 ds a.tmps := frS_congr ds 0 _ (fun _ _ => rfl) (fun j _ hj => by
      by_cases h : j = c
      · subst h; simp
      · rw [if_neg h]; exact hv j hj h)
    rw [e]
    exact hend _ _ hW'
end
end Go.Proofs.YtchkckfadennhaaGreatDoor
namespace Go.Proofs.YtchkckfadennhaaGreatDoor
open Go.RowKit
set_option linter.unusedVariables false
section
variable {P : Program} {ops : Array Oper} {Q : Exit → Act → World → Prop}
theorem wp_region_inv {id : Nat} {a : Act} {w : World} (hm : P.follows .mixedOrders = true) (ds : List (Option Tmp)) (hok : dagOk ops ds = true) (V : Nat → Value) (K : World → Prop) (h0 : K { w with drawn := w.drawn + 1 })
    (hstep : ∀ i o, ops[i]? = some o → ∀ ρ : Operand → Value, (∀ j ∈ waits ops i, ∀ t, ds[j]? = some (some t) → t < a.tmps.size → ρ (.tmp t) = V j) → (∀ t, (∀ d ∈ ds, d ≠ some t) → ρ (.tmp t) = a.tmps.getD t undef) → (∀ v, ρ (.const v) = v) → (∀ f, ρ (.func f) = a.eval (.func f)) → (∀ g, ρ (.global g) = a.eval (.global g)) →
      ∀ W, K W → (∃ W', K W' ∧ RunsTo P ρ o W (V i) W') ∨ ∃ f args, (execOp ρ o).run P W = .ok (.enter f args) W ∧ Calls P f args W fun e W' => e = .returned (V i) ∧ K W')
    (hend : ∀ W, K W → Q .normal { a with tmps := frS (fun j => decide (j < ops.size)) V 0 ds a.tmps } W) : (Code.region id ops true).wp P Q a w := by
  have hn : (ds.filterMap (_root_.id : Option Tmp → Option Tmp)).Nodup := by
    unfold dagOk at hok
    simp only [Bool.and_eq_true, decide_eq_true_eq] at hok
    exact hok.1.2
  refine wp_region_dag hm ds hok (fun S vs W => (∀ j, S j = true → vs j = V j) ∧ K W) ?_ ?_ ?_
  · intro vs
    exact ⟨(fun j h => by cases h), h0⟩
  · rintro i o ho S vs W hS hpre ⟨hv, hW⟩
    have hv' : ∀ j, (S j || j == i) = true → (fun j => if j = i then V i else vs j) j = V j := by
      intro j hj
      by_cases e : j = i
      · subst e; simp
      · simp only [if_neg e]
        have : (j == i) = false := beq_eq_false_iff_ne.2 e
        rw [this, Bool.or_false] at hj
        exact hv j hj
    rcases hstep i o ho (Act.eval { a with tmps := frS S vs 0 ds a.tmps }) (fun j hj t ht hlt => (ev_done hn j t ht (hpre j hj) hlt).trans (hv j (hpre j hj))) (fun t ht => ev_old t ht) (fun _ => rfl) (fun _ => rfl) (fun _ => rfl) W hW with ⟨W', hK, hr⟩ | ⟨f, args, hr, hC⟩
    · exact dag_runs (V i) hr ⟨hv', hK⟩
    · unfold Oper.wp
      rw [hr, Oper.upon_enter]
      refine hC.mono ?_
      rintro e W' ⟨rfl, hK⟩
      exact ⟨V i, rfl, hv', hK⟩
  · rintro vs W ⟨hv, hW⟩
    have e : frS (fun j => decide (j < ops.size)) vs 0 ds a.tmps = frS (fun j => decide (j < ops.size)) V 0 ds a.tmps := frS_congr ds 0 _ (fun _ _ => rfl) (fun j _ hj => hv j hj)
    rw [e]
    exact hend W hW
end
end Go.Proofs.YtchkckfadennhaaGreatDoor

namespace Go.Proofs.YtchkckfadennhaaGreatDoor
open Go.RowKit
set_option linter.unusedVariables false
set_option linter.unusedSimpArgs false
/-- The slot of an operation that is not done stands as it stood. -/
theorem frS_undone (S : Nat → Bool) (vs : Nat → Value) (t : Tmp) : ∀ (ds : List (Option Tmp)) (i k : Nat) (a : Array Value), (ds.filterMap id).Nodup → ds[k]? = some (some t) → S (i + k) = false → (frS S vs i ds a).getD t undef = a.getD t undef
  | [], _, _, _, _, h, _ => by simp at h
  | d :: ds, i, 0, a, hn, h, hs => by
    simp only [List.getElem?_cons_zero, Option.some.injEq] at h
    subst h
    have hnot : ∀ x ∈ ds, x ≠ some t := fun x hx e => by
      subst e
      simp only [List.filterMap_cons, id] at hn
      exact (List.nodup_cons.1 hn).1 (List.mem_filterMap.2 ⟨_, hx, rfl⟩)
    rw [frS_cons, frS_other S vs t ds _ _ hnot, stepS_some, if_neg (by rw [Nat.add_zero] at hs; rw [hs]; decide)]
  | d :: ds, i, k + 1, a, hn, h, hs => by
    have hn' : (ds.filterMap id).Nodup := by
      cases d with
      | none => simpa using hn
      | some d => simp only [List.filterMap_cons, id] at hn; exact (List.nodup_cons.1 hn).2
    rw [frS_cons, frS_undone S vs t ds (i + 1) k _ hn' (by simpa using h) (by rw [show i + 1 + k = i + (k + 1) by omega]; exact hs)]
    cases d with
    | none => rw [stepS_none]
    | some d =>
      have hd : d ≠ t := fun e => by
        subst e
        simp only [List.filterMap_cons, id] at hn
        exact (List.nodup_cons.1 hn).1 (List.mem_filterMap.2 ⟨some d, List.mem_of_getElem? (by simpa using h), rfl⟩)
      rw [stepS_some]
      split
      · simp only [Array.getD_eq_getD_getElem?, Array.getElem?_setIfInBounds]
        rw [if_neg hd]
      · rfl
def dagOkG (ops : Array Oper) (ds : List (Option Tmp)) : Bool :=
  decide ((ops.toList.map (·.dst)) = ds) && decide ((ds.filterMap id).Nodup) && (List.range ops.size).all (fun i => match ops[i]? with | some o => (match o.guard with | none => true | some (g, _) => (waits ops i).contains g && (ds.getD g none).isSome) && o.after.all (fun e => decide (e.on < i)) | none => true)
section
variable {P : Program} {ops : Array Oper} {Q : Exit → Act → World → Prop}
theorem wp_region_dagG {id : Nat} {a : Act} {w : World} (hm : P.follows .mixedOrders = true) (ds : List (Option Tmp)) (hok : dagOkG ops ds = true)
    (J : (Nat → Bool) → (Nat → Value) → World → Prop) (h0 : ∀ vs, J (fun _ => false) vs { w with drawn := w.drawn + 1 })
    (hstep : ∀ i o, ops[i]? = some o → ∀ S vs w', S i = false → (∀ j ∈ waits ops i, S j = true) → J S vs w' →
      if Region.wanted o (yielded ops (frS S vs 0 ds a.tmps)) then o.wp P { a with tmps := frS S vs 0 ds a.tmps } w' (fun a' w'' => ∃ v, a' = Act.put { a with tmps := frS S vs 0 ds a.tmps } o.dst v ∧ J (fun j => S j || j == i) (fun j => if j = i then v else vs j) w'') Q
      else J (fun j => S j || j == i) (fun j => if j = i then undef else vs j) w')
    (hend : ∀ vs w', J (fun j => decide (j < ops.size)) vs w' → Q .normal { a with tmps := frS (fun j => decide (j < ops.size)) vs 0 ds a.tmps } w') : (Code.region id ops true).wp P Q a w := by
  unfold dagOkG at hok
  simp only [Bool.and_eq_true, decide_eq_true_eq, List.all_eq_true] at hok
  obtain ⟨⟨hd, hn⟩, hb⟩ := hok
  refine wp_region_any hm ?_
  have key : ∀ (fuel : Nat) (listed : Array Bool) (S : Nat → Bool) (vs : Nat → Value) (w' : World), listed.size = ops.size → (∀ i, i < ops.size → listed.getD i false = S i) → (∀ i, ops.size ≤ i → S i = false) →
      (List.range ops.size).countP (fun i => !S i) ≤ fuel → J S vs w' → wpAny P .any ops Q fuel listed { a with tmps := frS S vs 0 ds a.tmps } w' := by
    have full : ∀ (listed : Array Bool) (S : Nat → Bool), listed.size = ops.size → (∀ i, i < ops.size → listed.getD i false = S i) → (∀ i, ops.size ≤ i → S i = false) → Region.ready .any ops listed = [] → S = fun j => decide (j < ops.size) := by
      intro listed S hl hS hS' hr
      have : ∀ i, i < ops.size → S i = true := by
        intro i
        induction i using Nat.strongRecOn with
        | ind i ih =>
          intro hi
          cases hsi : S i with
          | true => rfl
          | false =>
            have ho : ops[i]? = some ops[i] := Array.getElem?_eq_getElem hi
            have h1 := hb i (List.mem_range.2 hi)
            rw [ho] at h1
            simp only [Bool.and_eq_true] at h1
            have hm : i ∈ Region.ready .any ops listed := mem_ready.2 ⟨by
              rw [← hsi, ← hS i hi]
              simp [Array.getD_eq_getD_getElem?, hl, hi], _, ho, fun e he _ => by
                have h2 := Array.all_eq_true_iff_forall_mem.1 h1.2 e he
                have h3 := of_decide_eq_true h2
                rw [hS e.on (by omega)]
                exact ih e.on h3 (by omega)⟩
            rw [hr] at hm
            simp at hm
      funext j
      by_cases hj : j < ops.size
      · rw [this j hj]; simp [hj]
      · rw [hS' j (by omega)]; simp [hj]
    intro fuel
    induction fuel with
    | zero =>
      intro listed S vs w' hl hS hS' hc hJ
      have hall : ∀ i, i < ops.size → S i = true := by
        intro i hi
        have h1 : (List.range ops.size).countP (fun i => !S i) = 0 := by omega
        have h2 := List.countP_eq_zero.1 h1 i (List.mem_range.2 hi)
        simpa using h2
      have hr : Region.ready .any ops listed = [] := by
        cases hr : Region.ready .any ops listed with
        | nil => rfl
        | cons x l =>
          have hx : x ∈ Region.ready .any ops listed := by rw [hr]; simp
          obtain ⟨h1, o, h2, _⟩ := mem_ready.1 hx
          have hlt := (Array.getElem?_eq_some_iff.1 h2).1
          have h3 := hS x hlt
          rw [hall x hlt] at h3
          simp [Array.getD_eq_getD_getElem?, hl, hlt] at h1 h3
          rw [h1] at h3
          cases h3
      refine ⟨hr, ?_⟩
      have hSf := full listed S hl hS hS' hr
      subst hSf
      exact hend vs w' hJ
    | succ fuel ih =>
      intro listed S vs w' hl hS hS' hc hJ
      refine ⟨fun hr => ?_, fun i hi => ?_⟩
      · have hSf := full listed S hl hS hS' hr
        subst hSf
        exact hend vs w' hJ
      · obtain ⟨h1, o, ho, hpre⟩ := mem_ready.1 hi
        have hlt := (Array.getElem?_eq_some_iff.1 ho).1
        have hSi : S i = false := by
          rw [← hS i hlt]
          simp [Array.getD_eq_getD_getElem?, hl, hlt] at h1 ⊢
          exact h1
        have h2 := hb i (List.mem_range.2 hlt)
        rw [ho] at h2
        simp only [Bool.and_eq_true] at h2
        have hw : ∀ j ∈ waits ops i, S j = true := by
          intro j hj
          unfold waits at hj
          rw [ho] at hj
          simp only [List.mem_map, List.mem_filter, Array.mem_toList_iff] at hj
          obtain ⟨e, ⟨he, hbd⟩, rfl⟩ := hj
          have h3 := of_decide_eq_true (Array.all_eq_true_iff_forall_mem.1 h2.2 e he)
          rw [← hS e.on (by omega)]
          exact hpre e he hbd
        have go : ∀ v w'', J (fun j => S j || j == i) (fun j => if j = i then v else vs j) w'' → wpAny P .any ops Q fuel (listed.setIfInBounds i true) (Act.put { a with tmps := frS S vs 0 ds a.tmps } o.dst v) w'' := by
          intro v w'' hJ'
          have hput : Act.put { a with tmps := frS S vs 0 ds a.tmps } o.dst v = { a with tmps := frS (fun j => S j || j == i) (fun j => if j = i then v else vs j) 0 ds a.tmps } := by
            have hdi : ds[i]? = some o.dst := by rw [← hd]; simp [ho]
            have := frS_put (S := S) (vs := vs) (v := v) ds 0 i a.tmps hn o.dst hdi (by simpa using hSi)
            simp only [Nat.zero_add] at this
            rw [this]
            unfold Act.put
            cases o.dst <;> rfl
          rw [hput]
          refine ih _ _ _ _ (by simpa using hl) (fun j hj => ?_) (fun j hj => ?_) ?_ hJ'
          · by_cases e : j = i
            · subst e
              simp [Array.getD_eq_getD_getElem?, hl, hlt]
            · rw [getD_set_ne false (Ne.symm e), hS j hj]
              simp [e]
          · have : ¬ j = i := by omega
            simp [hS' j hj, this]
          · have hcount : (List.range ops.size).countP (fun k => !(S k || k == i)) < (List.range ops.size).countP (fun k => !S k) := by
              have h3 : (List.range ops.size).countP (fun k => !(S k || k == i)) = ((List.range ops.size).filter (fun k => !S k)).countP (fun k => !(k == i)) := by
                rw [List.countP_filter]
                congr 1
                funext k
                cases S k <;> simp
              rw [h3, List.countP_eq_length_filter (p := fun k => !S k), List.countP_eq_length_filter]
              have hmem : i ∈ (List.range ops.size).filter (fun k => !S k) := List.mem_filter.2 ⟨List.mem_range.2 hlt, by simp [hSi]⟩
              exact List.length_filter_lt_length_iff_exists.2 ⟨i, hmem, by simp⟩
            omega
        have hs := hstep i o ho S vs w' hSi hw hJ
        unfold wpOp
        rw [ho]
        show if Region.wanted o (yielded ops (frS S vs 0 ds a.tmps)) then _ else _
        split at hs
        · next hwant =>
          rw [if_pos hwant]
          exact .inl (Oper.wp_mono (fun a' w'' ⟨v, e, hJ'⟩ => e ▸ go v w'' hJ') hs)
        · next hwant =>
          rw [if_neg hwant]
          exact go undef w' hs
  have := key ops.size (Array.replicate ops.size false) (fun _ => false) (fun _ => undef) _ (by simp) (fun i hi => by simp [Array.getD_eq_getD_getElem?, hi]) (fun _ _ => rfl) (by
    have := List.countP_le_length (p := fun i => !(fun _ => false) i) (l := List.range ops.size)
    exact Nat.le_trans this (by simp)) (h0 _)
  have e : frS (fun _ => false) (fun _ => undef) 0 ds a.tmps = a.tmps := by
    have : ∀ (ds : List (Option Tmp)) (i : Nat) (t : Array Value), frS (fun _ => false) (fun _ => undef) i ds t = t := by
      intro ds
      induction ds with
      | nil => intro i t; rfl
      | cons d ds ih => intro i t; rw [frS_cons, ih]; rfl
    exact this _ _ _
  rw [e] at this
  exact this
/-- What an operation does: it comes to a value, by itself or by a call; memory that was there stands. -/
def Does (P : Program) (ρ : Operand → Value) (o : Oper) (W : World) (K : World → Prop) (R : Value → World → Prop) : Prop :=
  (∃ v, R v W ∧ RunsTo P ρ o W v W) ∨ (∃ v W', K W' ∧ Below W.heap.size W W' ∧ R v W' ∧ RunsTo P ρ o W v W') ∨
  ∃ f args, (execOp ρ o).run P W = .ok (.enter f args) W ∧ Calls P f args W fun e W' => ∃ v, e = .returned v ∧ K W' ∧ Below W.heap.size W W' ∧ R v W'
theorem wp_region_rel {id : Nat} {a : Act} {w : World} (hm : P.follows .mixedOrders = true) (ds : List (Option Tmp)) (hok : dagOkG ops ds = true) (hsz : ∀ t, some t ∈ ds → t < a.tmps.size) (R : Nat → Value → World → Prop) (K : World → Prop)
    (hR : ∀ i v W W', R i v W → Below W.heap.size W W' → R i v W') (h0 : K { w with drawn := w.drawn + 1 })
    (hstep : ∀ i o, ops[i]? = some o → ∀ ρ : Operand → Value, ∀ W, K W → (∀ j ∈ waits ops i, ∀ t, ds[j]? = some (some t) → R j (ρ (.tmp t)) W) → (∀ t, (∀ d ∈ ds, d ≠ some t) → ρ (.tmp t) = a.tmps.getD t undef) → (∀ t j, ds[j]? = some (some t) → i ∈ waits ops j → ρ (.tmp t) = a.tmps.getD t undef) → (∀ v, ρ (.const v) = v) → (∀ f, ρ (.func f) = a.eval (.func f)) → (∀ g, ρ (.global g) = a.eval (.global g)) →
      match o.guard with
      | none => Does P ρ o W K (R i)
      | some (g, b) => ∀ t, ds[g]? = some (some t) → (ρ (.tmp t) = .bool b → Does P ρ o W K (R i)) ∧ (ρ (.tmp t) ≠ .bool b → R i undef W))
    (hend : ∀ vs W, K W → (∀ j, j < ops.size → R j (vs j) W) → Q .normal { a with tmps := frS (fun j => decide (j < ops.size)) vs 0 ds a.tmps } W) : (Code.region id ops true).wp P Q a w := by
  have hok' := hok
  unfold dagOkG at hok'
  simp only [Bool.and_eq_true, decide_eq_true_eq, List.all_eq_true] at hok'
  obtain ⟨⟨hd, hn⟩, hb⟩ := hok'
  refine wp_region_dagG hm ds hok (fun S vs W => K W ∧ (∀ j, S j = true → R j (vs j) W) ∧ ∀ j, S j = true → ∀ x ∈ waits ops j, S x = true) ?_ ?_ ?_
  · intro vs
    exact ⟨h0, (fun j h => by cases h), fun j h => by cases h⟩
  · rintro i o ho S vs W hS hpre ⟨hK, hv, hcl⟩
    have hcl' : ∀ j, (S j || j == i) = true → ∀ x ∈ waits ops j, (S x || x == i) = true := by
      intro j hj x hx
      by_cases e : j = i
      · subst e; rw [hpre x hx]; rfl
      · have : (j == i) = false := beq_eq_false_iff_ne.2 e
        rw [this, Bool.or_false] at hj
        rw [hcl j hj x hx]; rfl
    have hlt := (Array.getElem?_eq_some_iff.1 ho).1
    have hst := hstep i o ho (Act.eval { a with tmps := frS S vs 0 ds a.tmps }) W hK (fun j hj t ht => by rw [ev_done hn j t ht (hpre j hj) (hsz t (List.mem_of_getElem? ht))]; exact hv j (hpre j hj)) (fun t ht => ev_old t ht) (fun t j hj hi => frS_undone S vs t ds 0 j a.tmps hn hj (by
      rw [Nat.zero_add]
      cases hSj : S j with
      | false => rfl
      | true => exact absurd (hcl j hSj i hi) (by rw [hS]; decide))) (fun _ => rfl) (fun _ => rfl) (fun _ => rfl)
    have keep : ∀ W', Below W.heap.size W W' → ∀ x, R i x W' → ∀ j, (S j || j == i) = true → R j ((fun j => if j = i then x else vs j) j) W' := by
      intro W' hbl x hx j hj
      by_cases e : j = i
      · subst e; simpa using hx
      · simp only [if_neg e]
        have : (j == i) = false := beq_eq_false_iff_ne.2 e
        rw [this, Bool.or_false] at hj
        exact hR _ _ _ _ (hv j hj) hbl
    have does : Does P (Act.eval { a with tmps := frS S vs 0 ds a.tmps }) o W K (R i) → o.wp P { a with tmps := frS S vs 0 ds a.tmps } W (fun a' w'' => ∃ v, a' = Act.put { a with tmps := frS S vs 0 ds a.tmps } o.dst v ∧ (fun S vs W => K W ∧ (∀ j, S j = true → R j (vs j) W) ∧ ∀ j, S j = true → ∀ x ∈ waits ops j, S x = true) (fun j => S j || j == i) (fun j => if j = i then v else vs j) w'') Q := by
      rintro (⟨v, hr, hrun⟩ | ⟨v, W', hK', hbl, hr, hrun⟩ | ⟨f, args, hrun, hC⟩)
      · exact dag_runs v hrun ⟨hK, keep W (Below.refl _ _) v hr, hcl'⟩
      · exact dag_runs v hrun ⟨hK', keep W' hbl v hr, hcl'⟩
      · unfold Oper.wp
        rw [hrun, Oper.upon_enter]
        refine hC.mono ?_
        rintro e W' ⟨v, rfl, hK', hbl, hr⟩
        exact ⟨v, rfl, hK', keep W' hbl v hr, hcl'⟩
    cases hg : o.guard with
    | none =>
      rw [hg] at hst
      have : Region.wanted o (yielded ops (frS S vs 0 ds a.tmps)) = true := by unfold Region.wanted; rw [hg]
      rw [if_pos this]
      exact does hst
    | some p =>
      obtain ⟨g, b⟩ := p
      rw [hg] at hst
      have h2 := hb i (List.mem_range.2 hlt)
      rw [ho] at h2
      simp only [hg, Bool.and_eq_true, List.contains_iff_mem] at h2
      obtain ⟨⟨h3, h4⟩, _⟩ := h2
      obtain ⟨t, ht⟩ := Option.isSome_iff_exists.1 h4
      have hdg : ds[g]? = some (some t) := by
        rw [List.getD_eq_getElem?_getD] at ht
        cases hx : ds[g]? with
        | none => rw [hx] at ht; cases ht
        | some x => rw [hx] at ht; simp at ht; rw [ht]
      obtain ⟨s1, s2⟩ := hst t hdg
      have hyv : (frS S vs 0 ds a.tmps)[t]? = some (vs g) := by
        have h5 := ev_done (a := a) (vs := vs) hn g t hdg (hpre g h3) (hsz t (List.mem_of_getElem? hdg))
        have h6 : t < (frS S vs 0 ds a.tmps).size := by rw [frS_size]; exact hsz t (List.mem_of_getElem? hdg)
        rw [Array.getElem?_eq_getElem h6]
        congr 1
        have h7 : (frS S vs 0 ds a.tmps).getD t undef = vs g := h5
        rw [← h7]
        simp [Array.getD_eq_getD_getElem?, h6]
      have hev : Act.eval { a with tmps := frS S vs 0 ds a.tmps } (.tmp t) = vs g := ev_done (a := a) hn g t hdg (hpre g h3) (hsz t (List.mem_of_getElem? hdg))
      rw [hev] at s1 s2
      have hgo : ((ops[g]?).bind (·.dst)) = some t := by
        have : (ops.toList.map (·.dst))[g]? = some (some t) := by rw [hd]; exact hdg
        rw [List.getElem?_map, Array.getElem?_toList] at this
        cases hx : ops[g]? with
        | none => rw [hx] at this; cases this
        | some x => rw [hx] at this; simpa using this
      have hy : Region.wanted o (yielded ops (frS S vs 0 ds a.tmps)) = true ↔ vs g = .bool b := by
        unfold Region.wanted yielded
        rw [hg]
        simp only [hgo, Option.bind_some, hyv]
        cases hvg : vs g <;> simp
      by_cases hw : vs g = .bool b
      · rw [if_pos (hy.2 hw)]
        exact does (s1 hw)
      · rw [if_neg (fun h => hw (hy.1 h))]
        exact ⟨hK, keep W (Below.refl _ _) undef (s2 hw), hcl'⟩
  · rintro vs W ⟨hK, hv, _⟩
    exact hend vs W hK fun j hj => hv j (by simpa using hj)
end
end Go.Proofs.YtchkckfadennhaaGreatDoor

namespace Go.Proofs.YtchkckfadennhaaGreatDoor
open Go.RowKit
set_option linter.unusedVariables false
set_option linter.unusedSimpArgs false
section
variable {P : Program} {ops : Array Oper} {Q : Exit → Act → World → Prop}
/-- l: the chain; V: the values of the others; T k vs W: what holds of the world behind k operations of the chain, where vs are their values. -/
theorem wp_region_path {id : Nat} {a : Act} {w : World} (hm : P.follows .mixedOrders = true) (ds : List (Option Tmp)) (hok : dagOk ops ds = true) (l : List Nat) (hl : chainOk ops l = true)
    (V : Nat → Value) (T : Nat → (Nat → Value) → World → Prop) (hT : ∀ k vs vs' W, (∀ j kk, chOf l 0 j = some kk → kk < k → vs j = vs' j) → T k vs W → T k vs' W) (h0 : ∀ vs, T 0 vs { w with drawn := w.drawn + 1 })
    (hstep : ∀ i o, ops[i]? = some o → ∀ ρ : Operand → Value, ∀ vs : Nat → Value, (∀ j ∈ waits ops i, ∀ t, ds[j]? = some (some t) → t < a.tmps.size → ρ (.tmp t) = match chOf l 0 j with | some _ => vs j | none => V j) → (∀ t, (∀ d ∈ ds, d ≠ some t) → ρ (.tmp t) = a.tmps.getD t undef) → (∀ v, ρ (.const v) = v) → (∀ f, ρ (.func f) = a.eval (.func f)) → (∀ g, ρ (.global g) = a.eval (.global g)) →
      match chOf l 0 i with
      | some k => ∀ W, T k vs W → (∃ v W', T (k + 1) (fun j => if j = i then v else vs j) W' ∧ RunsTo P ρ o W v W') ∨ ∃ f args, (execOp ρ o).run P W = .ok (.enter f args) W ∧ Calls P f args W fun e W' => ∃ v, e = .returned v ∧ T (k + 1) (fun j => if j = i then v else vs j) W'
      | none => ∀ k, k ≤ l.length → (∀ j kk, j ∈ waits ops i → chOf l 0 j = some kk → kk < k) → (∀ j kk, i ∈ waits ops j → chOf l 0 j = some kk → k ≤ kk) → ∀ W, T k vs W → RunsTo P ρ o W (V i) W)
    (hend : ∀ vs W, T l.length vs W → Q .normal { a with tmps := frS (fun j => decide (j < ops.size)) (fun j => match chOf l 0 j with | some _ => vs j | none => V j) 0 ds a.tmps } W) : (Code.region id ops true).wp P Q a w := by
  have hl' := hl
  unfold chainOk at hl'
  simp only [Bool.and_eq_true, decide_eq_true_eq, List.all_eq_true] at hl'
  obtain ⟨⟨hnl, hlt⟩, hcz⟩ := hl'
  have hch : ∀ i j k, chOf l 0 i = some k → chOf l 0 j = some k → i = j := fun i j k hi hj => by
    have h1 := (chOf_get l 0 i k hi).2
    have h2 := (chOf_get l 0 j k hj).2
    rw [h1] at h2
    exact Option.some.inj h2
  have hchain : ∀ i k, chOf l 0 i = some (k + 1) → ∃ j ∈ waits ops i, chOf l 0 j = some k := fun i k hi => by
    have h1 := (chOf_get l 0 i (k + 1) hi).2
    simp only [Nat.sub_zero] at h1
    have hk : k < l.length := by
      have := (List.getElem?_eq_some_iff.1 h1).1
      omega
    refine ⟨l[k], ?_, by have := get_chOf l 0 l[k] k hnl (List.getElem?_eq_getElem hk); rwa [Nat.zero_add] at this⟩
    have hz : (l.zip l.tail)[k]? = some (l[k], i) := by
      rw [List.getElem?_zip_eq_some]
      exact ⟨List.getElem?_eq_getElem hk, by rw [List.getElem?_tail]; exact h1⟩
    have := hcz _ (List.mem_of_getElem? hz)
    simpa using this
  have hall : ∀ k, k < l.length → ∃ i, i < ops.size ∧ chOf l 0 i = some k := fun k hk => by
    refine ⟨l[k], hlt _ (List.getElem_mem _), ?_⟩
    have := get_chOf l 0 l[k] k hnl (List.getElem?_eq_getElem hk)
    rwa [Nat.zero_add] at this
  have hle : ∀ i k, chOf l 0 i = some k → k < l.length := fun i k hi => by
    have h1 := (chOf_get l 0 i k hi).2
    exact (List.getElem?_eq_some_iff.1 h1).1
  have hn : (ds.filterMap (_root_.id : Option Tmp → Option Tmp)).Nodup := by
    unfold dagOk at hok
    simp only [Bool.and_eq_true, decide_eq_true_eq] at hok
    exact hok.1.2
  refine wp_region_dag hm ds hok (fun S vs W => (∀ j, S j = true → chOf l 0 j = none → vs j = V j) ∧ (∀ j, S j = true → ∀ x ∈ waits ops j, S x = true) ∧ ∃ k, k ≤ l.length ∧ T k vs W ∧ ∀ i kk, chOf l 0 i = some kk → (S i = true ↔ kk < k)) ?_ ?_ ?_
  · intro vs
    exact ⟨(fun j h => by cases h), (fun j h => by cases h), 0, Nat.zero_le _, h0 vs, (fun i kk _ => by simp)⟩
  · rintro i o ho S vs W hS hpre ⟨hv, hcl, k, hk, hTk, hc⟩
    have h := hstep i o ho (Act.eval { a with tmps := frS S vs 0 ds a.tmps }) vs (fun j hj t ht hlt => by
      rw [ev_done hn j t ht (hpre j hj) hlt]
      cases hj2 : chOf l 0 j with
      | some _ => rfl
      | none => exact hv j (hpre j hj) hj2) (fun t ht => ev_old t ht) (fun _ => rfl) (fun _ => rfl) (fun _ => rfl)
    have hv' : ∀ x, (chOf l 0 i = none → x = V i) → ∀ j, (S j || j == i) = true → chOf l 0 j = none → (fun j => if j = i then x else vs j) j = V j := by
      intro x hx j hj hjn
      by_cases e : j = i
      · subst e; simpa using hx hjn
      · simp only [if_neg e]
        refine hv j ?_ hjn
        have : (j == i) = false := beq_eq_false_iff_ne.2 e
        rwa [this, Bool.or_false] at hj
    have hcl' : ∀ j, (S j || j == i) = true → ∀ x ∈ waits ops j, (S x || x == i) = true := by
      intro j hj x hx
      by_cases e : j = i
      · subst e; rw [hpre x hx]; rfl
      · have : (j == i) = false := beq_eq_false_iff_ne.2 e
        rw [this, Bool.or_false] at hj
        rw [hcl j hj x hx]; rfl
    cases hci : chOf l 0 i with
    | some k' =>
      rw [hci] at h
      have hkk : k' = k := by
        have h1 := (hc i k' hci)
        rw [hS] at h1
        have h2 : ¬ k' < k := fun hlt => by have := h1.2 hlt; cases this
        rcases Nat.lt_or_ge k k' with h3 | h3
        · obtain ⟨j, hj, hjk⟩ := hchain i (k' - 1) (by rw [hci]; congr 1; omega)
          have h4 := (hc j _ hjk).1 (hpre j hj)
          omega
        · omega
      subst hkk
      have hltk := hle i k' hci
      have hset : ∀ j kk, chOf l 0 j = some kk → ((S j || j == i) = true ↔ kk < k' + 1) := by
        intro j kk hj
        by_cases e : j = i
        · subst e
          rw [hci] at hj
          cases hj
          simp
        · have hb : (j == i) = false := beq_eq_false_iff_ne.2 e
          rw [hb, Bool.or_false, hc j kk hj]
          constructor
          · intro h; omega
          · intro h
            rcases Nat.lt_or_ge kk k' with h5 | h5
            · exact h5
            · have : kk = k' := by omega
              subst this
              exact absurd (hch j i kk hj hci) e
      rcases h W hTk with ⟨v, W', hT', hr⟩ | ⟨f, args, hr, hC⟩
      · exact dag_runs v hr ⟨hv' v (fun h => by rw [hci] at h; cases h), hcl', k' + 1, by omega, hT', hset⟩
      · unfold Oper.wp
        rw [hr, Oper.upon_enter]
        refine hC.mono ?_
        rintro e W' ⟨v, rfl, hT'⟩
        exact ⟨v, rfl, hv' v (fun h => by rw [hci] at h; cases h), hcl', k' + 1, by omega, hT', hset⟩
    | none =>
      rw [hci] at h
      have h1 := h k hk (fun j kk hj hjk => (hc j kk hjk).1 (hpre j hj)) (fun j kk hj hjk => by
        rcases Nat.lt_or_ge kk k with h5 | h5
        · have := hcl j ((hc j kk hjk).2 h5) i hj
          rw [hS] at this; cases this
        · exact h5) W hTk
      refine dag_runs (V i) h1 ⟨hv' (V i) (fun _ => rfl), hcl', k, hk, hT k vs _ W (fun j kk hj _ => ?_) hTk, fun j kk hj => ?_⟩
      · have e : j ≠ i := fun e => by rw [e, hci] at hj; cases hj
        simp only [if_neg e]
      · have e : j ≠ i := fun e => by rw [e, hci] at hj; cases hj
        have hb : (j == i) = false := beq_eq_false_iff_ne.2 e
        show (S j || j == i) = true ↔ _
        rw [hb, Bool.or_false, hc j kk hj]
  · rintro vs W ⟨hv, _, k, hk, hTk, hc⟩
    have hkm : k = l.length := by
      rcases Nat.lt_or_ge k l.length with h | h
      · obtain ⟨i, hi, hik⟩ := hall k h
        have := (hc i k hik).1 (by simpa using hi)
        omega
      · omega
    subst hkm
    have : frS (fun j => decide (j < ops.size)) vs 0 ds a.tmps = frS (fun j => decide (j < ops.size)) (fun j => match chOf l 0 j with | some _ => vs j | none => V j) 0 ds a.tmps := frS_congr ds 0 _ (fun _ _ => rfl) (fun j _ hj => by
      cases hj2 : chOf l 0 j with
      | some _ => rfl
      | none => exact hv j hj hj2)
    rw [this]
    exact hend vs W hTk
end
end Go.Proofs.YtchkckfadennhaaGreatDoor
