/- norm.Items: the parts, put in order. Printed by wip/tools/mknorm.py. -/
import Derived.Test.YtpmbebofinlmmaaGreatDoorStb
import Derived.Test.YtpmbebofinlmmaaGreatDoorNormP
import Derived.Test.YtpmbebofinlmmaaGreatDoorComb
import Derived.Test.YtpmbebofinlmmaaGreatDoorDecB
import Derived.Test.YtpmbebofinlmmaaGreatDoorDagH
import Derived.Test.YtpmbebofinlmmaaGreatDoorAppM
namespace Go.Proofs.YtpmbebofinlmmaaGreatDoor
open Go.RowKit Go.Sort Stb
set_option linter.unusedVariables false
set_option linter.unusedSimpArgs false

/-! ### items -/
structure It where
  r : Int
  s : Int
  e : Int
deriving Inhabited, DecidableEq
def itCells (x : It) : List Value := [.int .i64 x.r, .int .i64 x.s, .int .i64 x.e]
theorem it_len (x : It) : (itCells x).length = 3 := rfl
abbrev ItemsAt (w : World) (B : Nat) (v : Value) (xs : List It) : Prop := w.ownsRow B 54 3 v xs.length (xs.flatMap itCells)
theorem items_get (xs : List It) (i : Nat) (h : i < xs.length) : (xs.flatMap itCells)[i * 3]? = some (.int .i64 xs[i].r) ∧ (xs.flatMap itCells)[i * 3 + 1]? = some (.int .i64 xs[i].s) ∧ (xs.flatMap itCells)[i * 3 + 2]? = some (.int .i64 xs[i].e) := by
  have g : ∀ t, t < 3 → (xs.flatMap itCells)[i * 3 + t]? = some ((itCells xs[i])[t]!) := fun t ht => by
    rw [flat_get itCells 3 it_len xs (i * 3 + t) (by omega), show (i * 3 + t) / 3 = i by omega, show (i * 3 + t) % 3 = t by omega, getElem!_pos xs i h]
  exact ⟨g 0 (by decide), g 1 (by decide), g 2 (by decide)⟩
/-- A slice of items, told by its cells. -/
def ItsAt (w : World) (v : Value) (xs : List It) : Prop := ∃ A c, v = .slice A xs.length c ∧ xs.length ≤ 9223372036854775807 ∧ (0 < xs.length → ∃ ad, A = some ad ∧ ∀ j (h : j < xs.length), w.cell? (ad.add (j * 3)) = some (.int .i64 xs[j].r) ∧ w.cell? ((ad.add (j * 3)).add 1) = some (.int .i64 xs[j].s) ∧ w.cell? ((ad.add (j * 3)).add 2) = some (.int .i64 xs[j].e))
theorem ItsAt.below {w w' : World} {v : Value} {xs : List It} (h : ItsAt w v xs) (hb : Below w.heap.size w w') : ItsAt w' v xs := by
  obtain ⟨A, c, rfl, hn, hz⟩ := h
  refine ⟨A, c, rfl, hn, fun hp => ?_⟩
  obtain ⟨ad, rfl, hc⟩ := hz hp
  refine ⟨ad, rfl, fun j hj => ?_⟩
  obtain ⟨h1, h2, h3⟩ := hc j hj
  exact ⟨cell_later hb h1, cell_later hb h2, cell_later hb h3⟩
theorem ItsAt.of_own {w : World} {B : Nat} {v : Value} {xs : List It} (h : ItemsAt w B v xs) : ItsAt w v xs := by
  obtain ⟨A, c, rfl⟩ := own_slice h
  have hn := own_len h
  unfold maxLen at hn
  refine ⟨A, c, rfl, by omega, fun hp => ?_⟩
  obtain ⟨g, cap, hv, _⟩ := own_form h hp
  injection hv with hA _ _
  subst hA
  refine ⟨_, rfl, fun j hj => ?_⟩
  obtain ⟨g1, g2, g3⟩ := items_get xs j hj
  obtain ⟨cap2, e2⟩ : ∃ cap2, c = cap2 := ⟨c, rfl⟩
  rw [add_plain, add_plain, add_plain, Nat.zero_add]
  exact ⟨own_cell h _ _ g1, own_cell h _ _ g2, own_cell h _ _ g3⟩
abbrev PartsAt (w : World) (B : Nat) (v : Value) (ps : List Part) : Prop := w.ownsRow B 110 4 v ps.length (ps.flatMap ptCells)
theorem parts_get (ps : List Part) (i : Nat) (h : i < ps.length) : (ps.flatMap ptCells)[i * 4]? = some (.int .i64 ps[i].r) ∧ (ps.flatMap ptCells)[i * 4 + 1]? = some (.int .i64 ps[i].s) ∧ (ps.flatMap ptCells)[i * 4 + 2]? = some (.int .i64 ps[i].e) ∧ (ps.flatMap ptCells)[i * 4 + 3]? = some (.int .i64 ps[i].c) := by
  have g : ∀ t, t < 4 → (ps.flatMap ptCells)[i * 4 + t]? = some ((ptCells ps[i])[t]!) := fun t ht => by
    rw [flat_get ptCells 4 pt_len ps (i * 4 + t) (by omega), show (i * 4 + t) / 4 = i by omega, show (i * 4 + t) % 4 = t by omega, getElem!_pos ps i h]
  exact ⟨g 0 (by decide), g 1 (by decide), g 2 (by decide), g 3 (by decide)⟩
theorem slPart : SlT Tryz.prog 108 110 4 32 := ⟨Tryz.underlying108, by kernel_rfl, by decide, by decide⟩
theorem slItem : SlT Tryz.prog 51 54 3 24 := ⟨Tryz.underlying51, by kernel_rfl, by decide, by decide⟩

/-! ### a piece of a row, sorted -/
theorem seg_holds {α : Type} [Inhabited α] {enc : α → List Value} {k : Nat} (hk : ∀ x, (enc x).length = k) {w : World} {g : Nat} {p s : List α} {d D : Array α} (hD : D.toList = p ++ (d.toList ++ s)) (h : HoldsK enc k w g 0 D) : HoldsK enc k w g (p.length * k) d := by
  have hl : D.size = p.length + d.size + s.length := by
    have := congrArg List.length hD
    simp only [List.length_append, Array.length_toList] at this
    omega
  intro j hj
  have hj' : j < d.size * k := by simpa using hj
  have hJ : p.length * k + j < (flatK enc k D).size := by
    simp only [size_flatK, hl, Nat.add_mul]
    omega
  obtain ⟨h1, h2⟩ := h (p.length * k + j) hJ
  rw [Nat.zero_add] at h1 h2
  refine ⟨?_, h2⟩
  rw [h1]
  congr 2
  rw [Stb.get_list, Stb.get_list, flatK_list enc k hk, flatK_list enc k hk, hD, List.flatMap_append, List.getElem?_append_right (by rw [flat_len enc k hk]; omega), flat_len enc k hk, List.flatMap_append, List.getElem?_append_left (by have l1 : d.toList.length = d.size := Array.length_toList; rw [flat_len enc k hk, l1]; omega)]
  congr 2
  omega
theorem seg_world {α : Type} [Inhabited α] {enc : α → List Value} {k : Nat} (hk : ∀ x, (enc x).length = k) {w : World} {g : Nat} {p s : List α} {d d' D D' : Array α} (hD : D.toList = p ++ (d.toList ++ s)) (hD' : D'.toList = p ++ (d'.toList ++ s)) (hs : d'.size = d.size)
    (h : HoldsK enc k w g 0 D) (m : Nat) (os : Array Obj) : sortWorldK enc k w g (p.length * k) m d' os = sortWorldK enc k w g 0 m D' os := by
  have hl : D.size = p.length + d.size + s.length := by
    have := congrArg List.length hD
    simp only [List.length_append, Array.length_toList] at this
    omega
  have hl' : D'.size = p.length + d.size + s.length := by
    have := congrArg List.length hD'
    simp only [List.length_append, Array.length_toList] at this
    omega
  have hF : ∀ t, t < D'.size * k → (flatK enc k D')[t]! = if p.length * k ≤ t ∧ t < p.length * k + d'.size * k then (flatK enc k d')[t - p.length * k]! else (flatK enc k D)[t]! := by
    intro t ht
    rw [hl', Nat.add_mul, Nat.add_mul] at ht
    rw [Stb.get_list, flatK_list enc k hk, hD', List.flatMap_append]
    have lp := flat_len enc k hk p
    have ld := flat_len enc k hk d'.toList
    have ld0 := flat_len enc k hk d.toList
    have l1 : d'.toList.length = d'.size := Array.length_toList
    have l2 : d.toList.length = d.size := Array.length_toList
    rw [l1] at ld
    rw [l2] at ld0
    by_cases h1 : p.length * k ≤ t
    · rw [List.getElem?_append_right (by omega), lp, List.flatMap_append]
      by_cases h2 : t < p.length * k + d'.size * k
      · rw [if_pos ⟨h1, h2⟩, List.getElem?_append_left (by omega), Stb.get_list, flatK_list enc k hk]
      · rw [if_neg (by omega), List.getElem?_append_right (by omega), Stb.get_list, flatK_list enc k hk, hD, List.flatMap_append, List.getElem?_append_right (by omega), lp, List.flatMap_append, List.getElem?_append_right (by rw [ld0, ← hs]; omega), ld, ld0, hs]
    · rw [if_neg (by omega), List.getElem?_append_left (by omega), Stb.get_list, flatK_list enc k hk, hD, List.flatMap_append, List.getElem?_append_left (by omega)]
  unfold sortWorldK
  congr 1
  unfold putRowK putRow mapBlock
  congr 1
  apply Array.ext_getElem?
  intro b
  rw [Array.getElem?_modify, Array.getElem?_modify]
  by_cases hb : g = b
  · subst hb
    rw [if_pos rfl, if_pos rfl]
    show Option.map _ w.heap[g]? = Option.map _ w.heap[g]?
    cases ho : w.heap[g]? with
    | none => rfl
    | some o =>
      simp only [Option.map_some]
      congr 1
      cases o with
      | cells c e fr =>
        show Obj.cells _ e fr = Obj.cells _ e fr
        congr 1
        unfold putCells
        apply Array.ext_getElem?
        intro t
        rw [Array.getElem?_mapIdx, Array.getElem?_mapIdx]
        cases hc : c[t]? with
        | none => rfl
        | some x =>
          simp only [Option.map_some]
          congr 1
          simp only [size_flatK, Nat.zero_le, true_and, Nat.zero_add, Nat.sub_zero, id]
          by_cases h1 : p.length * k ≤ t ∧ t < p.length * k + d'.size * k
          · have h2 : t < D'.size * k := by rw [hl', Nat.add_mul, Nat.add_mul, ← hs]; omega
            rw [if_pos h1, if_pos h2, hF t h2, if_pos h1]
          · rw [if_neg h1]
            by_cases h2 : t < D'.size * k
            · rw [if_pos h2, hF t h2, if_neg h1]
              have h3 : t < (flatK enc k D).size := by rw [size_flatK, hl]; rw [hl'] at h2; exact h2
              have h4 := (h t h3).1
              rw [Nat.zero_add] at h4
              have h5 : w.cell? ⟨g, t, none⟩ = c[t]? := by simp [World.cell?, ho]
              rw [h5, hc] at h4
              exact Option.some.inj h4
            · rw [if_neg h2]
      | _ => rfl
  · rw [if_neg hb, if_neg hb]
/-- The row, its piece sorted. -/
theorem own_seg {α : Type} [Inhabited α] {enc : α → List Value} {k : Nat} (hk : ∀ x, (enc x).length = k) {w w' : World} {base g n cap : Nat} {e : TypeId} {p s X : List α} {d d' : Array α} (h : w.ownsRow base e k (.slice (some ⟨g, 0, none⟩) n cap) n ((p ++ (d.toList ++ s)).flatMap enc)) (hn : p.length + d.size + s.length = n) (hs : d'.size = d.size)
    (hw : SWK enc k w g (p.length * k) d' w') : w'.ownsRow base e k (.slice (some ⟨g, 0, none⟩) n cap) n ((p ++ (d'.toList ++ s)).flatMap enc) ∧ w.grownBy w' (some g) := by
  obtain ⟨m, os, rfl⟩ := hw
  obtain ⟨D, hD⟩ : ∃ D : Array α, D.toList = p ++ (d.toList ++ s) := ⟨(p ++ (d.toList ++ s)).toArray, rfl⟩
  obtain ⟨D', hD'⟩ : ∃ D : Array α, D.toList = p ++ (d'.toList ++ s) := ⟨(p ++ (d'.toList ++ s)).toArray, rfl⟩
  have l1 : D.size = n := by rw [← Array.length_toList, hD]; simp only [List.length_append, Array.length_toList]; omega
  have l2 : D'.size = n := by rw [← Array.length_toList, hD']; simp only [List.length_append, Array.length_toList]; omega
  rw [← hD] at h
  have hH := own_holds hk h l1
  rw [seg_world hk hD hD' hs hH m os, ← hD']
  exact own_sorted hk h l1 l2 m os

theorem frS_undone2 (S : Nat → Bool) (vs : Nat → Value) (t : Tmp) : ∀ (ds : List (Option Tmp)) (i : Nat) (a : Array Value), (∀ j, ds[j]? = some (some t) → S (i + j) = false) → (frS S vs i ds a).getD t undef = a.getD t undef
  | [], i, a, h => rfl
  | d :: ds, i, a, h => by
    rw [frS_cons, frS_undone2 S vs t ds (i + 1) _ (fun j hj => by have := h (j + 1) (by simpa using hj); rwa [show i + (j + 1) = i + 1 + j by omega] at this)]
    cases d with
    | none => rw [stepS_none]
    | some d =>
      rw [stepS_some]
      by_cases e : d = t
      · subst e
        have := h 0 rfl
        rw [Nat.add_zero] at this
        rw [if_neg (by rw [this]; decide)]
      · split
        · simp [Array.getD_eq_getD_getElem?, Array.getElem?_setIfInBounds, e]
        · rfl
section
variable {P : Program} {ops : Array Oper} {Q : Exit → Act → World → Prop}
/-- l: the chain; V: the values of the others; T k vs W: what holds of the world behind k operations of the chain, where vs are their values. -/
theorem wp_region_path2 {id : Nat} {a : Act} {w : World} (hm : P.follows .mixedOrders = true) (ds : List (Option Tmp)) (hok : dagOk ops ds = true) (l : List Nat) (hl : chainOk ops l = true)
    (V : Nat → Value) (T : Nat → (Nat → Value) → World → Prop) (hT : ∀ k vs vs' W, (∀ j kk, chOf l 0 j = some kk → kk < k → vs j = vs' j) → T k vs W → T k vs' W) (h0 : ∀ vs, T 0 vs { w with drawn := w.drawn + 1 })
    (hstep : ∀ i o, ops[i]? = some o → ∀ ρ : Operand → Value, ∀ vs : Nat → Value, (∀ j ∈ waits ops i, ∀ t, ds[j]? = some (some t) → t < a.tmps.size → ρ (.tmp t) = match chOf l 0 j with | some _ => vs j | none => V j) → (∀ t, (∀ d ∈ ds, d ≠ some t) → ρ (.tmp t) = a.tmps.getD t undef) → (∀ v, ρ (.const v) = v) → (∀ f, ρ (.func f) = a.eval (.func f)) → (∀ g, ρ (.global g) = a.eval (.global g)) →
      match chOf l 0 i with
      | some k => ∀ W, T k vs W → (∃ v W', T (k + 1) (fun j => if j = i then v else vs j) W' ∧ RunsTo P ρ o W v W') ∨ ∃ f args, (execOp ρ o).run P W = .ok (.enter f args) W ∧ Calls P f args W fun e W' => ∃ v, e = .returned v ∧ T (k + 1) (fun j => if j = i then v else vs j) W'
      | none => ∀ k, k ≤ l.length → (∀ j kk, j ∈ waits ops i → chOf l 0 j = some kk → kk < k) → (∀ j kk, i ∈ waits ops j → chOf l 0 j = some kk → k ≤ kk) → (∀ t, (∀ j, ds[j]? = some (some t) → ∃ kk, chOf l 0 j = some kk ∧ k ≤ kk) → ρ (.tmp t) = a.tmps.getD t undef) → ∀ W, T k vs W → RunsTo P ρ o W (V i) W)
    (hend : ∀ vs W, T l.length vs W → Q .normal { a with tmps := frS (fun j => decide (j < ops.size)) (fun j => match chOf l 0 j with | some _ => vs j | none => V j) 0 ds a.tmps } W) : (Code.region id ops true).wp P Q a w := by
  have hl' := hl
  unfold chainOk at hl'
  simp only [Bool.and_eq_true, decide_eq_true_eq, List.all_eq_true] at hl'
  obtain ⟨⟨hnl, hlt⟩, hcz⟩ := hl'
  have hch : ∀ i j k, chOf l 0 i = some k → chOf l 0 j = some k → i = j := fun i j k hi hj => by
    have h1 := (chOf_get l 0 i k hi).2
    have h2 := (chOf_get l 0 j k hj).2
    rw [h1] at h2
    exact Option.some.inj h2
  have hchain : ∀ i k, chOf l 0 i = some (k + 1) → ∃ j ∈ waits ops i, chOf l 0 j = some k := fun i k hi => by
    have h1 := (chOf_get l 0 i (k + 1) hi).2
    simp only [Nat.sub_zero] at h1
    have hk : k < l.length := by
      have := (List.getElem?_eq_some_iff.1 h1).1
      omega
    refine ⟨l[k], ?_, by have := get_chOf l 0 l[k] k hnl (List.getElem?_eq_getElem hk); rwa [Nat.zero_add] at this⟩
    have hz : (l.zip l.tail)[k]? = some (l[k], i) := by
      rw [List.getElem?_zip_eq_some]
      exact ⟨List.getElem?_eq_getElem hk, by rw [List.getElem?_tail]; exact h1⟩
    have := hcz _ (List.mem_of_getElem? hz)
    simpa using this
  have hall : ∀ k, k < l.length → ∃ i, i < ops.size ∧ chOf l 0 i = some k := fun k hk => by
    refine ⟨l[k], hlt _ (List.getElem_mem _), ?_⟩
    have := get_chOf l 0 l[k] k hnl (List.getElem?_eq_getElem hk)
    rwa [Nat.zero_add] at this
  have hle : ∀ i k, chOf l 0 i = some k → k < l.length := fun i k hi => by
    have h1 := (chOf_get l 0 i k hi).2
    exact (List.getElem?_eq_some_iff.1 h1).1
  have hn : (ds.filterMap (_root_.id : Option Tmp → Option Tmp)).Nodup := by
    unfold dagOk at hok
    simp only [Bool.and_eq_true, decide_eq_true_eq] at hok
    exact hok.1.2
  refine wp_region_dag hm ds hok (fun S vs W => (∀ j, S j = true → chOf l 0 j = none → vs j = V j) ∧ (∀ j, S j = true → ∀ x ∈ waits ops j, S x = true) ∧ ∃ k, k ≤ l.length ∧ T k vs W ∧ ∀ i kk, chOf l 0 i = some kk → (S i = true ↔ kk < k)) ?_ ?_ ?_
  · intro vs
    exact ⟨(fun j h => by cases h), (fun j h => by cases h), 0, Nat.zero_le _, h0 vs, (fun i kk _ => by simp)⟩
  · rintro i o ho S vs W hS hpre ⟨hv, hcl, k, hk, hTk, hc⟩
    have h := hstep i o ho (Act.eval { a with tmps := frS S vs 0 ds a.tmps }) vs (fun j hj t ht hlt => by
      rw [ev_done hn j t ht (hpre j hj) hlt]
      cases hj2 : chOf l 0 j with
      | some _ => rfl
      | none => exact hv j (hpre j hj) hj2) (fun t ht => ev_old t ht) (fun _ => rfl) (fun _ => rfl) (fun _ => rfl)
    have hv' : ∀ x, (chOf l 0 i = none → x = V i) → ∀ j, (S j || j == i) = true → chOf l 0 j = none → (fun j => if j = i then x else vs j) j = V j := by
      intro x hx j hj hjn
      by_cases e : j = i
      · subst e; simpa using hx hjn
      · simp only [if_neg e]
        refine hv j ?_ hjn
        have : (j == i) = false := beq_eq_false_iff_ne.2 e
        rwa [this, Bool.or_false] at hj
    have hcl' : ∀ j, (S j || j == i) = true → ∀ x ∈ waits ops j, (S x || x == i) = true := by
      intro j hj x hx
      by_cases e : j = i
      · subst e; rw [hpre x hx]; rfl
      · have : (j == i) = false := beq_eq_false_iff_ne.2 e
        rw [this, Bool.or_false] at hj
        rw [hcl j hj x hx]; rfl
    cases hci : chOf l 0 i with
    | some k' =>
      rw [hci] at h
      have hkk : k' = k := by
        have h1 := (hc i k' hci)
        rw [hS] at h1
        have h2 : ¬ k' < k := fun hlt => by have := h1.2 hlt; cases this
        rcases Nat.lt_or_ge k k' with h3 | h3
        · obtain ⟨j, hj, hjk⟩ := hchain i (k' - 1) (by rw [hci]; congr 1; omega)
          have h4 := (hc j _ hjk).1 (hpre j hj)
          omega
        · omega
      subst hkk
      have hltk := hle i k' hci
      have hset : ∀ j kk, chOf l 0 j = some kk → ((S j || j == i) = true ↔ kk < k' + 1) := by
        intro j kk hj
        by_cases e : j = i
        · subst e
          rw [hci] at hj
          cases hj
          simp
        · have hb : (j == i) = false := beq_eq_false_iff_ne.2 e
          rw [hb, Bool.or_false, hc j kk hj]
          constructor
          · intro h; omega
          · intro h
            rcases Nat.lt_or_ge kk k' with h5 | h5
            · exact h5
            · have : kk = k' := by omega
              subst this
              exact absurd (hch j i kk hj hci) e
      rcases h W hTk with ⟨v, W', hT', hr⟩ | ⟨f, args, hr, hC⟩
      · exact dag_runs v hr ⟨hv' v (fun h => by rw [hci] at h; cases h), hcl', k' + 1, by omega, hT', hset⟩
      · unfold Oper.wp
        rw [hr, Oper.upon_enter]
        refine hC.mono ?_
        rintro e W' ⟨v, rfl, hT'⟩
        exact ⟨v, rfl, hv' v (fun h => by rw [hci] at h; cases h), hcl', k' + 1, by omega, hT', hset⟩
    | none =>
      rw [hci] at h
      have h1 := h k hk (fun j kk hj hjk => (hc j kk hjk).1 (hpre j hj)) (fun j kk hj hjk => by
        rcases Nat.lt_or_ge kk k with h5 | h5
        · have := hcl j ((hc j kk hjk).2 h5) i hj
          rw [hS] at this; cases this
        · exact h5) (fun t ht => frS_undone2 S vs t ds 0 a.tmps (fun j hj => by
        obtain ⟨kk, hj1, hj2⟩ := ht j hj
        rw [Nat.zero_add]
        cases hSj : S j with
        | false => rfl
        | true => have := (hc j kk hj1).1 hSj; omega)) W hTk
      refine dag_runs (V i) h1 ⟨hv' (V i) (fun _ => rfl), hcl', k, hk, hT k vs _ W (fun j kk hj _ => ?_) hTk, fun j kk hj => ?_⟩
      · have e : j ≠ i := fun e => by rw [e, hci] at hj; cases hj
        simp only [if_neg e]
      · have e : j ≠ i := fun e => by rw [e, hci] at hj; cases hj
        have hb : (j == i) = false := beq_eq_false_iff_ne.2 e
        show (S j || j == i) = true ↔ _
        rw [hb, Bool.or_false, hc j kk hj]
  · rintro vs W ⟨hv, _, k, hk, hTk, hc⟩
    have hkm : k = l.length := by
      rcases Nat.lt_or_ge k l.length with h | h
      · obtain ⟨i, hi, hik⟩ := hall k h
        have := (hc i k hik).1 (by simpa using hi)
        omega
      · omega
    subst hkm
    have : frS (fun j => decide (j < ops.size)) vs 0 ds a.tmps = frS (fun j => decide (j < ops.size)) (fun j => match chOf l 0 j with | some _ => vs j | none => V j) 0 ds a.tmps := frS_congr ds 0 _ (fun _ _ => rfl) (fun j _ hj => by
      cases hj2 : chOf l 0 j with
      | some _ => rfl
      | none => exact hv j hj hj2)
    rw [this]
    exact hend vs W hTk
end
/-! ### the region that puts a part behind -/
theorem n_field (f : Nat) (hf : f = 1 ∨ f = 2) (ρ : Operand → Value) (W : World) (o : Oper) (x : Operand) (ho : o.op = .fieldAddr 54 x f) (p : Nat) (hx : ρ x = .pointer (some ⟨p, 0, none⟩)) : (execOp ρ o).run Tryz.prog W = .ok (.value (.pointer (some ⟨p, f, none⟩))) W := by
  unfold execOp
  rw [ho]
  rcases hf with rfl | rfl <;> go_simp
theorem n_load (ρ : Operand → Value) (W : World) (o : Oper) (x : Operand) (ho : o.op = .load 3 x) (ad : Addr) (hx : ρ x = .pointer (some ad)) (v : Int) (hc : W.cell? ad = some (.int .i64 v)) : (execOp ρ o).run Tryz.prog W = .ok (.value (.int .i64 v)) W := by
  unfold execOp
  rw [ho]
  go_simp
theorem n_buildItem (ρ : Operand → Value) (W : World) (o : Oper) (x y z : Operand) (ho : o.op = .build 54 #[(0, x), (1, y), (2, z)]) (a b c : Int) (hx : ρ x = .int .i64 a) (hy : ρ y = .int .i64 b) (hz : ρ z = .int .i64 c) : (execOp ρ o).run Tryz.prog W = .ok (.value (.agg #[.int .i64 a, .int .i64 b, .int .i64 c])) W := by
  unfold execOp
  rw [ho]
  go_simp
theorem n_buildPart (ρ : Operand → Value) (W : World) (o : Oper) (x y : Operand) (ho : o.op = .build 110 #[(0, x), (1, y)]) (a b c d : Int) (hx : ρ x = .agg #[.int .i64 a, .int .i64 b, .int .i64 c]) (hy : ρ y = .int .i64 d) : (execOp ρ o).run Tryz.prog W = .ok (.value (.agg #[.int .i64 a, .int .i64 b, .int .i64 c, .int .i64 d])) W := by
  unfold execOp
  rw [ho]
  go_simp
theorem n_buildSlice (ρ : Operand → Value) (W : World) (o : Oper) (x : Operand) (ho : o.op = .buildSlice 108 1 #[(0, x)]) (a b c d : Int) (hx : ρ x = .agg #[.int .i64 a, .int .i64 b, .int .i64 c, .int .i64 d]) : (execOp ρ o).run Tryz.prog W = .ok (.value (.slice (some ⟨W.heap.size, 0, none⟩) 1 1)) (W.alloc (.cells #[.int .i64 a, .int .i64 b, .int .i64 c, .int .i64 d] 110)) := by
  unfold execOp
  rw [ho]
  go_simp
def NT (w W0 : World) (B n : Nat) (v : Value) (us : List Value) (a b c d : Int) : Nat → (Nat → Value) → World → Prop
  | 0, _, W => W = W0
  | 1, vs, W => Below w.heap.size w W ∧ vs 9 = .int .i64 d
  | 2, vs, W => Below w.heap.size w W ∧ vs 10 = .agg #[.int .i64 a, .int .i64 b, .int .i64 c, .int .i64 d]
  | 3, vs, W => Below w.heap.size w W ∧ ∃ g, vs 11 = .slice (some ⟨g, 0, none⟩) 1 1 ∧ Blk W g 110 #[.int .i64 a, .int .i64 b, .int .i64 c, .int .i64 d]
  | 4, vs, W => ∃ W2, Below w.heap.size w W2 ∧ W2.grownBy W v.ownBlock ∧ W.ownsRow B 110 4 (vs 12) (n + 1) (us ++ [.int .i64 a, .int .i64 b, .int .i64 c, .int .i64 d])
  | _, vs, W => vs 13 = vs 12 ∧ ∃ W2, Below w.heap.size w W2 ∧ W2.grownBy W v.ownBlock ∧ W.ownsRow B 110 4 (vs 12) (n + 1) (us ++ [.int .i64 a, .int .i64 b, .int .i64 c, .int .i64 d])
abbrev needsN : List (Nat × Nat) := [(3, 2), (5, 4), (6, 1), (6, 3), (6, 5), (9, 7), (9, 8), (10, 6), (10, 9), (11, 10), (12, 0), (12, 11), (13, 12)]
abbrev dsN : List (Option Tmp) := [some 30, some 31, some 32, some 33, some 34, some 35, some 36, some 37, some 38, some 39, some 40, some 41, some 42, some 5]
abbrev opsN : List Op := [.move (.tmp 5), .move (.tmp 9), .fieldAddr 54 (.tmp 7) 1, .load 3 (.tmp 32), .fieldAddr 54 (.tmp 7) 2, .load 3 (.tmp 34), .build 54 #[(0, .tmp 31), (1, .tmp 33), (2, .tmp 35)], .move (.tmp 0), .move (.tmp 9),
  .call { callee := .value (.func 32), args := #[(.tmp 37), (.tmp 38)], argTypes := #[23, 3] }, .build 110 #[(0, .tmp 36), (1, .tmp 39)], .buildSlice 108 1 #[(0, (.tmp 40))], .call { callee := .builtin .append, args := #[(.tmp 30), (.tmp 41)], argTypes := #[108, 108] }, .assign (.tmp 42)]
theorem blk_neN {w : World} {xb : Nat} {e e' : TypeId} {cs : Array Value} {B s n : Nat} {v : Value} {xs : List Value} (hX : Blk w xb e cs) (ho : w.ownsRow B e' s v n xs) (hne : e ≠ e') : some xb ≠ v.ownBlock := by
  rcases ho.2 with ⟨rfl, _⟩ | ⟨g, cap, cur, rfl, hb, hg, _⟩
  · intro h; cases h
  · intro h
    have h : xb = g := by simpa [Value.ownBlock] using h
    subst h
    unfold Blk at hX
    rw [hg] at hX
    injection hX with hX
    injection hX with h1 h2
    exact hne h2.symm
set_option maxHeartbeats 1600000 in
theorem regionN (a : Act) (ops : Array Oper) (rid : Nat) (Q : Exit → Act → World → Prop) (w : World) (T v : Value) (xb B n : Nat) (us : List Value) (r x0 s e d : Int)
    (hops : ops.toList.map (·.op) = opsN) (hok : dagOk ops dsN = true) (hcn : chainOk ops [9, 10, 11, 12, 13] = true) (hnd : needsOk2 ops needsN = true) (hsz : 43 ≤ a.tmps.size)
    (h0 : a.tmps.getD 0 undef = T) (h5 : a.tmps.getD 5 undef = v) (h7 : a.tmps.getD 7 undef = .pointer (some ⟨xb, 0, none⟩)) (h9 : a.tmps.getD 9 undef = .int .i64 r)
    (hX : Blk w xb 54 #[.int .i64 x0, .int .i64 s, .int .i64 e])
    (hp : ∀ W, Below w.heap.size w W → Calls Tryz.prog 32 #[T, .int .i64 r] W fun e' W' => e' = .returned (.int .i64 d) ∧ Below W.heap.size W W')
    (hr : w.ownsRow B 110 4 v n us) (hB : B ≤ w.heap.size) (hcap : (n + 1) * 32 ≤ 140737488355328)
    (hend : ∀ V v' w', w'.ownsRow B 110 4 v' (n + 1) (us ++ [.int .i64 r, .int .i64 s, .int .i64 e, .int .i64 d]) → V 13 = v' → (∃ W2, Below w.heap.size w W2 ∧ W2.grownBy w' v.ownBlock) →
      Q .normal { a with tmps := frS (fun j => decide (j < 14)) V 0 dsN a.tmps } w') :
    (Code.region rid ops true).wp Tryz.prog Q a w := by
  have hlen : ops.size = 14 := by have := congrArg List.length hops; simpa using this
  obtain ⟨W0, hW0⟩ : ∃ W0 : World, W0 = { w with drawn := w.drawn + 1 } := ⟨_, rfl⟩
  have hb0 : Below w.heap.size w W0 := by subst hW0; exact ⟨rfl, rfl, rfl, Nat.le_refl _, fun _ _ => rfl⟩
  have hs0 : W0.heap.size = w.heap.size := by subst hW0; rfl
  have hop : ∀ (i : Nat) (o : Oper), ops[i]? = some o → ∀ x, opsN[i]? = some x → o.op = x := by
    intro i o ho x hx
    rw [← hops, List.getElem?_map, Array.getElem?_toList, ho] at hx
    simpa using hx
  have hlt : ∀ t, t < 43 → t < a.tmps.size := fun t ht => by omega
  rw [← hlen] at hend
  have hxl := heap_lt hX
  have hvb : ∀ k, v.ownBlock = some k → k < w.heap.size ∧ k ≠ xb ∧ B ≤ k := by
    intro k hk
    have h2 := own_lt hr k hk
    refine ⟨h2.2, ?_, h2.1⟩
    rintro rfl
    exact blk_neN hX hr (by decide) hk.symm
  refine wp_region_path2 (by kernel_rfl) dsN hok [9, 10, 11, 12, 13] hcn
    (fun j => match j with | 0 => v | 1 => .int .i64 r | 2 => .pointer (some ⟨xb, 1, none⟩) | 3 => .int .i64 s | 4 => .pointer (some ⟨xb, 2, none⟩) | 5 => .int .i64 e | 6 => .agg #[.int .i64 r, .int .i64 s, .int .i64 e] | 7 => T | 8 => .int .i64 r | _ => undef)
    (NT w W0 B n v us r s e d) ?_ (fun vs => hW0.symm) ?_ ?_
  · intro k vs vs' W hag h
    match k, hag, h with
    | 0, _, h => exact h
    | 1, hag, h =>
      have e9 := hag 9 0 rfl (by decide)
      exact ⟨h.1, by rw [← e9]; exact h.2⟩
    | 2, hag, h =>
      have e10 := hag 10 1 rfl (by decide)
      exact ⟨h.1, by rw [← e10]; exact h.2⟩
    | 3, hag, h =>
      have e11 := hag 11 2 rfl (by decide)
      obtain ⟨h1, g, h3, h4⟩ := h
      exact ⟨h1, g, by rw [← e11]; exact h3, h4⟩
    | 4, hag, h =>
      have e12 := hag 12 3 rfl (by decide)
      obtain ⟨W2, h1, h2, h3⟩ := h
      exact ⟨W2, h1, h2, by rw [← e12]; exact h3⟩
    | k + 5, hag, h =>
      have e12 := hag 12 3 rfl (by omega)
      have e13 := hag 13 4 rfl (by omega)
      obtain ⟨h0, W2, h1, h2, h3⟩ := h
      exact ⟨by rw [← e12, ← e13]; exact h0, W2, h1, h2, by rw [← e12]; exact h3⟩
  · intro i o ho ρ vs hρ hold hcon hfun _
    have hi : i < 14 := by rw [← hlen]; exact (Array.getElem?_eq_some_iff.1 ho).1
    have e0 : ρ (.tmp 0) = T := (hold 0 (by decide)).trans h0
    have e7 : ρ (.tmp 7) = .pointer (some ⟨xb, 0, none⟩) := (hold 7 (by decide)).trans h7
    have e9 : ρ (.tmp 9) = .int .i64 r := (hold 9 (by decide)).trans h9
    have cellX : ∀ k, k ≤ 5 → ∀ W, NT w W0 B n v us r s e d k vs W → ∀ j, W.cell? ⟨xb, j, none⟩ = (#[Value.int .i64 x0, .int .i64 s, .int .i64 e] : Array Value)[j]? := by
      intro k hk W hW j
      have hXW : Blk W xb 54 #[.int .i64 x0, .int .i64 s, .int .i64 e] := by
        match k, hk, hW with
        | 0, _, hW => have hW : W = W0 := hW; subst hW; exact hX.below hb0
        | 1, _, hW => exact hX.below hW.1
        | 2, _, hW => exact hX.below hW.1
        | 3, _, hW => exact hX.below hW.1
        | 4, _, hW => obtain ⟨W2, h1, h2, _⟩ := hW; exact (hX.below h1).grown h2 (fun e => (hvb xb e.symm).2.1 rfl)
        | 5, _, hW => obtain ⟨_, W2, h1, h2, _⟩ := hW; exact (hX.below h1).grown h2 (fun e => (hvb xb e.symm).2.1 rfl)
      exact hXW.cell j
    match i, hi with
    | 0, _ =>
      intro k _ _ hh hund W _
      have hk2 := hh 12 3 (needs2_get hnd 12 0 (by decide)) rfl
      have e5 : ρ (.tmp 5) = v := (hund 5 (fun j hj => by
        have hj14 : j < 14 := (List.getElem?_eq_some_iff.1 hj).1
        have hj13 : j = 13 := by
          rcases (by omega : j = 0 ∨ j = 1 ∨ j = 2 ∨ j = 3 ∨ j = 4 ∨ j = 5 ∨ j = 6 ∨ j = 7 ∨ j = 8 ∨ j = 9 ∨ j = 10 ∨ j = 11 ∨ j = 12 ∨ j = 13) with rfl | rfl | rfl | rfl | rfl | rfl | rfl | rfl | rfl | rfl | rfl | rfl | rfl | rfl <;> first | rfl | simp [dsN] at hj
        subst hj13
        exact ⟨4, rfl, by omega⟩)).trans h5
      exact .inl (by rw [← e5]; exact r_move _ _ _ o _ (hop _ _ ho _ rfl))
    | 1, _ => intro k _ _ _ _ W _; exact .inl (by rw [← e9]; exact r_move _ _ _ o _ (hop _ _ ho _ rfl))
    | 2, _ => intro k _ _ _ _ W _; exact .inl (n_field 1 (by decide) _ _ o _ (hop _ _ ho _ rfl) xb e7)
    | 3, _ => intro k hk _ _ _ W hW; exact .inl (n_load _ _ o _ (hop _ _ ho _ rfl) ⟨xb, 1, none⟩ (hρ 2 (needs2_get hnd 3 2 (by decide)) 32 rfl (hlt _ (by decide))) _ (cellX k hk W hW 1))
    | 4, _ => intro k _ _ _ _ W _; exact .inl (n_field 2 (by decide) _ _ o _ (hop _ _ ho _ rfl) xb e7)
    | 5, _ => intro k hk _ _ _ W hW; exact .inl (n_load _ _ o _ (hop _ _ ho _ rfl) ⟨xb, 2, none⟩ (hρ 4 (needs2_get hnd 5 4 (by decide)) 34 rfl (hlt _ (by decide))) _ (cellX k hk W hW 2))
    | 6, _ => intro k _ _ _ _ W _; exact .inl (n_buildItem _ _ o _ _ _ (hop _ _ ho _ rfl) _ _ _ (hρ 1 (needs2_get hnd 6 1 (by decide)) 31 rfl (hlt _ (by decide))) (hρ 3 (needs2_get hnd 6 3 (by decide)) 33 rfl (hlt _ (by decide))) (hρ 5 (needs2_get hnd 6 5 (by decide)) 35 rfl (hlt _ (by decide))))
    | 7, _ => intro k _ _ _ _ W _; exact .inl (by rw [← e0]; exact r_move _ _ _ o _ (hop _ _ ho _ rfl))
    | 8, _ => intro k _ _ _ _ W _; exact .inl (by rw [← e9]; exact r_move _ _ _ o _ (hop _ _ ho _ rfl))
    | 9, _ =>
      intro W hW
      have hW : W = W0 := hW
      subst hW
      refine .inr ⟨32, #[T, .int .i64 r], ?_, ?_⟩
      · have f1 := hρ 7 (needs2_get hnd 9 7 (by decide)) 37 rfl (hlt _ (by decide))
        have f2 := hρ 8 (needs2_get hnd 9 8 (by decide)) 38 rfl (hlt _ (by decide))
        have f1 : ρ (.tmp 37) = T := f1
        have f2 : ρ (.tmp 38) = .int .i64 r := f2
        unfold execOp
        rw [hop _ _ ho _ rfl]
        simp [go_sem, hfun, f1, f2, resolve, Act.eval]
      · refine (hp W hb0).mono ?_
        rintro e' W' ⟨rfl, hb⟩
        rw [hs0] at hb
        exact ⟨_, rfl, hb0.trans hb, rfl⟩
    | 10, _ =>
      rintro W ⟨hbW, hv⟩
      have f9 := hρ 9 (needs2_get hnd 10 9 (by decide)) 39 rfl (hlt _ (by decide))
      have f9 : ρ (.tmp 39) = vs 9 := f9
      refine .inl ⟨_, W, ⟨hbW, rfl⟩, .inl ?_⟩
      exact n_buildPart _ _ o _ _ (hop _ _ ho _ rfl) _ _ _ _ (hρ 6 (needs2_get hnd 10 6 (by decide)) 36 rfl (hlt _ (by decide))) (f9.trans hv)
    | 11, _ =>
      rintro W ⟨hbW, hv⟩
      have f := hρ 10 (needs2_get hnd 11 10 (by decide)) 40 rfl (hlt _ (by decide))
      have f : ρ (.tmp 40) = vs 10 := f
      refine .inl ⟨.slice (some ⟨W.heap.size, 0, none⟩) 1 1, _, ⟨hbW.trans ((alloc_below W _).mono hbW.size), W.heap.size, rfl, row_new _ _⟩, .inl ?_⟩
      exact n_buildSlice ρ W o _ (hop _ _ ho _ rfl) r s e d (f.trans hv)
    | 12, _ =>
      rintro W ⟨hbW, g, h11, hg⟩
      have f0 := hρ 0 (needs2_get hnd 12 0 (by decide)) 30 rfl (hlt _ (by decide))
      have f0 : ρ (.tmp 30) = v := f0
      have f11 := hρ 11 (needs2_get hnd 12 11 (by decide)) 41 rfl (hlt _ (by decide))
      have f11 : ρ (.tmp 41) = vs 11 := f11
      obtain ⟨v', W', hrun, hown, hgr, hat⟩ := r_append W slPart ρ o _ _ (hop _ _ ho _ rfl) B _ n us f0 (own_below hr hbW) ⟨g, 0, none⟩ 1 1 [.int .i64 r, .int .i64 s, .int .i64 e, .int .i64 d] (f11.trans h11) rfl hg.at_ (by intro u hu; simp at hu; rcases hu with rfl | rfl | rfl | rfl <;> rfl) hcap (Nat.le_trans hB hbW.size)
      exact .inl ⟨v', W', ⟨W, hbW, hgr, hown⟩, .inl hrun⟩
    | 13, _ =>
      rintro W ⟨W2, hbW, hgr, hown⟩
      have f12 := hρ 12 (needs2_get hnd 13 12 (by decide)) 42 rfl (hlt _ (by decide))
      have f12 : ρ (.tmp 42) = vs 12 := f12
      exact .inl ⟨vs 12, W, ⟨rfl, W2, hbW, hgr, hown⟩, .inl (by rw [← f12]; exact r_assign _ _ _ o _ (hop _ _ ho _ rfl))⟩
  · intro vs W h
    obtain ⟨h1, W2, hbW, hgr, hown⟩ := h
    exact hend _ (vs 12) W hown h1 ⟨W2, hbW, hgr⟩
end Go.Proofs.YtpmbebofinlmmaaGreatDoor
