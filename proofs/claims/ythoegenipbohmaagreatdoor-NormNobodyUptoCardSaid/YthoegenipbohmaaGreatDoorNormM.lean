/- NormI, NormW, NormQ, OpenW, NormR: in one text. -/
import Derived.Test.YthoegenipbohmaaGreatDoorStbM
import Derived.Test.YthoegenipbohmaaGreatDoorNrmM
import Derived.Test.YthoegenipbohmaaGreatDoorComb
import Derived.Test.YthoegenipbohmaaGreatDoorDecM
import Derived.Test.YthoegenipbohmaaGreatDoorDagM
import Derived.Test.YthoegenipbohmaaGreatDoorAppM
import Derived.Test.YthoegenipbohmaaGreatDoorRefP
import Derived.Test.YthoegenipbohmaaGreatDoorOpen
import Derived.Test.YthoegenipbohmaaGreatDoorBase
import Derived.Lib.SliceRun
namespace Go.Proofs.YthoegenipbohmaaGreatDoor
open Go.RowKit Go.Sort Stb
set_option linter.unusedVariables false
set_option linter.unusedSimpArgs false

/-! ### items -/
structure It where
  r : Int
  s : Int
  e : Int
deriving Inhabited, DecidableEq
def itCells (x : It) : List Value := [.int .i64 x.r, .int .i64 x.s, .int .i64 x.e]
theorem it_len (x : It) : (itCells x).length = 3 := rfl
abbrev ItemsAt (w : World) (B : Nat) (v : Value) (xs : List It) : Prop := w.ownsRow B 25 3 v xs.length (xs.flatMap itCells)
theorem items_get (xs : List It) (i : Nat) (h : i < xs.length) : (xs.flatMap itCells)[i * 3]? = some (.int .i64 xs[i].r) ∧ (xs.flatMap itCells)[i * 3 + 1]? = some (.int .i64 xs[i].s) ∧ (xs.flatMap itCells)[i * 3 + 2]? = some (.int .i64 xs[i].e) := by
  have g : ∀ t, t < 3 → (xs.flatMap itCells)[i * 3 + t]? = some ((itCells xs[i])[t]!) := fun t ht => by
    rw [flat_get itCells 3 it_len xs (i * 3 + t) (by omega), show (i * 3 + t) / 3 = i by omega, show (i * 3 + t) % 3 = t by omega, getElem!_pos xs i h]
  exact ⟨g 0 (by decide), g 1 (by decide), g 2 (by decide)⟩
/-- A slice of items, told by its cells. -/
def ItsAt (w : World) (v : Value) (xs : List It) : Prop := ∃ A c, v = .slice A xs.length c ∧ xs.length ≤ 9223372036854775807 ∧ (0 < xs.length → ∃ ad, A = some ad ∧ ∀ j (h : j < xs.length), w.cell? (ad.add (j * 3)) = some (.int .i64 xs[j].r) ∧ w.cell? ((ad.add (j * 3)).add 1) = some (.int .i64 xs[j].s) ∧ w.cell? ((ad.add (j * 3)).add 2) = some (.int .i64 xs[j].e))
theorem ItsAt.below {w w' : World} {v : Value} {xs : List It} (h : ItsAt w v xs) (hb : Below w.heap.size w w') : ItsAt w' v xs := by
  obtain ⟨A, c, rfl, hn, hz⟩ := h
  refine ⟨A, c, rfl, hn, fun hp => ?_⟩
  obtain ⟨ad, rfl, hc⟩ := hz hp
  refine ⟨ad, rfl, fun j hj => ?_⟩
  obtain ⟨h1, h2, h3⟩ := hc j hj
  exact ⟨cell_later hb h1, cell_later hb h2, cell_later hb h3⟩
theorem ItsAt.of_own {w : World} {B : Nat} {v : Value} {xs : List It} (h : ItemsAt w B v xs) : ItsAt w v xs := by
  obtain ⟨A, c, rfl⟩ := own_slice h
  have hn := own_len h
  unfold maxLen at hn
  refine ⟨A, c, rfl, by omega, fun hp => ?_⟩
  obtain ⟨g, cap, hv, _⟩ := own_form h hp
  injection hv with hA _ _
  subst hA
  refine ⟨_, rfl, fun j hj => ?_⟩
  obtain ⟨g1, g2, g3⟩ := items_get xs j hj
  obtain ⟨cap2, e2⟩ : ∃ cap2, c = cap2 := ⟨c, rfl⟩
  rw [add_plain, add_plain, add_plain, Nat.zero_add]
  exact ⟨own_cell h _ _ g1, own_cell h _ _ g2, own_cell h _ _ g3⟩
abbrev PartsAt (w : World) (B : Nat) (v : Value) (ps : List Part) : Prop := w.ownsRow B 82 4 v ps.length (ps.flatMap ptCells)
theorem parts_get (ps : List Part) (i : Nat) (h : i < ps.length) : (ps.flatMap ptCells)[i * 4]? = some (.int .i64 ps[i].r) ∧ (ps.flatMap ptCells)[i * 4 + 1]? = some (.int .i64 ps[i].s) ∧ (ps.flatMap ptCells)[i * 4 + 2]? = some (.int .i64 ps[i].e) ∧ (ps.flatMap ptCells)[i * 4 + 3]? = some (.int .i64 ps[i].c) := by
  have g : ∀ t, t < 4 → (ps.flatMap ptCells)[i * 4 + t]? = some ((ptCells ps[i])[t]!) := fun t ht => by
    rw [flat_get ptCells 4 pt_len ps (i * 4 + t) (by omega), show (i * 4 + t) / 4 = i by omega, show (i * 4 + t) % 4 = t by omega, getElem!_pos ps i h]
  exact ⟨g 0 (by decide), g 1 (by decide), g 2 (by decide), g 3 (by decide)⟩
theorem slPart : SlT Tryz.prog 79 82 4 32 := ⟨Tryz.underlying79, by kernel_rfl, by decide, by decide⟩
theorem slItem : SlT Tryz.prog 22 25 3 24 := ⟨Tryz.underlying22, by kernel_rfl, by decide, by decide⟩

/-! ### a piece of a row, sorted -/
theorem seg_holds {α : Type} [Inhabited α] {enc : α → List Value} {k : Nat} (hk : ∀ x, (enc x).length = k) {w : World} {g : Nat} {p s : List α} {d D : Array α} (hD : D.toList = p ++ (d.toList ++ s)) (h : HoldsK enc k w g 0 D) : HoldsK enc k w g (p.length * k) d := by
  have hl : D.size = p.length + d.size + s.length := by
    have := congrArg List.length hD
    simp only [List.length_append, Array.length_toList] at this
    omega
  intro j hj
  have hj' : j < d.size * k := by simpa using hj
  have hJ : p.length * k + j < (flatK enc k D).size := by
    simp only [size_flatK, hl, Nat.add_mul]
    omega
  obtain ⟨h1, h2⟩ := h (p.length * k + j) hJ
  rw [Nat.zero_add] at h1 h2
  refine ⟨?_, h2⟩
  rw [h1]
  congr 2
  rw [Stb.get_list, Stb.get_list, flatK_list enc k hk, flatK_list enc k hk, hD, List.flatMap_append, List.getElem?_append_right (by rw [flat_len enc k hk]; omega), flat_len enc k hk, List.flatMap_append, List.getElem?_append_left (by have l1 : d.toList.length = d.size := Array.length_toList; rw [flat_len enc k hk, l1]; omega)]
  congr 2
  omega
theorem seg_world {α : Type} [Inhabited α] {enc : α → List Value} {k : Nat} (hk : ∀ x, (enc x).length = k) {w : World} {g : Nat} {p s : List α} {d d' D D' : Array α} (hD : D.toList = p ++ (d.toList ++ s)) (hD' : D'.toList = p ++ (d'.toList ++ s)) (hs : d'.size = d.size)
    (h : HoldsK enc k w g 0 D) (m : Nat) (os : Array Obj) : sortWorldK enc k w g (p.length * k) m d' os = sortWorldK enc k w g 0 m D' os := by
  have hl : D.size = p.length + d.size + s.length := by
    have := congrArg List.length hD
    simp only [List.length_append, Array.length_toList] at this
    omega
  have hl' : D'.size = p.length + d.size + s.length := by
    have := congrArg List.length hD'
    simp only [List.length_append, Array.length_toList] at this
    omega
  have hF : ∀ t, t < D'.size * k → (flatK enc k D')[t]! = if p.length * k ≤ t ∧ t < p.length * k + d'.size * k then (flatK enc k d')[t - p.length * k]! else (flatK enc k D)[t]! := by
    intro t ht
    rw [hl', Nat.add_mul, Nat.add_mul] at ht
    rw [Stb.get_list, flatK_list enc k hk, hD', List.flatMap_append]
    have lp := flat_len enc k hk p
    have ld := flat_len enc k hk d'.toList
    have ld0 := flat_len enc k hk d.toList
    have l1 : d'.toList.length = d'.size := Array.length_toList
    have l2 : d.toList.length = d.size := Array.length_toList
    rw [l1] at ld
    rw [l2] at ld0
    by_cases h1 : p.length * k ≤ t
    · rw [List.getElem?_append_right (by omega), lp, List.flatMap_append]
      by_cases h2 : t < p.length * k + d'.size * k
      · rw [if_pos ⟨h1, h2⟩, List.getElem?_append_left (by omega), Stb.get_list, flatK_list enc k hk]
      · rw [if_neg (by omega), List.getElem?_append_right (by omega), Stb.get_list, flatK_list enc k hk, hD, List.flatMap_append, List.getElem?_append_right (by omega), lp, List.flatMap_append, List.getElem?_append_right (by rw [ld0, ← hs]; omega), ld, ld0, hs]
    · rw [if_neg (by omega), List.getElem?_append_left (by omega), Stb.get_list, flatK_list enc k hk, hD, List.flatMap_append, List.getElem?_append_left (by omega)]
  unfold sortWorldK
  congr 1
  unfold putRowK putRow mapBlock
  congr 1
  apply Array.ext_getElem?
  intro b
  rw [Array.getElem?_modify, Array.getElem?_modify]
  by_cases hb : g = b
  · subst hb
    rw [if_pos rfl, if_pos rfl]
    show Option.map _ w.heap[g]? = Option.map _ w.heap[g]?
    cases ho : w.heap[g]? with
    | none => rfl
    | some o =>
      simp only [Option.map_some]
      congr 1
      cases o with
      | cells c e fr =>
        show Obj.cells _ e fr = Obj.cells _ e fr
        congr 1
        unfold putCells
        apply Array.ext_getElem?
        intro t
        rw [Array.getElem?_mapIdx, Array.getElem?_mapIdx]
        cases hc : c[t]? with
        | none => rfl
        | some x =>
          simp only [Option.map_some]
          congr 1
          simp only [size_flatK, Nat.zero_le, true_and, Nat.zero_add, Nat.sub_zero, id]
          by_cases h1 : p.length * k ≤ t ∧ t < p.length * k + d'.size * k
          · have h2 : t < D'.size * k := by rw [hl', Nat.add_mul, Nat.add_mul, ← hs]; omega
            rw [if_pos h1, if_pos h2, hF t h2, if_pos h1]
          · rw [if_neg h1]
            by_cases h2 : t < D'.size * k
            · rw [if_pos h2, hF t h2, if_neg h1]
              have h3 : t < (flatK enc k D).size := by rw [size_flatK, hl]; rw [hl'] at h2; exact h2
              have h4 := (h t h3).1
              rw [Nat.zero_add] at h4
              have h5 : w.cell? ⟨g, t, none⟩ = c[t]? := by simp [World.cell?, ho]
              rw [h5, hc] at h4
              exact Option.some.inj h4
            · rw [if_neg h2]
      | _ => rfl
  · rw [if_neg hb, if_neg hb]
/-- The row, its piece sorted. -/
theorem own_seg {α : Type} [Inhabited α] {enc : α → List Value} {k : Nat} (hk : ∀ x, (enc x).length = k) {w w' : World} {base g n cap : Nat} {e : TypeId} {p s X : List α} {d d' : Array α} (h : w.ownsRow base e k (.slice (some ⟨g, 0, none⟩) n cap) n ((p ++ (d.toList ++ s)).flatMap enc)) (hn : p.length + d.size + s.length = n) (hs : d'.size = d.size)
    (hw : SWK enc k w g (p.length * k) d' w') : w'.ownsRow base e k (.slice (some ⟨g, 0, none⟩) n cap) n ((p ++ (d'.toList ++ s)).flatMap enc) ∧ w.grownBy w' (some g) := by
  obtain ⟨m, os, rfl⟩ := hw
  obtain ⟨D, hD⟩ : ∃ D : Array α, D.toList = p ++ (d.toList ++ s) := ⟨(p ++ (d.toList ++ s)).toArray, rfl⟩
  obtain ⟨D', hD'⟩ : ∃ D : Array α, D.toList = p ++ (d'.toList ++ s) := ⟨(p ++ (d'.toList ++ s)).toArray, rfl⟩
  have l1 : D.size = n := by rw [← Array.length_toList, hD]; simp only [List.length_append, Array.length_toList]; omega
  have l2 : D'.size = n := by rw [← Array.length_toList, hD']; simp only [List.length_append, Array.length_toList]; omega
  rw [← hD] at h
  have hH := own_holds hk h l1
  rw [seg_world hk hD hD' hs hH m os, ← hD']
  exact own_sorted hk h l1 l2 m os

theorem frS_undone2 (S : Nat → Bool) (vs : Nat → Value) (t : Tmp) : ∀ (ds : List (Option Tmp)) (i : Nat) (a : Array Value), (∀ j, ds[j]? = some (some t) → S (i + j) = false) → (frS S vs i ds a).getD t undef = a.getD t undef
  | [], i, a, h => rfl
  | d :: ds, i, a, h => by
    rw [frS_cons, frS_undone2 S vs t ds (i + 1) _ (fun j hj => by have := h (j + 1) (by simpa using hj); rwa [show i + (j + 1) = i + 1 + j by omega] at this)]
    cases d with
    | none => rw [stepS_none]
    | some d =>
      rw [stepS_some]
      by_cases e : d = t
      · subst e
        have := h 0 rfl
        rw [Nat.add_zero] at this
        rw [if_neg (by rw [this]; decide)]
      · split
        · simp [Array.getD_eq_getD_getElem?, Array.getElem?_setIfInBounds, e]
        · rfl
section
variable {P : Program} {ops : Array Oper} {Q : Exit → Act → World → Prop}
/-- l: the chain; V: the values of the others; T k vs W: what holds of the world behind k operations of the chain, where vs are their values. -/
theorem wp_region_path2 {id : Nat} {a : Act} {w : World} (hm : P.follows .mixedOrders = true) (ds : List (Option Tmp)) (hok : dagOk ops ds = true) (l : List Nat) (hl : chainOk ops l = true)
    (V : Nat → Value) (T : Nat → (Nat → Value) → World → Prop) (hT : ∀ k vs vs' W, (∀ j kk, chOf l 0 j = some kk → kk < k → vs j = vs' j) → T k vs W → T k vs' W) (h0 : ∀ vs, T 0 vs { w with drawn := w.drawn + 1 })
    (hstep : ∀ i o, ops[i]? = some o → ∀ ρ : Operand → Value, ∀ vs : Nat → Value, (∀ j ∈ waits ops i, ∀ t, ds[j]? = some (some t) → t < a.tmps.size → ρ (.tmp t) = match chOf l 0 j with | some _ => vs j | none => V j) → (∀ t, (∀ d ∈ ds, d ≠ some t) → ρ (.tmp t) = a.tmps.getD t undef) → (∀ v, ρ (.const v) = v) → (∀ f, ρ (.func f) = a.eval (.func f)) → (∀ g, ρ (.global g) = a.eval (.global g)) →
      match chOf l 0 i with
      | some k => ∀ W, T k vs W → (∃ v W', T (k + 1) (fun j => if j = i then v else vs j) W' ∧ RunsTo P ρ o W v W') ∨ ∃ f args, (execOp ρ o).run P W = .ok (.enter f args) W ∧ Calls P f args W fun e W' => ∃ v, e = .returned v ∧ T (k + 1) (fun j => if j = i then v else vs j) W'
      | none => ∀ k, k ≤ l.length → (∀ j kk, j ∈ waits ops i → chOf l 0 j = some kk → kk < k) → (∀ j kk, i ∈ waits ops j → chOf l 0 j = some kk → k ≤ kk) → (∀ t, (∀ j, ds[j]? = some (some t) → ∃ kk, chOf l 0 j = some kk ∧ k ≤ kk) → ρ (.tmp t) = a.tmps.getD t undef) → ∀ W, T k vs W → RunsTo P ρ o W (V i) W)
    (hend : ∀ vs W, T l.length vs W → Q .normal { a with tmps := frS (fun j => decide (j < ops.size)) (fun j => match chOf l 0 j with | some _ => vs j | none => V j) 0 ds a.tmps } W) : (Code.region id ops true).wp P Q a w := by
  have hl' := hl
  unfold chainOk at hl'
  simp only [Bool.and_eq_true, decide_eq_true_eq, List.all_eq_true] at hl'
  obtain ⟨⟨hnl, hlt⟩, hcz⟩ := hl'
  have hch : ∀ i j k, chOf l 0 i = some k → chOf l 0 j = some k → i = j := fun i j k hi hj => by
    have h1 := (chOf_get l 0 i k hi).2
    have h2 := (chOf_get l 0 j k hj).2
    rw [h1] at h2
    exact Option.some.inj h2
  have hchain : ∀ i k, chOf l 0 i = some (k + 1) → ∃ j ∈ waits ops i, chOf l 0 j = some k := fun i k hi => by
    have h1 := (chOf_get l 0 i (k + 1) hi).2
    simp only [Nat.sub_zero] at h1
    have hk : k < l.length := by
      have := (List.getElem?_eq_some_iff.1 h1).1
      omega
    refine ⟨l[k], ?_, by have := get_chOf l 0 l[k] k hnl (List.getElem?_eq_getElem hk); rwa [Nat.zero_add] at this⟩
    have hz : (l.zip l.tail)[k]? = some (l[k], i) := by
      rw [List.getElem?_zip_eq_some]
      exact ⟨List.getElem?_eq_getElem hk, by rw [List.getElem?_tail]; exact h1⟩
    have := hcz _ (List.mem_of_getElem? hz)
    simpa using this
  have hall : ∀ k, k < l.length → ∃ i, i < ops.size ∧ chOf l 0 i = some k := fun k hk => by
    refine ⟨l[k], hlt _ (List.getElem_mem _), ?_⟩
    have := get_chOf l 0 l[k] k hnl (List.getElem?_eq_getElem hk)
    rwa [Nat.zero_add] at this
  have hle : ∀ i k, chOf l 0 i = some k → k < l.length := fun i k hi => by
    have h1 := (chOf_get l 0 i k hi).2
    exact (List.getElem?_eq_some_iff.1 h1).1
  have hn : (ds.filterMap (_root_.id : Option Tmp → Option Tmp)).Nodup := by
    unfold dagOk at hok
    simp only [Bool.and_eq_true, decide_eq_true_eq] at hok
    exact hok.1.2
  refine wp_region_dag hm ds hok (fun S vs W => (∀ j, S j = true → chOf l 0 j = none → vs j = V j) ∧ (∀ j, S j = true → ∀ x ∈ waits ops j, S x = true) ∧ ∃ k, k ≤ l.length ∧ T k vs W ∧ ∀ i kk, chOf l 0 i = some kk → (S i = true ↔ kk < k)) ?_ ?_ ?_
  · intro vs
    exact ⟨(fun j h => by cases h), (fun j h => by cases h), 0, Nat.zero_le _, h0 vs, (fun i kk _ => by simp)⟩
  · rintro i o ho S vs W hS hpre ⟨hv, hcl, k, hk, hTk, hc⟩
    have h := hstep i o ho (Act.eval { a with tmps := frS S vs 0 ds a.tmps }) vs (fun j hj t ht hlt => by
      rw [ev_done hn j t ht (hpre j hj) hlt]
      cases hj2 : chOf l 0 j with
      | some _ => rfl
      | none => exact hv j (hpre j hj) hj2) (fun t ht => ev_old t ht) (fun _ => rfl) (fun _ => rfl) (fun _ => rfl)
    have hv' : ∀ x, (chOf l 0 i = none → x = V i) → ∀ j, (S j || j == i) = true → chOf l 0 j = none → (fun j => if j = i then x else vs j) j = V j := by
      intro x hx j hj hjn
      by_cases e : j = i
      · subst e; simpa using hx hjn
      · simp only [if_neg e]
        refine hv j ?_ hjn
        have : (j == i) = false := beq_eq_false_iff_ne.2 e
        rwa [this, Bool.or_false] at hj
    have hcl' : ∀ j, (S j || j == i) = true → ∀ x ∈ waits ops j, (S x || x == i) = true := by
      intro j hj x hx
      by_cases e : j = i
      · subst e; rw [hpre x hx]; rfl
      · have : (j == i) = false := beq_eq_false_iff_ne.2 e
        rw [this, Bool.or_false] at hj
        rw [hcl j hj x hx]; rfl
    cases hci : chOf l 0 i with
    | some k' =>
      rw [hci] at h
      have hkk : k' = k := by
        have h1 := (hc i k' hci)
        rw [hS] at h1
        have h2 : ¬ k' < k := fun hlt => by have := h1.2 hlt; cases this
        rcases Nat.lt_or_ge k k' with h3 | h3
        · obtain ⟨j, hj, hjk⟩ := hchain i (k' - 1) (by rw [hci]; congr 1; omega)
          have h4 := (hc j _ hjk).1 (hpre j hj)
          omega
        · omega
      subst hkk
      have hltk := hle i k' hci
      have hset : ∀ j kk, chOf l 0 j = some kk → ((S j || j == i) = true ↔ kk < k' + 1) := by
        intro j kk hj
        by_cases e : j = i
        · subst e
          rw [hci] at hj
          cases hj
          simp
        · have hb : (j == i) = false := beq_eq_false_iff_ne.2 e
          rw [hb, Bool.or_false, hc j kk hj]
          constructor
          · intro h; omega
          · intro h
            rcases Nat.lt_or_ge kk k' with h5 | h5
            · exact h5
            · have : kk = k' := by omega
              subst this
              exact absurd (hch j i kk hj hci) e
      rcases h W hTk with ⟨v, W', hT', hr⟩ | ⟨f, args, hr, hC⟩
      · exact dag_runs v hr ⟨hv' v (fun h => by rw [hci] at h; cases h), hcl', k' + 1, by omega, hT', hset⟩
      · unfold Oper.wp
        rw [hr, Oper.upon_enter]
        refine hC.mono ?_
        rintro e W' ⟨v, rfl, hT'⟩
        exact ⟨v, rfl, hv' v (fun h => by rw [hci] at h; cases h), hcl', k' + 1, by omega, hT', hset⟩
    | none =>
      rw [hci] at h
      have h1 := h k hk (fun j kk hj hjk => (hc j kk hjk).1 (hpre j hj)) (fun j kk hj hjk => by
        rcases Nat.lt_or_ge kk k with h5 | h5
        · have := hcl j ((hc j kk hjk).2 h5) i hj
          rw [hS] at this; cases this
        · exact h5) (fun t ht => frS_undone2 S vs t ds 0 a.tmps (fun j hj => by
        obtain ⟨kk, hj1, hj2⟩ := ht j hj
        rw [Nat.zero_add]
        cases hSj : S j with
        | false => rfl
        | true => have := (hc j kk hj1).1 hSj; omega)) W hTk
      refine dag_runs (V i) h1 ⟨hv' (V i) (fun _ => rfl), hcl', k, hk, hT k vs _ W (fun j kk hj _ => ?_) hTk, fun j kk hj => ?_⟩
      · have e : j ≠ i := fun e => by rw [e, hci] at hj; cases hj
        simp only [if_neg e]
      · have e : j ≠ i := fun e => by rw [e, hci] at hj; cases hj
        have hb : (j == i) = false := beq_eq_false_iff_ne.2 e
        show (S j || j == i) = true ↔ _
        rw [hb, Bool.or_false, hc j kk hj]
  · rintro vs W ⟨hv, _, k, hk, hTk, hc⟩
    have hkm : k = l.length := by
      rcases Nat.lt_or_ge k l.length with h | h
      · obtain ⟨i, hi, hik⟩ := hall k h
        have := (hc i k hik).1 (by simpa using hi)
        omega
      · omega
    subst hkm
    have : frS (fun j => decide (j < ops.size)) vs 0 ds a.tmps = frS (fun j => decide (j < ops.size)) (fun j => match chOf l 0 j with | some _ => vs j | none => V j) 0 ds a.tmps := frS_congr ds 0 _ (fun _ _ => rfl) (fun j _ hj => by
      cases hj2 : chOf l 0 j with
      | some _ => rfl
      | none => exact hv j hj hj2)
    rw [this]
    exact hend vs W hTk
end
/-! ### the region that puts a part behind -/
theorem n_field (f : Nat) (hf : f = 1 ∨ f = 2) (ρ : Operand → Value) (W : World) (o : Oper) (x : Operand) (ho : o.op = .fieldAddr 25 x f) (p : Nat) (hx : ρ x = .pointer (some ⟨p, 0, none⟩)) : (execOp ρ o).run Tryz.prog W = .ok (.value (.pointer (some ⟨p, f, none⟩))) W := by
  unfold execOp
  rw [ho]
  rcases hf with rfl | rfl <;> go_simp
theorem n_load (ρ : Operand → Value) (W : World) (o : Oper) (x : Operand) (ho : o.op = .load 3 x) (ad : Addr) (hx : ρ x = .pointer (some ad)) (v : Int) (hc : W.cell? ad = some (.int .i64 v)) : (execOp ρ o).run Tryz.prog W = .ok (.value (.int .i64 v)) W := by
  unfold execOp
  rw [ho]
  go_simp
theorem n_buildItem (ρ : Operand → Value) (W : World) (o : Oper) (x y z : Operand) (ho : o.op = .build 25 #[(0, x), (1, y), (2, z)]) (a b c : Int) (hx : ρ x = .int .i64 a) (hy : ρ y = .int .i64 b) (hz : ρ z = .int .i64 c) : (execOp ρ o).run Tryz.prog W = .ok (.value (.agg #[.int .i64 a, .int .i64 b, .int .i64 c])) W := by
  unfold execOp
  rw [ho]
  go_simp
theorem n_buildPart (ρ : Operand → Value) (W : World) (o : Oper) (x y : Operand) (ho : o.op = .build 82 #[(0, x), (1, y)]) (a b c d : Int) (hx : ρ x = .agg #[.int .i64 a, .int .i64 b, .int .i64 c]) (hy : ρ y = .int .i64 d) : (execOp ρ o).run Tryz.prog W = .ok (.value (.agg #[.int .i64 a, .int .i64 b, .int .i64 c, .int .i64 d])) W := by
  unfold execOp
  rw [ho]
  go_simp
theorem n_buildSlice (ρ : Operand → Value) (W : World) (o : Oper) (x : Operand) (ho : o.op = .buildSlice 79 1 #[(0, x)]) (a b c d : Int) (hx : ρ x = .agg #[.int .i64 a, .int .i64 b, .int .i64 c, .int .i64 d]) : (execOp ρ o).run Tryz.prog W = .ok (.value (.slice (some ⟨W.heap.size, 0, none⟩) 1 1)) (W.alloc (.cells #[.int .i64 a, .int .i64 b, .int .i64 c, .int .i64 d] 82)) := by
  unfold execOp
  rw [ho]
  go_simp
def NT (w W0 : World) (B n : Nat) (v : Value) (us : List Value) (a b c d : Int) : Nat → (Nat → Value) → World → Prop
  | 0, _, W => W = W0
  | 1, vs, W => Below w.heap.size w W ∧ vs 9 = .int .i64 d
  | 2, vs, W => Below w.heap.size w W ∧ vs 10 = .agg #[.int .i64 a, .int .i64 b, .int .i64 c, .int .i64 d]
  | 3, vs, W => Below w.heap.size w W ∧ ∃ g, vs 11 = .slice (some ⟨g, 0, none⟩) 1 1 ∧ Blk W g 82 #[.int .i64 a, .int .i64 b, .int .i64 c, .int .i64 d]
  | 4, vs, W => ∃ W2, Below w.heap.size w W2 ∧ W2.grownBy W v.ownBlock ∧ W.ownsRow B 82 4 (vs 12) (n + 1) (us ++ [.int .i64 a, .int .i64 b, .int .i64 c, .int .i64 d])
  | _, vs, W => vs 13 = vs 12 ∧ ∃ W2, Below w.heap.size w W2 ∧ W2.grownBy W v.ownBlock ∧ W.ownsRow B 82 4 (vs 12) (n + 1) (us ++ [.int .i64 a, .int .i64 b, .int .i64 c, .int .i64 d])
abbrev needsN : List (Nat × Nat) := [(3, 2), (5, 4), (6, 1), (6, 3), (6, 5), (9, 7), (9, 8), (10, 6), (10, 9), (11, 10), (12, 0), (12, 11), (13, 12)]
abbrev dsN : List (Option Tmp) := [some 30, some 31, some 32, some 33, some 34, some 35, some 36, some 37, some 38, some 39, some 40, some 41, some 42, some 5]
abbrev opsN : List Op := [.move (.tmp 5), .move (.tmp 9), .fieldAddr 25 (.tmp 7) 1, .load 3 (.tmp 32), .fieldAddr 25 (.tmp 7) 2, .load 3 (.tmp 34), .build 25 #[(0, .tmp 31), (1, .tmp 33), (2, .tmp 35)], .move (.tmp 0), .move (.tmp 9),
  .call { callee := .value (.func 44), args := #[(.tmp 37), (.tmp 38)], argTypes := #[28, 3] }, .build 82 #[(0, .tmp 36), (1, .tmp 39)], .buildSlice 79 1 #[(0, (.tmp 40))], .call { callee := .builtin .append, args := #[(.tmp 30), (.tmp 41)], argTypes := #[79, 79] }, .assign (.tmp 42)]
theorem blk_neN {w : World} {xb : Nat} {e e' : TypeId} {cs : Array Value} {B s n : Nat} {v : Value} {xs : List Value} (hX : Blk w xb e cs) (ho : w.ownsRow B e' s v n xs) (hne : e ≠ e') : some xb ≠ v.ownBlock := by
  rcases ho.2 with ⟨rfl, _⟩ | ⟨g, cap, cur, rfl, hb, hg, _⟩
  · intro h; cases h
  · intro h
    have h : xb = g := by simpa [Value.ownBlock] using h
    subst h
    unfold Blk at hX
    rw [hg] at hX
    injection hX with hX
    injection hX with h1 h2
    exact hne h2.symm
set_option maxHeartbeats 1600000 in
theorem regionN (a : Act) (ops : Array Oper) (rid : Nat) (Q : Exit → Act → World → Prop) (w : World) (T v : Value) (xb B n : Nat) (us : List Value) (r x0 s e d : Int)
    (hops : ops.toList.map (·.op) = opsN) (hok : dagOk ops dsN = true) (hcn : chainOk ops [9, 10, 11, 12, 13] = true) (hnd : needsOk2 ops needsN = true) (hsz : 43 ≤ a.tmps.size)
    (h0 : a.tmps.getD 0 undef = T) (h5 : a.tmps.getD 5 undef = v) (h7 : a.tmps.getD 7 undef = .pointer (some ⟨xb, 0, none⟩)) (h9 : a.tmps.getD 9 undef = .int .i64 r)
    (hX : Blk w xb 25 #[.int .i64 x0, .int .i64 s, .int .i64 e])
    (hp : ∀ W, Below w.heap.size w W → Calls Tryz.prog 44 #[T, .int .i64 r] W fun e' W' => e' = .returned (.int .i64 d) ∧ Below W.heap.size W W')
    (hr : w.ownsRow B 82 4 v n us) (hB : B ≤ w.heap.size) (hcap : (n + 1) * 32 ≤ 140737488355328)
    (hend : ∀ V v' w', w'.ownsRow B 82 4 v' (n + 1) (us ++ [.int .i64 r, .int .i64 s, .int .i64 e, .int .i64 d]) → V 13 = v' → (∃ W2, Below w.heap.size w W2 ∧ W2.grownBy w' v.ownBlock) →
      Q .normal { a with tmps := frS (fun j => decide (j < 14)) V 0 dsN a.tmps } w') :
    (Code.region rid ops true).wp Tryz.prog Q a w := by
  have hlen : ops.size = 14 := by have := congrArg List.length hops; simpa using this
  obtain ⟨W0, hW0⟩ : ∃ W0 : World, W0 = { w with drawn := w.drawn + 1 } := ⟨_, rfl⟩
  have hb0 : Below w.heap.size w W0 := by subst hW0; exact ⟨rfl, rfl, rfl, Nat.le_refl _, fun _ _ => rfl⟩
  have hs0 : W0.heap.size = w.heap.size := by subst hW0; rfl
  have hop : ∀ (i : Nat) (o : Oper), ops[i]? = some o → ∀ x, opsN[i]? = some x → o.op = x := by
    intro i o ho x hx
    rw [← hops, List.getElem?_map, Array.getElem?_toList, ho] at hx
    simpa using hx
  have hlt : ∀ t, t < 43 → t < a.tmps.size := fun t ht => by omega
  rw [← hlen] at hend
  have hxl := heap_lt hX
  have hvb : ∀ k, v.ownBlock = some k → k < w.heap.size ∧ k ≠ xb ∧ B ≤ k := by
    intro k hk
    have h2 := own_lt hr k hk
    refine ⟨h2.2, ?_, h2.1⟩
    rintro rfl
    exact blk_neN hX hr (by decide) hk.symm
  refine wp_region_path2 (by kernel_rfl) dsN hok [9, 10, 11, 12, 13] hcn
    (fun j => match j with | 0 => v | 1 => .int .i64 r | 2 => .pointer (some ⟨xb, 1, none⟩) | 3 => .int .i64 s | 4 => .pointer (some ⟨xb, 2, none⟩) | 5 => .int .i64 e | 6 => .agg #[.int .i64 r, .int .i64 s, .int .i64 e] | 7 => T | 8 => .int .i64 r | _ => undef)
    (NT w W0 B n v us r s e d) ?_ (fun vs => hW0.symm) ?_ ?_
  · intro k vs vs' W hag h
    match k, hag, h with
    | 0, _, h => exact h
    | 1, hag, h =>
      have e9 := hag 9 0 rfl (by decide)
      exact ⟨h.1, by rw [← e9]; exact h.2⟩
    | 2, hag, h =>
      have e10 := hag 10 1 rfl (by decide)
      exact ⟨h.1, by rw [← e10]; exact h.2⟩
    | 3, hag, h =>
      have e11 := hag 11 2 rfl (by decide)
      obtain ⟨h1, g, h3, h4⟩ := h
      exact ⟨h1, g, by rw [← e11]; exact h3, h4⟩
    | 4, hag, h =>
      have e12 := hag 12 3 rfl (by decide)
      obtain ⟨W2, h1, h2, h3⟩ := h
      exact ⟨W2, h1, h2, by rw [← e12]; exact h3⟩
    | k + 5, hag, h =>
      have e12 := hag 12 3 rfl (by omega)
      have e13 := hag 13 4 rfl (by omega)
      obtain ⟨h0, W2, h1, h2, h3⟩ := h
      exact ⟨by rw [← e12, ← e13]; exact h0, W2, h1, h2, by rw [← e12]; exact h3⟩
  · intro i o ho ρ vs hρ hold hcon hfun _
    have hi : i < 14 := by rw [← hlen]; exact (Array.getElem?_eq_some_iff.1 ho).1
    have e0 : ρ (.tmp 0) = T := (hold 0 (by decide)).trans h0
    have e7 : ρ (.tmp 7) = .pointer (some ⟨xb, 0, none⟩) := (hold 7 (by decide)).trans h7
    have e9 : ρ (.tmp 9) = .int .i64 r := (hold 9 (by decide)).trans h9
    have cellX : ∀ k, k ≤ 5 → ∀ W, NT w W0 B n v us r s e d k vs W → ∀ j, W.cell? ⟨xb, j, none⟩ = (#[Value.int .i64 x0, .int .i64 s, .int .i64 e] : Array Value)[j]? := by
      intro k hk W hW j
      have hXW : Blk W xb 25 #[.int .i64 x0, .int .i64 s, .int .i64 e] := by
        match k, hk, hW with
        | 0, _, hW => have hW : W = W0 := hW; subst hW; exact hX.below hb0
        | 1, _, hW => exact hX.below hW.1
        | 2, _, hW => exact hX.below hW.1
        | 3, _, hW => exact hX.below hW.1
        | 4, _, hW => obtain ⟨W2, h1, h2, _⟩ := hW; exact (hX.below h1).grown h2 (fun e => (hvb xb e.symm).2.1 rfl)
        | 5, _, hW => obtain ⟨_, W2, h1, h2, _⟩ := hW; exact (hX.below h1).grown h2 (fun e => (hvb xb e.symm).2.1 rfl)
      exact hXW.cell j
    match i, hi with
    | 0, _ =>
      intro k _ _ hh hund W _
      have hk2 := hh 12 3 (needs2_get hnd 12 0 (by decide)) rfl
      have e5 : ρ (.tmp 5) = v := (hund 5 (fun j hj => by
        have hj14 : j < 14 := (List.getElem?_eq_some_iff.1 hj).1
        have hj13 : j = 13 := by
          rcases (by omega : j = 0 ∨ j = 1 ∨ j = 2 ∨ j = 3 ∨ j = 4 ∨ j = 5 ∨ j = 6 ∨ j = 7 ∨ j = 8 ∨ j = 9 ∨ j = 10 ∨ j = 11 ∨ j = 12 ∨ j = 13) with rfl | rfl | rfl | rfl | rfl | rfl | rfl | rfl | rfl | rfl | rfl | rfl | rfl | rfl <;> first | rfl | simp [dsN] at hj
        subst hj13
        exact ⟨4, rfl, by omega⟩)).trans h5
      exact .inl (by rw [← e5]; exact r_move _ _ _ o _ (hop _ _ ho _ rfl))
    | 1, _ => intro k _ _ _ _ W _; exact .inl (by rw [← e9]; exact r_move _ _ _ o _ (hop _ _ ho _ rfl))
    | 2, _ => intro k _ _ _ _ W _; exact .inl (n_field 1 (by decide) _ _ o _ (hop _ _ ho _ rfl) xb e7)
    | 3, _ => intro k hk _ _ _ W hW; exact .inl (n_load _ _ o _ (hop _ _ ho _ rfl) ⟨xb, 1, none⟩ (hρ 2 (needs2_get hnd 3 2 (by decide)) 32 rfl (hlt _ (by decide))) _ (cellX k hk W hW 1))
    | 4, _ => intro k _ _ _ _ W _; exact .inl (n_field 2 (by decide) _ _ o _ (hop _ _ ho _ rfl) xb e7)
    | 5, _ => intro k hk _ _ _ W hW; exact .inl (n_load _ _ o _ (hop _ _ ho _ rfl) ⟨xb, 2, none⟩ (hρ 4 (needs2_get hnd 5 4 (by decide)) 34 rfl (hlt _ (by decide))) _ (cellX k hk W hW 2))
    | 6, _ => intro k _ _ _ _ W _; exact .inl (n_buildItem _ _ o _ _ _ (hop _ _ ho _ rfl) _ _ _ (hρ 1 (needs2_get hnd 6 1 (by decide)) 31 rfl (hlt _ (by decide))) (hρ 3 (needs2_get hnd 6 3 (by decide)) 33 rfl (hlt _ (by decide))) (hρ 5 (needs2_get hnd 6 5 (by decide)) 35 rfl (hlt _ (by decide))))
    | 7, _ => intro k _ _ _ _ W _; exact .inl (by rw [← e0]; exact r_move _ _ _ o _ (hop _ _ ho _ rfl))
    | 8, _ => intro k _ _ _ _ W _; exact .inl (by rw [← e9]; exact r_move _ _ _ o _ (hop _ _ ho _ rfl))
    | 9, _ =>
      intro W hW
      have hW : W = W0 := hW
      subst hW
      refine .inr ⟨44, #[T, .int .i64 r], ?_, ?_⟩
      · have f1 := hρ 7 (needs2_get hnd 9 7 (by decide)) 37 rfl (hlt _ (by decide))
        have f2 := hρ 8 (needs2_get hnd 9 8 (by decide)) 38 rfl (hlt _ (by decide))
        have f1 : ρ (.tmp 37) = T := f1
        have f2 : ρ (.tmp 38) = .int .i64 r := f2
        unfold execOp
        rw [hop _ _ ho _ rfl]
        simp [go_sem, hfun, f1, f2, resolve, Act.eval]
      · refine (hp W hb0).mono ?_
        rintro e' W' ⟨rfl, hb⟩
        rw [hs0] at hb
        exact ⟨_, rfl, hb0.trans hb, rfl⟩
    | 10, _ =>
      rintro W ⟨hbW, hv⟩
      have f9 := hρ 9 (needs2_get hnd 10 9 (by decide)) 39 rfl (hlt _ (by decide))
      have f9 : ρ (.tmp 39) = vs 9 := f9
      refine .inl ⟨_, W, ⟨hbW, rfl⟩, .inl ?_⟩
      exact n_buildPart _ _ o _ _ (hop _ _ ho _ rfl) _ _ _ _ (hρ 6 (needs2_get hnd 10 6 (by decide)) 36 rfl (hlt _ (by decide))) (f9.trans hv)
    | 11, _ =>
      rintro W ⟨hbW, hv⟩
      have f := hρ 10 (needs2_get hnd 11 10 (by decide)) 40 rfl (hlt _ (by decide))
      have f : ρ (.tmp 40) = vs 10 := f
      refine .inl ⟨.slice (some ⟨W.heap.size, 0, none⟩) 1 1, _, ⟨hbW.trans ((alloc_below W _).mono hbW.size), W.heap.size, rfl, row_new _ _⟩, .inl ?_⟩
      exact n_buildSlice ρ W o _ (hop _ _ ho _ rfl) r s e d (f.trans hv)
    | 12, _ =>
      rintro W ⟨hbW, g, h11, hg⟩
      have f0 := hρ 0 (needs2_get hnd 12 0 (by decide)) 30 rfl (hlt _ (by decide))
      have f0 : ρ (.tmp 30) = v := f0
      have f11 := hρ 11 (needs2_get hnd 12 11 (by decide)) 41 rfl (hlt _ (by decide))
      have f11 : ρ (.tmp 41) = vs 11 := f11
      obtain ⟨v', W', hrun, hown, hgr, hat⟩ := r_append W slPart ρ o _ _ (hop _ _ ho _ rfl) B _ n us f0 (own_below hr hbW) ⟨g, 0, none⟩ 1 1 [.int .i64 r, .int .i64 s, .int .i64 e, .int .i64 d] (f11.trans h11) rfl hg.at_ (by intro u hu; simp at hu; rcases hu with rfl | rfl | rfl | rfl <;> rfl) hcap (Nat.le_trans hB hbW.size)
      exact .inl ⟨v', W', ⟨W, hbW, hgr, hown⟩, .inl hrun⟩
    | 13, _ =>
      rintro W ⟨W2, hbW, hgr, hown⟩
      have f12 := hρ 12 (needs2_get hnd 13 12 (by decide)) 42 rfl (hlt _ (by decide))
      have f12 : ρ (.tmp 42) = vs 12 := f12
      exact .inl ⟨vs 12, W, ⟨rfl, W2, hbW, hgr, hown⟩, .inl (by rw [← f12]; exact r_assign _ _ _ o _ (hop _ _ ho _ rfl))⟩
  · intro vs W h
    obtain ⟨h1, W2, hbW, hgr, hown⟩ := h
    exact hend _ (vs 12) W hown h1 ⟨W2, hbW, hgr⟩
end Go.Proofs.YthoegenipbohmaaGreatDoor

namespace Go.Proofs.YthoegenipbohmaaGreatDoor
open Go.RowKit Go.Sort Stb
set_option linter.unusedVariables false
set_option linter.unusedSimpArgs false

def mkPart (K : Int → Int) (x : It) (r : Int) : Part := ⟨r, x.s, x.e, K r⟩
def partsG (D : Int → List Int) (K : Int → Int) (xs : List It) : List Part := xs.flatMap fun x => (D x.r).map (mkPart K x)
def toIt (p : Part) : It := ⟨p.r, p.s, p.e⟩
def nfdG (D : Int → List Int) (K : Int → Int) (xs : List It) : List It := (Nrm.ord ptKey (partsG D K xs)).map toIt
theorem partsG_snoc (D : Int → List Int) (K : Int → Int) (xs : List It) (x : It) : partsG D K (xs ++ [x]) = partsG D K xs ++ (D x.r).map (mkPart K x) := by
  unfold partsG
  rw [List.flatMap_append]
  simp
theorem partsG_take_le (D : Int → List Int) (K : Int → Int) (xs : List It) (k : Nat) : (partsG D K (xs.take k)).length ≤ (partsG D K xs).length := by
  have h : xs = xs.take k ++ xs.drop k := (List.take_append_drop k xs).symm
  conv => rhs; rw [h]
  unfold partsG
  rw [List.flatMap_append, List.length_append]
  omega
theorem partsG_key {D : Int → List Int} {K : Int → Int} (hK : ∀ r, 0 ≤ K r) (xs : List It) : ∀ p ∈ partsG D K xs, 0 ≤ ptKey p := by
  intro p hp
  unfold partsG at hp
  obtain ⟨x, _, hx⟩ := List.mem_flatMap.1 hp
  obtain ⟨r, _, rfl⟩ := List.mem_map.1 hx
  exact hK r
theorem parts_snoc (ps : List Part) (p : Part) : ps.flatMap ptCells ++ [.int .i64 p.r, .int .i64 p.s, .int .i64 p.e, .int .i64 p.c] = (ps ++ [p]).flatMap ptCells := by
  rw [List.flatMap_append]
  rfl
theorem items_snoc (xs : List It) (x : It) : xs.flatMap itCells ++ [.int .i64 x.r, .int .i64 x.s, .int .i64 x.e] = (xs ++ [x]).flatMap itCells := by
  rw [List.flatMap_append]
  rfl
/-- What stands at the label. -/
structure NI (L0 : List Part) (w w' : World) (v5 : Value) (at_ : Nat) (L : List Part) : Prop where
  le : at_ ≤ L0.length
  len : L.length = L0.length
  eq : L = Nrm.ord ptKey (L0.take at_) ++ L0.drop at_
  base : Nrm.Base ptKey (L0.take at_) ∨ ∀ y, L0[at_]? = some y → ptKey y ≤ 0
  own : PartsAt w' w.heap.size v5 L
  bel : Below w.heap.size w w'
theorem NI.rest {L0 L : List Part} {w w' : World} {v5 : Value} {at_ : Nat} (h : NI L0 w w' v5 at_ L) (i : Nat) (h1 : at_ ≤ i) : L[i]? = L0[i]? := by
  have hl : (Nrm.ord ptKey (L0.take at_)).length = at_ := by rw [(Nrm.ord_perm _).length_eq, List.length_take]; have := h.le; omega
  rw [h.eq, List.getElem?_append_right (by omega), hl, List.getElem?_drop]
  congr 1
  omega
/-- One of class 0 is passed. -/
theorem NI.skip {L0 L : List Part} {w w' : World} {v5 : Value} {at_ : Nat} (h : NI L0 w w' v5 at_ L) {y : Part} (hy : L0[at_]? = some y) (hk : ptKey y ≤ 0) : NI L0 w w' v5 (at_ + 1) L := by
  have hlt := (List.getElem?_eq_some_iff.1 hy).1
  have e : L0.take (at_ + 1) = L0.take at_ ++ [y] := by
    rw [List.take_succ_eq_append_getElem hlt]
    congr 2
    exact (List.getElem?_eq_some_iff.1 hy).2
  refine ⟨hlt, h.len, ?_, .inl (.inr ⟨_, y, e, hk⟩), h.own, h.bel⟩
  rw [e, Nrm.ord_zero _ hk, h.eq, List.append_assoc]
  congr 1
  rw [List.drop_eq_getElem_cons hlt]
  have := (List.getElem?_eq_some_iff.1 hy).2
  rw [this]
  rfl
theorem NI.done {L0 L : List Part} {w w' : World} {v5 : Value} {at_ : Nat} (h : NI L0 w w' v5 at_ L) (hn : at_ = L0.length) : L = Nrm.ord ptKey L0 := by
  rw [h.eq, hn, List.take_length, List.drop_length, List.append_nil]
/-- A run is sorted. -/
theorem NI.run {L0 L : List Part} {w w' w2 : World} {g cap : Nat} {at_ e2 : Nat} (h : NI L0 w w' (.slice (some ⟨g, 0, none⟩) L0.length cap) at_ L) (h1 : at_ < e2) (h2 : e2 ≤ L0.length) (hpos : ∀ y ∈ (L0.drop at_).take (e2 - at_), 0 < ptKey y)
    (hnext : ∀ y, L0[e2]? = some y → ptKey y ≤ 0) {d' : Array Part} (hst : Stable ptKey (((L0.drop at_).take (e2 - at_)).toArray).toList d'.toList) (hsz : d'.size = (((L0.drop at_).take (e2 - at_)).toArray).size)
    (hw : SWK ptCells 4 w' g (at_ * 4) d' w2) : ∃ L', NI L0 w w2 (.slice (some ⟨g, 0, none⟩) L0.length cap) e2 L' := by
  have hlo : (Nrm.ord ptKey (L0.take at_)).length = at_ := by rw [(Nrm.ord_perm _).length_eq, List.length_take]; have := h.le; omega
  have hdr : L0.drop at_ = (L0.drop at_).take (e2 - at_) ++ L0.drop e2 := by
    have := List.take_append_drop (e2 - at_) (L0.drop at_)
    rw [List.drop_drop, show at_ + (e2 - at_) = e2 by omega] at this
    exact this.symm
  have hrl : ((L0.drop at_).take (e2 - at_)).length = e2 - at_ := by rw [List.length_take, List.length_drop]; omega
  have hown : w'.ownsRow w.heap.size 82 4 (.slice (some ⟨g, 0, none⟩) L0.length cap) L0.length ((Nrm.ord ptKey (L0.take at_) ++ ((((L0.drop at_).take (e2 - at_)).toArray).toList ++ L0.drop e2)).flatMap ptCells) := by
    have := h.own
    unfold PartsAt at this
    rw [h.len, h.eq, hdr] at this
    exact this
  obtain ⟨r1, r2⟩ := own_seg (X := L0) pt_len hown (by rw [hlo, List.size_toArray, hrl, List.length_drop]; omega) hsz (by rw [hlo]; exact hw)
  have hbase : Nrm.Base ptKey (L0.take at_) := by
    rcases h.base with hb | hb
    · exact hb
    · have hlt : at_ < L0.length := by omega
      have h3 := hb L0[at_] (List.getElem?_eq_getElem hlt)
      have h4 := hpos L0[at_] (by
        rw [List.drop_eq_getElem_cons hlt, show e2 - at_ = (e2 - at_ - 1) + 1 by omega, List.take_succ_cons]
        exact List.mem_cons_self)
      omega
  have htk : L0.take e2 = L0.take at_ ++ (L0.drop at_).take (e2 - at_) := by
    have := List.take_add (l := L0) (i := at_) (j := e2 - at_)
    rw [show at_ + (e2 - at_) = e2 by omega] at this
    exact this
  have hord : Nrm.ord ptKey (L0.take e2) = Nrm.ord ptKey (L0.take at_) ++ d'.toList := by
    rw [htk]
    exact Nrm.ord_run hbase hpos hst
  have hdl : d'.toList.length = e2 - at_ := by rw [Array.length_toList, hsz, List.size_toArray, hrl]
  refine ⟨Nrm.ord ptKey (L0.take at_) ++ (d'.toList ++ L0.drop e2), h2, ?_, ?_, .inr hnext, ?_, ?_⟩
  · rw [List.length_append, List.length_append, hlo, hdl, List.length_drop]; omega
  · rw [hord, List.append_assoc]
  · unfold PartsAt
    rw [show (Nrm.ord ptKey (L0.take at_) ++ (d'.toList ++ L0.drop e2)).length = L0.length by rw [List.length_append, List.length_append, hlo, hdl, List.length_drop]; omega]
    exact r1
  · exact h.bel.grown r2 h.bel.size (fun k hk => by cases hk; exact (own_lt h.own g rfl).1)
theorem NI.holds {L0 L : List Part} {w w' : World} {g cap : Nat} {at_ e2 : Nat} (h : NI L0 w w' (.slice (some ⟨g, 0, none⟩) L0.length cap) at_ L) (h1 : at_ < e2) (h2 : e2 ≤ L0.length) : HoldsK ptCells 4 w' g (at_ * 4) ((L0.drop at_).take (e2 - at_)).toArray ∧ g < w'.heap.size := by
  have hlo : (Nrm.ord ptKey (L0.take at_)).length = at_ := by rw [(Nrm.ord_perm _).length_eq, List.length_take]; have := h.le; omega
  have hdr : L0.drop at_ = (L0.drop at_).take (e2 - at_) ++ L0.drop e2 := by
    have := List.take_append_drop (e2 - at_) (L0.drop at_)
    rw [List.drop_drop, show at_ + (e2 - at_) = e2 by omega] at this
    exact this.symm
  have hH : HoldsK ptCells 4 w' g 0 L.toArray := own_holds pt_len (d := L.toArray) (n := L0.length) (by
    have := h.own
    unfold PartsAt at this
    rw [h.len] at this
    exact this) (by rw [List.size_toArray]; exact h.len)
  have := seg_holds pt_len (p := Nrm.ord ptKey (L0.take at_)) (s := L0.drop e2) (d := ((L0.drop at_).take (e2 - at_)).toArray) (D := L.toArray) (by
    show L = _
    conv => lhs; rw [h.eq, hdr]) hH
  rw [hlo] at this
  exact ⟨this, (own_lt h.own g rfl).2⟩
def NJ (T : Value) (A1 : Option Addr) (c1 : Nat) (xs : List It) (L0 : List Part) (w : World) (n : Nat) (a' : Act) (w' : World) : Prop :=
  ∃ u2 u3 u4 u6 u7 u8 u9 u11 u12 u13 u14 u15 u16 u17 u18 u19 u20 u21 u22 u23 u24 u25 u26 u27 u28 u29 u30 u31 u32 u33 u34 u35 u36 u37 u38 u39 u40 u41 u42 u43 u44 u45 u46 u47 u48 u49 u50 u51 u52 u53 u54 u55 u56 u57 u58 u59 u60 u61 u62 u63 u64 u65 u66 u67 u68 u69 u70 u71 u72 u73 u74 u75 u76 u77 u78 u79 u80 u81 u82 u83 u84 u85 u86 u87 u88 u89 u90 u91 u92 u93 u94 u95 u96 v5 at_, a' = { tmps := #[T, .slice A1 xs.length c1, u2, u3, u4, v5, u6, u7, u8, u9, .int .i64 ((at_ : Nat) : Int), u11, u12, u13, u14, u15, u16, u17, u18, u19, u20, u21, u22, u23, u24, u25, u26, u27, u28, u29, u30, u31, u32, u33, u34, u35, u36, u37, u38, u39, u40, u41, u42, u43, u44, u45, u46, u47, u48, u49, u50, u51, u52, u53, u54, u55, u56, u57, u58, u59, u60, u61, u62, u63, u64, u65, u66, u67, u68, u69, u70, u71, u72, u73, u74, u75, u76, u77, u78, u79, u80, u81, u82, u83, u84, u85, u86, u87, u88, u89, u90, u91, u92, u93, u94, u95, u96], defers := [] } ∧ ∃ L, n = L0.length - at_ ∧ NI L0 w w' v5 at_ L
def ItemsSaid (l : List It) (w : World) (e : Ending) (w' : World) : Prop := ∃ v', e = .returned v' ∧ ItemsAt w' w.heap.size v' l ∧ Below w.heap.size w w'
set_option maxRecDepth 100000 in
set_option maxHeartbeats 6400000 in
theorem items_walk {w : World} {T : Value} {D : Int → List Int} {K : Int → Int} (hFull : ∀ W, Below w.heap.size w W → ∀ r, (Lit.int .i64 r).wf = true → Calls Tryz.prog 43 #[T, .int .i64 r] W (CloneSaid (D r) W))
    (hComb : ∀ W, Below w.heap.size w W → ∀ r, Calls Tryz.prog 44 #[T, .int .i64 r] W fun e W' => e = .returned (.int .i64 (K r)) ∧ Below W.heap.size W W') (hcb : ∀ r, 0 ≤ K r)
    {v : Value} {xs : List It} (hxs : ItsAt w v xs) (hwf : ∀ x ∈ xs, (Lit.int .i64 x.r).wf = true) (hlen : (partsG D K xs).length ≤ 10000000) (hxl : xs.length ≤ 10000000) :
    Calls Tryz.prog 15 #[T, v] w (ItemsSaid (nfdG D K xs) w) := by
  have HX := Lib.hid hxs
  obtain ⟨A1, c1, rfl, hn1, _⟩ := hxs
  have HF := Lib.hid hFull
  have HC := Lib.hid hComb
  have HW := Lib.hid hwf
  obtain ⟨L0, hL0⟩ : ∃ L0, L0 = partsG D K xs := ⟨_, rfl⟩
  have HL0 := Lib.hid hL0
  have HKey := Lib.hid (show ∀ p ∈ L0, 0 ≤ ptKey p by rw [hL0]; exact partsG_key hcb xs)
  rw [← hL0] at hlen
  clear hFull hComb hcb hwf hL0
  go_enter Tryz.func15, Tryz.ntmps15
  go_wp2_with fail
  refine wp_scope_label 0 (NJ T A1 c1 xs L0 w) rfl ?_ ?_
  · rintro n a w1 ⟨u2, u3, u4, u6, u7, u8, u9, u11, u12, u13, u14, u15, u16, u17, u18, u19, u20, u21, u22, u23, u24, u25, u26, u27, u28, u29, u30, u31, u32, u33, u34, u35, u36, u37, u38, u39, u40, u41, u42, u43, u44, u45, u46, u47, u48, u49, u50, u51, u52, u53, u54, u55, u56, u57, u58, u59, u60, u61, u62, u63, u64, u65, u66, u67, u68, u69, u70, u71, u72, u73, u74, u75, u76, u77, u78, u79, u80, u81, u82, u83, u84, u85, u86, u87, u88, u89, u90, u91, u92, u93, u94, u95, u96, v5, at_, rfl, L, hnn, hNI⟩
    obtain ⟨A5, c5, hv5⟩ := own_slice hNI.own
    rw [hNI.len] at hv5
    subst hv5
    have HNI0 := Lib.hid hNI
    have hat0 := hNI.le
    clear hNI
    go_wp2_with fail
    go_loopw [10] (fun vi wr => ∃ at2 : Nat, at_ ≤ at2 ∧ at2 ≤ L0.length ∧ vi = .int .i64 at2 ∧ Hid (NI L0 w w1 (.slice A5 L0.length c5) at2 L) ∧ w1 = wr) (fun vi _ => L0.length - (intOf vi).toNat)
    case atStart => exact ⟨at_, Nat.le_refl _, hat0, rfl, HNI0, rfl⟩
    case round =>
      clear HNI0
      obtain ⟨at2, h1, h2, rfl, HNI, rfl⟩ := hrel
      by_cases hlt : at2 < L0.length
      · as_aux_lemma =>
        obtain ⟨g, cap, hv, _, _, hcap, _⟩ := own_form HNI.out.own (by rw [HNI.out.len]; omega)
        injection hv with hA hn0 hc0
        subst hA hc0
        rw [HNI.out.len] at hcap
        clear hn0
        have hlL : at2 < L.length := by rw [HNI.out.len]; exact hlt
        obtain ⟨y, hy⟩ : ∃ y, y = L0[at2] := ⟨_, rfl⟩
        have hyL : L[at2] = y := by
          have := HNI.out.rest at2 (Nat.le_refl _)
          rw [List.getElem?_eq_getElem hlL, List.getElem?_eq_getElem hlt] at this
          rw [hy]
          exact Option.some.inj this
        have hown := HNI.out.own
        unfold PartsAt at hown
        rw [HNI.out.len] at hown
        have q3 := own_cell hown _ _ (parts_get L at2 hlL).2.2.2
        rw [hyL] at q3
        have hyk := HKey.out y (by rw [hy]; exact List.getElem_mem _)
        have Hy := Lib.hid (show L0[at2]? = some y by rw [hy]; exact List.getElem?_eq_getElem hlt)
        unfold ptKey at hyk
        clear hy hyL hlL hown
        by_cases hc : y.c = 0
        · have d1 : (y.c == 0) = true := by rw [beq_iff_eq]; exact hc
          have HNI2 := Lib.hid (HNI.out.skip Hy.out (by unfold ptKey; omega))
          clear HNI hc hyk
          go_wp2_with fail
          go_roundw
          case rel => exact ⟨at2 + 1, by omega, by omega, by go_num, HNI2, by first | rfl | trivial⟩
          case measure => simp [intOf]; omega
        · have d1 : (y.c == 0) = false := by rw [beq_eq_false_iff_ne]; exact hc
          have hyp : 0 < ptKey y := by unfold ptKey; omega
          have HYP := Lib.hid hyp
          clear hc hyk hyp
          go_wp2_with fail
          clear q3 d1
          go_loopw [11] (fun vi wr => ∃ e2 : Nat, at2 ≤ e2 ∧ e2 ≤ L0.length ∧ vi = .int .i64 e2 ∧ Hid (∀ z ∈ (L0.drop at2).take (e2 - at2), 0 < ptKey z) ∧ w1 = wr) (fun vi _ => L0.length - (intOf vi).toNat)
          case atStart => exact ⟨at2, Nat.le_refl _, h2, rfl, (fun z hz => by rw [Nat.sub_self] at hz; cases hz), rfl⟩
          case round =>
            obtain ⟨e2, he1, he2, rfl, HPos, rfl⟩ := hrel
            by_cases hle : e2 < L0.length
            · have hlL : e2 < L.length := by rw [HNI.out.len]; exact hle
              obtain ⟨z, hz⟩ : ∃ z, z = L0[e2] := ⟨_, rfl⟩
              have hzL : L[e2] = z := by
                have := HNI.out.rest e2 he1
                rw [List.getElem?_eq_getElem hlL, List.getElem?_eq_getElem hle] at this
                rw [hz]
                exact Option.some.inj this
              have hown := HNI.out.own
              unfold PartsAt at hown
              rw [HNI.out.len] at hown
              have q3 := own_cell hown _ _ (parts_get L e2 hlL).2.2.2
              rw [hzL] at q3
              have hzk := HKey.out z (by rw [hz]; exact List.getElem_mem _)
              have Hz := Lib.hid (show L0[e2]? = some z by rw [hz]; exact List.getElem?_eq_getElem hle)
              unfold ptKey at hzk
              clear hz hzL hlL hown
              by_cases hc : 0 < z.c
              · have d1 : decide (z.c > 0) = true := by rw [decide_eq_true_eq]; exact hc
                have HPos2 := Lib.hid (show ∀ u ∈ (L0.drop at2).take (e2 + 1 - at2), 0 < ptKey u from fun u hu => by
                  rw [show e2 + 1 - at2 = (e2 - at2) + 1 by omega, List.take_add_one, List.getElem?_drop, show at2 + (e2 - at2) = e2 by omega, Hz.out] at hu
                  rcases List.mem_append.1 hu with hu | hu
                  · exact HPos.out u hu
                  · have : u = z := by simpa using hu
                    rw [this]
                    exact hc)
                clear HPos hc hzk
                go_wp2_with fail
                go_roundw
                case rel => exact ⟨e2 + 1, by omega, by omega, by go_num, HPos2, by first | rfl | trivial⟩
                case measure => simp [intOf]; omega
              · as_aux_lemma =>
                have d1 : decide (z.c > 0) = false := by rw [decide_eq_false_iff_not]; exact hc
                have hnext : ∀ u, L0[e2]? = some u → ptKey u ≤ 0 := fun u hu => by
                  rw [Hz.out] at hu
                  cases hu
                  unfold ptKey
                  omega
                have hne : at2 ≠ e2 := fun h => by
                  subst h
                  have h3 := Hy.out
                  rw [Hz.out] at h3
                  cases h3
                  have := HYP.out
                  unfold ptKey at this
                  exact hc this
                clear hzk hc
                have hlt2 : at2 < e2 := by omega
                have hrl : ((L0.drop at2).take (e2 - at2)).length = e2 - at2 := by rw [List.length_take, List.length_drop]; omega
                obtain ⟨hH1, hH2⟩ := NI.holds HNI.out hlt2 he2
                have hsc := sortStable_walk (cap := c5 - at2) hH1 hH2 (by rw [List.size_toArray, hrl]; omega)
                rw [List.size_toArray, hrl] at hsc
                have HSC := Lib.hid hsc
                have HNX := Lib.hid hnext
                clear hH1 hH2 hsc hnext
                have b1 : (((e2 - at2 : Nat)) : Int) = (e2 : Int) - (at2 : Int) := by omega
                have b2 : (((c5 - at2 : Nat)) : Int) = (c5 : Int) - (at2 : Int) := by omega
                go_wp2_with fail
                refine HSC.out.mono ?_
                rintro e w2 ⟨rfl, d', hst, hsz, hw⟩
                obtain ⟨L', hNI'⟩ := NI.run HNI.out hlt2 he2 HPos.out HNX.out hst (by rw [hsz, List.size_toArray]; exact hrl.symm ▸ rfl) hw
                have HNI2 := Lib.hid hNI'
                clear hst hsz hw hNI' HSC b1 b2
                go_wp2_with fail
                go_step3
                simp only [Exit.then, Exit.jump]
                refine ⟨by first | rfl | trivial, L0.length - e2, by omega, ?_⟩
                unfold NJ
                (repeat apply Exists.intro)
                exact ⟨rfl, L', rfl, HNI2.out⟩
            · as_aux_lemma =>
              have hee : e2 = L0.length := by omega
              have hnext : ∀ u, L0[e2]? = some u → ptKey u ≤ 0 := fun u hu => by
                rw [List.getElem?_eq_none (by omega)] at hu
                cases hu
              have hne : at2 ≠ e2 := by omega
              clear hee
              have hlt2 : at2 < e2 := by omega
              have hrl : ((L0.drop at2).take (e2 - at2)).length = e2 - at2 := by rw [List.length_take, List.length_drop]; omega
              obtain ⟨hH1, hH2⟩ := NI.holds HNI.out hlt2 he2
              have hsc := sortStable_walk (cap := c5 - at2) hH1 hH2 (by rw [List.size_toArray, hrl]; omega)
              rw [List.size_toArray, hrl] at hsc
              have HSC := Lib.hid hsc
              have HNX := Lib.hid hnext
              clear hH1 hH2 hsc hnext
              have b1 : (((e2 - at2 : Nat)) : Int) = (e2 : Int) - (at2 : Int) := by omega
              have b2 : (((c5 - at2 : Nat)) : Int) = (c5 : Int) - (at2 : Int) := by omega
              go_wp2_with fail
              refine HSC.out.mono ?_
              rintro e w2 ⟨rfl, d', hst, hsz, hw⟩
              obtain ⟨L', hNI'⟩ := NI.run HNI.out hlt2 he2 HPos.out HNX.out hst (by rw [hsz, List.size_toArray]; exact hrl.symm ▸ rfl) hw
              have HNI2 := Lib.hid hNI'
              clear hst hsz hw hNI' HSC b1 b2
              go_wp2_with fail
              go_step3
              simp only [Exit.then, Exit.jump]
              refine ⟨by first | rfl | trivial, L0.length - e2, by omega, ?_⟩
              unfold NJ
              (repeat apply Exists.intro)
              exact ⟨rfl, L', rfl, HNI2.out⟩
      · as_aux_lemma =>
        have hat2 : at2 = L0.length := by omega
        have hLe := HNI.out.done hat2
        have HLe := Lib.hid hLe
        have HP0 := Lib.hid HNI.out.own
        have HB1 := Lib.hid HNI.out.bel
        have hLl := HNI.out.len
        subst hat2
        clear HNI hLe
        go_wp2_with fail
        go_loopw [12, 86] (fun vo i wr => ∃ (k : Nat) (qs : List It), k ≤ L0.length ∧ i = .int .i64 k ∧ Hid (qs = (L.take k).map toIt) ∧ Hid (ItemsAt wr w.heap.size vo qs) ∧ Hid (PartsAt wr w.heap.size (.slice A5 L0.length c5) L) ∧ Hid (Below w.heap.size w wr)) (fun _ i _ => L0.length - (intOf i).toNat)
        case atStart => exact ⟨0, [], by omega, rfl, rfl, World.ownsRow_nil _ _ _ _, HP0, HB1⟩
        case round =>
          clear HP0 HB1
          obtain ⟨k, qs, hk, rfl, HQ, HO, HP, HB⟩ := hrel
          obtain ⟨Ao, co, hvo⟩ := own_slice HO.out
          subst hvo
          by_cases hlk : k < L0.length
          · have hlL : k < L.length := by rw [hLl]; exact hlk
            obtain ⟨g, cap, hv, _⟩ := own_form HP.out (by rw [hLl]; omega)
            injection hv with hA hn0 hc0
            subst hA hc0
            clear hn0
            obtain ⟨y, hy⟩ : ∃ y, y = L[k] := ⟨_, rfl⟩
            obtain ⟨p0, p1, p2, p3⟩ := parts_get L k hlL
            rw [← hy] at p0 p1 p2 p3
            have hown := HP.out
            unfold PartsAt at hown
            rw [hLl] at hown
            have q0 := own_cell hown _ _ p0
            have q1 := own_cell hown _ _ p1
            have q2 := own_cell hown _ _ p2
            have q3 := own_cell hown _ _ p3
            have hql : qs.length = k := by rw [HQ.out, List.length_map, List.length_take]; omega
            have hb9 : (qs.length + 1) * 24 ≤ 140737488355328 := by omega
            have HQ2 := Lib.hid (show qs ++ [toIt y] = (L.take (k + 1)).map toIt by rw [HQ.out, List.take_succ_eq_append_getElem hlL, List.map_append, ← hy]; rfl)
            obtain ⟨X, hX⟩ : ∃ X, X = Obj.cells #[Value.int IntKind.i64 y.r, Value.int IntKind.i64 y.s, Value.int IntKind.i64 y.e, Value.int IntKind.i64 y.c] 82 := ⟨_, rfl⟩
            have hbx := alloc_below wr X
            have HX7 := Lib.hid (show Blk (wr.alloc X) wr.heap.size 82 #[Value.int IntKind.i64 y.r, Value.int IntKind.i64 y.s, Value.int IntKind.i64 y.e, Value.int IntKind.i64 y.c] by rw [hX]; exact row_new _ _)
            have HO1 := Lib.hid (show ItemsAt (wr.alloc X) w.heap.size _ qs from own_below HO.out hbx)
            have HP1 := Lib.hid (show PartsAt (wr.alloc X) w.heap.size (.slice (some ⟨g, 0, none⟩) L0.length c5) L from own_below HP.out hbx)
            have HB1 := Lib.hid (HB.out.trans (hbx.mono HB.out.size))
            rw [hX] at HX7 HO1 HP1 HB1
            clear p0 p1 p2 p3 hy hlL hql hbx HO HP HB HQ hown hX X
            go_upto_region 24 with fail
            clear q0 q1 q2 q3
            generalize wr.alloc _ = W1 at *
            generalize wr.heap.size = xb at *
            have q0 := HX7.out.cell 0
            have q1 := HX7.out.cell 1
            have q2 := HX7.out.cell 2
            go_wp2_with (at_builtin; refine wp_append_lit slItem rfl (.tmp 90) (.tmp 93) rfl w.heap.size (.slice Ao qs.length co) qs.length (qs.flatMap itCells) rfl (by exact HO1.out) #[.int .i64 y.r, .int .i64 y.s, .int .i64 y.e] rfl rfl (by simp [Value.oneCell']) hb9 (by exact HB1.out.size) ?_; intro v6 w6 hown6 hg6; have HP6 := Lib.hid (HP1.out.kept hg6 (own_types HP1.out HO1.out (by decide))); have HO6 := Lib.hid hown6; have HB6 := Lib.hid (HB1.out.grown hg6 HB1.out.size (fun k hk => (own_lt HO1.out k hk).1)); clear hown6 hg6)
            go_roundw
            case rel => exact ⟨k + 1, qs ++ [toIt y], by omega, by go_num, HQ2, (show ItemsAt _ _ _ _ by unfold ItemsAt; rw [List.length_append, ← items_snoc]; exact HO6.out), HP6, HB6⟩
            case measure => simp [intOf]; omega
          · have hke : k = L0.length := by omega
            have hfin : qs = nfdG D K xs := by
              rw [HQ.out, hke, ← hLl, List.take_length, HLe.out]
              unfold nfdG
              rw [← HL0.out]
            subst hfin
            clear HQ HP
            go_wp2_with fail
            simp only [Exit.jump]
            go_ret
            exact ⟨_, rfl, HO.out, HB.out⟩
  · intro hp
    have Hp := Lib.hid hp
    clear hp
    go_wp2_with fail
    -- the parts
    go_loopw [5, 17] (fun v5 i wr => ∃ (k : Nat) (ps : List Part), k ≤ xs.length ∧ i = .int .i64 k ∧ Hid (ps = partsG D K (xs.take k)) ∧ Hid (PartsAt wr w.heap.size v5 ps) ∧ Hid (Below w.heap.size w wr)) (fun _ i _ => xs.length - (intOf i).toNat)
    case atStart => exact ⟨0, [], by omega, rfl, rfl, World.ownsRow_nil _ _ _ _, Below.refl _ _⟩
    case round =>
      obtain ⟨k, ps, hk, rfl, HPS, HU, HB⟩ := hrel
      by_cases hlt : k < xs.length
      · as_aux_lemma =>
        obtain ⟨A', c', e', _, hz⟩ := HX.out.below HB.out
        injection e' with e1 _ e3
        obtain ⟨ad, hA, hcell⟩ := hz (by omega)
        rw [← e1] at hA
        subst hA
        obtain ⟨q0, q1, q2⟩ := hcell k hlt
        obtain ⟨x, hx⟩ : ∃ x, x = xs[k] := ⟨_, rfl⟩
        rw [← hx] at q0 q1 q2
        have q1' : wr.cell? ⟨(ad.add (k * 3)).block, (ad.add (k * 3)).off + 1, none⟩ = some (.int .i64 x.s) := q1
        have q2' : wr.cell? ⟨(ad.add (k * 3)).block, (ad.add (k * 3)).off + 2, none⟩ = some (.int .i64 x.e) := q2
        clear q1 q2
        have hxw := HW.out x (by rw [hx]; exact List.getElem_mem _)
        have hsn : partsG D K (xs.take (k + 1)) = ps ++ (D x.r).map (mkPart K x) := by
          rw [List.take_succ_eq_append_getElem hlt, ← hx, partsG_snoc, HPS.out]
        have hle := partsG_take_le D K xs (k + 1)
        rw [hsn, ← HL0.out, List.length_append, List.length_map] at hle
        have HSN := Lib.hid hsn
        obtain ⟨X, hX⟩ : ∃ X, X = Obj.cells #[Value.int IntKind.i64 x.r, Value.int IntKind.i64 x.s, Value.int IntKind.i64 x.e] 25 := ⟨_, rfl⟩
        have hbx := alloc_below wr X
        have HX7 := Lib.hid (show Blk (wr.alloc X) wr.heap.size 25 #[Value.int IntKind.i64 x.r, Value.int IntKind.i64 x.s, Value.int IntKind.i64 x.e] by rw [hX]; exact row_new _ _)
        have HU0 := Lib.hid (show PartsAt (wr.alloc X) w.heap.size u5 ps from own_below HU.out hbx)
        have HB0 := Lib.hid (HB.out.trans (hbx.mono HB.out.size))
        rw [hX] at HX7 HU0 HB0
        clear hz hcell hx hsn hX hbx HU HB HPS e3 e1 X
        go_upto_region 5 with fail
        clear q0 q1' q2'
        generalize wr.alloc _ = W1 at *
        generalize wr.heap.size = xb at *
        have q0 := HX7.out.cell 0
        have HFW := Lib.hid (HF.out W1 HB0.out x.r hxw)
        go_wp2_with fail
        refine HFW.out.mono ?_
        rintro e w2 ⟨v24, rfl, hv24, hb2⟩
        have HX2 := Lib.hid (HX7.out.below hb2)
        have HU2 := Lib.hid (own_below HU0.out hb2)
        have HB2 := Lib.hid (HB0.out.trans (hb2.mono HB0.out.size))
        obtain ⟨A24, c24, rfl⟩ := own_slice hv24
        have HV := Lib.hid hv24
        clear hv24 hb2 HX7 HU0 HB0 HFW q0
        generalize D x.r = full at *
        generalize W1.heap.size = b24 at *
        clear W1
        have hfl := own_len HV.out
        unfold maxLen at hfl
        go_wp2_with fail
        go_loopw [5, 26] (fun v5 i wx => ∃ (q : Nat) (qs : List Part), q ≤ full.length ∧ i = .int .i64 q ∧ Hid (qs = ps ++ (full.take q).map (mkPart K x)) ∧ Hid (PartsAt wx w.heap.size v5 qs) ∧ Hid (Blk wx xb 25 #[Value.int IntKind.i64 x.r, Value.int IntKind.i64 x.s, Value.int IntKind.i64 x.e]) ∧ Hid (IntsAt wx b24 (.slice A24 full.length c24) full) ∧ Hid (Below w.heap.size w wx)) (fun _ i _ => full.length - (intOf i).toNat)
        case atStart => exact ⟨0, ps, by omega, rfl, (show ps = ps ++ _ by simp), HU2, HX2, HV, HB2⟩
        case round =>
          clear HU2 HX2 HV HB2
          obtain ⟨q, qs, hq, rfl, HQ, HU, HX7, HV, HB⟩ := hrel
          by_cases hqlt : q < full.length
          · as_aux_lemma =>
            obtain ⟨g24, cap24, hv, _⟩ := own_form HV.out (by omega)
            injection hv with hA hn0 hc0
            subst hA hc0
            obtain ⟨r, hr⟩ : ∃ r, r = full.getD q 0 := ⟨_, rfl⟩
            have cq := own_cell HV.out q _ (intz_get full q hqlt)
            rw [← hr] at cq
            have HQ2 := Lib.hid (show qs ++ [mkPart K x r] = ps ++ (full.take (q + 1)).map (mkPart K x) by
              rw [HQ.out, List.take_succ_eq_append_getElem hqlt, List.map_append, List.append_assoc]
              congr 2
              rw [hr, List.getD_eq_getElem?_getD, List.getElem?_eq_getElem hqlt]
              rfl)
            have hql : qs.length ≤ 10000000 := by
              rw [HQ.out, List.length_append, List.length_map, List.length_take]
              omega
            have hb9 : (qs.length + 1) * 32 ≤ 140737488355328 := by omega
            have HCW := Lib.hid (fun W (hW : Below wr.heap.size wr W) => HC.out W (HB.out.trans (hW.mono HB.out.size)) r)
            have hlv : ∀ k, u5.ownBlock = some k → w.heap.size ≤ k := fun k hk => (own_lt HU.out k hk).1
            have HLV := Lib.hid hlv
            clear hr hlv HQ
            go_upto_region 8 with fail
            refine regionN _ _ _ _ wr _ u5 xb w.heap.size qs.length (qs.flatMap ptCells) r x.r x.s x.e (K r) rfl (by kernel_rfl) (by kernel_rfl) (by kernel_rfl) (by first | exact Nat.le_refl _ | decide | simp) rfl rfl rfl rfl HX7.out HCW.out HU.out HB.out.size hb9 ?_
            intro V v' w' hown hV13 hb3
            obtain ⟨W2, hbW, hgW⟩ := hb3
            have hne : some xb ≠ u5.ownBlock := blk_neN HX7.out HU.out (by decide)
            have hne2 : (Value.slice (some ⟨g24, 0, none⟩) full.length c24).ownBlock = none ∨ (Value.slice (some ⟨g24, 0, none⟩) full.length c24).ownBlock ≠ u5.ownBlock := own_types HV.out HU.out (by decide)
            have HX8 := Lib.hid ((HX7.out.below hbW).grown hgW hne)
            have HV8 := Lib.hid (show IntsAt w' b24 (.slice (some ⟨g24, 0, none⟩) full.length c24) full from (own_below HV.out hbW).kept hgW hne2)
            have HB8 := Lib.hid ((HB.out.trans (hbW.mono HB.out.size)).grown hgW (HB.out.trans (hbW.mono HB.out.size)).size HLV.out)
            have HU8 := Lib.hid (show PartsAt w' w.heap.size v' (qs ++ [mkPart K x r]) by
              unfold PartsAt
              rw [List.length_append, ← parts_snoc]
              exact hown)
            clear hown hbW hgW hne hne2 HX7 HV HU HB HCW HLV W2 cq
            simp [frS, stepS, Exit.then, hV13]
            go_wp2_with fail
            go_roundw
            case rel => exact ⟨q + 1, qs ++ [mkPart K x r], by omega, by go_num, HQ2, HU8, HX8, HV8, HB8⟩
            case measure => simp [intOf]; omega
          · have hqe : q = full.length := by omega
            have HQ2 := Lib.hid (show qs = partsG D K (xs.take (k + 1)) by rw [HQ.out, hqe, List.take_length, HSN.out])
            clear HX7 HV HQ
            go_wp2_with fail
            go_roundw
            case rel => exact ⟨k + 1, qs, by omega, by go_num, HQ2, HU, HB⟩
            case measure => simp [intOf]; omega
      · as_aux_lemma =>
        have hke : k = xs.length := by omega
        subst hke
        have hps : ps = L0 := by rw [HPS.out, List.take_length, HL0.out]
        subst hps
        clear HPS
        go_wp2_with fail
        go_step3
        simp only [Exit.then]
        refine ‹∀ (a : Act) (w : World), Code.wp _ _ _ a w → _› _ _ ?_
        refine Hp.out ps.length _ _ ?_
        unfold NJ
        (repeat apply Exists.intro)
        exact ⟨rfl, ps, rfl, ⟨Nat.zero_le _, rfl, rfl, .inl (.inl rfl), HU.out, HB.out⟩⟩
end Go.Proofs.YthoegenipbohmaaGreatDoor

namespace Go.Proofs.YthoegenipbohmaaGreatDoor
open Go.RowKit Go.Sort Stb
set_option linter.unusedVariables false
set_option linter.unusedSimpArgs false

/-- The parts, and NFD, as the files say. -/
def partsL (Φ : Files) (xs : List It) : List Part := partsG (dall (partsOf Φ.dec)) (combOf Φ) xs
def nfd (Φ : Files) (xs : List It) : List It := nfdG (dall (partsOf Φ.dec)) (combOf Φ) xs
theorem nfd_eq (Φ : Files) (xs : List It) : nfd Φ xs = (Nrm.ord ptKey (partsL Φ xs)).map toIt := rfl
def zit (r : Int) : It := ⟨r, 0, 0⟩
def runesL (Φ : Files) (zs : List Int) : List Int := (nfd Φ (zs.map zit)).map It.r
theorem dfull_ne (P : Int → Option (List Nat)) : ∀ (k : Nat) (r : Int), dfull P k r ≠ []
  | 0, r => by
    unfold dfull
    split
    · unfold sylOf; simp
    · simp
  | k + 1, r => by
    rw [dfull_succ]
    split
    · unfold sylOf; simp
    · split
      · rename_i n l _
        intro h
        rw [List.flatMap_cons, List.append_eq_nil_iff] at h
        exact dfull_ne P k n h.1
      · simp
theorem dall_neI (P : Int → Option (List Nat)) (r : Int) : dall P r ≠ [] := dfull_ne P 5 r
/-- Each record has two parts at most. -/
def short2B (rs : List Rec) : Bool := rs.all fun x => Nat.ble (Sp.pts (fld0 x)).length 2
theorem dec_short2 : short2B (recsOf Tryz.f55) = true := by kernel_rfl
set_option maxRecDepth 100000 in
theorem files_short2 : short2B files.dec = true := dec_short2
theorem parts_two {rs : List Rec} (h : short2B rs = true) {r : Int} {l : List Nat} (hP : partsOf rs r = some l) : l.length ≤ 2 := by
  obtain ⟨x, hx, _, _, rfl⟩ := parts_rec hP
  exact Nat.le_of_ble_eq_true (List.all_eq_true.1 h x hx)
theorem flat_two {α β : Type} (f : α → List β) (c : Nat) (hf : ∀ x, (f x).length ≤ c) : ∀ l : List α, l.length ≤ 2 → (l.flatMap f).length ≤ 2 * c
  | [], _ => by simp
  | [x], _ => by have := hf x; simp; omega
  | [x, y], _ => by have := hf x; have := hf y; simp; omega
  | x :: y :: z :: l, h => by simp at h
theorem dfull_len2 {rs : List Rec} (h : short2B rs = true) : ∀ (k : Nat) (r : Int), (dfull (partsOf rs) k r).length ≤ 3 * 2 ^ k
  | 0, r => by
    unfold dfull
    split
    · exact (sylOf_len r).1
    · simp
  | k + 1, r => by
    have hp : 1 ≤ 2 ^ k := Nat.one_le_two_pow
    rw [dfull_succ, Nat.pow_succ]
    split
    · have := (sylOf_len r).1; omega
    · split
      · rename_i n l hP
        have := flat_two (fun m : Nat => dfull (partsOf rs) k m) (3 * 2 ^ k) (fun m => dfull_len2 h k m) (n :: l) (parts_two h hP)
        omega
      · simp; omega
theorem dall_len {rs : List Rec} (h : short2B rs = true) (r : Int) : (dall (partsOf rs) r).length ≤ 96 := dfull_len2 h 5 r
theorem dfull_wf {rs : List Rec} : ∀ (k : Nat) (r : Int), (Lit.int .i64 r).wf = true → ∀ x ∈ dfull (partsOf rs) k r, (Lit.int .i64 x).wf = true
  | k, r, hr, x, hx => by
    by_cases hs : isSyl r = true
    · have : dfull (partsOf rs) k r = sylOf r := by cases k <;> (unfold dfull; rw [if_pos hs])
      rw [this] at hx
      unfold isSyl at hs
      simp only [Bool.and_eq_true, decide_eq_true_eq] at hs
      have h3 : 0 ≤ x ∧ x ≤ 9223372036854775807 := by
        unfold sylOf at hx
        split at hx
        · simp at hx
          rcases hx with rfl | rfl <;> omega
        · simp at hx
          rcases hx with rfl | rfl | rfl <;> omega
      exact wf_i64 (by omega) (by omega)
    · cases k with
      | zero =>
        rw [dfull, if_neg hs] at hx
        have : x = r := by simpa using hx
        rw [this]; exact hr
      | succ k =>
        rw [dfull_succ, if_neg hs] at hx
        cases hP : partsOf rs r with
        | none => rw [hP] at hx; have : x = r := by simpa using hx
                  rw [this]; exact hr
        | some l =>
          cases l with
          | nil => rw [hP] at hx; have : x = r := by simpa using hx
                   rw [this]; exact hr
          | cons n l =>
            rw [hP] at hx
            obtain ⟨q, hq, hx2⟩ := List.mem_flatMap.1 hx
            obtain ⟨z, _, _, _, hz⟩ := parts_rec hP
            have hq2 : q ≤ 1114111 := by rw [hz] at hq; exact pts_le _ q hq
            exact dfull_wf k q (wf_i64 (by omega) (by omega)) x hx2
theorem dall_wf {rs : List Rec} (r : Int) (hr : (Lit.int .i64 r).wf = true) : ∀ x ∈ dall (partsOf rs) r, (Lit.int .i64 x).wf = true := dfull_wf 5 r hr
section
variable {Φ : Files}
theorem partsL_len (h : short2B Φ.dec = true) : ∀ xs : List It, (partsL Φ xs).length ≤ 96 * xs.length ∧ xs.length ≤ (partsL Φ xs).length
  | [] => by unfold partsL partsG; simp
  | x :: xs => by
    have h1 := partsL_len h xs
    have h2 := dall_len h x.r
    have h3 := List.length_pos_iff.2 (dall_neI (partsOf Φ.dec) x.r)
    have e : partsL Φ (x :: xs) = (dall (partsOf Φ.dec) x.r).map (mkPart (combOf Φ) x) ++ partsL Φ xs := by unfold partsL partsG; rw [List.flatMap_cons]
    rw [e, List.length_append, List.length_map, List.length_cons]
    omega
theorem nfd_mem (xs : List It) (y : It) (hy : y ∈ nfd Φ xs) : ∃ x ∈ xs, y.s = x.s ∧ y.e = x.e ∧ y.r ∈ dall (partsOf Φ.dec) x.r := by
  rw [nfd_eq] at hy
  obtain ⟨p, hp, rfl⟩ := List.mem_map.1 hy
  have hp := (Nrm.ord_perm (cl := ptKey) (partsL Φ xs)).mem_iff.1 hp
  unfold partsL partsG at hp
  obtain ⟨x, hx, hpx⟩ := List.mem_flatMap.1 hp
  obtain ⟨r, hr, rfl⟩ := List.mem_map.1 hpx
  exact ⟨x, hx, rfl, rfl, hr⟩
theorem nfd_len (xs : List It) : (nfd Φ xs).length = (partsL Φ xs).length := by
  rw [nfd_eq]
  rw [List.length_map, (Nrm.ord_perm _).length_eq]
theorem runes_mem (zs : List Int) (y : Int) (hy : y ∈ runesL Φ zs) : ∃ z ∈ zs, y ∈ dall (partsOf Φ.dec) z := by
  unfold runesL at hy
  obtain ⟨p, hp, rfl⟩ := List.mem_map.1 hy
  obtain ⟨x, hx, _, _, hr⟩ := nfd_mem _ p hp
  obtain ⟨z, hz, rfl⟩ := List.mem_map.1 hx
  exact ⟨z, hz, hr⟩
theorem runes_wf (zs : List Int) (hz : ∀ z ∈ zs, (Lit.int .i64 z).wf = true) : ∀ y ∈ runesL Φ zs, (Lit.int .i64 y).wf = true := fun y hy => by
  obtain ⟨z, hz1, hz2⟩ := runes_mem zs y hy
  exact dall_wf z (hz z hz1) y hz2
theorem runes_len (h : short2B Φ.dec = true) (zs : List Int) : (runesL Φ zs).length ≤ 96 * zs.length ∧ zs.length ≤ (runesL Φ zs).length := by
  have := partsL_len h (zs.map zit)
  unfold runesL
  rw [List.length_map, nfd_len]
  rw [List.length_map] at this
  exact this
/-- What is made of nothing else: its parts are itself. -/
theorem partsL_end (xs : List It) (h : ∀ x ∈ xs, dall (partsOf Φ.dec) x.r = [x.r]) : partsL Φ xs = xs.map fun x => mkPart (combOf Φ) x x.r := by
  induction xs with
  | nil => rfl
  | cons x xs ih =>
    have e : partsL Φ (x :: xs) = (dall (partsOf Φ.dec) x.r).map (mkPart (combOf Φ) x) ++ partsL Φ xs := by unfold partsL partsG; rw [List.flatMap_cons]
    rw [e, h x List.mem_cons_self, ih fun y hy => h y (List.mem_cons_of_mem _ hy)]
    rfl
theorem parts_back (xs : List It) : (nfd Φ xs).map (fun x => mkPart (combOf Φ) x x.r) = Nrm.ord ptKey (partsL Φ xs) := by
  rw [nfd_eq]
  rw [List.map_map]
  conv => rhs; rw [← List.map_id (Nrm.ord ptKey (partsL Φ xs))]
  apply List.map_congr_left
  intro p hp
  have hp := (Nrm.ord_perm (cl := ptKey) (partsL Φ xs)).mem_iff.1 hp
  unfold partsL partsG at hp
  obtain ⟨x, hx, hpx⟩ := List.mem_flatMap.1 hp
  obtain ⟨r, hr, rfl⟩ := List.mem_map.1 hpx
  rfl
/-- NFD of NFD is it. -/
theorem nfd_twice (hend : endB Φ.dec = true) (xs : List It) : nfd Φ (nfd Φ xs) = nfd Φ xs := by
  have h := partsL_end (Φ := Φ) (nfd Φ xs) fun y hy => by
    obtain ⟨x, _, _, _, hr⟩ := nfd_mem xs y hy
    exact dall_ends hend x.r y.r hr
  show (Nrm.ord ptKey (partsL Φ (nfd Φ xs))).map toIt = _
  rw [h, parts_back, Nrm.ord_twice]
  rfl
theorem zit_back (zs : List Int) : (nfd Φ (zs.map zit)).map (fun x => zit x.r) = nfd Φ (zs.map zit) := by
  conv => rhs; rw [← List.map_id (nfd Φ (zs.map zit))]
  apply List.map_congr_left
  intro y hy
  obtain ⟨x, hx, h1, h2, _⟩ := nfd_mem _ y hy
  obtain ⟨z, _, rfl⟩ := List.mem_map.1 hx
  cases y
  simp only [zit] at *
  rw [h1, h2]
  rfl
theorem runes_twice (hend : endB Φ.dec = true) (zs : List Int) : runesL Φ (runesL Φ zs) = runesL Φ zs := by
  have h : (runesL Φ zs).map zit = nfd Φ (zs.map zit) := by
    unfold runesL
    rw [List.map_map]
    exact zit_back zs
  unfold runesL
  unfold runesL at h
  rw [h, nfd_twice hend]
/-- No class above 0 stands behind a greater one. -/
theorem runes_order (zs : List Int) (i : Nat) (h : i + 1 < (runesL Φ zs).length) : ¬ (0 < combOf Φ ((runesL Φ zs).getD (i + 1) 0) ∧ combOf Φ ((runesL Φ zs).getD (i + 1) 0) < combOf Φ ((runesL Φ zs).getD i 0)) := by
  have hf := Nrm.ord_fine (cl := ptKey) (partsL Φ (zs.map zit))
  rw [← parts_back] at hf
  have hl : (nfd Φ (zs.map zit)).length = (runesL Φ zs).length := by unfold runesL; rw [List.length_map]
  have g : ∀ j, j < (runesL Φ zs).length → ((nfd Φ (zs.map zit)).map fun x => mkPart (combOf Φ) x x.r)[j]? = some (mkPart (combOf Φ) ((nfd Φ (zs.map zit)).getD j default) ((runesL Φ zs).getD j 0)) := fun j hj => by
    rw [List.getElem?_map, List.getElem?_eq_getElem (by omega)]
    unfold runesL
    rw [List.getD_eq_getElem?_getD, List.getD_eq_getElem?_getD, List.getElem?_map, List.getElem?_eq_getElem (by omega)]
    rfl
  generalize (nfd Φ (zs.map zit)).map (fun x => mkPart (combOf Φ) x x.r) = L at *
  have hL : L = L.take i ++ mkPart (combOf Φ) ((nfd Φ (zs.map zit)).getD i default) ((runesL Φ zs).getD i 0) :: mkPart (combOf Φ) ((nfd Φ (zs.map zit)).getD (i + 1) default) ((runesL Φ zs).getD (i + 1) 0) :: L.drop (i + 2) := by
    have g1 := g i (by omega)
    have g2 := g (i + 1) h
    obtain ⟨l1, e1⟩ := List.getElem?_eq_some_iff.1 g1
    obtain ⟨l2, e2⟩ := List.getElem?_eq_some_iff.1 g2
    conv => lhs; rw [← List.take_append_drop i L]
    rw [List.drop_eq_getElem_cons l1, List.drop_eq_getElem_cons l2, e1, e2]
  rw [hL] at hf
  exact Nrm.fine_mid (cl := ptKey) _ _ _ _ hf
end
theorem comb_aw : numN (firstOf (recsOf Tryz.f50) 97 [48]) = 0 ∧ numN (firstOf (recsOf Tryz.f50) 769 [48]) = 230 ∧ numN (firstOf (recsOf Tryz.f50) 803 [48]) = 220 := ⟨by kernel_rfl, by kernel_rfl, by kernel_rfl⟩
theorem dall_aws : dall (partsOf (recsOf Tryz.f55)) 97 = [97] ∧ dall (partsOf (recsOf Tryz.f55)) 769 = [769] ∧ dall (partsOf (recsOf Tryz.f55)) 803 = [803] := ⟨by kernel_rfl, by kernel_rfl, by kernel_rfl⟩
set_option maxRecDepth 100000 in
theorem files_comb_aw : numN (firstOf files.comb 97 [48]) = 0 ∧ numN (firstOf files.comb 769 [48]) = 230 ∧ numN (firstOf files.comb 803 [48]) = 220 := comb_aw
set_option maxRecDepth 100000 in
theorem files_dall_aw : dall (partsOf files.dec) 97 = [97] ∧ dall (partsOf files.dec) 769 = [769] ∧ dall (partsOf files.dec) 803 = [803] := dall_aws
theorem runes_aw : runesL files [97, 769, 803] = [97, 803, 769] := by
  obtain ⟨c1, c2, c3⟩ := files_comb_aw
  obtain ⟨d1, d2, d3⟩ := files_dall_aw
  have k : ∀ r, combOf files r = ((numN (firstOf files.comb r [48]) : Nat) : Int) := fun r => by
    unfold combOf
    rw [txOf_first (listOk_hi files_ok.comb)]
  have hp : partsL files [zit 97, zit 769, zit 803] = [⟨97, 0, 0, 0⟩, ⟨769, 0, 0, 230⟩, ⟨803, 0, 0, 220⟩] := by
    unfold partsL partsG
    simp only [List.flatMap_cons, List.flatMap_nil, zit, d1, d2, d3, List.map_cons, List.map_nil, mkPart, k, c1, c2, c3]
    rfl
  show (nfd files [zit 97, zit 769, zit 803]).map It.r = _
  rw [nfd_eq]
  rw [hp]
  decide
end Go.Proofs.YthoegenipbohmaaGreatDoor

namespace Go.Proofs.YthoegenipbohmaaGreatDoor
open Go.RowKit Go.ChangeShapes Go.WideShapes Go.ChangeAt
set_option linter.unusedVariables false
set_option linter.unusedSimpArgs false

def ListW (w : World) (v : Value) (zs : List Int) : Prop := ListV w v zs ∧ ∀ z ∈ zs, (Lit.int .i64 z).wf = true
set_option maxRecDepth 100000 in
theorem open_listW {H : Type} {enc : TypeId × Value → H} {w : World} {r : Reach} {base : Nat} {v : Value} {d : DataW H} {ps : List MemPlace} (hval : Value.okWide Tryz.prog w r base 37 v) (hd : DataW.Trod enc Tryz.prog w 0 (fun _ => true) true 37 v d ps) : ∃ zs, ListW w v zs := by
  obtain ⟨A, n, c, rfl⟩ := open_list Tryz.underlying37 hval
  obtain ⟨m, hm⟩ := hd
  rcases open_ints Tryz.underlying37 Tryz.underlying3 (by kernel_rfl) hm with ⟨h, _⟩ | ⟨a, len, cap, zs, h, _, hl, hc, hz, _, hcell, hwf⟩
  · have e : Value.slice A n c = .slice none 0 0 := by simpa [Value.cells] using h
    injection e with e1 e2 e3
    subst e1 e2 e3
    exact ⟨[], ⟨⟨none, 0, rfl, by decide, fun h => absurd h (by decide)⟩, .inl rfl⟩, fun z hz => by cases hz⟩
  · have e : Value.slice A n c = .slice (some a) len cap := by simpa [Value.cells] using h
    injection e with e1 e2 e3
    subst e1 e2 e3
    unfold maxLen at hc
    have hzl : zs.length = c := by simpa using hz
    have htl : (zs.take n).length = n := by rw [List.length_take]; omega
    refine ⟨zs.take n, ⟨⟨some a, c, by rw [htl], by omega, fun _ => ⟨a, rfl, fun j u hu => ?_⟩⟩, .inr ⟨a, n, c, rfl, hl⟩⟩, fun z hz => hwf z (List.mem_of_mem_take hz)⟩
    have hj : j < n := by
      have := (List.getElem?_eq_some_iff.1 hu).1
      unfold intz at this
      rw [List.length_map, htl] at this
      exact this
    rw [hcell j (by omega)]
    have := intz_get (zs.take n) j (by omega)
    rw [this] at hu
    rw [← hu]
    congr 2
    rw [List.getD_eq_getElem?_getD, List.getD_eq_getElem?_getD, List.getElem?_take, if_pos hj]
theorem slIntW : SlT Tryz.prog 37 3 1 8 := ⟨Tryz.underlying37, by kernel_rfl, by decide, by decide⟩
theorem own_zero (W : World) (e : TypeId) (B : Nat) (hB : B ≤ W.heap.size) : (W.alloc (.cells #[] e)).ownsRow B e 1 (.slice (some ⟨W.heap.size, 0, none⟩) 0 0) 0 [] :=
  ⟨rfl, .inr ⟨W.heap.size, 0, #[], rfl, hB, row_new _ _, Nat.le_refl _, Nat.zero_le _, rfl, rfl⟩⟩
set_option maxRecDepth 100000 in
theorem clonev_walk {w : World} {v : Value} {zs : List Int} (h : ListV w v zs) (hl : zs.length ≤ 1000000) : Calls Tryz.prog 99 #[v] w (CloneSaid zs w) := by
  obtain ⟨A, c, rfl, hnc, hn, hA⟩ := h.form
  have q22 : ∀ (w : World) (a : Option Addr) (n c n' c' : Nat), (binOp .eql 37 (.slice a n c) (.slice none n' c')).run Tryz.prog w = .ok (.bool a.isNone) w := fun w a n c n' c' => Lib.run_eql_slice_nil w _ _ a n c n' c' Tryz.underlying37
  have hba := alloc_below w (Obj.cells #[] 3)
  cases A with
  | none =>
    have h0 : zs = [] := by
      rcases h.2 with h | ⟨ad, n, c', h, _⟩
      · injection h with _ h2 _
        exact List.length_eq_zero_iff.1 h2
      · cases h
    subst h0
    clear h hA hba
    go_enter Tryz.func99, Tryz.ntmps99
    go_wp2_with fail
    go_ret
    exact ⟨_, rfl, World.ownsRow_nil _ _ _ _, Below.refl _ _⟩
  | some ad =>
    obtain ⟨A', c', e, _, hz⟩ := h.1
    injection e with e1 e2 e3
    subst e1 e3
    have HC := Lib.hid (show ∀ ad', some ad = some ad' → ∀ j u, (intz zs)[j]? = some u → (w.alloc (Obj.cells #[] 3)).cell? (ad'.add j) = some u by
      rintro ad' e j u hu
      cases e
      have hp : 0 < zs.length := by
        have := (List.getElem?_eq_some_iff.1 hu).1
        unfold intz at this
        rw [List.length_map] at this
        omega
      obtain ⟨ad2, h4, h5⟩ := hz hp
      cases h4
      exact cell_later hba (h5 j u hu))
    have HO := Lib.hid (own_zero w 3 w.heap.size (Nat.le_refl _))
    have HB := Lib.hid hba
    clear h hA hba hz e2
    go_enter Tryz.func99, Tryz.ntmps99
    go_wp2_with (at_builtin; refine wp_append_more (w.alloc (Obj.cells #[] 3)) slIntW rfl (.tmp 5) (.tmp 6) rfl w.heap.size _ 0 [] rfl (by exact HO.out) (some ad) zs.length c (intz zs) rfl (by intro h; cases h) (by simp [intz]) HC.out (by intro u hu; unfold intz at hu; obtain ⟨_, _, rfl⟩ := List.mem_map.1 hu; rfl) (by omega) HB.out.size ?_; intro v3 w3 hown hg; have HB3 := Lib.hid (HB.out.grown hg HB.out.size (fun k hk => by have e : w.heap.size = k := Option.some.inj (show some w.heap.size = some k from hk); omega)); have HO3 := Lib.hid hown; clear hown hg)
    go_ret
    refine ⟨_, rfl, ?_, HB3.out⟩
    have := HO3.out
    rw [Nat.zero_add, List.nil_append] at this
    exact this
set_option maxRecDepth 100000 in
theorem equalv_walk {w : World} {v u : Value} {zs : List Int} (h : ListAt w v zs) (h' : ListAt w u zs) : Calls Tryz.prog 23 #[v, u] w fun e w' => e = .returned (.bool true) ∧ Below w.heap.size w w' := by
  obtain ⟨A, c, rfl, hn, hz⟩ := h
  obtain ⟨A', c', rfl, _, hz'⟩ := h'
  have HZ := Lib.hid hz
  have HZ' := Lib.hid hz'
  have g0 : (((zs.length : Nat) : Int) != ((zs.length : Nat) : Int)) = false := by simp
  clear hz hz'
  go_enter Tryz.func23, Tryz.ntmps23
  go_wp2_with fail
  go_loopw [13] (fun i wr => ∃ k : Nat, k ≤ zs.length ∧ i = .int .i64 k ∧ Hid (Below w.heap.size w wr)) (fun i _ => zs.length - (intOf i).toNat)
  case atStart => exact ⟨0, by omega, rfl, Below.refl _ _⟩
  case round =>
    obtain ⟨k, hk, rfl, HB⟩ := hrel
    by_cases hlt : k < zs.length
    · obtain ⟨ad, rfl, had⟩ := HZ.out (by omega)
      obtain ⟨ad', rfl, had'⟩ := HZ'.out (by omega)
      obtain ⟨x, hx⟩ : ∃ x, x = zs.getD k 0 := ⟨_, rfl⟩
      have c0 : wr.cell? (ad.add k) = some (.int .i64 x) := by rw [hx]; exact cell_later HB.out (had k _ (intz_get zs k hlt))
      have c1 : wr.cell? (ad'.add k) = some (.int .i64 x) := by rw [hx]; exact cell_later HB.out (had' k _ (intz_get zs k hlt))
      have g1 : (x != x) = false := by simp
      clear had had' hx
      go_wp2_with fail
      go_quiet (fail)
      simp only [Exit.then]
      go_wp2_with fail
      refine ⟨⟨k + 1, by omega, by go_num, HB.out.trans ((below_drewN _ _).mono HB.out.size)⟩, ?_⟩
      simp [intOf]
      omega
    · have hkl : k = zs.length := by omega
      subst hkl
      go_wp2_with fail
      go_ret
      exact ⟨rfl, HB.out⟩
end Go.Proofs.YthoegenipbohmaaGreatDoor

namespace Go.Proofs.YthoegenipbohmaaGreatDoor
open Go.RowKit Go.Sort Stb
set_option linter.unusedVariables false
set_option linter.unusedSimpArgs false

/-- What norm asks of the tables. -/
structure Nmd (w : World) (m : Nat) (Φ : Files) : Prop where
  full : ∀ W, Below w.heap.size w W → ∀ r, (Lit.int .i64 r).wf = true → Calls Tryz.prog 43 #[.pointer (some ⟨m + 3, 0, none⟩), .int .i64 r] W (CloneSaid (dall (partsOf Φ.dec) r) W)
  comb : ∀ W, Below w.heap.size w W → ∀ r, Calls Tryz.prog 44 #[.pointer (some ⟨m + 3, 0, none⟩), .int .i64 r] W fun e W' => e = .returned (.int .i64 (combOf Φ r)) ∧ Below W.heap.size W W'
  cat : ∀ W, Below w.heap.size w W → ∃ s : ByteArray, s.toList.isEmpty = false ∧ Calls Tryz.prog 65 #[.pointer (some ⟨m + 3, 0, none⟩), .int .i64 0] W fun e W' => e = .returned (.string s) ∧ Below W.heap.size W W'
  num : CombOk Φ
  two : short2B Φ.dec = true
  ends : endB Φ.dec = true
theorem Nmd.below {w w' : World} {m : Nat} {Φ : Files} (h : Nmd w m Φ) (hb : Below w.heap.size w w') : Nmd w' m Φ :=
  ⟨fun W hW => h.full W (hb.trans (hW.mono hb.size)), fun W hW => h.comb W (hb.trans (hW.mono hb.size)), fun W hW => h.cat W (hb.trans (hW.mono hb.size)), h.num, h.two, h.ends⟩
theorem nmd_files {w : World} {m : Nat} (ht : TabAt w m files) (hH : Hang w) : Nmd w m files where
  full W hW r hr := decf_walk (ht.below hW) (hH.below hW) r hr
  comb W hW r := combining_walk (ht.below hW) files_ok files_comb r
  cat W hW := ⟨⟨(txOf files.cat 0 [67, 110]).toArray⟩, by
    rw [show (⟨(txOf files.cat 0 [67, 110]).toArray⟩ : ByteArray).toList = txOf files.cat 0 [67, 110] from toBl _]
    exact List.isEmpty_eq_false_iff.2 (txOf_ne files_cat 0 (by decide)), category_walk (ht.below hW) files_ok 0⟩
  num := files_comb
  two := files_short2
  ends := dec_end
theorem slIntN : SlT Tryz.prog 37 3 1 8 := ⟨Tryz.underlying37, by kernel_rfl, by decide, by decide⟩
theorem intz_snocN (l : List Int) (x : Int) : intz l ++ [.int .i64 x] = intz (l ++ [x]) := by
  unfold intz
  rw [List.map_append]
  rfl
section
variable {w : World} {m : Nat} {Φ : Files}
set_option maxRecDepth 100000 in
set_option maxHeartbeats 3200000 in
theorem runes_walk (hn : Nmd w m Φ) {v : Value} {zs : List Int} (hz : ListAt w v zs) (hwf : ∀ z ∈ zs, (Lit.int .i64 z).wf = true) (hl : zs.length ≤ 100000) : Calls Tryz.prog 24 #[.pointer (some ⟨m + 3, 0, none⟩), v] w (CloneSaid (runesL Φ zs) w) := by
  have HZ := Lib.hid hz
  obtain ⟨A1, c1, rfl, hn1, _⟩ := hz
  have HI := Lib.hid (fun (W : World) (hb : Below w.heap.size w W) (u : Value) (xs : List It) (hx : ItsAt W u xs) (hxw : ∀ x ∈ xs, (Lit.int .i64 x.r).wf = true) (hxl : xs.length ≤ 100000) => show Calls Tryz.prog 15 #[.pointer (some ⟨m + 3, 0, none⟩), u] W (ItemsSaid (nfd Φ xs) W) from items_walk (hn.below hb).full (hn.below hb).comb (fun r => (comb_range hn.num r).1) hx hxw (by have := (partsL_len hn.two xs).1; unfold partsL at this; omega) (by omega))
  have HLn := Lib.hid (runes_len hn.two zs)
  have HW := Lib.hid hwf
  obtain ⟨R, hR⟩ : ∃ R, R = runesL Φ zs := ⟨_, rfl⟩
  rw [← hR] at HLn ⊢
  have HR := Lib.hid hR
  clear hn hwf hR
  go_enter Tryz.func24, Tryz.ntmps24
  go_wp2_with fail
  go_loopw [5, 13] (fun vo i wr => ∃ k : Nat, k ≤ zs.length ∧ i = .int .i64 k ∧ Hid (ItemsAt wr w.heap.size vo ((zs.take k).map zit)) ∧ Hid (Below w.heap.size w wr)) (fun _ i _ => zs.length - (intOf i).toNat)
  case atStart => exact ⟨0, by omega, rfl, World.ownsRow_nil _ _ _ _, Below.refl _ _⟩
  case round =>
    obtain ⟨k, hk, rfl, HO, HB⟩ := hrel
    by_cases hlt : k < zs.length
    · obtain ⟨A', c', e', _, hzz⟩ := HZ.out.below HB.out
      injection e' with e1 _ e3
      obtain ⟨ad, hA, hcell⟩ := hzz (by omega)
      rw [← e1] at hA
      subst hA
      have cx := hcell k _ (intz_get zs k hlt)
      obtain ⟨x, hx⟩ : ∃ x, x = zs.getD k 0 := ⟨_, rfl⟩
      rw [← hx] at cx
      have hxe : zs[k] = x := by rw [hx, List.getD_eq_getElem?_getD, List.getElem?_eq_getElem hlt]; rfl
      have HS := Lib.hid (show (zs.take k).map zit ++ [zit x] = (zs.take (k + 1)).map zit by rw [List.take_succ_eq_append_getElem hlt, List.map_append, hxe]; rfl)
      have hql : ((zs.take k).map zit).length = k := by rw [List.length_map, List.length_take]; omega
      obtain ⟨Ao, co, hvo⟩ := own_slice HO.out
      subst hvo
      have HO1 := Lib.hid (show wr.ownsRow w.heap.size 25 3 (.slice Ao ((zs.take k).map zit).length co) k (((zs.take k).map zit).flatMap itCells) by
        have := HO.out
        unfold ItemsAt at this
        rwa [hql] at this ⊢)
      rw [hql] at HO1 ⊢
      clear hzz hcell hx hxe e1 e3 hql HO
      go_wp2_with (at_builtin; refine wp_append_lit slItem rfl (.tmp 17) (.tmp 20) rfl w.heap.size (.slice Ao k co) k (((zs.take k).map zit).flatMap itCells) rfl (by exact HO1.out) #[.int .i64 x, .int .i64 0, .int .i64 0] rfl rfl (by simp [Value.oneCell']) (by omega) (by exact HB.out.size) ?_; intro v6 w6 hown6 hg6; have HO6 := Lib.hid hown6; have HB6 := Lib.hid (HB.out.grown hg6 HB.out.size (fun k hk => (own_lt HO1.out k hk).1)); clear hown6 hg6)
      go_roundw
      case rel => exact ⟨k + 1, by omega, by go_num, (show ItemsAt _ _ _ _ by
        unfold ItemsAt
        rw [show ((zs.take (k + 1)).map zit).length = k + 1 by rw [List.length_map, List.length_take]; omega, ← HS.out, ← items_snoc]
        exact HO6.out), HB6⟩
      case measure => simp [intOf]; omega
    · have hke : k = zs.length := by omega
      subst hke
      have HO1 := Lib.hid (show ItemsAt wr w.heap.size _ (zs.map zit) by have := HO.out; rwa [List.take_length] at this)
      clear HO
      have hwz : ∀ x ∈ zs.map zit, (Lit.int .i64 x.r).wf = true := fun x hx => by
        obtain ⟨z, hz, rfl⟩ := List.mem_map.1 hx
        exact HW.out z hz
      have HIW := Lib.hid (HI.out wr HB.out _ _ (ItsAt.of_own HO1.out) hwz (by rw [List.length_map]; exact hl))
      clear HO1 hwz HI
      go_wp2_with fail
      refine HIW.out.mono ?_
      rintro e w2 ⟨v25, rfl, hv25, hb2⟩
      have HB2 := Lib.hid (HB.out.trans (hb2.mono HB.out.size))
      have hRe : R = (nfd Φ (zs.map zit)).map It.r := HR.out
      have HRe := Lib.hid hRe
      obtain ⟨A25, c25, rfl⟩ := own_slice hv25
      have HV := Lib.hid hv25
      generalize wr.heap.size = b25 at *
      generalize nfd Φ (zs.map zit) = ys at *
      have hly : ys.length = R.length := by rw [hRe, List.length_map]
      have hlr := HLn.out.1
      clear hv25 hb2 HIW HB hRe
      go_wp2_with fail
      go_loopw [8, 27] (fun vo i wx => ∃ q : Nat, q ≤ ys.length ∧ i = .int .i64 q ∧ Hid (IntsAt wx w.heap.size vo ((ys.take q).map It.r)) ∧ Hid (ItemsAt wx b25 (.slice A25 ys.length c25) ys) ∧ Hid (Below w.heap.size w wx)) (fun _ i _ => ys.length - (intOf i).toNat)
      case atStart => exact ⟨0, by omega, rfl, World.ownsRow_nil _ _ _ _, HV, HB2⟩
      case round =>
        clear HV HB2
        obtain ⟨q, hq, rfl, HO, HV, HB⟩ := hrel
        by_cases hqt : q < ys.length
        · obtain ⟨g, cap, hv, _⟩ := own_form HV.out (by omega)
          injection hv with hA hn0 hc0
          subst hA hc0
          clear hn0
          obtain ⟨y, hy⟩ : ∃ y, y = ys[q] := ⟨_, rfl⟩
          obtain ⟨p0, p1, p2⟩ := items_get ys q hqt
          rw [← hy] at p0 p1 p2
          have q0 := own_cell HV.out _ _ p0
          have q1 := own_cell HV.out _ _ p1
          have q2 := own_cell HV.out _ _ p2
          have HS := Lib.hid (show (ys.take q).map It.r ++ [y.r] = (ys.take (q + 1)).map It.r by rw [List.take_succ_eq_append_getElem hqt, List.map_append, ← hy]; rfl)
          have hql : ((ys.take q).map It.r).length = q := by rw [List.length_map, List.length_take]; omega
          obtain ⟨Ao, co, hvo⟩ := own_slice HO.out
          subst hvo
          have HO0 := Lib.hid (show wr.ownsRow w.heap.size 3 1 (.slice Ao q co) q (intz ((ys.take q).map It.r)) by
            have := HO.out
            unfold IntsAt at this
            rwa [hql] at this)
          rw [hql]
          obtain ⟨X, hX⟩ : ∃ X, X = Obj.cells #[Value.int IntKind.i64 y.r, Value.int IntKind.i64 y.s, Value.int IntKind.i64 y.e] 25 := ⟨_, rfl⟩
          have hbx := alloc_below wr X
          have HX7 := Lib.hid (show Blk (wr.alloc X) wr.heap.size 25 #[Value.int IntKind.i64 y.r, Value.int IntKind.i64 y.s, Value.int IntKind.i64 y.e] by rw [hX]; exact row_new _ _)
          have HO1 := Lib.hid (own_below HO0.out hbx)
          have HV1 := Lib.hid (show ItemsAt (wr.alloc X) b25 (.slice (some ⟨g, 0, none⟩) ys.length c25) ys from own_below HV.out hbx)
          have HB1 := Lib.hid (HB.out.trans (hbx.mono HB.out.size))
          rw [hX] at HX7 HO1 HV1 HB1
          clear p0 p1 p2 hy hql hbx HO HV HB HO0 hX X
          go_upto_region 11 with fail
          clear q0 q1 q2
          generalize wr.alloc _ = W1 at *
          generalize wr.heap.size = xb at *
          have q0 := HX7.out.cell 0
          go_wp2_with (at_builtin; refine wp_append_lit slIntN rfl (.tmp 31) (.tmp 34) rfl w.heap.size (.slice Ao q co) q (intz ((ys.take q).map It.r)) rfl (by exact HO1.out) #[.int .i64 y.r] rfl rfl (by simp [Value.oneCell']) (by omega) (by exact HB1.out.size) ?_; intro v6 w6 hown6 hg6; have HV6 := Lib.hid (HV1.out.kept hg6 (own_types HV1.out HO1.out (by decide))); have HO6 := Lib.hid hown6; have HB6 := Lib.hid (HB1.out.grown hg6 HB1.out.size (fun k hk => (own_lt HO1.out k hk).1)); clear hown6 hg6)
          go_roundw
          case rel => exact ⟨q + 1, by omega, by go_num, (show IntsAt _ _ _ _ by
            unfold IntsAt
            rw [show ((ys.take (q + 1)).map It.r).length = q + 1 by rw [List.length_map, List.length_take]; omega, ← HS.out, ← intz_snocN]
            exact HO6.out), HV6, HB6⟩
          case measure => simp [intOf]; omega
        · have hqe : q = ys.length := by omega
          subst hqe
          have hfin : (ys.take ys.length).map It.r = R := by rw [List.take_length, ← HRe.out]
          have HO1 := Lib.hid (show IntsAt wr w.heap.size _ R by have := HO.out; rwa [hfin] at this)
          clear HO hfin HV
          go_wp2_with fail
          go_ret
          exact ⟨_, rfl, HO1.out, HB.out⟩
/-- norm.Is of what is so already. -/
theorem is_walk (hn : Nmd w m Φ) {v : Value} {zs : List Int} (hz : ListAt w v zs) (hwf : ∀ z ∈ zs, (Lit.int .i64 z).wf = true) (hl : zs.length ≤ 100000) (hs : runesL Φ zs = zs) : Calls Tryz.prog 26 #[.pointer (some ⟨m + 3, 0, none⟩), v] w fun e w' => e = .returned (.bool true) ∧ Below w.heap.size w w' := by
  obtain ⟨s, hse, hcat⟩ := hn.cat w (Below.refl _ _)
  have HC := Lib.hid hcat
  have HZ := Lib.hid hz
  have HR := Lib.hid (fun (W : World) (hb : Below w.heap.size w W) => hs ▸ runes_walk (hn.below hb) (hz.below hb) hwf hl)
  obtain ⟨A1, c1, rfl, hn1, _⟩ := hz
  clear hn hcat hwf hs
  go_enter Tryz.func26, Tryz.ntmps26
  go_wp2_with fail
  refine HC.out.mono ?_
  rintro e w1 ⟨rfl, hb1⟩
  have HB1 := Lib.hid hb1
  clear hb1 HC
  go_wp2_with fail
  refine (HR.out _ HB1.out).mono ?_
  rintro e w2 ⟨v2, rfl, hv2, hb2⟩
  obtain ⟨A2, c2, rfl⟩ := own_slice hv2
  have HE := Lib.hid (equalv_walk (ListAt.of_own hv2) ((HZ.out.below HB1.out).below hb2))
  have HB2 := Lib.hid (HB1.out.trans (hb2.mono HB1.out.size))
  clear hv2 hb2 HB1 HR HZ
  go_wp2_with fail
  refine HE.out.mono ?_
  rintro e w3 ⟨rfl, hb3⟩
  have HB3 := Lib.hid (HB2.out.trans (hb3.mono HB2.out.size))
  clear hb3 HE HB2
  go_wp2_with fail
  go_ret
  exact ⟨rfl, HB3.out⟩
end
theorem own_lit3n (w : World) (e : TypeId) (a b c : Value) : (w.alloc (.cells #[a, b, c] e)).ownsRow w.heap.size e 1 (.slice (some ⟨w.heap.size, 0, none⟩) 3 3) 3 [a, b, c] :=
  ⟨rfl, .inr ⟨w.heap.size, 3, #[a, b, c], rfl, Nat.le_refl _, row_new _ _, by omega, by unfold maxLen; omega, rfl, rfl⟩⟩
set_option maxRecDepth 100000 in
theorem awake08_walk (w : World) (hE : Env w) (hT : EnvT w) (hH : Hang w) : Calls Tryz.prog 19 #[] w fun e w' => e = .returned (.bool true) ∧ Below w.heap.size w w' := by
  have HLD := Lib.hid (load_calls w hE hT)
  have HR := Lib.hid (fun (W : World) (m : Nat) (v : Value) (ht : TabAt W m files) (hb : Below w.heap.size w W) (hz : ListAt W v [97, 769, 803]) => runes_aw ▸ runes_walk (nmd_files ht (hH.below hb)) hz (by decide) (by decide))
  generalize files = Φ at *
  clear hE hT hH
  go_enter Tryz.func19, Tryz.ntmps19
  go_wp2_with fail
  refine HLD.out.mono ?_
  rintro e w1 ⟨rfl, ht, hb1⟩
  have hba := alloc_below w1 (Obj.cells #[Value.int IntKind.i64 97, Value.int IntKind.i64 769, Value.int IntKind.i64 803] 3)
  have hL1 := (show IntsAt (w1.alloc (Obj.cells #[Value.int IntKind.i64 97, Value.int IntKind.i64 769, Value.int IntKind.i64 803] 3)) w1.heap.size _ [97, 769, 803] from own_lit3n w1 3 (Value.int .i64 97) (Value.int .i64 769) (Value.int .i64 803))
  have HT1 := Lib.hid (ht.below hba)
  have HB1 := Lib.hid (hb1.trans (hba.mono hb1.size))
  have HL1 := Lib.hid (ListAt.of_own hL1)
  clear ht hb1 HLD hba hL1
  go_wp2_with fail
  refine (HR.out _ _ _ HT1.out HB1.out HL1.out).mono ?_
  rintro e w2 ⟨v2, rfl, hv2, hb2⟩
  obtain ⟨A2, c2, rfl⟩ := own_slice hv2
  have hba := alloc_below w2 (Obj.cells #[Value.int IntKind.i64 97, Value.int IntKind.i64 803, Value.int IntKind.i64 769] 3)
  have HE := Lib.hid (equalv_walk (ListAt.of_own (own_below hv2 hba)) (ListAt.of_own (show IntsAt (w2.alloc (Obj.cells #[Value.int IntKind.i64 97, Value.int IntKind.i64 803, Value.int IntKind.i64 769] 3)) w2.heap.size _ [97, 803, 769] from own_lit3n w2 3 (Value.int .i64 97) (Value.int .i64 803) (Value.int .i64 769))))
  have HB2 := Lib.hid (HB1.out.trans ((hb2.trans (hba.mono hb2.size)).mono HB1.out.size))
  clear hv2 hb2 HB1 HR HT1 HL1 hba
  go_wp2_with fail
  refine HE.out.mono ?_
  rintro e w3 ⟨rfl, hb3⟩
  have HB3 := Lib.hid (HB2.out.trans (hb3.mono HB2.out.size))
  clear hb3 HE HB2
  go_wp2_with fail
  go_ret
  exact ⟨rfl, HB3.out⟩
end Go.Proofs.YthoegenipbohmaaGreatDoor
