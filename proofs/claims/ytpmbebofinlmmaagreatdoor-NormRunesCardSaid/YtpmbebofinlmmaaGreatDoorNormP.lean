/- Canonical order, in plain Lean: each one goes ahead of those of greater classes that it stands behind. No program stands here. -/
import Derived.Test.YtpmbebofinlmmaaGreatDoorStbP
namespace Go.Proofs.YtpmbebofinlmmaaGreatDoor
open Stb
set_option linter.unusedVariables false
set_option linter.unusedSimpArgs false
namespace Nrm
section
variable {α : Type} {cl : α → Int}

/-- The last ones of greater classes. -/
def over (cl : α → Int) (c : Int) (l : List α) : List α := (l.reverse.takeWhile fun x => decide (c < cl x)).reverse
def under (cl : α → Int) (c : Int) (l : List α) : List α := (l.reverse.dropWhile fun x => decide (c < cl x)).reverse
def ins (cl : α → Int) (l : List α) (y : α) : List α := if 0 < cl y then under cl (cl y) l ++ y :: over cl (cl y) l else l ++ [y]
def ord (cl : α → Int) (l : List α) : List α := l.foldl (ins cl) []
theorem under_over (c : Int) (l : List α) : under cl c l ++ over cl c l = l := by
  unfold under over
  rw [← List.reverse_append, List.takeWhile_append_dropWhile, List.reverse_reverse]
theorem over_gt (c : Int) (l : List α) : ∀ x ∈ over cl c l, c < cl x := by
  intro x hx
  unfold over at hx
  rw [List.mem_reverse] at hx
  have := List.all_eq_true.1 (List.all_takeWhile (p := fun x => decide (c < cl x)) (l := l.reverse)) x hx
  simpa using this
theorem under_last (c : Int) (l : List α) {W : List α} {z : α} (h : under cl c l = W ++ [z]) : cl z ≤ c := by
  unfold under at h
  have h2 : l.reverse.dropWhile (fun x => decide (c < cl x)) = z :: W.reverse := by
    have := congrArg List.reverse h
    simpa using this
  have h3 := List.head?_dropWhile_not (fun x => decide (c < cl x)) l.reverse
  rw [h2] at h3
  simp at h3
  omega
theorem over_snoc_gt {c : Int} {l : List α} {z : α} (h : c < cl z) : over cl c (l ++ [z]) = over cl c l ++ [z] ∧ under cl c (l ++ [z]) = under cl c l := by
  unfold over under
  rw [List.reverse_append, List.reverse_singleton, List.singleton_append, List.takeWhile_cons, List.dropWhile_cons, if_pos (by simpa using h), if_pos (by simpa using h)]
  simp
theorem over_snoc_le {c : Int} {l : List α} {z : α} (h : cl z ≤ c) : over cl c (l ++ [z]) = [] ∧ under cl c (l ++ [z]) = l ++ [z] := by
  unfold over under
  rw [List.reverse_append, List.reverse_singleton, List.singleton_append, List.takeWhile_cons, List.dropWhile_cons, if_neg (by simp; omega), if_neg (by simp; omega)]
  simp
theorem over_nil (c : Int) : over cl c [] = [] ∧ under cl c [] = [] := ⟨rfl, rfl⟩
/-- Ahead of A, if A ends at a class of 0, nothing goes. -/
def Base (cl : α → Int) (A : List α) : Prop := A = [] ∨ ∃ W z, A = W ++ [z] ∧ cl z ≤ 0
theorem over_base {A : List α} (hA : Base cl A) {c : Int} (hc : 0 < c) : ∀ S : List α, over cl c (A ++ S) = over cl c S ∧ under cl c (A ++ S) = A ++ under cl c S := by
  intro S
  generalize hn : S.length = n
  induction n generalizing S with
  | zero =>
    obtain rfl := List.length_eq_zero_iff.1 hn
    rw [List.append_nil]
    rcases hA with rfl | ⟨W, z, rfl, hz⟩
    · exact ⟨rfl, rfl⟩
    · obtain ⟨e1, e2⟩ := over_snoc_le (cl := cl) (l := W) (show cl z ≤ c by omega)
      rw [e1, e2]
      exact ⟨rfl, by simp [over_nil]⟩
  | succ n ih =>
    rcases nil_or_snoc S with rfl | ⟨W, z, rfl⟩
    · cases hn
    · have hW : W.length = n := by simpa using hn
      rw [← List.append_assoc]
      by_cases hz : c < cl z
      · obtain ⟨e1, e2⟩ := over_snoc_gt (cl := cl) (l := A ++ W) hz
        obtain ⟨f1, f2⟩ := over_snoc_gt (cl := cl) (l := W) hz
        obtain ⟨i1, i2⟩ := ih W hW
        rw [e1, e2, f1, f2, i1, i2]
        exact ⟨rfl, rfl⟩
      · obtain ⟨e1, e2⟩ := over_snoc_le (cl := cl) (l := A ++ W) (show cl z ≤ c by omega)
        obtain ⟨f1, f2⟩ := over_snoc_le (cl := cl) (l := W) (show cl z ≤ c by omega)
        rw [e1, e2, f1, f2]
        exact ⟨rfl, by simp⟩
theorem ins_base {A : List α} (hA : Base cl A) (S : List α) {y : α} (hy : 0 < cl y) : ins cl (A ++ S) y = A ++ ins cl S y := by
  unfold ins
  rw [if_pos hy, if_pos hy]
  obtain ⟨e1, e2⟩ := over_base hA hy S
  rw [e1, e2]
  simp
theorem fold_base {A : List α} (hA : Base cl A) : ∀ (R S : List α), (∀ y ∈ R, 0 < cl y) → R.foldl (ins cl) (A ++ S) = A ++ R.foldl (ins cl) S
  | [], S, _ => rfl
  | y :: R, S, h => by
    rw [List.foldl_cons, List.foldl_cons, ins_base hA S (h y List.mem_cons_self)]
    exact fold_base hA R _ fun z hz => h z (List.mem_cons_of_mem _ hz)
/-- Among classes above 0: the stable order. -/
theorem fold_stable : ∀ (R S x : List α), (∀ y ∈ R, 0 < cl y) → Stable cl x S → Stable cl (x ++ R) (R.foldl (ins cl) S)
  | [], S, x, _, h => by rw [List.append_nil]; exact h
  | y :: R, S, x, hR, h => by
    have hy := hR y List.mem_cons_self
    rw [List.foldl_cons, show x ++ y :: R = (x ++ [y]) ++ R by simp]
    refine fold_stable R _ (x ++ [y]) (fun z hz => hR z (List.mem_cons_of_mem _ hz)) ?_
    unfold ins
    rw [if_pos hy]
    have hS := under_over (cl := cl) (cl y) S
    obtain ⟨hA, hF⟩ := h
    rw [← hS] at hA hF
    obtain ⟨a1, a2, a3⟩ := List.pairwise_append.1 hA
    have ho := over_gt (cl := cl) (cl y) S
    have hu : ∀ u ∈ under cl (cl y) S, cl u ≤ cl y := by
      intro u hu
      rcases nil_or_snoc (under cl (cl y) S) with e | ⟨W, z, e⟩
      · rw [e] at hu; cases hu
      · have h1 := under_last (cl y) S e
        rw [e] at a1 hu
        have := asc_last (key := cl) a1 u hu
        omega
    refine ⟨Asc.app a1 (List.pairwise_cons.2 ⟨fun w hw => Int.le_of_lt (ho w hw), a2⟩) ?_, ?_⟩
    · intro u hu' w hw
      rcases List.mem_cons.1 hw with rfl | hw
      · exact hu u hu'
      · exact a3 u hu' w hw
    · have h1 := Flt.app hF (Flt.refl (key := cl) [y])
      have h2 := Flt.app (Flt.refl (key := cl) (under cl (cl y) S)) (Flt.turn (key := cl) (u := over cl (cl y) S) (v := [y]) (fun a ha b hb => by
        have : a = y := by simpa using ha
        rw [this]; exact ho b hb))
      refine Flt.trans h1 ?_
      simpa using h2
theorem ord_snoc (l : List α) (y : α) : ord cl (l ++ [y]) = ins cl (ord cl l) y := by unfold ord; rw [List.foldl_append]; rfl
theorem ord_zero (l : List α) {y : α} (hy : cl y ≤ 0) : ord cl (l ++ [y]) = ord cl l ++ [y] := by
  rw [ord_snoc]
  unfold ins
  rw [if_neg (by omega)]
theorem ord_base_of {l : List α} (h : Base cl l) : Base cl (ord cl l) := by
  rcases h with rfl | ⟨W, z, rfl, hz⟩
  · exact .inl rfl
  · exact .inr ⟨_, z, ord_zero W hz, hz⟩
/-- A run of classes above 0, behind one of 0: it is sorted, stably. -/
theorem ord_run {l R X : List α} (hl : Base cl l) (hR : ∀ y ∈ R, 0 < cl y) (hX : Stable cl R X) : ord cl (l ++ R) = ord cl l ++ X := by
  unfold ord
  rw [List.foldl_append]
  have h1 := fold_base (ord_base_of hl) R [] hR
  rw [List.append_nil] at h1
  have h2 := fold_stable (cl := cl) R [] [] hR ⟨List.Pairwise.nil, Flt.refl _⟩
  rw [List.nil_append] at h2
  show R.foldl (ins cl) (ord cl l) = _
  rw [h1, stable_unique h2 hX]
  rfl
theorem ins_perm (l : List α) (y : α) : (ins cl l y).Perm (l ++ [y]) := by
  unfold ins
  split
  · have h := under_over (cl := cl) (cl y) l
    have h1 : (under cl (cl y) l ++ y :: over cl (cl y) l).Perm (under cl (cl y) l ++ (over cl (cl y) l ++ [y])) := List.Perm.append_left _ (List.perm_append_singleton _ _).symm
    rw [← List.append_assoc, h] at h1
    exact h1
  · exact List.Perm.refl _
theorem fold_perm : ∀ (R S : List α), (R.foldl (ins cl) S).Perm (S ++ R)
  | [], S => by rw [List.append_nil]; exact List.Perm.refl _
  | y :: R, S => by
    rw [List.foldl_cons]
    refine (fold_perm R _).trans ?_
    rw [show S ++ y :: R = (S ++ [y]) ++ R by simp]
    exact List.Perm.append_right _ (ins_perm S y)
theorem ord_perm (l : List α) : (ord cl l).Perm l := by
  have := fold_perm (cl := cl) l []
  rwa [List.nil_append] at this
/-- No class above 0 stands behind a greater one. -/
def Fine (cl : α → Int) : List α → Prop
  | [] => True
  | [_] => True
  | x :: y :: l => ¬ (0 < cl y ∧ cl y < cl x) ∧ Fine cl (y :: l)
theorem fine_app : ∀ (l m : List α), Fine cl l → Fine cl m → (∀ W z u Z, l = W ++ [z] → m = u :: Z → ¬ (0 < cl u ∧ cl u < cl z)) → Fine cl (l ++ m)
  | [], m, _, hm, _ => hm
  | [x], [], _, _, _ => trivial
  | [x], u :: Z, _, hm, h => ⟨h [] x u Z rfl rfl, hm⟩
  | x :: y :: l, m, hl, hm, h => ⟨hl.1, fine_app (y :: l) m hl.2 hm fun W z u Z e1 e2 => h (x :: W) z u Z (by rw [e1]; rfl) e2⟩
theorem fine_left : ∀ (l m : List α), Fine cl (l ++ m) → Fine cl l
  | [], _, _ => trivial
  | [_], _, _ => trivial
  | x :: y :: l, m, h => ⟨h.1, fine_left (y :: l) m h.2⟩
theorem fine_right : ∀ (l m : List α), Fine cl (l ++ m) → Fine cl m
  | [], _, h => h
  | [x], [], _ => trivial
  | [x], u :: Z, h => h.2
  | x :: y :: l, m, h => fine_right (y :: l) m h.2
theorem fine_mid : ∀ (l : List α) (z u : α) (m : List α), Fine cl (l ++ z :: u :: m) → ¬ (0 < cl u ∧ cl u < cl z)
  | [], z, u, m, h => h.1
  | [x], z, u, m, h => h.2.1
  | x :: y :: l, z, u, m, h => fine_mid (y :: l) z u m h.2
theorem ins_fine {l : List α} (h : Fine cl l) (y : α) : Fine cl (ins cl l y) := by
  unfold ins
  split
  · rename_i hy
    have hs := under_over (cl := cl) (cl y) l
    rw [← hs] at h
    have ho := over_gt (cl := cl) (cl y) l
    refine fine_app _ _ (fine_left _ _ h) ?_ ?_
    · have h2 := fine_right _ _ h
      generalize over cl (cl y) l = O at *
      cases O with
      | nil => trivial
      | cons u Z => exact ⟨fun hc => by have := ho u List.mem_cons_self; omega, h2⟩
    · intro W z u Z e1 e2
      injection e2 with e2 _
      subst e2
      have := under_last _ _ e1
      omega
  · rename_i hy
    refine fine_app _ _ h trivial ?_
    intro W z u Z e1 e2
    injection e2 with e2 _
    subst e2
    omega
theorem fold_fine : ∀ (R S : List α), Fine cl S → Fine cl (R.foldl (ins cl) S)
  | [], S, h => h
  | y :: R, S, h => fold_fine R _ (ins_fine h y)
theorem ord_fine (l : List α) : Fine cl (ord cl l) := fold_fine l [] trivial
/-- What stands in order stays. -/
theorem ins_stay {l : List α} {y : α} (h : Fine cl (l ++ [y])) : ins cl l y = l ++ [y] := by
  unfold ins
  split
  · rename_i hy
    rcases nil_or_snoc l with rfl | ⟨W, z, rfl⟩
    · rfl
    · have hn : ¬ (0 < cl y ∧ cl y < cl z) := fine_mid W z y [] (by simpa using h)
      obtain ⟨e1, e2⟩ := over_snoc_le (cl := cl) (l := W) (show cl z ≤ cl y by omega)
      rw [e1, e2]
  · rfl
theorem fold_stay : ∀ (R S : List α), Fine cl (S ++ R) → R.foldl (ins cl) S = S ++ R
  | [], S, _ => by rw [List.append_nil]; rfl
  | y :: R, S, h => by
    have h' : Fine cl ((S ++ [y]) ++ R) := by simpa using h
    rw [List.foldl_cons, ins_stay (fine_left _ _ h'), fold_stay R _ h']
    simp
theorem ord_stay {l : List α} (h : Fine cl l) : ord cl l = l := by
  have := fold_stay (cl := cl) l [] h
  rwa [List.nil_append] at this
theorem ord_twice (l : List α) : ord cl (ord cl l) = ord cl l := ord_stay (ord_fine l)
/-- The lesser one goes first, or last: the same. -/
theorem ins_swap (l : List α) {x y : α} (h0 : 0 < cl y) (h : cl y < cl x) : ins cl (ins cl l x) y = ins cl (ins cl l y) x := by
  have hx : 0 < cl x := by omega
  generalize hn : l.length = n
  induction n generalizing l with
  | zero =>
    obtain rfl := List.length_eq_zero_iff.1 hn
    unfold ins
    simp only [if_pos h0, if_pos hx, over_nil]
    obtain ⟨e1, e2⟩ := over_snoc_gt (cl := cl) (l := []) h
    obtain ⟨f1, f2⟩ := over_snoc_le (cl := cl) (l := []) (show cl y ≤ cl x by omega)
    simp only [List.nil_append] at e1 e2 f1 f2 ⊢
    rw [e1, e2, f1, f2]
    simp [over_nil]
  | succ n ih =>
    rcases nil_or_snoc l with rfl | ⟨W, z, rfl⟩
    · cases hn
    · have hW : W.length = n := by simpa using hn
      have snoc : ∀ (u : α) (V : List α), 0 < cl u → cl u < cl z → ins cl (V ++ [z]) u = ins cl V u ++ [z] := fun u V hu hz => by
        unfold ins
        rw [if_pos hu, if_pos hu]
        obtain ⟨e1, e2⟩ := over_snoc_gt (cl := cl) (l := V) hz
        rw [e1, e2]
        simp
      have stay : ∀ (u : α) (V : List α), 0 < cl u → cl z ≤ cl u → ins cl (V ++ [z]) u = V ++ [z] ++ [u] := fun u V hu hz => by
        unfold ins
        rw [if_pos hu]
        obtain ⟨e1, e2⟩ := over_snoc_le (cl := cl) (l := V) hz
        rw [e1, e2]
      by_cases h1 : cl x < cl z
      · rw [snoc x W hx h1, snoc y _ h0 (by omega), snoc y W h0 (by omega), snoc x _ hx h1, ih W hW]
      · rw [stay x W hx (by omega)]
        have e : ins cl (W ++ [z] ++ [x]) y = ins cl (W ++ [z]) y ++ [x] := by
          unfold ins
          rw [if_pos h0, if_pos h0]
          obtain ⟨e1, e2⟩ := over_snoc_gt (cl := cl) (l := W ++ [z]) h
          rw [e1, e2]
          simp
        rw [e]
        -- x goes behind all
        have hl : ∀ V : List α, (∀ T u, V = T ++ [u] → cl u ≤ cl x) → ins cl V x = V ++ [x] := fun V hV => by
          rcases nil_or_snoc V with rfl | ⟨T, u, rfl⟩
          · unfold ins
            rw [if_pos hx]
            rfl
          · unfold ins
            rw [if_pos hx]
            obtain ⟨e1, e2⟩ := over_snoc_le (cl := cl) (l := T) (hV T u rfl)
            rw [e1, e2]
        rw [hl]
        intro T u hu
        by_cases h2 : cl y < cl z
        · rw [snoc y W h0 h2] at hu
          have := (List.append_inj' hu rfl).2
          injection this with this _
          rw [← this]
          omega
        · rw [stay y W h0 (by omega)] at hu
          have := (List.append_inj' hu rfl).2
          injection this with this _
          rw [← this]
          omega
theorem fold_over : ∀ (O : List α) (S : List α) (y : α), 0 < cl y → (∀ x ∈ O, cl y < cl x) → ins cl (O.foldl (ins cl) S) y = O.foldl (ins cl) (ins cl S y)
  | [], S, y, _, _ => rfl
  | x :: O, S, y, hy, h => by
    rw [List.foldl_cons, List.foldl_cons, fold_over O _ y hy fun z hz => h z (List.mem_cons_of_mem _ hz), ins_swap S hy (h x List.mem_cons_self)]
/-- One behind the other: it is no matter whether the second was put in order before. -/
theorem fold_ord (S : List α) : ∀ R : List α, (ord cl R).foldl (ins cl) S = R.foldl (ins cl) S := by
  intro R
  generalize hn : R.length = n
  induction n generalizing R with
  | zero =>
    obtain rfl := List.length_eq_zero_iff.1 hn
    rfl
  | succ n ih =>
    rcases nil_or_snoc R with rfl | ⟨W, y, rfl⟩
    · cases hn
    · have hW : W.length = n := by simpa using hn
      have i := ih W hW
      rw [ord_snoc, List.foldl_append]
      show _ = ins cl (W.foldl (ins cl) S) y
      rw [← i]
      have hs := under_over (cl := cl) (cl y) (ord cl W)
      by_cases hy : 0 < cl y
      · have e : ins cl (ord cl W) y = under cl (cl y) (ord cl W) ++ y :: over cl (cl y) (ord cl W) := by unfold ins; rw [if_pos hy]
        rw [e, List.foldl_append, List.foldl_cons]
        conv => rhs; rw [← hs]
        rw [List.foldl_append, fold_over _ _ y hy (over_gt (cl y) _)]
      · have e : ins cl (ord cl W) y = ord cl W ++ [y] := by unfold ins; rw [if_neg hy]
        rw [e, List.foldl_append]
        rfl
theorem ord_joins (a b : List α) : ord cl (ord cl a ++ ord cl b) = ord cl (a ++ b) := by
  have h : ∀ l m : List α, ord cl (l ++ m) = m.foldl (ins cl) (ord cl l) := fun l m => by unfold ord; rw [List.foldl_append]
  rw [h, h, ord_twice, fold_ord]
theorem ins_map {β : Type} {cl' : β → Int} (f : α → β) (hf : ∀ x, cl' (f x) = cl x) (l : List α) (y : α) : ins cl' (l.map f) (f y) = (ins cl l y).map f := by
  unfold ins under over
  rw [hf]
  have h1 : ∀ c : Int, (fun x => decide (c < cl' x)) ∘ f = fun x => decide (c < cl x) := fun c => by funext x; simp [hf]
  split
  · simp only [← List.map_reverse, List.takeWhile_map, List.dropWhile_map, h1, List.map_append, List.map_cons]
  · simp
theorem ord_map {β : Type} {cl' : β → Int} (f : α → β) (hf : ∀ x, cl' (f x) = cl x) (l : List α) : ord cl' (l.map f) = (ord cl l).map f := by
  have h : ∀ (R S : List α), (R.map f).foldl (ins cl') (S.map f) = (R.foldl (ins cl) S).map f := by
    intro R
    induction R with
    | nil => intro S; rfl
    | cons y R ih => intro S; rw [List.map_cons, List.foldl_cons, List.foldl_cons, ins_map f hf, ih]
  exact h l []
end
end Nrm
end Go.Proofs.YtpmbebofinlmmaaGreatDoor
