/- Maps whose keys are pairs of ints (fold.pair). fold.pairs. ranges.Has. Ranging over a map of pairs: what stays; sets of hits. append of nil to an empty row of one's own. No program stands here. fold.Closure. -/
import Derived.Test.YtchkckfadennhaaGreatDoorLod
import Derived.DeepKeys4
import Derived.Maps.Keyed
import Derived.Test.YtchkckfadennhaaGreatDoorFoldB
import Derived.Test.YtchkckfadennhaaGreatDoorRng
import Derived.Test.YtchkckfadennhaaGreatDoorBase
import Derived.Test.YtchkckfadennhaaGreatDoorRgg
namespace Go.Proofs.YtchkckfadennhaaGreatDoor
open Go.RowKit Go.Maps
set_option linter.unusedVariables false

theorem laidOutP : laidOutB Tryz.prog = true := by kernel_rfl
abbrev PK : Type := { x : Int × Int // (Lit.int .i64 x.1).wf = true ∧ (Lit.int .i64 x.2).wf = true }
def pairV (x : Int × Int) : Value := .agg #[.int .i64 x.1, .int .i64 x.2]
def pairL (x : Int × Int) : Lit := .string (keyBytes [.int .i64 x.1, .int .i64 x.2])
theorem pairV_inj {x y : Int × Int} (h : pairV x = pairV y) : x = y := by
  unfold pairV at h
  simp at h
  exact Prod.ext h.1 h.2
end Go.Proofs.YtchkckfadennhaaGreatDoor
namespace Go.Proofs.YtchkckfadennhaaGreatDoor
open Go.RowKit
set_option linter.unusedVariables false
set_option linter.unusedSimpArgs false

noncomputable def inF (S : Int × Int → Prop) : PK → Option Value := fun x => open Classical in if S x.1 then some (.bool true) else none
theorem inF_set (S : Int × Int → Prop) (x : PK) : setF (inF S) x (.bool true) = inF (fun y => y = x.1 ∨ S y) := by
  funext y
  unfold setF inF
  by_cases h : y = x
  · subst h
    rw [if_pos rfl, if_pos (.inl rfl)]
  · rw [if_neg h]
    have h' : ¬ y.1 = x.1 := fun e => h (Subtype.ext e)
    by_cases hS : S y.1
    · rw [if_pos hS, if_pos (.inr hS)]
    · rw [if_neg hS, if_neg (by rintro (e | e); exact h' e; exact hS e)]
theorem inF_congr {S T : Int × Int → Prop} (h : ∀ y, S y ↔ T y) : inF S = inF T := by
  have : S = T := funext fun y => propext (h y)
  rw [this]
/-- The pairs of a record's code points below one. -/
def pairsTo (Φ : Files) (x : Rec) (q : Nat) (p : Int × Int) : Prop := ∃ r : Nat, x.lo ≤ r ∧ r < q ∧ (p = ((r : Int), simpleOf Φ r) ∨ p = (simpleOf Φ r, simpleOf Φ r))
def pairsIn (Φ : Files) (rs : List Rec) (p : Int × Int) : Prop := ∃ x ∈ rs, pairsTo Φ x (x.hi + 1) p
theorem pairsIn_snoc (Φ : Files) (rs : List Rec) (x : Rec) (p : Int × Int) : pairsIn Φ (rs ++ [x]) p ↔ pairsIn Φ rs p ∨ pairsTo Φ x (x.hi + 1) p := by
  unfold pairsIn
  constructor
  · rintro ⟨y, hy, h⟩
    rcases List.mem_append.1 hy with hy | hy
    · exact .inl ⟨y, hy, h⟩
    · obtain rfl : y = x := by simpa using hy
      exact .inr h
  · rintro (⟨y, hy, h⟩ | h)
    · exact ⟨y, List.mem_append_left _ hy, h⟩
    · exact ⟨x, by simp, h⟩
theorem pairsTo_next (Φ : Files) (x : Rec) (q : Nat) (h : x.lo ≤ q) (p : Int × Int) : pairsTo Φ x (q + 1) p ↔ p = (simpleOf Φ q, simpleOf Φ q) ∨ p = ((q : Int), simpleOf Φ q) ∨ pairsTo Φ x q p := by
  unfold pairsTo
  constructor
  · rintro ⟨r, h1, h2, h3⟩
    by_cases e : r = q
    · subst e
      rcases h3 with h3 | h3
      · exact .inr (.inl h3)
      · exact .inl h3
    · exact .inr (.inr ⟨r, h1, by omega, h3⟩)
  · rintro (h3 | h3 | ⟨r, h1, h2, h3⟩)
    · exact ⟨q, h, by omega, .inr h3⟩
    · exact ⟨q, h, by omega, .inl h3⟩
    · exact ⟨r, h1, by omega, h3⟩
def widthOf (rs : List Rec) : Nat := (rs.map fun x => x.hi + 1 - x.lo).sum
theorem widthOf_snoc (rs : List Rec) (x : Rec) : widthOf (rs ++ [x]) = widthOf rs + (x.hi + 1 - x.lo) := by unfold widthOf; simp
theorem widthOf_take (rs : List Rec) (k : Nat) : widthOf (rs.take k) ≤ widthOf rs := by
  have h : widthOf rs = widthOf (rs.take k) + widthOf (rs.drop k) := by
    unfold widthOf
    rw [← List.sum_append, ← List.map_append, List.take_append_drop]
  omega
section
variable {w0 w w' : World} {mb rb n n' : Nat} {S T : Int × Int → Prop} {v : Value} {rs : List Rec} {fv : List Value}
end
end Go.Proofs.YtchkckfadennhaaGreatDoor
namespace Go.Proofs.YtchkckfadennhaaGreatDoor
open Go.RowKit
set_option linter.unusedVariables false
set_option linter.unusedSimpArgs false

/-- A slice of ranges, wherever it lies. -/
def RListAt (w : World) (v : Value) (rs : List Rg) : Prop := ∃ A c, v = .slice A rs.length c ∧ rs.length ≤ 9223372036854775807 ∧ (0 < rs.length → ∃ ad, A = some ad ∧ ∀ j (h : j < rs.length), w.cell? (ad.add (j * 2)) = some (.int .i64 rs[j].lo) ∧ w.cell? ((ad.add (j * 2)).add 1) = some (.int .i64 rs[j].hi))
theorem RListAt.below {w w' : World} {v : Value} {rs : List Rg} (h : RListAt w v rs) (hb : Below w.heap.size w w') : RListAt w' v rs := by
  obtain ⟨A, c, h1, h2, h3⟩ := h
  exact ⟨A, c, h1, h2, fun hp => by
    obtain ⟨ad, h4, h5⟩ := h3 hp
    exact ⟨ad, h4, fun j hj => ⟨cell_later hb (h5 j hj).1, cell_later hb (h5 j hj).2⟩⟩⟩
theorem rg_get : ∀ (rs : List Rg) (j : Nat) (h : j < rs.length), (rs.flatMap rgCells)[j * 2]? = some (.int .i64 rs[j].lo) ∧ (rs.flatMap rgCells)[j * 2 + 1]? = some (.int .i64 rs[j].hi)
  | r :: rs, 0, _ => ⟨rfl, rfl⟩
  | r :: rs, j + 1, h => by
    have ih := rg_get rs j (by simpa using h)
    have e : (r :: rs).flatMap rgCells = .int .i64 r.lo :: .int .i64 r.hi :: rs.flatMap rgCells := rfl
    rw [e, show (j + 1) * 2 = j * 2 + 2 by omega]
    exact ih
theorem RListAt.of_own {w : World} {B : Nat} {v : Value} {rs : List Rg} (h : RgsAt w B v rs) : RListAt w v rs := by
  unfold RgsAt at h
  have hl := own_len h
  unfold maxLen at hl
  obtain ⟨A, c, rfl⟩ := own_slice h
  refine ⟨A, c, rfl, by omega, fun hp => ?_⟩
  obtain ⟨g, k, e, _⟩ := own_form h hp
  injection e with e1
  subst e1
  refine ⟨⟨g, 0, none⟩, rfl, fun j hj => ?_⟩
  obtain ⟨g1, g2⟩ := rg_get rs j hj
  rw [add_plain, add_plain, Nat.zero_add]
  exact ⟨own_cell h _ _ g1, own_cell h _ _ g2⟩
def inRg (r : Int) (x : Rg) : Bool := decide (x.lo ≤ r) && decide (r ≤ x.hi)
def hasB (rs : List Rg) (r : Int) : Bool := (decide (0 ≤ r) && decide (r ≤ 1114111)) && rs.any (inRg r)
def idxRg (r : Int) : List Rg → Int → Int
  | [], _ => -1
  | x :: rs, i => if inRg r x then i else idxRg r rs (i + 1)
theorem idx_any (r : Int) : ∀ (rs : List Rg) (i : Int), 0 ≤ i → decide (idxRg r rs i ≥ 0) = rs.any (inRg r)
  | [], i, h => rfl
  | x :: rs, i, h => by
    unfold idxRg
    rw [List.any_cons]
    cases hx : inRg r x with
    | true => simp; omega
    | false => simp only [Bool.false_eq_true, if_false, Bool.false_or]; exact idx_any r rs (i + 1) (by omega)
end Go.Proofs.YtchkckfadennhaaGreatDoor
namespace Go.Proofs.YtchkckfadennhaaGreatDoor
open Go.RowKit Go.Maps
set_option linter.unusedVariables false
noncomputable def hitF (T : Int → Prop) : Int → Option Value := fun x => open Classical in if T x then some (.bool true) else none
theorem hitF_set (T : Int → Prop) (x : Int) : setF (hitF T) x (.bool true) = hitF (fun y => y = x ∨ T y) := by
  funext y
  unfold setF hitF
  by_cases h : y = x
  · rw [if_pos h, if_pos (.inl h)]
  · rw [if_neg h]
    by_cases hT : T y
    · rw [if_pos hT, if_pos (.inr hT)]
    · rw [if_neg hT, if_neg (by rintro (e | e); exact h e; exact hT e)]
/-- The hits of the pairs that have come. -/
def hitT (S : Int × Int → Prop) (rs : List Rg) (left : PK → Bool) (k : Int) : Prop := ∃ p : PK, S p.1 ∧ left p = false ∧ hasB rs p.1.1 = true ∧ p.1.2 = k
theorem hitT_has {S : Int × Int → Prop} {rs : List Rg} {left : PK → Bool} {x : PK} (hS : S x.1) (hl : left x = true) (hh : hasB rs x.1.1 = true) : hitT S rs (fun y => left y && !decide (y = x)) = fun k => k = x.1.2 ∨ hitT S rs left k := by
  funext k
  apply propext
  unfold hitT
  constructor
  · rintro ⟨p, h1, h2, h3, h4⟩
    by_cases e : p = x
    · subst e
      exact .inl h4.symm
    · simp only [e, decide_false, Bool.not_false, Bool.and_true] at h2
      exact .inr ⟨p, h1, h2, h3, h4⟩
  · rintro (h | ⟨p, h1, h2, h3, h4⟩)
    · exact ⟨x, hS, by simp, hh, h.symm⟩
    · exact ⟨p, h1, by show (left p && _) = false; rw [h2]; rfl, h3, h4⟩
theorem hitT_not {S : Int × Int → Prop} {rs : List Rg} {left : PK → Bool} {x : PK} (hh : hasB rs x.1.1 = false) : hitT S rs (fun y => left y && !decide (y = x)) = hitT S rs left := by
  funext k
  apply propext
  unfold hitT
  constructor
  · rintro ⟨p, h1, h2, h3, h4⟩
    by_cases e : p = x
    · subst e
      rw [hh] at h3
      cases h3
    · simp only [e, decide_false, Bool.not_false, Bool.and_true] at h2
      exact ⟨p, h1, h2, h3, h4⟩
  · rintro ⟨p, h1, h2, h3, h4⟩
    exact ⟨p, h1, by show (left p && _) = false; rw [h2]; rfl, h3, h4⟩
/-- The singles of the pairs that have come. -/
def oneT (S : Int × Int → Prop) (T : Int → Prop) (left : PK → Bool) (x : Rg) : Prop := ∃ p : PK, S p.1 ∧ left p = false ∧ T p.1.2 ∧ x = ⟨p.1.1, p.1.1⟩
theorem oneT_has {S : Int × Int → Prop} {T : Int → Prop} {left : PK → Bool} {x : PK} (hS : S x.1) (hT : T x.1.2) (y : Rg) : oneT S T (fun y => left y && !decide (y = x)) y ↔ oneT S T left y ∨ y = ⟨x.1.1, x.1.1⟩ := by
  unfold oneT
  constructor
  · rintro ⟨p, h1, h2, h3, h4⟩
    by_cases e : p = x
    · subst e
      exact .inr h4
    · simp only [e, decide_false, Bool.not_false, Bool.and_true] at h2
      exact .inl ⟨p, h1, h2, h3, h4⟩
  · rintro (⟨p, h1, h2, h3, h4⟩ | h)
    · exact ⟨p, h1, by show (left p && _) = false; rw [h2]; rfl, h3, h4⟩
    · exact ⟨x, hS, by simp, hT, h⟩
theorem oneT_not {S : Int × Int → Prop} {T : Int → Prop} {left : PK → Bool} {x : PK} (hT : ¬ T x.1.2) (y : Rg) : oneT S T (fun y => left y && !decide (y = x)) y ↔ oneT S T left y := by
  unfold oneT
  constructor
  · rintro ⟨p, h1, h2, h3, h4⟩
    by_cases e : p = x
    · subst e
      exact absurd h3 hT
    · simp only [e, decide_false, Bool.not_false, Bool.and_true] at h2
      exact ⟨p, h1, h2, h3, h4⟩
  · rintro ⟨p, h1, h2, h3, h4⟩
    exact ⟨p, h1, by show (left p && _) = false; rw [h2]; rfl, h3, h4⟩
theorem own_fresh0 (w : World) (e : TypeId) (k : Nat) : (w.alloc (.cells #[] e)).ownsRow w.heap.size e k (.slice (some ⟨w.heap.size, 0, none⟩) 0 0) 0 [] :=
  ⟨by simp, .inr ⟨w.heap.size, 0, #[], rfl, Nat.le_refl _, row_new _ _, Nat.le_refl _, by unfold maxLen; omega, by simp, by simp⟩⟩
end Go.Proofs.YtchkckfadennhaaGreatDoor
namespace Go.Proofs.YtchkckfadennhaaGreatDoor
open Go.RowKit
set_option linter.unusedVariables false
set_option linter.unusedSimpArgs false
theorem run_append_nil0 {P : Program} (w : World) (t ty e : TypeId) (i : TypeInfo) (ht : P.underlying t = some (.slice e)) (hi : P.info? e = some i) (b : Nat) :
    (Builtin.append_ #[t, t] ty #[.slice (some ⟨b, 0, none⟩) 0 0, .slice none 0 0]).run P w = .ok (.slice (some ⟨b, 0, none⟩) 0 0) w := by
  simp [Builtin.append_, run_underlying ht, sizeOf, typeInfo, hi, Builtin.lenOf, Builtin.firstCells, storeCells]
theorem wp_append_nil0 {P : Program} (w : World) {t e : TypeId} {size bytes : Nat} (T : SlT P t e size bytes) {ops : Array Oper} {rest : List Oper} {o : Oper} {a : Act} {Q : Exit → Act → World → Prop} (hgd : o.guard = none) (s x : Operand)
    (ho : o.op = .call { callee := .builtin .append, args := #[s, x], argTypes := #[t, t] })
    (base b : Nat) (hs : a.eval s = .slice (some ⟨b, 0, none⟩) 0 0) (hown : w.ownsRow base e size (.slice (some ⟨b, 0, none⟩) 0 0) 0 []) (hx : a.eval x = .slice none 0 0)
    (h : ∀ v' w', w'.ownsRow base e size v' (0 + 0) ([] ++ []) → w.grownBy w' (some b) → wpList P ops Q rest (a.put o.dst v') w') :
    wpList P ops Q (o :: rest) a w := by
  obtain ⟨i, hi, _⟩ := Option.map_eq_some_iff.1 T.hi
  have hr := run_append_nil0 w t o.type e i T.ht hi b
  have hrun : (execOp a.eval o).run P w = .ok (.value (.slice (some ⟨b, 0, none⟩) 0 0)) w := by
    unfold execOp
    simp only [ho, resolve, invoke, builtin, Sem.run_bind, Sem.run_pure, Result.andThen_ok, List.map_toArray, List.map_cons, List.map_nil, hs, hx, hr]
  refine wpList_plain hgd fun K hK => ?_
  unfold Oper.wp
  rw [hrun]
  exact hK _ _ (h _ _ hown ⟨rfl, rfl, rfl, Nat.le_refl _, fun _ _ _ => rfl⟩)
/-- append of any slice to an empty row of one's own. -/
theorem wp_append_any {P : Program} (w : World) {t e : TypeId} {size bytes : Nat} (T : SlT P t e size bytes) {ops : Array Oper} {rest : List Oper} {o : Oper} {a : Act} {Q : Exit → Act → World → Prop} (hgd : o.guard = none) (s x : Operand)
    (ho : o.op = .call { callee := .builtin .append, args := #[s, x], argTypes := #[t, t] })
    (base b : Nat) (hs : a.eval s = .slice (some ⟨b, 0, none⟩) 0 0) (hown : w.ownsRow base e size (.slice (some ⟨b, 0, none⟩) 0 0) 0 [])
    (A : Option Addr) (m c : Nat) (news : List Value) (hx : a.eval x = .slice A m c) (hA : A = none → m = 0 ∧ c = 0) (hl : news.length = m * size) (hnews : ∀ ad, A = some ad → ∀ j u, news[j]? = some u → w.cell? (ad.add j) = some u) (h1 : ∀ u ∈ news, u.oneCell' = true)
    (hbytes : (0 + m) * bytes ≤ 140737488355328) (hbase : base ≤ w.heap.size)
    (h : ∀ v' w', w'.ownsRow base e size v' (0 + m) ([] ++ news) → w.grownBy w' (some b) → wpList P ops Q rest (a.put o.dst v') w') :
    wpList P ops Q (o :: rest) a w := by
  cases A with
  | none =>
    obtain ⟨rfl, rfl⟩ := hA rfl
    have : news = [] := List.length_eq_zero_iff.1 (by simpa using hl)
    subst this
    exact wp_append_nil0 w T hgd s x ho base b hs hown hx h
  | some ad => exact wp_append w T hgd s x ho base _ 0 [] hs hown ad m c news hx hl (hnews ad rfl) h1 hbytes hbase (fun v' w' r1 r2 _ _ => h v' w' r1 r2)
end Go.Proofs.YtchkckfadennhaaGreatDoor
namespace Go.Proofs.YtchkckfadennhaaGreatDoor
open Go.RowKit Go.Maps
set_option linter.unusedVariables false
set_option linter.unusedSimpArgs false

theorem RListAt.cells {w : World} {ad : Addr} {n c : Nat} {rs : List Rg} (h : RListAt w (.slice (some ad) n c) rs) : ∀ j u, (rs.flatMap rgCells)[j]? = some u → w.cell? (ad.add j) = some u := by
  obtain ⟨A, c', e, _, h3⟩ := h
  injection e with e1 e2 e3
  subst e1
  intro j u hu
  have hlen : (rs.flatMap rgCells).length = rs.length * 2 := flat_len rgCells 2 (fun _ => rfl) rs
  have hj : j < rs.length * 2 := by rw [← hlen]; exact (List.getElem?_eq_some_iff.1 hu).1
  obtain ⟨ad', h4, h5⟩ := h3 (by omega)
  injection h4 with h4
  subst h4
  obtain ⟨g1, g2⟩ := rg_get rs (j / 2) (by omega)
  obtain ⟨q1, q2⟩ := h5 (j / 2) (by omega)
  rcases (by omega : j = j / 2 * 2 ∨ j = j / 2 * 2 + 1) with e | e
  · rw [e] at hu ⊢
    rw [g1] at hu
    rw [← hu]
    exact q1
  · rw [e] at hu ⊢
    rw [g2] at hu
    rw [← hu, ← Addr.add_add]
    exact q2
def allHits (Φ : Files) (rs : List Rg) (k : Int) : Prop := ∃ p : PK, pairsIn Φ Φ.fol p.1 ∧ hasB rs p.1.1 = true ∧ p.1.2 = k
def ClosureSaid (Φ : Files) (rs : List Rg) (w : World) (e : Ending) (w' : World) : Prop :=
  ∃ v M s, e = .returned v ∧ s.Perm (clipped (rs ++ M)) ∧ s.Pairwise (fun a b => a.lo ≤ b.lo) ∧ RgsAt w' w.heap.size v (joinAll s) ∧ (∀ x, x ∈ M ↔ ∃ p : PK, pairsIn Φ Φ.fol p.1 ∧ allHits Φ rs p.1.2 ∧ x = ⟨p.1.1, p.1.1⟩) ∧ Below w.heap.size w w' ∧ M.length ≤ 200000
end Go.Proofs.YtchkckfadennhaaGreatDoor
