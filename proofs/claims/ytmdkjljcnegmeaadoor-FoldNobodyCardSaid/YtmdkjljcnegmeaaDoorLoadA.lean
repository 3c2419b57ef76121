/- What props.load makes of records; slices.Index of texts, slices.Reverse of entries, an append of one new element. -/
import Derived.Test.YtmdkjljcnegmeaaDoorMakeW
import Derived.Test.YtmdkjljcnegmeaaDoorBuildW
namespace Go.Proofs.YtmdkjljcnegmeaaDoor
open Go.RowKit
set_option linter.unusedVariables false
set_option linter.unusedSimpArgs false

/-- The append of one element that a literal of one has just been made for. -/
theorem wp_append_new {P : Program} {W : World} {t e : TypeId} {size bytes : Nat} (T : SlT P t e size bytes) {ops : Array Oper} {rest : List Oper} {o : Oper} {a : Act} {Q : Exit → Act → World → Prop} (hgd : o.guard = none) (s x : Operand)
    (ho : o.op = .call { callee := .builtin .append, args := #[s, x], argTypes := #[t, t] })
    (base : Nat) (v : Value) (n : Nat) (xs : List Value) (hs : a.eval s = v) (hown : W.ownsRow base e size v n xs)
    (cs : Array Value) (hx : a.eval x = .slice (some ⟨W.heap.size, 0, none⟩) 1 1) (hl : cs.size = size) (h1 : ∀ u ∈ cs.toList, u.oneCell' = true)
    (hbytes : (n + 1) * bytes ≤ 140737488355328) (hbase : base ≤ W.heap.size)
    (h : ∀ v' w', w'.ownsRow base e size v' (n + 1) (xs ++ cs.toList) → W.grownBy w' v.ownBlock → wpList P ops Q rest (a.put o.dst v') w') :
    wpList P ops Q (o :: rest) a (W.alloc (.cells cs e)) := by
  have hb := alloc_below W (.cells cs e)
  refine wp_append _ T hgd s x ho base v n xs hs (own_below hown hb) ⟨W.heap.size, 0, none⟩ 1 1 cs.toList hx (by simp [hl]) (fun j u hj => ?_) h1 hbytes (by have := hb.size; omega) (fun v' w' r1 r2 _ _ => h v' w' r1 ⟨r2.os.trans hb.os, r2.tape.trans hb.tape, r2.output.trans hb.output, Nat.le_trans hb.size r2.size, fun k hk hne => (r2.block k (Nat.lt_of_lt_of_le hk hb.size) hne).trans (hb.block k hk)⟩)
  rw [add_plain, Nat.zero_add, (cells_of_row (row_new W _)).1 j]
  simpa using hj

theorem RgsAt.kept {w w' : World} {base b g : Nat} {v u : Value} {rs : List Rg} (h : RgsAt w base v rs) {e : TypeId} {s n : Nat} {xs : List Value} (ho : w.ownsRow b e s u n xs) (hg : w.grownBy w' u.ownBlock) (hne : 43 ≠ e) : RgsAt w' base v rs :=
  World.ownsRow.kept h hg (own_types h ho hne)
def toB (l : Sp.Str) : ByteArray := ⟨l.toArray⟩
theorem toB_inj {a b : Sp.Str} (h : toB a = toB b) : a = b := by
  unfold toB at h
  injection h with h
  simpa using h
theorem idx_of (vals : List Sp.Str) (x : Sp.Str) : Lib.idxOfS (vals.map toB) (toB x) = if x ∈ vals then (vals.idxOf x : Int) else -1 := by
  have h : ∀ (vals : List Sp.Str) (i : Nat), Lib.idxFromS (vals.map toB) (toB x) i = if x ∈ vals then ((i + vals.idxOf x : Nat) : Int) else -1 := by
    intro vals
    induction vals with
    | nil => intro i; rfl
    | cons z zs ih =>
      intro i
      rw [List.map_cons, Lib.idxFromS]
      by_cases hz : z = x
      · subst hz
        rw [if_pos rfl, if_pos (by simp)]
        simp
      · rw [if_neg (fun hh => hz (toB_inj hh)), ih]
        have e1 : (x ∈ z :: zs) ↔ x ∈ zs := by simp [Ne.symm hz]
        by_cases hm : x ∈ zs
        · have e2 : (z :: zs).idxOf x = zs.idxOf x + 1 := by rw [List.idxOf_cons, beq_eq_false_iff_ne.2 hz]; rfl
          rw [if_pos hm, if_pos (e1.2 hm), e2]
          congr 1
          omega
        · rw [if_neg hm, if_neg (fun hh => hm (e1.1 hh))]
  have := h vals 0
  rw [Nat.zero_add] at this
  exact this
theorem index_walk {w : World} {base : Nat} {v : Value} {vals : List Sp.Str} (h : w.ownsRow base 9 1 v vals.length (strVs vals)) (hl : vals.length ≤ 1000000) (x : Sp.Str) :
    Calls Tryd.prog 44 #[v, .string (toB x)] w fun e w' => e = .returned (.int .i64 (if x ∈ vals then (vals.idxOf x : Int) else -1)) ∧ w' = w := by
  rcases Nat.eq_zero_or_pos vals.length with h0 | h0
  · obtain ⟨A, c, rfl⟩ := own_slice h
    rw [h0]
    obtain rfl := List.length_eq_zero_iff.1 h0
    exact Tryd.slices_Index_string_empty A c (toB x) w
  · obtain ⟨g, cap, rfl, hbg, hgl, hnc, hcm⟩ := own_form h h0
    have := Tryd.slices_Index_string g 0 vals.length cap (vals.map toB) (toB x) w (by simp) (by omega) (fun j hj => by
      rw [Nat.zero_add]
      refine own_cell h j _ ?_
      simp at hj
      unfold strVs
      rw [List.getElem?_map, List.getElem?_eq_getElem hj, List.getD_eq_getElem?_getD, List.getElem?_map, List.getElem?_eq_getElem hj]
      rfl)
    rw [List.take_of_length_le (by simp), idx_of] at this
    exact this
instance : Inhabited Ent := ⟨⟨0, 0, 0⟩⟩
def entEnc (e : Ent) : List Value := [.int .i64 e.lo, .int .i64 e.hi, .int .i64 e.val]
theorem entEnc_len (e : Ent) : (entEnc e).length = 3 := rfl
theorem entEnc_one (e : Ent) : ∀ v ∈ entEnc e, v.oneCell' = true := by
  intro v hv
  simp [entEnc] at hv
  rcases hv with rfl | rfl | rfl <;> rfl
theorem reverse_walk {w : World} {base g c : Nat} {es : List Ent} (h : w.ownsRow base 82 3 (.slice (some ⟨g, 0, none⟩) es.length c) es.length (entCells es)) (hl : es.length ≤ 1000000) :
    Calls Tryd.prog 45 #[.slice (some ⟨g, 0, none⟩) es.length c] w fun e w' => e = .returned (.tuple #[]) ∧ w'.ownsRow base 82 3 (.slice (some ⟨g, 0, none⟩) es.length c) es.length (entCells es.reverse) ∧ w.grownBy w' (some g) := by
  have h' : w.ownsRow base 82 3 (.slice (some ⟨g, 0, none⟩) es.length c) es.length (es.toArray.toList.flatMap entEnc) := h
  have hH := own_holds entEnc_len (d := es.toArray) h' (by simp)
  have := AnyQ.slices_Reverse Tryd.laysRev 3 (fun w => Tryd.isAgg82 w) (fun w => Tryd.sizeOf82 w) entEnc entEnc_len entEnc_one g 0 c es.toArray w hH (by simp; omega)
  simp only [List.size_toArray] at this
  refine Calls.mono this ?_
  rintro e w' ⟨rfl, n, rfl⟩
  obtain ⟨r1, r2⟩ := own_turned entEnc_len (d := es.toArray) (d' := es.toArray.reverse) h' (by simp) (by simp) n
  have e1 : es.toArray.reverse.toList = es.reverse := by simp
  rw [e1] at r1
  exact ⟨rfl, r1, r2⟩

theorem recCells_get : ∀ (rs : List Rec) (vs : List Value) (j : Nat) (h : rs.length = vs.length) (hj : j < rs.length), (recCells rs vs)[j * 3]? = some (.int .i64 rs[j].lo) ∧ (recCells rs vs)[j * 3 + 1]? = some (.int .i64 rs[j].hi) ∧ (recCells rs vs)[j * 3 + 2]? = some (vs[j]'(by omega))
  | r :: rs, v :: vs, 0, _, _ => ⟨rfl, rfl, rfl⟩
  | r :: rs, v :: vs, j + 1, h, hj => by
    have ih := recCells_get rs vs j (by simpa using h) (by simpa using hj)
    have e1 : recCells (r :: rs) (v :: vs) = .int .i64 r.lo :: .int .i64 r.hi :: v :: recCells rs vs := rfl
    rw [e1, show (j + 1) * 3 = j * 3 + 3 by omega]
    exact ih
  | r :: rs, [], _, h, _ => by simp at h

/-- Values, in the order of their first records; entries; ranges. -/
def addVal (vs : List Sp.Str) (f : Sp.Str) : List Sp.Str := if f ∈ vs then vs else vs ++ [f]
def fld0 (r : Rec) : Sp.Str := r.fields.headD []
def valsOf (rs : List Rec) : List Sp.Str := rs.foldl (fun vs r => addVal vs (fld0 r)) []
def entsFrom : List Rec → List Sp.Str → List Ent
  | [], _ => []
  | r :: rs, vs => ⟨r.lo, r.hi, ((addVal vs (fld0 r)).idxOf (fld0 r) : Nat)⟩ :: entsFrom rs (addVal vs (fld0 r))
def entsOf (rs : List Rec) : List Ent := entsFrom rs []
def rgsOf (rs : List Rec) : List Rg := rs.map fun r => ⟨r.lo, r.hi⟩
theorem valsOf_snoc (rs : List Rec) (r : Rec) : valsOf (rs ++ [r]) = addVal (valsOf rs) (fld0 r) := by unfold valsOf; rw [List.foldl_append]; rfl
theorem entsFrom_snoc (r : Rec) : ∀ (rs : List Rec) (vs : List Sp.Str), entsFrom (rs ++ [r]) vs = entsFrom rs vs ++ [⟨r.lo, r.hi, ((addVal (rs.foldl (fun vs r => addVal vs (fld0 r)) vs) (fld0 r)).idxOf (fld0 r) : Nat)⟩]
  | [], vs => rfl
  | x :: rs, vs => by
    rw [List.cons_append, entsFrom, entsFrom, entsFrom_snoc r rs]
    rfl
theorem entsOf_snoc (rs : List Rec) (r : Rec) : entsOf (rs ++ [r]) = entsOf rs ++ [⟨r.lo, r.hi, ((valsOf (rs ++ [r])).idxOf (fld0 r) : Nat)⟩] := by
  unfold entsOf
  rw [entsFrom_snoc, valsOf_snoc]
  rfl
theorem rgsOf_snoc (rs : List Rec) (r : Rec) : rgsOf (rs ++ [r]) = rgsOf rs ++ [⟨r.lo, r.hi⟩] := by unfold rgsOf; rw [List.map_append]; rfl
theorem addVal_len (vs : List Sp.Str) (f : Sp.Str) : vs.length ≤ (addVal vs f).length ∧ (addVal vs f).length ≤ vs.length + 1 := by unfold addVal; split <;> simp
theorem addVal_mem (vs : List Sp.Str) (f : Sp.Str) : f ∈ addVal vs f := by
  unfold addVal
  split
  · assumption
  · simp
theorem valsOf_len (rs : List Rec) : (valsOf rs).length ≤ rs.length := by
  have h : ∀ (rs : List Rec) (vs : List Sp.Str), (rs.foldl (fun vs r => addVal vs (fld0 r)) vs).length ≤ vs.length + rs.length := by
    intro rs
    induction rs with
    | nil => intro vs; simp
    | cons r rs ih => intro vs; have := ih (addVal vs (fld0 r)); have := (addVal_len vs (fld0 r)).2; simp; omega
  have := h rs []
  simpa [valsOf] using this
theorem entsOf_len (rs : List Rec) : (entsOf rs).length = rs.length := by
  have h : ∀ (rs : List Rec) (vs : List Sp.Str), (entsFrom rs vs).length = rs.length := by
    intro rs
    induction rs with
    | nil => intro vs; rfl
    | cons r rs ih => intro vs; simp [entsFrom, ih]
  exact h rs []
theorem rgsOf_len (rs : List Rec) : (rgsOf rs).length = rs.length := by simp [rgsOf]
theorem foldl_vals_le : ∀ (rs : List Rec) (vs : List Sp.Str), vs.length ≤ (rs.foldl (fun vs r => addVal vs (fld0 r)) vs).length
  | [], vs => Nat.le_refl _
  | r :: rs, vs => Nat.le_trans (addVal_len vs (fld0 r)).1 (foldl_vals_le rs _)
def RecOk (r : Rec) : Prop := r.lo ≤ r.hi ∧ r.hi ≤ 1114111 ∧ r.fields ≠ []
theorem entsOf_ok (rs : List Rec) (h : ∀ r ∈ rs, RecOk r) : ∀ e ∈ entsOf rs, 0 ≤ e.lo ∧ e.lo ≤ e.hi ∧ e.hi ≤ 1114111 ∧ 0 ≤ e.val ∧ e.val < (valsOf rs).length := by
  have h' : ∀ (rs : List Rec) (vs : List Sp.Str), (∀ r ∈ rs, RecOk r) → ∀ e ∈ entsFrom rs vs, 0 ≤ e.lo ∧ e.lo ≤ e.hi ∧ e.hi ≤ 1114111 ∧ 0 ≤ e.val ∧ e.val < (rs.foldl (fun vs r => addVal vs (fld0 r)) vs).length := by
    intro rs
    induction rs with
    | nil => intro vs _ e he; simp [entsFrom] at he
    | cons r rs ih =>
      intro vs hr e he
      rw [entsFrom, List.mem_cons] at he
      rcases he with rfl | he
      · obtain ⟨h1, h2, h3⟩ := hr r List.mem_cons_self
        have h4 := List.idxOf_lt_length_of_mem (addVal_mem vs (fld0 r))
        have h5 := foldl_vals_le rs (addVal vs (fld0 r))
        simp only [List.foldl_cons]
        refine ⟨by omega, by omega, by omega, by omega, by omega⟩
      · exact ih _ (fun r hr' => hr r (List.mem_cons_of_mem _ hr')) e he
  exact h' rs [] h
end Go.Proofs.YtmdkjljcnegmeaaDoor
