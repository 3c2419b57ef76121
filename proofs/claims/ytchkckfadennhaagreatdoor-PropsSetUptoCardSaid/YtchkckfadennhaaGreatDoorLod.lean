/- What props.load makes of records; slices.Index of texts, slices.Reverse of entries, an append of one new element. props.load. props.points: code points in a text of ASCII bytes. props: the maps of texts (parts, folds); folding. props: (*Tables).folding. props.Tables as Load makes them: what lies where, and what the files' records come to. No code is walked here. -/
import Derived.Test.YtchkckfadennhaaGreatDoorRng
import Derived.Test.YtchkckfadennhaaGreatDoorTrie
import Derived.Test.YtchkckfadennhaaGreatDoorDagM
import Derived.StillTailTactics
namespace Go.Proofs.YtchkckfadennhaaGreatDoor
open Go.RowKit
set_option linter.unusedVariables false
set_option linter.unusedSimpArgs false

/-- The append of one element that a literal of one has just been made for. -/
theorem wp_append_new {P : Program} {W : World} {t e : TypeId} {size bytes : Nat} (T : SlT P t e size bytes) {ops : Array Oper} {rest : List Oper} {o : Oper} {a : Act} {Q : Exit → Act → World → Prop} (hgd : o.guard = none) (s x : Operand)
    (ho : o.op = .call { callee := .builtin .append, args := #[s, x], argTypes := #[t, t] })
    (base : Nat) (v : Value) (n : Nat) (xs : List Value) (hs : a.eval s = v) (hown : W.ownsRow base e size v n xs)
    (cs : Array Value) (hx : a.eval x = .slice (some ⟨W.heap.size, 0, none⟩) 1 1) (hl : cs.size = size) (h1 : ∀ u ∈ cs.toList, u.oneCell' = true)
    (hbytes : (n + 1) * bytes ≤ 140737488355328) (hbase : base ≤ W.heap.size)
    (h : ∀ v' w', w'.ownsRow base e size v' (n + 1) (xs ++ cs.toList) → W.grownBy w' v.ownBlock → wpList P ops Q rest (a.put o.dst v') w') :
    wpList P ops Q (o :: rest) a (W.alloc (.cells cs e)) := by
  have hb := alloc_below W (.cells cs e)
  refine wp_append _ T hgd s x ho base v n xs hs (own_below hown hb) ⟨W.heap.size, 0, none⟩ 1 1 cs.toList hx (by simp [hl]) (fun j u hj => ?_) h1 hbytes (by have := hb.size; omega) (fun v' w' r1 r2 _ _ => h v' w' r1 ⟨r2.os.trans hb.os, r2.tape.trans hb.tape, r2.output.trans hb.output, Nat.le_trans hb.size r2.size, fun k hk hne => (r2.block k (Nat.lt_of_lt_of_le hk hb.size) hne).trans (hb.block k hk)⟩)
  rw [add_plain, Nat.zero_add, (cells_of_row (row_new W _)).1 j]
  simpa using hj

theorem RgsAt.kept {w w' : World} {base b g : Nat} {v u : Value} {rs : List Rg} (h : RgsAt w base v rs) {e : TypeId} {s n : Nat} {xs : List Value} (ho : w.ownsRow b e s u n xs) (hg : w.grownBy w' u.ownBlock) (hne : 37 ≠ e) : RgsAt w' base v rs :=
  World.ownsRow.kept h hg (own_types h ho hne)
def toB (l : Sp.Str) : ByteArray := ⟨l.toArray⟩
theorem toB_inj {a b : Sp.Str} (h : toB a = toB b) : a = b := by
  unfold toB at h
  injection h with h
  simpa using h
theorem idx_of (vals : List Sp.Str) (x : Sp.Str) : Lib.idxOfS (vals.map toB) (toB x) = if x ∈ vals then (vals.idxOf x : Int) else -1 := by
  have h : ∀ (vals : List Sp.Str) (i : Nat), Lib.idxFromS (vals.map toB) (toB x) i = if x ∈ vals then ((i + vals.idxOf x : Nat) : Int) else -1 := by
    intro vals
    induction vals with
    | nil => intro i; rfl
    | cons z zs ih =>
      intro i
      rw [List.map_cons, Lib.idxFromS]
      by_cases hz : z = x
      · subst hz
        rw [if_pos rfl, if_pos (by simp)]
        simp
      · rw [if_neg (fun hh => hz (toB_inj hh)), ih]
        have e1 : (x ∈ z :: zs) ↔ x ∈ zs := by simp [Ne.symm hz]
        by_cases hm : x ∈ zs
        · have e2 : (z :: zs).idxOf x = zs.idxOf x + 1 := by rw [List.idxOf_cons, beq_eq_false_iff_ne.2 hz]; rfl
          rw [if_pos hm, if_pos (e1.2 hm), e2]
          congr 1
          omega
        · rw [if_neg hm, if_neg (fun hh => hm (e1.1 hh))]
  have := h vals 0
  rw [Nat.zero_add] at this
  exact this
theorem index_walk {w : World} {base : Nat} {v : Value} {vals : List Sp.Str} (h : w.ownsRow base 9 1 v vals.length (strVs vals)) (hl : vals.length ≤ 1000000) (x : Sp.Str) :
    Calls Tryz.prog 48 #[v, .string (toB x)] w fun e w' => e = .returned (.int .i64 (if x ∈ vals then (vals.idxOf x : Int) else -1)) ∧ w' = w := by
  rcases Nat.eq_zero_or_pos vals.length with h0 | h0
  · obtain ⟨A, c, rfl⟩ := own_slice h
    rw [h0]
    obtain rfl := List.length_eq_zero_iff.1 h0
    exact Tryz.slices_Index_string_empty A c (toB x) w
  · obtain ⟨g, cap, rfl, hbg, hgl, hnc, hcm⟩ := own_form h h0
    have := Tryz.slices_Index_string g 0 vals.length cap (vals.map toB) (toB x) w (by simp) (by omega) (fun j hj => by
      rw [Nat.zero_add]
      refine own_cell h j _ ?_
      simp at hj
      unfold strVs
      rw [List.getElem?_map, List.getElem?_eq_getElem hj, List.getD_eq_getElem?_getD, List.getElem?_map, List.getElem?_eq_getElem hj]
      rfl)
    rw [List.take_of_length_le (by simp), idx_of] at this
    exact this
instance : Inhabited Ent := ⟨⟨0, 0, 0⟩⟩
def entEnc (e : Ent) : List Value := [.int .i64 e.lo, .int .i64 e.hi, .int .i64 e.val]
theorem entEnc_len (e : Ent) : (entEnc e).length = 3 := rfl
theorem entEnc_one (e : Ent) : ∀ v ∈ entEnc e, v.oneCell' = true := by
  intro v hv
  simp [entEnc] at hv
  rcases hv with rfl | rfl | rfl <;> rfl
theorem reverse_walk {w : World} {base g c : Nat} {es : List Ent} (h : w.ownsRow base 80 3 (.slice (some ⟨g, 0, none⟩) es.length c) es.length (entCells es)) (hl : es.length ≤ 1000000) :
    Calls Tryz.prog 49 #[.slice (some ⟨g, 0, none⟩) es.length c] w fun e w' => e = .returned (.tuple #[]) ∧ w'.ownsRow base 80 3 (.slice (some ⟨g, 0, none⟩) es.length c) es.length (entCells es.reverse) ∧ w.grownBy w' (some g) := by
  have h' : w.ownsRow base 80 3 (.slice (some ⟨g, 0, none⟩) es.length c) es.length (es.toArray.toList.flatMap entEnc) := h
  have hH := own_holds entEnc_len (d := es.toArray) h' (by simp)
  have := AnyQ.slices_Reverse Tryz.laysRev 3 (fun w => Tryz.isAgg80 w) (fun w => Tryz.sizeOf80 w) entEnc entEnc_len entEnc_one g 0 c es.toArray w hH (by simp; omega)
  simp only [List.size_toArray] at this
  refine Calls.mono this ?_
  rintro e w' ⟨rfl, n, rfl⟩
  obtain ⟨r1, r2⟩ := own_turned entEnc_len (d := es.toArray) (d' := es.toArray.reverse) h' (by simp) (by simp) n
  have e1 : es.toArray.reverse.toList = es.reverse := by simp
  rw [e1] at r1
  exact ⟨rfl, r1, r2⟩

theorem recCells_get : ∀ (rs : List Rec) (vs : List Value) (j : Nat) (h : rs.length = vs.length) (hj : j < rs.length), (recCells rs vs)[j * 3]? = some (.int .i64 rs[j].lo) ∧ (recCells rs vs)[j * 3 + 1]? = some (.int .i64 rs[j].hi) ∧ (recCells rs vs)[j * 3 + 2]? = some (vs[j]'(by omega))
  | r :: rs, v :: vs, 0, _, _ => ⟨rfl, rfl, rfl⟩
  | r :: rs, v :: vs, j + 1, h, hj => by
    have ih := recCells_get rs vs j (by simpa using h) (by simpa using hj)
    have e1 : recCells (r :: rs) (v :: vs) = .int .i64 r.lo :: .int .i64 r.hi :: v :: recCells rs vs := rfl
    rw [e1, show (j + 1) * 3 = j * 3 + 3 by omega]
    exact ih
  | r :: rs, [], _, h, _ => by simp at h

/-- Values, in the order of their first records; entries; ranges. -/
def addVal (vs : List Sp.Str) (f : Sp.Str) : List Sp.Str := if f ∈ vs then vs else vs ++ [f]
def fld0 (r : Rec) : Sp.Str := r.fields.headD []
def valsOf (rs : List Rec) : List Sp.Str := rs.foldl (fun vs r => addVal vs (fld0 r)) []
def entsFrom : List Rec → List Sp.Str → List Ent
  | [], _ => []
  | r :: rs, vs => ⟨r.lo, r.hi, ((addVal vs (fld0 r)).idxOf (fld0 r) : Nat)⟩ :: entsFrom rs (addVal vs (fld0 r))
def entsOf (rs : List Rec) : List Ent := entsFrom rs []
def rgsOf (rs : List Rec) : List Rg := rs.map fun r => ⟨r.lo, r.hi⟩
theorem valsOf_snoc (rs : List Rec) (r : Rec) : valsOf (rs ++ [r]) = addVal (valsOf rs) (fld0 r) := by unfold valsOf; rw [List.foldl_append]; rfl
theorem entsFrom_snoc (r : Rec) : ∀ (rs : List Rec) (vs : List Sp.Str), entsFrom (rs ++ [r]) vs = entsFrom rs vs ++ [⟨r.lo, r.hi, ((addVal (rs.foldl (fun vs r => addVal vs (fld0 r)) vs) (fld0 r)).idxOf (fld0 r) : Nat)⟩]
  | [], vs => rfl
  | x :: rs, vs => by
    rw [List.cons_append, entsFrom, entsFrom, entsFrom_snoc r rs]
    rfl
theorem entsOf_snoc (rs : List Rec) (r : Rec) : entsOf (rs ++ [r]) = entsOf rs ++ [⟨r.lo, r.hi, ((valsOf (rs ++ [r])).idxOf (fld0 r) : Nat)⟩] := by
  unfold entsOf
  rw [entsFrom_snoc, valsOf_snoc]
  rfl
theorem rgsOf_snoc (rs : List Rec) (r : Rec) : rgsOf (rs ++ [r]) = rgsOf rs ++ [⟨r.lo, r.hi⟩] := by unfold rgsOf; rw [List.map_append]; rfl
theorem addVal_len (vs : List Sp.Str) (f : Sp.Str) : vs.length ≤ (addVal vs f).length ∧ (addVal vs f).length ≤ vs.length + 1 := by unfold addVal; split <;> simp
theorem addVal_mem (vs : List Sp.Str) (f : Sp.Str) : f ∈ addVal vs f := by
  unfold addVal
  split
  · assumption
  · simp
theorem valsOf_len (rs : List Rec) : (valsOf rs).length ≤ rs.length := by
  have h : ∀ (rs : List Rec) (vs : List Sp.Str), (rs.foldl (fun vs r => addVal vs (fld0 r)) vs).length ≤ vs.length + rs.length := by
    intro rs
    induction rs with
    | nil => intro vs; simp
    | cons r rs ih => intro vs; have := ih (addVal vs (fld0 r)); have := (addVal_len vs (fld0 r)).2; simp; omega
  have := h rs []
  simpa [valsOf] using this
theorem entsOf_len (rs : List Rec) : (entsOf rs).length = rs.length := by
  have h : ∀ (rs : List Rec) (vs : List Sp.Str), (entsFrom rs vs).length = rs.length := by
    intro rs
    induction rs with
    | nil => intro vs; rfl
    | cons r rs ih => intro vs; simp [entsFrom, ih]
  exact h rs []
theorem rgsOf_len (rs : List Rec) : (rgsOf rs).length = rs.length := by simp [rgsOf]
theorem foldl_vals_le : ∀ (rs : List Rec) (vs : List Sp.Str), vs.length ≤ (rs.foldl (fun vs r => addVal vs (fld0 r)) vs).length
  | [], vs => Nat.le_refl _
  | r :: rs, vs => Nat.le_trans (addVal_len vs (fld0 r)).1 (foldl_vals_le rs _)
def RecOk (r : Rec) : Prop := r.lo ≤ r.hi ∧ r.hi ≤ 1114111 ∧ r.fields ≠ []
theorem entsOf_ok (rs : List Rec) (h : ∀ r ∈ rs, RecOk r) : ∀ e ∈ entsOf rs, 0 ≤ e.lo ∧ e.lo ≤ e.hi ∧ e.hi ≤ 1114111 ∧ 0 ≤ e.val ∧ e.val < (valsOf rs).length := by
  have h' : ∀ (rs : List Rec) (vs : List Sp.Str), (∀ r ∈ rs, RecOk r) → ∀ e ∈ entsFrom rs vs, 0 ≤ e.lo ∧ e.lo ≤ e.hi ∧ e.hi ≤ 1114111 ∧ 0 ≤ e.val ∧ e.val < (rs.foldl (fun vs r => addVal vs (fld0 r)) vs).length := by
    intro rs
    induction rs with
    | nil => intro vs _ e he; simp [entsFrom] at he
    | cons r rs ih =>
      intro vs hr e he
      rw [entsFrom, List.mem_cons] at he
      rcases he with rfl | he
      · obtain ⟨h1, h2, h3⟩ := hr r List.mem_cons_self
        have h4 := List.idxOf_lt_length_of_mem (addVal_mem vs (fld0 r))
        have h5 := foldl_vals_le rs (addVal vs (fld0 r))
        simp only [List.foldl_cons]
        refine ⟨by omega, by omega, by omega, by omega, by omega⟩
      · exact ih _ (fun r hr' => hr r (List.mem_cons_of_mem _ hr')) e he
  exact h' rs [] h
end Go.Proofs.YtchkckfadennhaaGreatDoor
namespace Go.Proofs.YtchkckfadennhaaGreatDoor
open Go.RowKit
set_option linter.unusedVariables false
set_option linter.unusedSimpArgs false

theorem slEntry : SlT Tryz.prog 77 80 3 24 := ⟨Tryz.underlying77, by kernel_rfl, by decide, by decide⟩
theorem own_blk_ne {w : World} {base n p : Nat} {e t : TypeId} {size : Nat} {v : Value} {xs : List Value} {cs : Array Value} (h : w.ownsRow base e size v n xs) (hp : Blk w p t cs) (hne : e ≠ t) : some p ≠ v.ownBlock := by
  rcases h.2 with ⟨rfl, _⟩ | ⟨g', cap', cur, rfl, _⟩
  · simp [Value.ownBlock]
  · have := row_blk_ne h hp hne
    simp only [Value.ownBlock, ne_eq, Option.some.injEq]
    exact fun hh => this hh.symm
structure LoadSt (w : World) (B : Nat) (v8 v9 v10 : Value) (es : List Ent) (vs : List Sp.Str) (gs : List Rg) : Prop where
  es : w.ownsRow B 80 3 v8 es.length (entCells es)
  vs : w.ownsRow B 9 1 v9 vs.length (strVs vs)
  gs : RgsAt w B v10 gs
section
variable {w w' : World} {B : Nat} {v8 v9 v10 v' : Value} {es : List Ent} {vs : List Sp.Str} {gs : List Rg}
theorem LoadSt.below (h : LoadSt w B v8 v9 v10 es vs gs) (hb : Below w.heap.size w w') : LoadSt w' B v8 v9 v10 es vs gs := ⟨own_below h.es hb, own_below h.vs hb, own_below h.gs hb⟩
theorem LoadSt.addV (h : LoadSt w B v8 v9 v10 es vs gs) {f : Sp.Str} (ho : w'.ownsRow B 9 1 v' (vs.length + 1) (strVs vs ++ [.string (toB f)])) (hg : w.grownBy w' v9.ownBlock) : LoadSt w' B v8 v' v10 es (vs ++ [f]) gs :=
  ⟨h.es.kept hg (own_types h.es h.vs (by decide)), by unfold strVs; rw [List.map_append, List.length_append]; exact ho, World.ownsRow.kept h.gs hg (own_types h.gs h.vs (by decide))⟩
theorem LoadSt.addE (h : LoadSt w B v8 v9 v10 es vs gs) {e : Ent} (ho : w'.ownsRow B 80 3 v' (es.length + 1) (entCells es ++ [.int .i64 e.lo, .int .i64 e.hi, .int .i64 e.val])) (hg : w.grownBy w' v8.ownBlock) : LoadSt w' B v' v9 v10 (es ++ [e]) vs gs :=
  ⟨by unfold entCells; rw [List.flatMap_append, List.length_append]; exact ho, h.vs.kept hg (own_types h.vs h.es (by decide)), World.ownsRow.kept h.gs hg (own_types h.gs h.es (by decide))⟩
theorem LoadSt.addG (h : LoadSt w B v8 v9 v10 es vs gs) {r : Rg} (ho : w'.ownsRow B 37 2 v' (gs.length + 1) (gs.flatMap rgCells ++ [.int .i64 r.lo, .int .i64 r.hi])) (hg : w.grownBy w' v10.ownBlock) : LoadSt w' B v8 v9 v' es vs (gs ++ [r]) :=
  ⟨h.es.kept hg (own_types h.es h.gs (by decide)), h.vs.kept hg (own_types h.vs h.gs (by decide)), by unfold RgsAt; rw [rgs_snoc, List.length_append]; exact ho⟩
end
/-- A write below the base leaves what lies above it. -/
theorem own_above {w w' : World} {base : Nat} {e : TypeId} {size n : Nat} {v : Value} {xs : List Value} (h : w.ownsRow base e size v n xs) (ha : ∀ k, base ≤ k → k < w.heap.size → w'.heap[k]? = w.heap[k]?) : w'.ownsRow base e size v n xs := by
  refine ⟨h.1, ?_⟩
  rcases h.2 with h1 | ⟨g, cap, cur, he, hb, hg, h2⟩
  · exact .inl h1
  · exact .inr ⟨g, cap, cur, he, hb, (ha g hb (heap_lt hg)).trans hg, h2⟩
theorem TrieAt.above {w w' : World} {B p : Nat} {vals : List Sp.Str} {f : Int → Int} (h : TrieAt w B p vals f) (ha : ∀ k, B ≤ k → k < w.heap.size → w'.heap[k]? = w.heap[k]?) : TrieAt w' B p vals f := by
  obtain ⟨v0, m, v2, t, c, wm, h1, h2, h3⟩ := h
  exact ⟨v0, m, v2, t, c, wm, ⟨(ha p h1.bp (heap_lt h1.ptr)).trans h1.ptr, h1.bp, own_above h1.hv0 ha, h1.hm.block (ha m h1.bm h1.hm.lt), h1.hwm.block (ha wm h1.bwm h1.hwm.lt), own_above h1.h2 ha, h1.bm, h1.bwm, h1.ne, h1.cnt, h1.inv⟩, h2, h3⟩
theorem TrieAt.base {w : World} {B B' p : Nat} {vals : List Sp.Str} {f : Int → Int} (h : TrieAt w B p vals f) (hB : B' ≤ B) : TrieAt w B' p vals f := by
  obtain ⟨v0, m, v2, t, c, wm, h1, h2, h3⟩ := h
  exact ⟨v0, m, v2, t, c, wm, ⟨h1.ptr, Nat.le_trans hB h1.bp, own_base h1.hv0 hB, h1.hm, h1.hwm, own_base h1.h2 hB, Nat.le_trans hB h1.bm, Nat.le_trans hB h1.bwm, h1.ne, h1.cnt, h1.inv⟩, h2, h3⟩
theorem set_above (w : World) (b j : Nat) (u : Value) {base : Nat} (hb : b < base) : ∀ k, base ≤ k → k < w.heap.size → (w.setCell ⟨b, j, none⟩ u).heap[k]? = w.heap[k]? := fun k hk _ => Below.heap_setCell w ⟨b, j, none⟩ u k (by show k ≠ b; omega)
theorem below_row' {B : Nat} {w w' : World} (hb : Below B w w') {b : Nat} {t : TypeId} {cs : Array Value} (h : Blk w b t cs) (hB : b < B) : Blk w' b t cs := (hb.block b hB).trans h
def LoadSaid (rs : List Rec) (w : World) (e : Ending) (w' : World) : Prop :=
  ∃ p vv kv s, e = .returned (.tuple #[.agg #[.pointer (some ⟨p, 0, none⟩)], vv, kv]) ∧ TrieAt w' w.heap.size p (valsOf rs) (entCur (entsOf rs).reverse) ∧ w'.ownsRow w.heap.size 9 1 vv (valsOf rs).length (strVs (valsOf rs)) ∧
    s.Perm (clipped (rgsOf rs)) ∧ s.Pairwise (fun a b => a.lo ≤ b.lo) ∧ RgsAt w' w.heap.size kv (joinAll s) ∧ Below w.heap.size w w'
set_option maxRecDepth 100000 in
set_option maxHeartbeats 800000 in
theorem load_walk (t : ByteArray) (rs : List Rec) (w : World) (hE : Env w) (hp : ∀ w, Env w → Calls Tryz.prog 23 #[.string t] w (ParseSaid rs w)) (hok : ∀ r ∈ rs, RecOk r) (h0 : 0 < rs.length) (hl : rs.length ≤ 500000) :
    Calls Tryz.prog 17 #[.string t] w (LoadSaid rs w) := by
  have Hok := Lib.hid hok
  have hw0 : Blk (w.alloc (Obj.cells #[Value.pointer none] 46)) w.heap.size 46 #[Value.pointer none] := row_new _ _
  have hb0 := alloc_below w (Obj.cells #[Value.pointer none] 46)
  have HP := Lib.hid (hp _ (hE.below hb0))
  clear hok hp hE
  go_enter Tryz.func17, Tryz.ntmps17
  go_wp2_with fail
  refine HP.out.mono ?_
  rintro e w1 ⟨vl, fv, rfl, hR, hb1⟩
  rw [size_new] at hR
  have hB1 := hb0.trans (hb1.mono (by rw [size_new]; omega))
  have hw1 := hw0.below hb1
  have hsz1 : w.heap.size + 1 ≤ w1.heap.size := by have := hb1.size; rw [size_new] at this; exact this
  have HR := Lib.hid hR
  obtain ⟨gl, cl, rfl, hgl1, hgl2, hgl3, hgl4⟩ := own_form hR.row h0
  clear hw0 hb0 HP hb1 hR
  go_wp2_with fail
  go_loopw [8, 9, 10, 22] (fun v8 v9 v10 i wr => ∃ k : Nat, k ≤ rs.length ∧ i = .int .i64 k ∧ Hid (LoadSt wr w1.heap.size v8 v9 v10 (entsOf (rs.take k)) (valsOf (rs.take k)) (rgsOf (rs.take k))) ∧ Hid (Below w1.heap.size w1 wr)) (fun _ _ _ i _ => rs.length - (intOf i).toNat)
  case atStart => exact ⟨0, by omega, rfl, ⟨World.ownsRow_nil _ _ _ _, World.ownsRow_nil _ _ _ _, World.ownsRow_nil _ _ _ _⟩, Below.refl _ _⟩
  case round =>
    obtain ⟨k, hk, rfl, HL, HB⟩ := hrel
    by_cases hlt : k < rs.length
    · have hRr := HR.out.below HB.out
      obtain ⟨u, hu⟩ : ∃ u, u = fv[k]'(by rw [← HR.out.len]; exact hlt) := ⟨_, rfl⟩
      obtain ⟨r, hr⟩ : ∃ r, r = rs[k] := ⟨_, rfl⟩
      obtain ⟨g0, g1, g2⟩ := recCells_get rs fv k HR.out.len hlt
      rw [← hr] at g0 g1
      rw [← hu] at g2
      have c0 := own_cell hRr.row _ _ g0
      have c1 := own_cell hRr.row _ _ g1
      have c2 := own_cell hRr.row _ _ g2
      have hfld := hRr.fld k r u (by rw [hr]; exact List.getElem?_eq_getElem hlt) (by rw [hu]; exact List.getElem?_eq_getElem _)
      have hrok : RecOk r := by rw [hr]; exact Hok.out _ (List.getElem_mem _)
      obtain ⟨f0, fs, hfs⟩ : ∃ f0 fs, r.fields = f0 :: fs := by
        obtain ⟨_, _, h3⟩ := hrok
        cases hf : r.fields with
        | nil => exact absurd hf h3
        | cons a b => exact ⟨a, b, rfl⟩
      have hf0 : fld0 r = f0 := by unfold fld0; rw [hfs]; rfl
      rw [hfs] at hfld
      obtain ⟨gf, cf, rfl, hgf1, hgf2, hgf3, hgf4⟩ := own_form hfld (by simp)
      have cf0 : wr.cell? ⟨gf, 0, none⟩ = some (.string (toB f0)) := own_cell hfld 0 _ rfl
      have htk : rs.take (k + 1) = rs.take k ++ [r] := by rw [List.take_succ_eq_append_getElem hlt, hr]
      have hln : (rs.take k).length = k := by rw [List.length_take]; omega
      have hvl := valsOf_len (rs.take k)
      have hel := entsOf_len (rs.take k)
      have hgl := rgsOf_len (rs.take k)
      have hes := entsOf_snoc (rs.take k) r
      have hvs := valsOf_snoc (rs.take k) r
      have hgs := rgsOf_snoc (rs.take k) r
      rw [hvs, hf0] at hes
      rw [hf0] at hvs
      rw [← htk] at hes hvs hgs
      rw [hln] at hvl hel hgl
      have Hes0 := Lib.hid hes
      have Hvs0 := Lib.hid hvs
      have Hgs := Lib.hid hgs
      generalize valsOf (rs.take k) = vals at *
      generalize entsOf (rs.take k) = es at *
      generalize rgsOf (rs.take k) = gs at *
      have hbe : (es.length + 1) * 24 ≤ 140737488355328 := by omega
      have hbg : (gs.length + 1) * 16 ≤ 140737488355328 := by omega
      have hbv : (vals.length + 1) * 16 ≤ 140737488355328 := by omega
      have hvl2 : vals.length ≤ 1000000 := by omega
      have hnf : (f0 :: fs).length = fs.length + 1 := rfl
      rw [hnf] at *
      clear hes hvs hgs hel hgl hvl hln htk g0 g1 g2 hr hu hfld hRr hrok hf0 hfs
      go_wp2_with fail
      obtain ⟨W2, hW2⟩ : ∃ W2, W2 = wr.alloc (Obj.cells #[Value.int IntKind.i64 r.lo, Value.int IntKind.i64 r.hi, Value.slice (some ⟨gf, 0, none⟩) (fs.length + 1) cf] 56) := ⟨_, rfl⟩
      have hbw := alloc_below wr (Obj.cells #[Value.int IntKind.i64 r.lo, Value.int IntKind.i64 r.hi, Value.slice (some ⟨gf, 0, none⟩) (fs.length + 1) cf] 56)
      rw [← hW2] at hbw ⊢
      have Hk2 : Hid (Blk W2 wr.heap.size 56 #[Value.int IntKind.i64 r.lo, Value.int IntKind.i64 r.hi, Value.slice (some ⟨gf, 0, none⟩) (fs.length + 1) cf]) := by show Blk _ _ _ _; rw [hW2]; exact row_new _ _
      have HL2 := Lib.hid (HL.out.below hbw)
      have HB2 := Lib.hid (HB.out.trans (hbw.mono HB.out.size))
      have q20 : W2.cell? ⟨wr.heap.size, 0, none⟩ = some (.int .i64 r.lo) := Hk2.out.cell 0
      have q21 : W2.cell? ⟨wr.heap.size, 1, none⟩ = some (.int .i64 r.hi) := Hk2.out.cell 1
      have q22 : W2.cell? ⟨wr.heap.size, 2, none⟩ = some (.slice (some ⟨gf, 0, none⟩) (fs.length + 1) cf) := Hk2.out.cell 2
      have qf : W2.cell? ⟨gf, 0, none⟩ = some (.string (toB f0)) := (hbw.cell (p := ⟨_, _, _⟩) hgf2).trans cf0
      clear hW2 hbw HL HB c0 c1 c2 cf0
      refine (index_walk HL2.out.vs hvl2 f0).mono ?_
      rintro e w3 ⟨rfl, rfl⟩
      by_cases hm : f0 ∈ vals
      · have Hvs := Lib.hid (show valsOf (rs.take (k + 1)) = vals by rw [Hvs0.out, addVal, if_pos hm])
        have Hes := Hes0
        rw [addVal, if_pos hm] at Hes
        rw [if_pos hm]
        have hlt0 : ((vals.idxOf f0 : Nat) : Int) ≥ 0 := by omega
        clear Hes0 Hvs0 hm
        generalize vals.idxOf f0 = ix at *
        have d0 : decide ((ix : Int) < 0) = false := by simp
        go_wp2_with (first | (at_builtin; refine wp_append_new slEntry rfl (.tmp 43) (.tmp 50) rfl w1.heap.size u8 _ _ rfl (by exact HL2.out.es) #[.int .i64 r.lo, .int .i64 r.hi, .int .i64 ix] rfl rfl (by simp [Value.oneCell']) (by exact hbe) (by exact HB2.out.size) ?_; intro v8' w6 hown6 hg6; have HL6 := Lib.hid (HL2.out.addE (e := ⟨r.lo, r.hi, ix⟩) hown6 hg6); have Hk6 := Lib.hid (Hk2.out.grown hg6 (own_blk_ne HL2.out.es Hk2.out (by decide))); have HB6 := Lib.hid (HB2.out.grown hg6 HB2.out.size (fun k hk => (own_lt HL2.out.es k hk).1)); have q60 := Hk6.out.cell 0; have q61 := Hk6.out.cell 1; simp only [List.getElem?_toArray, List.getElem?_cons_zero, List.getElem?_cons_succ] at q60 q61; clear hown6 hg6) | (at_builtin; refine wp_append_new slRange rfl (.tmp 52) (.tmp 58) rfl w1.heap.size u10 _ _ rfl (by exact HL6.out.gs) #[.int .i64 r.lo, .int .i64 r.hi] rfl rfl (by simp [Value.oneCell']) (by exact hbg) (by exact HB6.out.size) ?_; intro v10' w7 hown7 hg7; have HL7 := Lib.hid (HL6.out.addG (r := ⟨r.lo, r.hi⟩) hown7 hg7); have HB7 := Lib.hid (HB6.out.grown hg7 HB6.out.size (fun k hk => (own_lt HL6.out.gs k hk).1)); clear hown7 hg7))
        go_roundw
        case rel => exact ⟨k + 1, by omega, by go_num, by
          show LoadSt _ _ _ _ _ _ _ _
          rw [Hes.out, Hvs.out, Hgs.out]
          exact HL7.out, HB7.out⟩
        case measure => simp [intOf]; omega
      · have Hvs := Lib.hid (show valsOf (rs.take (k + 1)) = vals ++ [f0] by rw [Hvs0.out, addVal, if_neg hm])
        have Hes := Hes0
        rw [addVal, if_neg hm, List.idxOf_append, if_neg hm] at Hes
        simp only [List.idxOf_cons_self, Nat.add_zero, Nat.zero_add] at Hes
        rw [if_neg hm]
        obtain ⟨A9, c9, rfl⟩ := own_slice HL2.out.vs
        clear Hes0 Hvs0 hm
        go_wp2_with (first | (at_builtin; refine wp_append_new slStr rfl (.tmp 36) (.tmp 41) rfl w1.heap.size (.slice A9 _ c9) _ _ rfl (by exact HL2.out.vs) #[.string (toB f0)] rfl rfl (by simp [Value.oneCell']) (by exact hbv) (by exact HB2.out.size) ?_; intro v9' w5 hown5 hg5; have HL5 := Lib.hid (HL2.out.addV hown5 hg5); have Hk5 := Lib.hid (Hk2.out.grown hg5 (own_blk_ne HL2.out.vs Hk2.out (by decide))); have HB5 := Lib.hid (HB2.out.grown hg5 HB2.out.size (fun k hk => (own_lt HL2.out.vs k hk).1)); have q50 := Hk5.out.cell 0; have q51 := Hk5.out.cell 1; simp only [List.getElem?_toArray, List.getElem?_cons_zero, List.getElem?_cons_succ] at q50 q51; clear hown5 hg5) | (at_builtin; refine wp_append_new slEntry rfl (.tmp 43) (.tmp 50) rfl w1.heap.size u8 _ _ rfl (by exact HL5.out.es) #[.int .i64 r.lo, .int .i64 r.hi, .int .i64 vals.length] rfl rfl (by simp [Value.oneCell']) (by exact hbe) (by exact HB5.out.size) ?_; intro v8' w6 hown6 hg6; have HL6 := Lib.hid (HL5.out.addE (e := ⟨r.lo, r.hi, vals.length⟩) hown6 hg6); have Hk6 := Lib.hid (Hk5.out.grown hg6 (own_blk_ne HL5.out.es Hk5.out (by decide))); have HB6 := Lib.hid (HB5.out.grown hg6 HB5.out.size (fun k hk => (own_lt HL5.out.es k hk).1)); have q60 := Hk6.out.cell 0; have q61 := Hk6.out.cell 1; simp only [List.getElem?_toArray, List.getElem?_cons_zero, List.getElem?_cons_succ] at q60 q61; clear hown6 hg6) | (at_builtin; refine wp_append_new slRange rfl (.tmp 52) (.tmp 58) rfl w1.heap.size u10 _ _ rfl (by exact HL6.out.gs) #[.int .i64 r.lo, .int .i64 r.hi] rfl rfl (by simp [Value.oneCell']) (by exact hbg) (by exact HB6.out.size) ?_; intro v10' w7 hown7 hg7; have HL7 := Lib.hid (HL6.out.addG (r := ⟨r.lo, r.hi⟩) hown7 hg7); have HB7 := Lib.hid (HB6.out.grown hg7 HB6.out.size (fun k hk => (own_lt HL6.out.gs k hk).1)); clear hown7 hg7))
        go_roundw
        case rel => exact ⟨k + 1, by omega, by go_num, by
          show LoadSt _ _ _ _ _ _ _ _
          rw [Hes.out, Hvs.out, Hgs.out]
          exact HL7.out, HB7.out⟩
        case measure => simp [intOf]; omega
    · obtain rfl : k = rs.length := by omega
      have HL0 := HL
      rw [List.take_length] at HL0
      have hvl := valsOf_len rs
      have hel := entsOf_len rs
      have hgl := rgsOf_len rs
      have hv0 : 0 < (valsOf rs).length := by
        obtain ⟨r, rs', rfl⟩ := List.exists_cons_of_length_pos h0
        have := foldl_vals_le rs' (addVal [] (fld0 r))
        have h2 := List.length_pos_of_mem (addVal_mem [] (fld0 r))
        have e : valsOf (r :: rs') = rs'.foldl (fun vs r => addVal vs (fld0 r)) (addVal [] (fld0 r)) := rfl
        rw [e]
        omega
      have hok2 := entsOf_ok rs Hok.out
      have hok3 : ∀ e ∈ (entsOf rs).reverse, 0 ≤ e.lo ∧ e.lo ≤ e.hi ∧ e.hi ≤ 1114111 ∧ 0 ≤ e.val ∧ e.val < (valsOf rs).length := fun e he => hok2 e (List.mem_reverse.1 he)
      have Hok3 := Lib.hid hok3
      obtain ⟨g8, c8, rfl, hg81, hg82, _, _⟩ := own_form HL0.out.es (by omega)
      obtain ⟨g9, c9, rfl, hg91, hg92, _, _⟩ := own_form HL0.out.vs hv0
      obtain ⟨A10, c10, rfl⟩ := own_slice HL0.out.gs
      have hrw := reverse_walk HL0.out.es (by omega)
      have HRW := Lib.hid hrw
      have Hel := Lib.hid hel
      have Hgl := Lib.hid hgl
      have Hvl := Lib.hid hvl
      have Hv0 := Lib.hid hv0
      clear hok2 hok3 hrw HL hel hgl hvl hv0
      go_wp2_with fail
      refine HRW.out.mono ?_
      rintro e w2 ⟨rfl, hes, hg2⟩
      have hvs2 := HL0.out.vs.kept hg2 (own_types HL0.out.vs HL0.out.es (by decide))
      have hgs2 : RgsAt w2 w1.heap.size _ (rgsOf rs) := World.ownsRow.kept HL0.out.gs hg2 (own_types HL0.out.gs HL0.out.es (by decide))
      have HB2 := Lib.hid (HB.out.grown hg2 HB.out.size (fun k hk => (own_lt HL0.out.es k hk).1))
      have HB2s := Lib.hid HB2.out.size
      have hbw := build_walk (entsOf rs).reverse (valsOf rs) w1.heap.size g8 c8 w1.heap.size g9 c9 w2 (by rw [List.length_reverse]; exact hes) hvs2 (by have := Hel.out; rw [List.length_reverse]; omega) (by have := Hvl.out; omega) Hv0.out Hok3.out
      rw [List.length_reverse] at hbw
      have HBW := Lib.hid hbw
      have Hvs2 := Lib.hid hvs2
      have Hgs2 := Lib.hid hgs2
      clear hes hg2 hvs2 hgs2 hbw HRW HL0 HB
      go_wp2_with fail
      refine HBW.out.mono ?_
      rintro e w4 ⟨p, rfl, hT, hb4⟩
      have hgs4 := own_below Hgs2.out hb4
      have hmk := make_walk (rgsOf rs) w1.heap.size _ w4 hgs4 (by have := Hgl.out; omega)
      have HMK := Lib.hid hmk
      have HB4 := Lib.hid (HB2.out.trans (hb4.mono HB2.out.size))
      have Hvs4 := Lib.hid (own_below Hvs2.out hb4)
      have HT := Lib.hid hT
      clear hgs4 hmk hb4 HBW Hvs2 Hgs2 HB2 hT
      go_wp2_with fail
      refine HMK.out.mono ?_
      rintro e w5 ⟨kv, s, rfl, hperm, hsort, hkv, hb5⟩
      have HB5 := HB4.out.trans (hb5.mono HB4.out.size)
      have hT5 := HT.out.below hb5
      have hvs5 := own_below Hvs4.out hb5
      have hc5 : w5.cell? ⟨w.heap.size, 0, none⟩ = some (.pointer none) := (HB5.cell (p := ⟨_, _, _⟩) (by show w.heap.size < _; omega)).trans (hw1.cell 0)
      have hf5 : w5.frozen? ⟨w.heap.size, 0, none⟩ = false := (HB5.frozen (p := ⟨_, _, _⟩) (by show w.heap.size < _; omega)).trans (hw1.free 0)
      have hs2 : w1.heap.size ≤ w2.heap.size := HB2s.out
      have hs4 : w1.heap.size ≤ w4.heap.size := HB4.out.size
      have hfin : ∀ W, W = w5.setCell ⟨w.heap.size, 0, none⟩ (.pointer (some ⟨p, 0, none⟩)) → LoadSaid rs w (.returned (.tuple #[.agg #[.pointer (some ⟨p, 0, none⟩)], .slice (some ⟨g9, 0, none⟩) (valsOf rs).length c9, kv])) W := by
        rintro W rfl
        refine ⟨p, _, kv, s, rfl, (hT5.above (set_above w5 _ _ _ (by omega))).base (by omega), own_base (own_above hvs5 (set_above w5 _ _ _ (by omega))) (by omega), hperm, hsort, own_base (own_above hkv (set_above w5 _ _ _ (by omega))) (by omega), (hB1.trans (HB5.mono (by omega))).setCell (p := ⟨_, _, _⟩) (Nat.le_refl _) _⟩
      have Hfin := Lib.hid hfin
      have hc6 : (w5.setCell ⟨w.heap.size, 0, none⟩ (.pointer (some ⟨p, 0, none⟩))).cell? ⟨w.heap.size, 0, none⟩ = some (.pointer (some ⟨p, 0, none⟩)) := by
        have hb5 : Blk w5 w.heap.size 46 #[Value.pointer none] := below_row' HB5 hw1 (by omega)
        rw [(hb5.set 0 _).cell 0]
        rfl
      generalize (valsOf rs).length = nv at *
      generalize (entsOf rs).length = ne at *
      generalize (rgsOf rs).length = ng at *
      clear hT5 hvs5 hperm hsort hkv hb5 HB5 hfin Hvs4 HT HMK HB4 Hel Hgl Hvl Hv0 Hok3 hw1 hB1 HR
      go_wp2_with fail
      exact bodyPost_ret (v := .tuple #[.agg #[.pointer (some ⟨p, 0, none⟩)], .slice (some ⟨g9, 0, none⟩) nv c9, kv]) (by simp [results, Tryz.results17, go_sem, hc6]) rfl (Hfin.out _ rfl)
end Go.Proofs.YtchkckfadennhaaGreatDoor
namespace Go.Proofs.YtchkckfadennhaaGreatDoor
open Go.RowKit
set_option linter.unusedVariables false
set_option linter.unusedSimpArgs false

/-- What the walks ask of the world, another variable of the library's: a table of which bytes are blanks. -/
def EnvT (w : World) : Prop := Lib.TabIs Tryz.prog w "strings.asciiSpace" .u8 Lib.asciiSpaceTab
theorem EnvT.below {w w' : World} (h : EnvT w) (hb : Below w.heap.size w w') : EnvT w' := by
  unfold EnvT Lib.TabIs World.var? at *
  have hg : Tryz.prog.globalNamed "strings.asciiSpace" = some 0 := by kernel_rfl
  rw [hg] at h ⊢
  simp only [Option.bind_some] at h ⊢
  have hl : 0 < w.heap.size := by
    rcases Nat.lt_or_ge 0 w.heap.size with h1 | h1
    · exact h1
    · rw [Array.getElem?_eq_none h1] at h
      cases h
  rw [hb.block _ hl]
  exact h
theorem fieldsGo_mem : ∀ (l cur : List UInt8), ∀ p ∈ Lib.fieldsGo cur l, ∀ b ∈ p, b ∈ cur ∨ b ∈ l
  | [], cur, p, hp, b, hb => by
    unfold Lib.fieldsGo at hp
    split at hp
    · simp at hp
    · simp at hp; subst hp; exact .inl hb
  | x :: l, cur, p, hp, b, hb => by
    unfold Lib.fieldsGo at hp
    split at hp
    · split at hp
      · rcases fieldsGo_mem l _ p hp b hb with h | h
        · simp at h
        · exact .inr (List.mem_cons_of_mem _ h)
      · rcases List.mem_cons.1 hp with rfl | hp
        · exact .inl hb
        · rcases fieldsGo_mem l _ p hp b hb with h | h
          · simp at h
          · exact .inr (List.mem_cons_of_mem _ h)
    · rcases fieldsGo_mem l _ p hp b hb with h | h
      · rcases List.mem_append.1 h with h | h
        · exact .inl h
        · simp at h; exact .inr (by simp [h])
      · exact .inr (List.mem_cons_of_mem _ h)
theorem fieldsGo_len : ∀ (l cur : List UInt8), (Lib.fieldsGo cur l).length ≤ l.length + 1
  | l, cur => by
    rw [Lib.fieldsGo_length]
    have h : ∀ (l : List UInt8) (b : Bool), Lib.cntF b l ≤ l.length := by
      intro l
      induction l with
      | nil => intro b; simp [Lib.cntF]
      | cons x l ih => intro b; unfold Lib.cntF; have := ih (Lib.isSp x); simp; split <;> omega
    have := h l cur.isEmpty
    split <;> omega
namespace Sp
def pts (s : Str) : List Nat := (Lib.fields s).filterMap hex
end Sp
def ints (l : List Nat) : List Value := l.map fun n => .int .i64 ((n : Nat) : Int)
theorem slInt : SlT Tryz.prog 57 3 1 8 := ⟨Tryz.underlying57, by kernel_rfl, by decide, by decide⟩
def PointsSaid (l : List Nat) (w : World) (e : Ending) (w' : World) : Prop := ∃ v, e = .returned v ∧ w'.ownsRow w.heap.size 3 1 v l.length (ints l) ∧ Below w.heap.size w w'
set_option maxRecDepth 100000 in
theorem points_walk (s : ByteArray) (w : World) (hs : s.size < 1000000) (ha : ∀ b ∈ s.data.toList, b.toNat < 128) (hT : EnvT w) :
    Calls Tryz.prog 25 #[.string s] w (PointsSaid (Sp.pts s.data.toList) w) := by
  have hF := Tryz.strings_Fields s w (by omega) (fun j b hj => ha b (List.mem_of_getElem? hj)) hT
  have hlen := fieldsGo_len s.data.toList []
  have hm : ∀ p ∈ Lib.fields s.data.toList, ∀ b ∈ p, b.toNat < 128 := fun p hp b hb => ha b ((fieldsGo_mem _ _ p hp b hb).resolve_left (by simp))
  rw [show Lib.fieldsGo [] s.data.toList = Lib.fields s.data.toList from rfl, blen] at hlen
  unfold Sp.pts
  generalize Lib.fields s.data.toList = ps at *
  have HF := Lib.hid hF
  have Hm := Lib.hid hm
  clear ha hT hm hF
  go_enter Tryz.func25, Tryz.ntmps25
  go_wp2_with fail
  refine HF.out.mono ?_
  rintro e w1 ⟨rfl, hw1⟩
  have hb1 : Below w.heap.size w w1 := by rw [hw1]; exact alloc_below _ _
  have hrow : Blk w1 w.heap.size 9 (ps.map fun l => Value.string ⟨l.toArray⟩).toArray := by rw [hw1]; exact row_new _ _
  have hsz : w.heap.size < w1.heap.size := by rw [hw1, size_new]; omega
  clear hw1 HF
  go_wp2_with fail
  go_loopw [3, 11] (fun v i wr => ∃ k : Nat, k ≤ ps.length ∧ i = .int .i64 k ∧ Hid (wr.ownsRow w1.heap.size 3 1 v ((ps.take k).filterMap Sp.hex).length (ints ((ps.take k).filterMap Sp.hex))) ∧ Hid (Below w1.heap.size w1 wr)) (fun _ i _ => ps.length - (intOf i).toNat)
  case atStart => exact ⟨0, by omega, rfl, (by show _; rw [List.take_zero]; exact World.ownsRow_nil _ _ _ _), Below.refl _ _⟩
  case round =>
    obtain ⟨k, hk, rfl, HR, HB⟩ := hrel
    by_cases hlt : k < ps.length
    · have hc : wr.cell? ⟨w.heap.size, k, none⟩ = some (.string ⟨ps[k].toArray⟩) := (HB.out.cell (p := ⟨_, _, _⟩) hsz).trans ((hrow.cell k).trans (by simp [hlt]))
      have hk1 : ∀ j (h : j < (⟨ps[k].toArray⟩ : ByteArray).size), ((⟨ps[k].toArray⟩ : ByteArray)[j]'h).toNat < 128 := fun j h => Hm.out ps[k] (List.getElem_mem _) _ (by
        have h' : j < ps[k].toArray.size := h
        have : (⟨ps[k].toArray⟩ : ByteArray)[j]'h = ps[k][j]'(by simpa using h') := rfl
        rw [this]
        exact List.getElem_mem _)
      have htk := List.take_succ_eq_append_getElem hlt
      have hfl : ((ps.take k).filterMap Sp.hex).length ≤ k := by
        have := List.length_filterMap_le Sp.hex (ps.take k)
        rw [List.length_take] at this
        omega
      have hsn : (ps.take (k + 1)).filterMap Sp.hex = (ps.take k).filterMap Sp.hex ++ (Sp.hex ps[k]).toList := by
        rw [htk, List.filterMap_append]
        cases h : Sp.hex ps[k] <;> simp [List.filterMap_cons, h]
      have Hsn := Lib.hid hsn
      generalize (ps.take k).filterMap Sp.hex = l at *
      have hh := fun w => hex_walk ⟨ps[k].toArray⟩ w hk1
      have HH := Lib.hid hh
      clear hk1 htk hsn hh
      go_wp2_with fail
      refine (HH.out wr).mono ?_
      rintro e w3 ⟨rfl, hb3⟩
      have HR3 := Lib.hid (own_below HR.out hb3)
      have HB3 := Lib.hid (HB.out.trans (hb3.mono HB.out.size))
      cases hx : Sp.hex ps[k] with
      | none =>
        have hs2 : (ps.take (k + 1)).filterMap Sp.hex = l := by rw [Hsn.out, hx]; simp
        have Hs2 := Lib.hid hs2
        clear hs2 HH HR HB hb3 Hsn hx
        go_wp2_with fail
        go_roundw
        case rel => exact ⟨k + 1, by omega, by go_num, by
          show _
          rw [Hs2.out]
          exact HR3.out, HB3⟩
        case measure => simp [intOf]; omega
      | some n =>
        have hs2 : (ps.take (k + 1)).filterMap Sp.hex = l ++ [n] := by rw [Hsn.out, hx]; simp
        have Hs2 := Lib.hid hs2
        have hbt : (l.length + 1) * 8 ≤ 140737488355328 := by omega
        clear hs2 HH HR HB hb3 Hsn hx
        go_wp2_with (at_builtin; refine wp_append_new slInt rfl (.tmp 21) (.tmp 23) rfl w1.heap.size u3 _ _ rfl (by exact HR3.out) #[.int .i64 n] rfl rfl (by simp [Value.oneCell']) (by exact hbt) (by exact HB3.out.size) ?_; intro v5 w5 hown5 hg5; have HB5 := Lib.hid (HB3.out.grown hg5 HB3.out.size (fun k hk => (own_lt HR3.out k hk).1)); clear hg5)
        go_roundw
        case rel => exact ⟨k + 1, by omega, by go_num, by
          show _
          rw [Hs2.out]
          unfold ints at hown5 ⊢
          rw [List.map_append, List.length_append]
          exact hown5, HB5⟩
        case measure => simp [intOf]; omega
    · obtain rfl : k = ps.length := by omega
      have hfin : PointsSaid (ps.filterMap Sp.hex) w (.returned u3) wr := by
        have h1 := HR.out
        rw [List.take_length] at h1
        exact ⟨u3, rfl, own_base h1 (by omega), hb1.trans (HB.out.mono (by omega))⟩
      clear HR HB
      go_wp2_with fail
      go_ret
      exact hfin
end Go.Proofs.YtchkckfadennhaaGreatDoor
namespace Go.Proofs.YtchkckfadennhaaGreatDoor
open Go.RowKit
set_option linter.unusedVariables false
set_option linter.unusedSimpArgs false

/-- A map from code points to rows of code points: m its block, c how often it was written, F what it holds. -/
def PtsAt (w : World) (B m c : Nat) (F : Int → Option (List Nat)) : Prop :=
  ∃ f, MapF w kInt m c f ∧ B ≤ m ∧ ∀ r, match F r with | none => f r = none | some l => ∃ v, f r = some v ∧ w.ownsRow B 3 1 v l.length (ints l)
section
variable {w w' : World} {B m c : Nat} {F : Int → Option (List Nat)}
theorem PtsAt.made (w : World) {B : Nat} (hB : B ≤ w.heap.size) : PtsAt (w.alloc (.map #[] 0)) B w.heap.size 0 (fun _ => none) := ⟨_, MapF.made w kInt, hB, fun r => rfl⟩
theorem PtsAt.lt (h : PtsAt w B m c F) : m < w.heap.size := by obtain ⟨f, h1, _⟩ := h; exact h1.lt
theorem PtsAt.below (h : PtsAt w B m c F) (hb : Below w.heap.size w w') : PtsAt w' B m c F := by
  obtain ⟨f, h1, h2, h3⟩ := h
  refine ⟨f, h1.below hb h1.lt, h2, fun r => ?_⟩
  have := h3 r
  cases hF : F r with
  | none => rw [hF] at this; exact this
  | some l => rw [hF] at this; obtain ⟨v, e, ho⟩ := this; exact ⟨v, e, own_below ho hb⟩
/-- What turns below the base and above nothing. -/
theorem PtsAt.above (h : PtsAt w B m c F) (ha : ∀ k, B ≤ k → k < w.heap.size → w'.heap[k]? = w.heap[k]?) : PtsAt w' B m c F := by
  obtain ⟨f, h1, h2, h3⟩ := h
  refine ⟨f, h1.block (ha m h2 h1.lt), h2, fun r => ?_⟩
  have := h3 r
  cases hF : F r with
  | none => rw [hF] at this; exact this
  | some l => rw [hF] at this; obtain ⟨v, e, ho⟩ := this; exact ⟨v, e, own_above ho ha⟩
theorem PtsAt.mono (h : PtsAt w B m c F) {c' : Nat} (hc : c ≤ c') : PtsAt w B m c' F := by
  obtain ⟨f, h1, h2, h3⟩ := h
  exact ⟨f, h1.mono hc, h2, h3⟩
def setP (F : Int → Option (List Nat)) (x : Int) (l : List Nat) : Int → Option (List Nat) := fun y => if y = x then some l else F y
/-- One more row. -/
theorem PtsAt.put (h : PtsAt w B m c F) {v : Value} {l : List Nat} (ho : w.ownsRow B 3 1 v l.length (ints l)) (x : Int) (hx : (Lit.int .i64 x).wf = true) (hc : c < maxLen) :
    ∃ w', (Instr.mapUpdate 42 (.map (some m)) (.int .i64 x) v).run Tryz.prog w = .ok () w' ∧ PtsAt w' B m (c + 1) (setP F x l) ∧ w.grownBy w' (some m) := by
  obtain ⟨f, h1, h2, h3⟩ := h
  obtain ⟨w', hrun, r1, r2⟩ := h1.update (t := 42) (e := 57) Tryz.underlying42 hc v x hx
  have key : ∀ (u : Value) (l : List Nat), w.ownsRow B 3 1 u l.length (ints l) → w'.ownsRow B 3 1 u l.length (ints l) := fun u l hu => hu.kept r2 (own_map_ne hu h1)
  refine ⟨w', hrun, ⟨_, r1, h2, fun r => ?_⟩, r2⟩
  unfold setP setF
  by_cases e : r = x
  · rw [if_pos e, if_pos e]
    exact ⟨v, rfl, key _ _ ho⟩
  · rw [if_neg e, if_neg e]
    have := h3 r
    cases hF : F r with
    | none => rw [hF] at this; exact this
    | some l => rw [hF] at this; obtain ⟨u, e, hu⟩ := this; exact ⟨u, e, key _ _ hu⟩
/-- Another map's turn. -/
theorem PtsAt.other (h : PtsAt w B m c F) {m' c' : Nat} {F' : Int → Option (List Nat)} (h' : PtsAt w B m' c' F') (hne : m ≠ m') (hg : w.grownBy w' (some m')) : PtsAt w' B m c F := by
  obtain ⟨f', g1, _⟩ := h'
  obtain ⟨f, h1, h2, h3⟩ := h
  refine ⟨f, h1.kept hg (by simpa using hne), h2, fun r => ?_⟩
  have := h3 r
  cases hF : F r with
  | none => rw [hF] at this; exact this
  | some l => rw [hF] at this; obtain ⟨v, e, ho⟩ := this; exact ⟨v, e, ho.kept hg (own_map_ne ho g1)⟩
theorem PtsAt.look (h : PtsAt w B m c F) (x : Int) (hx : (Lit.int .i64 x).wf = true) (com : Bool) :
    ∃ v, (Instr.lookup 42 (.map (some m)) (.int .i64 x) com).run Tryz.prog w = .ok (if com then .tuple #[v, .bool (F x).isSome] else v) w ∧ (match F x with | none => v = .slice none 0 0 | some l => w.ownsRow B 3 1 v l.length (ints l)) := by
  obtain ⟨f, h1, h2, h3⟩ := h
  have hz : (zeroValue 57).run Tryz.prog w = .ok (.slice none 0 0) w := Tryz.zeroValue57 w
  have hl := h1.look com (t := 42) (e := 57) Tryz.underlying42 hz x hx
  have := h3 x
  cases hF : F x with
  | none =>
    rw [hF] at this
    simp only at this
    rw [this] at hl
    exact ⟨_, hl, rfl⟩
  | some l =>
    rw [hF] at this
    obtain ⟨v, e, ho⟩ := this
    rw [e] at hl
    exact ⟨v, hl, ho⟩
end
/-- One record of the folding's file at one of the two maps (full or not). -/
def bump (l : List Nat) (d : Nat) : List Nat := match l with | [] => [] | n :: l => (n + d) :: l
def fld1 (r : Rec) : Sp.Str := (r.fields.drop 1).headD []
def skips (x : Rec) (full : Bool) : Bool := decide (fld0 x ≠ [67]) && ((fld0 x == [70]) != full)
def foldTo (x : Rec) (F : Int → Option (List Nat)) (r : Int) : Option (List Nat) :=
  match F r with | some l => some l | none => if (x.lo : Int) ≤ r ∧ r ≤ x.hi then some (bump (Sp.pts (fld1 x)) (r - x.lo).toNat) else none
def foldRec (x : Rec) (full : Bool) (F : Int → Option (List Nat)) : Int → Option (List Nat) := if skips x full then F else foldTo x F
structure FoldOk (x : Rec) : Prop where
  le : x.lo ≤ x.hi
  hi : x.hi ≤ 1114111
  two : ∃ a b l, x.fields = a :: b :: l
  ascii : ∀ b ∈ fld1 x, b.toNat < 128
  len : (fld1 x).length < 1000
  pts : Sp.pts (fld1 x) ≠ []
theorem pts_le (s : Sp.Str) : ∀ n ∈ Sp.pts s, n ≤ 1114111 := by
  intro n hn
  unfold Sp.pts at hn
  obtain ⟨f, _, hf⟩ := List.mem_filterMap.1 hn
  unfold Sp.hex at hf
  split at hf
  · cases hf
  · split at hf
    · split at hf
      · cases hf
      · cases hf; omega
    · cases hf
end Go.Proofs.YtchkckfadennhaaGreatDoor
namespace Go.Proofs.YtchkckfadennhaaGreatDoor
open Go.RowKit
set_option linter.unusedVariables false
set_option linter.unusedSimpArgs false

/-- Nothing that lay turns but the blocks m0 and m1. -/
structure Kept2 (m0 m1 : Nat) (w w' : World) : Prop where
  os : w'.os = w.os
  tape : w'.tape = w.tape
  output : w'.output = w.output
  size : w.heap.size ≤ w'.heap.size
  block : ∀ k, k < w.heap.size → k ≠ m0 → k ≠ m1 → w'.heap[k]? = w.heap[k]?
section
variable {m0 m1 : Nat} {w w' w'' : World}
theorem Kept2.refl (m0 m1 : Nat) (w : World) : Kept2 m0 m1 w w := ⟨rfl, rfl, rfl, Nat.le_refl _, fun _ _ _ _ => rfl⟩
theorem Kept2.trans (h : Kept2 m0 m1 w w') (h' : Kept2 m0 m1 w' w'') : Kept2 m0 m1 w w'' :=
  ⟨h'.os.trans h.os, h'.tape.trans h.tape, h'.output.trans h.output, Nat.le_trans h.size h'.size, fun k hk h0 h1 => (h'.block k (Nat.lt_of_lt_of_le hk h.size) h0 h1).trans (h.block k hk h0 h1)⟩
theorem Kept2.of_below (h : Below w.heap.size w w') : Kept2 m0 m1 w w' := ⟨h.os, h.tape, h.output, h.size, fun k hk _ _ => h.block k hk⟩
theorem Kept2.of_grown0 (h : w.grownBy w' (some m0)) : Kept2 m0 m1 w w' := ⟨h.os, h.tape, h.output, h.size, fun k hk h0 _ => h.block k hk (by simpa using h0)⟩
theorem Kept2.of_grown1 (h : w.grownBy w' (some m1)) : Kept2 m0 m1 w w' := ⟨h.os, h.tape, h.output, h.size, fun k hk _ h1 => h.block k hk (by simpa using h1)⟩
theorem Kept2.below (h : Kept2 m0 m1 w w') {B : Nat} (h0 : B ≤ m0) (h1 : B ≤ m1) (hB : B ≤ w.heap.size) : Below B w w' :=
  ⟨h.os, h.tape, h.output, h.size, fun k hk => h.block k (by omega) (by omega) (by omega)⟩
theorem Kept2.blk (h : Kept2 m0 m1 w w') {b : Nat} {t : TypeId} {cs : Array Value} (hb : Blk w b t cs) (h0 : b ≠ m0) (h1 : b ≠ m1) : Blk w' b t cs := (h.block b (heap_lt hb) h0 h1).trans hb
end
theorem EnvT.at_ {w w' : World} (h : EnvT w) {B : Nat} (hb : Below B w w') (hB : 0 < B) : EnvT w' := by
  unfold EnvT Lib.TabIs World.var? at *
  have hg : Tryz.prog.globalNamed "strings.asciiSpace" = some 0 := by kernel_rfl
  rw [hg] at h ⊢
  simp only [Option.bind_some] at h ⊢
  rw [hb.block _ hB]
  exact h
def foldPart (x : Rec) (F : Int → Option (List Nat)) (r : Nat) : Int → Option (List Nat) := fun y => if y < (r : Int) then foldTo x F y else F y
theorem foldPart_zero (x : Rec) (F : Int → Option (List Nat)) : foldPart x F x.lo = F := by
  funext y
  unfold foldPart foldTo
  split
  · cases hF : F y with
    | some l => rfl
    | none => simp only; rw [if_neg (by omega)]
  · rfl
theorem foldPart_all (x : Rec) (F : Int → Option (List Nat)) : foldPart x F (x.hi + 1) = foldTo x F := by
  funext y
  unfold foldPart
  split
  · rfl
  · unfold foldTo
    cases hF : F y with
    | some l => rfl
    | none => simp only; rw [if_neg (by omega)]
theorem foldPart_at (x : Rec) (F : Int → Option (List Nat)) (r : Nat) : foldPart x F r (r : Int) = F r := by
  unfold foldPart
  rw [if_neg (by omega)]
theorem foldPart_met (x : Rec) (F : Int → Option (List Nat)) (r : Nat) (h : (F r).isSome) : foldPart x F (r + 1) = foldPart x F r := by
  funext y
  unfold foldPart
  by_cases e : y = (r : Int)
  · subst e
    rw [if_pos (by omega), if_neg (by omega)]
    unfold foldTo
    obtain ⟨l, hl⟩ := Option.isSome_iff_exists.1 h
    rw [hl]
  · by_cases h1 : y < (r : Int)
    · rw [if_pos h1, if_pos (by omega)]
    · rw [if_neg h1, if_neg (by omega)]
theorem foldPart_new (x : Rec) (F : Int → Option (List Nat)) (r : Nat) (h : F r = none) (h1 : x.lo ≤ r) (h2 : r ≤ x.hi) : foldPart x F (r + 1) = setP (foldPart x F r) r (bump (Sp.pts (fld1 x)) (r - x.lo)) := by
  funext y
  unfold foldPart setP
  by_cases e : y = (r : Int)
  · subst e
    rw [if_pos (by omega), if_pos rfl]
    unfold foldTo
    rw [h]
    simp only
    rw [if_pos (by omega)]
    congr 2
    omega
  · rw [if_neg e]
    show _ = (if y < (r : Int) then foldTo x F y else F y)
    by_cases h3 : y < (r : Int)
    · rw [if_pos h3, if_pos (by omega)]
    · rw [if_neg h3, if_neg (by omega)]

theorem toBl (a : Sp.Str) : (toB a).toList = a := by rw [ByteArray.toList_eq]; rfl
theorem index2_0 (u v : Value) (w : World) : (Instr.index 43 (.agg #[u, v]) (.int .i64 0)).run Tryz.prog w = .ok u w := by
  simp [Instr.index, run_underlying Tryz.underlying43, asIntOf, go_sem, Tryz.sizeOf42, Tryz.isAgg42]
theorem index2_1 (u v : Value) (w : World) : (Instr.index 43 (.agg #[u, v]) (.int .i64 1)).run Tryz.prog w = .ok v w := by
  simp [Instr.index, run_underlying Tryz.underlying43, asIntOf, go_sem, Tryz.sizeOf42, Tryz.isAgg42]
structure FoldRd (W : World) (rb gf : Nat) (x : Rec) (n cf : Nat) (a0 a1 : Sp.Str) : Prop where
  blk : Blk W rb 56 #[.int .i64 x.lo, .int .i64 x.hi, .slice (some ⟨gf, 0, none⟩) n cf]
  s0 : W.cell? ⟨gf, 0, none⟩ = some (.string (toB a0))
  s1 : W.cell? ⟨gf, 1, none⟩ = some (.string (toB a1))
  lt : gf < W.heap.size
theorem FoldRd.kept {W W' : World} {rb gf : Nat} {x : Rec} {n cf : Nat} {a0 a1 : Sp.Str} {m0 m1 : Nat} (h : FoldRd W rb gf x n cf a0 a1) (hk : Kept2 m0 m1 W W') (hr0 : rb ≠ m0) (hr1 : rb ≠ m1) (hg0 : gf ≠ m0) (hg1 : gf ≠ m1) : FoldRd W' rb gf x n cf a0 a1 :=
  ⟨hk.blk h.blk hr0 hr1, (World.cell?_of_block (hk.block gf h.lt hg0 hg1)).trans h.s0, (World.cell?_of_block (hk.block gf h.lt hg0 hg1)).trans h.s1, Nat.lt_of_lt_of_le h.lt hk.size⟩
def FoldingSaid (x : Rec) (B m0 m1 c0 c1 : Nat) (F0 F1 : Int → Option (List Nat)) (w : World) (e : Ending) (w' : World) : Prop :=
  e = .returned (.tuple #[]) ∧ (∃ d0, d0 ≤ c0 + 1114112 ∧ PtsAt w' B m0 d0 (foldRec x false F0)) ∧ (∃ d1, d1 ≤ c1 + 1114112 ∧ PtsAt w' B m1 d1 (foldRec x true F1)) ∧ Kept2 m0 m1 w w'
set_option maxRecDepth 100000 in
set_option maxHeartbeats 1600000 in
theorem folding_walk {w : World} {B p m0 m1 c0 c1 : Nat} {F0 F1 : Int → Option (List Nat)} {x : Rec} {cs : Array Value} {u : Value} {b : Nat} (hT : Blk w p 48 cs) (h8 : cs[8]? = some (.map (some m0))) (h9 : cs[9]? = some (.map (some m1)))
    (hp0 : PtsAt w B m0 c0 F0) (hp1 : PtsAt w B m1 c1 F1) (hne : m0 ≠ m1) (hc0 : c0 ≤ 1000000000000) (hc1 : c1 ≤ 1000000000000) (hx : FoldOk x) (hu : w.ownsRow b 9 1 u x.fields.length (strVs x.fields)) (hE : EnvT w) (hgB : 0 < B) :
    Calls Tryz.prog 27 #[.pointer (some ⟨p, 0, none⟩), .agg #[.int .i64 x.lo, .int .i64 x.hi, u]] w (FoldingSaid x B m0 m1 c0 c1 F0 F1 w) := by
  obtain ⟨a0, a1, a2, hfs⟩ := hx.two
  have hf0 : fld0 x = a0 := by unfold fld0; rw [hfs]; rfl
  have hf1 : fld1 x = a1 := by unfold fld1; rw [hfs]; rfl
  rw [hfs] at hu
  have hnl : (a0 :: a1 :: a2).length = a2.length + 1 + 1 := rfl
  rw [hnl] at hu
  obtain ⟨gf, cf, rfl, hgf1, hgf2, hgf3, hgf4⟩ := own_form hu (by omega)
  obtain ⟨X, hX⟩ : ∃ X, X = Obj.cells #[Value.int IntKind.i64 x.lo, Value.int IntKind.i64 x.hi, Value.slice (some ⟨gf, 0, none⟩) (a2.length + 1 + 1) cf] 56 := ⟨_, rfl⟩
  have hb0 := alloc_below w X
  have hT0 := hT.below hb0
  have f8 : (w.alloc X).cell? ⟨p, 8, none⟩ = some (.map (some m0)) := (hT0.cell 8).trans h8
  have f9 : (w.alloc X).cell? ⟨p, 9, none⟩ = some (.map (some m1)) := (hT0.cell 9).trans h9
  have hg0 : gf ≠ m0 := by obtain ⟨f, hm, _⟩ := hp0; exact row_map_ne hu hm
  have hg1 : gf ≠ m1 := by obtain ⟨f, hm, _⟩ := hp1; exact row_map_ne hu hm
  have hr0 : w.heap.size ≠ m0 := by have := hp0.lt; omega
  have hr1 : w.heap.size ≠ m1 := by have := hp1.lt; omega
  have hB0 : B ≤ m0 := by obtain ⟨f, _, hm, _⟩ := hp0; exact hm
  have hB1 : B ≤ m1 := by obtain ⟨f, _, hm, _⟩ := hp1; exact hm
  have hm0 := hp0.lt
  have hRd : FoldRd (w.alloc X) w.heap.size gf x (a2.length + 1 + 1) cf a0 a1 := ⟨by rw [hX]; exact row_new _ _, (hb0.cell (p := ⟨_, _, _⟩) hgf2).trans (own_cell hu 0 _ rfl), (hb0.cell (p := ⟨_, _, _⟩) hgf2).trans (own_cell hu 1 _ rfl), Nat.lt_of_lt_of_le hgf2 hb0.size⟩
  have hE0 := hE.below hb0
  have hq0 := hp0.below hb0
  have hq1 := hp1.below hb0
  have hK0 : Kept2 m0 m1 w (w.alloc X) := Kept2.of_below hb0
  have hs0 : B ≤ (w.alloc X).heap.size := by rw [size_new]; omega
  have Hx := Lib.hid hx
  clear hT hT0 h8 h9 hp0 hp1 hu hE hb0 hx hfs
  go_enter Tryz.func27, Tryz.ntmps27
  rw [hX] at f8 f9
  go_wp2_with fail
  rw [← hX] at f8 f9 ⊢
  generalize w.alloc X = W0 at *
  clear hX f8 f9 hm0 X
  go_loopw [14] (fun i wr => ∃ k : Nat, k ≤ 2 ∧ i = .int .i64 k ∧ Hid (∃ d0, d0 ≤ c0 + 1114112 ∧ PtsAt wr B m0 d0 (if 1 ≤ k then foldRec x false F0 else F0)) ∧ Hid (∃ d1, d1 ≤ c1 + 1114112 ∧ (k < 2 → d1 ≤ c1) ∧ (PtsAt wr B m1 d1 (if 2 ≤ k then foldRec x true F1 else F1))) ∧ Hid (k = 0 → PtsAt wr B m0 c0 F0) ∧ Hid (Kept2 m0 m1 W0 wr)) (fun i _ => 2 - (intOf i).toNat)
  case atStart => exact ⟨0, by omega, rfl, ⟨c0, by omega, hq0⟩, ⟨c1, by omega, fun _ => Nat.le_refl _, hq1⟩, fun _ => hq0, Kept2.refl _ _ _⟩
  case round =>
    obtain ⟨k, hk, rfl, HP0, HP1, HPz, HK⟩ := hrel
    have HRd := Lib.hid (hRd.kept HK.out hr0 hr1 hg0 hg1)
    have HE := Lib.hid (hE0.at_ (HK.out.below hB0 hB1 hs0) hgB)
    have HRd0 := Lib.hid hRd
    have HE0 := Lib.hid hE0
    clear hRd hE0 hq0 hq1
    by_cases hlt : k < 2
    · have z0 : wr.cell? ⟨w.heap.size, 0, none⟩ = some (.int .i64 x.lo) := HRd.out.blk.cell 0
      have z1 : wr.cell? ⟨w.heap.size, 1, none⟩ = some (.int .i64 x.hi) := HRd.out.blk.cell 1
      have z2 : wr.cell? ⟨w.heap.size, 2, none⟩ = some (.slice (some ⟨gf, 0, none⟩) (a2.length + 1 + 1) cf) := HRd.out.blk.cell 2
      have z3 : wr.cell? ⟨gf, 0, none⟩ = some (.string (toB a0)) := HRd.out.s0
      rcases Nat.eq_zero_or_pos k with hk0 | hk0
      · subst hk0
        have hi0 := index2_0 (.map (some m0)) (.map (some m1)) wr
        have HQ : Hid (PtsAt wr B m0 c0 F0) := HPz.out rfl
        obtain ⟨d1, hd1, hd1b, hq1⟩ := HP1.out
        rw [if_neg (by omega)] at hq1
        have HO := Lib.hid hq1
        have hd1c := hd1b (by omega)
        clear HP0 HP1 HPz hq1 hd1b
        by_cases hC : a0 = [67]
        · have e1 : (toB a0).toList = [67] := by rw [toBl, hC]
          have hsk : skips x false = false := by unfold skips; rw [hf0, hC]; rfl
          clear hC
          have Hfr := Lib.hid (show foldRec x false F0 = foldTo x F0 by unfold foldRec; rw [hsk]; rfl)
          clear hsk
          go_wp2_with fail
          go_loopw [6] (fun i wi => ∃ r : Nat, x.lo ≤ r ∧ r ≤ x.hi + 1 ∧ i = .int .i64 r ∧ Hid (∃ d, d ≤ c0 + (r - x.lo) ∧ PtsAt wi B m0 d (foldPart x F0 r)) ∧ Hid (PtsAt wi B m1 d1 F1) ∧ Hid (Kept2 m0 m1 W0 wi)) (fun i _ => x.hi + 1 - (intOf i).toNat)
          case atStart => exact ⟨x.lo, Nat.le_refl _, by have := Hx.out.le; omega, rfl, ⟨c0, by omega, by rw [foldPart_zero]; exact HQ.out⟩, HO, HK⟩
          case round =>
            obtain ⟨r, hr1', hr2', rfl, HQ2, HO2, HK2⟩ := hrel
            clear HQ HO HK HRd HE z0 z1 z2 z3
            have HRd2 := Lib.hid (HRd0.out.kept HK2.out hr0 hr1 hg0 hg1)
            obtain ⟨d', hd', hq'⟩ := HQ2.out
            clear HQ2
            have y0 := HRd2.out.blk.cell 0
            have y1 := HRd2.out.blk.cell 1
            have y2 := HRd2.out.blk.cell 2
            simp only [List.getElem?_toArray, List.getElem?_cons_zero, List.getElem?_cons_succ] at y0 y1 y2
            have y3 := HRd2.out.s1
            have hhi := Hx.out.hi
            by_cases hle : r ≤ x.hi
            · obtain ⟨v, hlook, hv⟩ := hq'.look (r : Int) (wf_i64 (by omega) (by omega)) true
              rw [foldPart_at] at hlook hv
              have HQ3 := Lib.hid hq'
              cases hF : F0 (r : Int) with
              | some l =>
                rw [hF] at hlook
                simp only [if_true, Option.isSome_some] at hlook
                have hpm := foldPart_met x F0 r (by rw [hF]; rfl)
                have Hpm := Lib.hid hpm
                clear hv hpm hq' hF y2 y3
                go_wp2_with fail
                go_roundw
                case rel => exact ⟨r + 1, by omega, by omega, by go_num, ⟨d', by omega, by rw [Hpm.out]; exact HQ3.out⟩, HO2, HK2⟩
                case measure => simp [intOf]; omega
              | none =>
                rw [hF] at hlook
                simp only [if_true, Option.isSome_none] at hlook
                have hpn := foldPart_new x F0 r hF hr1' hle
                have hps := Hx.out.pts
                have hasc := Hx.out.ascii
                have hlen := Hx.out.len
                rw [hf1] at hpn hps hasc hlen
                have hpl := pts_le a1
                obtain ⟨n0, l0, hnl0⟩ := List.exists_cons_of_ne_nil hps
                have hn0 := hpl n0 (by rw [hnl0]; exact List.mem_cons_self)
                have hpw := fun w' hE' => points_walk (toB a1) w' (by show a1.toArray.size < _; simp; omega) (by intro b hb; exact hasc b (by simpa [toB] using hb)) hE'
                have e3 : Sp.pts (toB a1).data.toList = n0 :: l0 := by rw [← hnl0]; rfl
                rw [e3] at hpw
                rw [hnl0] at hpn
                have Hpn := Lib.hid hpn
                have HPW := Lib.hid hpw
                have HE2 := Lib.hid (HE0.out.at_ (HK2.out.below hB0 hB1 hs0) hgB)
                clear hv hpn hps hasc hlen hpl hpw hnl0 e3 hq' hF
                go_wp2_with fail
                refine (HPW.out _ HE2.out).mono ?_
                rintro e w3 ⟨v3, rfl, hv3, hb3⟩
                rw [show (n0 :: l0).length = l0.length + 1 from rfl] at hv3
                obtain ⟨g3, c3, rfl, hg31, hg32, hg33, hg34⟩ := own_form hv3 (by omega)
                have q0 : w3.drew.cell? ⟨g3, 0, none⟩ = some (.int .i64 n0) := own_cell hv3 0 _ rfl
                have q1 : w3.drew.frozen? ⟨g3, 0, none⟩ = false := own_free hv3 0
                have q2 : w3.drew.cell? ⟨w.heap.size, 0, none⟩ = some (.int .i64 x.lo) := ((HRd2.out.kept (Kept2.of_below hb3) hr0 hr1 hg0 hg1).blk.cell 0)
                have hb5 := (hb3.trans ((below_drewN w3 1).mono hb3.size)).setCell (p := ⟨g3, 0, none⟩) hg31 (.int .i64 ((n0 : Int) + ((r : Int) - x.lo)))
                have hv5 := own_set (j := 0) (u := .int .i64 ((n0 : Int) + ((r : Int) - x.lo))) (own_below hv3 (below_drewN w3 1)) (by omega)
                have e5 : (ints (n0 :: l0)).set 0 (.int .i64 ((n0 : Int) + ((r : Int) - x.lo))) = ints (bump (n0 :: l0) (r - x.lo)) := by
                  unfold ints bump
                  simp only [List.map_cons, List.set_cons_zero]
                  congr 2
                  omega
                rw [e5] at hv5
                have hBw : B ≤ wr.heap.size := by have := HQ3.out.lt; omega
                have hv6 := own_base hv5 hBw
                obtain ⟨w6, hrun, hq6, hg6⟩ := (HQ3.out.below hb5).put (l := bump (n0 :: l0) (r - x.lo)) hv6 (r : Int) (wf_i64 (by omega) (by omega)) (by unfold maxLen; omega)
                have HO6 := Lib.hid ((HO2.out.below hb5).other (HQ3.out.below hb5) (Ne.symm hne) hg6)
                have HK6 := Lib.hid ((HK2.out.trans (Kept2.of_below hb5)).trans (Kept2.of_grown0 hg6))
                have HQ6 := Lib.hid hq6
                have b1 : IntKind.i64.wrap ((r : Int) - x.lo) = (r : Int) - x.lo := by rw [IntKind.wrap_i64]; omega
                have b2 : IntKind.i64.wrap ((n0 : Int) + ((r : Int) - x.lo)) = (n0 : Int) + ((r : Int) - x.lo) := by rw [IntKind.wrap_i64]; omega
                have b3 : (0 : Int) < (l0.length : Int) + 1 := by omega
                rw [show w3.drewN 1 = w3.drew from rfl] at hrun
                clear hb5 hv5 e5 hv6 hq6 hg6 hv3 hb3 HPW HE2 HQ3 HO2 HK2 hlook
                go_wp2_with fail
                go_still_tail 9, (by kernel_rfl)
                change wpList _ _ _ _ _ w3.drew
                generalize w3.drew = W4 at *
                go_wp2_with fail
                refine ⟨?_, ?_⟩
                · (repeat apply Exists.intro)
                  refine ⟨?_, rfl⟩
                  exact ⟨r + 1, by omega, by omega, by go_num, ⟨d' + 1, by omega, by rw [Hpn.out]; exact HQ6.out⟩, HO6, HK6⟩
                · simp [intOf]; omega
            · obtain rfl : r = x.hi + 1 := by omega
              rw [foldPart_all] at hq'
              have HQ3 := Lib.hid hq'
              clear hq'
              go_wp2_with fail
              go_roundw
              case rel =>
                have hq' := HQ3.out
                exact ⟨1, by omega, rfl, ⟨d', by omega, by show PtsAt _ _ _ _ (foldRec x false F0); rw [Hfr.out]; exact hq'⟩, ⟨d1, hd1, fun _ => hd1c, HO2.out⟩, (fun h => absurd h (by omega)), HK2⟩
              case measure => simp [intOf]
        · have n1 : ¬ (toB a0).toList = [67] := by rw [toBl]; exact hC
          have e1 : ((toB a0).toList == [67]) = false := beq_eq_false_iff_ne.2 n1
          by_cases hG : a0 = [70]
          · have e2 : (toB a0).toList = [70] := by rw [toBl, hG]
            have hsk : skips x false = true := by unfold skips; rw [hf0, hG]; rfl
            clear hC hG n1
            have Hfr := Lib.hid (show foldRec x false F0 = F0 by unfold foldRec; rw [hsk]; rfl)
            clear hsk
            go_wp2_with fail
            go_roundw
            case rel => exact ⟨1, by omega, rfl, ⟨c0, by omega, by show PtsAt _ _ _ _ (foldRec x false F0); rw [Hfr.out]; exact HQ.out⟩, ⟨d1, hd1, fun _ => hd1c, HO.out⟩, (fun h => absurd h (by omega)), HK⟩
            case measure => simp [intOf]
          · have n2 : ¬ (toB a0).toList = [70] := by rw [toBl]; exact hG
            have e2 : ((toB a0).toList == [70]) = false := beq_eq_false_iff_ne.2 n2
            have hsk : skips x false = false := by unfold skips; rw [hf0, decide_eq_true hC, beq_eq_false_iff_ne.2 hG]; rfl
            clear hC hG
            have Hfr := Lib.hid (show foldRec x false F0 = foldTo x F0 by unfold foldRec; rw [hsk]; rfl)
            clear hsk
            go_wp2_with fail
            go_loopw [6] (fun i wi => ∃ r : Nat, x.lo ≤ r ∧ r ≤ x.hi + 1 ∧ i = .int .i64 r ∧ Hid (∃ d, d ≤ c0 + (r - x.lo) ∧ PtsAt wi B m0 d (foldPart x F0 r)) ∧ Hid (PtsAt wi B m1 d1 F1) ∧ Hid (Kept2 m0 m1 W0 wi)) (fun i _ => x.hi + 1 - (intOf i).toNat)
            case atStart => exact ⟨x.lo, Nat.le_refl _, by have := Hx.out.le; omega, rfl, ⟨c0, by omega, by rw [foldPart_zero]; exact HQ.out⟩, HO, HK⟩
            case round =>
              obtain ⟨r, hr1', hr2', rfl, HQ2, HO2, HK2⟩ := hrel
              clear HQ HO HK HRd HE z0 z1 z2 z3
              have HRd2 := Lib.hid (HRd0.out.kept HK2.out hr0 hr1 hg0 hg1)
              obtain ⟨d', hd', hq'⟩ := HQ2.out
              clear HQ2
              have y0 := HRd2.out.blk.cell 0
              have y1 := HRd2.out.blk.cell 1
              have y2 := HRd2.out.blk.cell 2
              simp only [List.getElem?_toArray, List.getElem?_cons_zero, List.getElem?_cons_succ] at y0 y1 y2
              have y3 := HRd2.out.s1
              have hhi := Hx.out.hi
              by_cases hle : r ≤ x.hi
              · obtain ⟨v, hlook, hv⟩ := hq'.look (r : Int) (wf_i64 (by omega) (by omega)) true
                rw [foldPart_at] at hlook hv
                have HQ3 := Lib.hid hq'
                cases hF : F0 (r : Int) with
                | some l =>
                  rw [hF] at hlook
                  simp only [if_true, Option.isSome_some] at hlook
                  have hpm := foldPart_met x F0 r (by rw [hF]; rfl)
                  have Hpm := Lib.hid hpm
                  clear hv hpm hq' hF y2 y3
                  go_wp2_with fail
                  go_roundw
                  case rel => exact ⟨r + 1, by omega, by omega, by go_num, ⟨d', by omega, by rw [Hpm.out]; exact HQ3.out⟩, HO2, HK2⟩
                  case measure => simp [intOf]; omega
                | none =>
                  rw [hF] at hlook
                  simp only [if_true, Option.isSome_none] at hlook
                  have hpn := foldPart_new x F0 r hF hr1' hle
                  have hps := Hx.out.pts
                  have hasc := Hx.out.ascii
                  have hlen := Hx.out.len
                  rw [hf1] at hpn hps hasc hlen
                  have hpl := pts_le a1
                  obtain ⟨n0, l0, hnl0⟩ := List.exists_cons_of_ne_nil hps
                  have hn0 := hpl n0 (by rw [hnl0]; exact List.mem_cons_self)
                  have hpw := fun w' hE' => points_walk (toB a1) w' (by show a1.toArray.size < _; simp; omega) (by intro b hb; exact hasc b (by simpa [toB] using hb)) hE'
                  have e3 : Sp.pts (toB a1).data.toList = n0 :: l0 := by rw [← hnl0]; rfl
                  rw [e3] at hpw
                  rw [hnl0] at hpn
                  have Hpn := Lib.hid hpn
                  have HPW := Lib.hid hpw
                  have HE2 := Lib.hid (HE0.out.at_ (HK2.out.below hB0 hB1 hs0) hgB)
                  clear hv hpn hps hasc hlen hpl hpw hnl0 e3 hq' hF
                  go_wp2_with fail
                  refine (HPW.out _ HE2.out).mono ?_
                  rintro e w3 ⟨v3, rfl, hv3, hb3⟩
                  rw [show (n0 :: l0).length = l0.length + 1 from rfl] at hv3
                  obtain ⟨g3, c3, rfl, hg31, hg32, hg33, hg34⟩ := own_form hv3 (by omega)
                  have q0 : w3.drew.cell? ⟨g3, 0, none⟩ = some (.int .i64 n0) := own_cell hv3 0 _ rfl
                  have q1 : w3.drew.frozen? ⟨g3, 0, none⟩ = false := own_free hv3 0
                  have q2 : w3.drew.cell? ⟨w.heap.size, 0, none⟩ = some (.int .i64 x.lo) := ((HRd2.out.kept (Kept2.of_below hb3) hr0 hr1 hg0 hg1).blk.cell 0)
                  have hb5 := (hb3.trans ((below_drewN w3 1).mono hb3.size)).setCell (p := ⟨g3, 0, none⟩) hg31 (.int .i64 ((n0 : Int) + ((r : Int) - x.lo)))
                  have hv5 := own_set (j := 0) (u := .int .i64 ((n0 : Int) + ((r : Int) - x.lo))) (own_below hv3 (below_drewN w3 1)) (by omega)
                  have e5 : (ints (n0 :: l0)).set 0 (.int .i64 ((n0 : Int) + ((r : Int) - x.lo))) = ints (bump (n0 :: l0) (r - x.lo)) := by
                    unfold ints bump
                    simp only [List.map_cons, List.set_cons_zero]
                    congr 2
                    omega
                  rw [e5] at hv5
                  have hBw : B ≤ wr.heap.size := by have := HQ3.out.lt; omega
                  have hv6 := own_base hv5 hBw
                  obtain ⟨w6, hrun, hq6, hg6⟩ := (HQ3.out.below hb5).put (l := bump (n0 :: l0) (r - x.lo)) hv6 (r : Int) (wf_i64 (by omega) (by omega)) (by unfold maxLen; omega)
                  have HO6 := Lib.hid ((HO2.out.below hb5).other (HQ3.out.below hb5) (Ne.symm hne) hg6)
                  have HK6 := Lib.hid ((HK2.out.trans (Kept2.of_below hb5)).trans (Kept2.of_grown0 hg6))
                  have HQ6 := Lib.hid hq6
                  have b1 : IntKind.i64.wrap ((r : Int) - x.lo) = (r : Int) - x.lo := by rw [IntKind.wrap_i64]; omega
                  have b2 : IntKind.i64.wrap ((n0 : Int) + ((r : Int) - x.lo)) = (n0 : Int) + ((r : Int) - x.lo) := by rw [IntKind.wrap_i64]; omega
                  have b3 : (0 : Int) < (l0.length : Int) + 1 := by omega
                  rw [show w3.drewN 1 = w3.drew from rfl] at hrun
                  clear hb5 hv5 e5 hv6 hq6 hg6 hv3 hb3 HPW HE2 HQ3 HO2 HK2 hlook
                  go_wp2_with fail
                  go_still_tail 9, (by kernel_rfl)
                  change wpList _ _ _ _ _ w3.drew
                  generalize w3.drew = W4 at *
                  go_wp2_with fail
                  refine ⟨?_, ?_⟩
                  · (repeat apply Exists.intro)
                    refine ⟨?_, rfl⟩
                    exact ⟨r + 1, by omega, by omega, by go_num, ⟨d' + 1, by omega, by rw [Hpn.out]; exact HQ6.out⟩, HO6, HK6⟩
                  · simp [intOf]; omega
              · obtain rfl : r = x.hi + 1 := by omega
                rw [foldPart_all] at hq'
                have HQ3 := Lib.hid hq'
                clear hq'
                go_wp2_with fail
                go_roundw
                case rel =>
                  have hq' := HQ3.out
                  exact ⟨1, by omega, rfl, ⟨d', by omega, by show PtsAt _ _ _ _ (foldRec x false F0); rw [Hfr.out]; exact hq'⟩, ⟨d1, hd1, fun _ => hd1c, HO2.out⟩, (fun h => absurd h (by omega)), HK2⟩
                case measure => simp [intOf]
      · obtain rfl : k = 1 := by omega
        have hi1 := index2_1 (.map (some m0)) (.map (some m1)) wr
        obtain ⟨d1, hd1, hd1b, hq1⟩ := HP1.out
        rw [if_neg (by omega)] at hq1
        have HQ := Lib.hid hq1
        have hd1c := hd1b (by omega)
        obtain ⟨d0, hd0, hq0⟩ := HP0.out
        rw [if_pos (by omega)] at hq0
        have HO := Lib.hid hq0
        clear HP0 HP1 HPz hq1 hd1b hq0
        by_cases hC : a0 = [67]
        · have e1 : (toB a0).toList = [67] := by rw [toBl, hC]
          have hsk : skips x true = false := by unfold skips; rw [hf0, hC]; rfl
          clear hC
          have Hfr := Lib.hid (show foldRec x true F1 = foldTo x F1 by unfold foldRec; rw [hsk]; rfl)
          clear hsk
          go_wp2_with fail
          go_loopw [6] (fun i wi => ∃ r : Nat, x.lo ≤ r ∧ r ≤ x.hi + 1 ∧ i = .int .i64 r ∧ Hid (∃ d, d ≤ d1 + (r - x.lo) ∧ PtsAt wi B m1 d (foldPart x F1 r)) ∧ Hid (PtsAt wi B m0 d0 (foldRec x false F0)) ∧ Hid (Kept2 m0 m1 W0 wi)) (fun i _ => x.hi + 1 - (intOf i).toNat)
          case atStart => exact ⟨x.lo, Nat.le_refl _, by have := Hx.out.le; omega, rfl, ⟨d1, by omega, by rw [foldPart_zero]; exact HQ.out⟩, HO, HK⟩
          case round =>
            obtain ⟨r, hr1', hr2', rfl, HQ2, HO2, HK2⟩ := hrel
            clear HQ HO HK HRd HE z0 z1 z2 z3
            have HRd2 := Lib.hid (HRd0.out.kept HK2.out hr0 hr1 hg0 hg1)
            obtain ⟨d', hd', hq'⟩ := HQ2.out
            clear HQ2
            have y0 := HRd2.out.blk.cell 0
            have y1 := HRd2.out.blk.cell 1
            have y2 := HRd2.out.blk.cell 2
            simp only [List.getElem?_toArray, List.getElem?_cons_zero, List.getElem?_cons_succ] at y0 y1 y2
            have y3 := HRd2.out.s1
            have hhi := Hx.out.hi
            by_cases hle : r ≤ x.hi
            · obtain ⟨v, hlook, hv⟩ := hq'.look (r : Int) (wf_i64 (by omega) (by omega)) true
              rw [foldPart_at] at hlook hv
              have HQ3 := Lib.hid hq'
              cases hF : F1 (r : Int) with
              | some l =>
                rw [hF] at hlook
                simp only [if_true, Option.isSome_some] at hlook
                have hpm := foldPart_met x F1 r (by rw [hF]; rfl)
                have Hpm := Lib.hid hpm
                clear hv hpm hq' hF y2 y3
                go_wp2_with fail
                go_roundw
                case rel => exact ⟨r + 1, by omega, by omega, by go_num, ⟨d', by omega, by rw [Hpm.out]; exact HQ3.out⟩, HO2, HK2⟩
                case measure => simp [intOf]; omega
              | none =>
                rw [hF] at hlook
                simp only [if_true, Option.isSome_none] at hlook
                have hpn := foldPart_new x F1 r hF hr1' hle
                have hps := Hx.out.pts
                have hasc := Hx.out.ascii
                have hlen := Hx.out.len
                rw [hf1] at hpn hps hasc hlen
                have hpl := pts_le a1
                obtain ⟨n0, l0, hnl0⟩ := List.exists_cons_of_ne_nil hps
                have hn0 := hpl n0 (by rw [hnl0]; exact List.mem_cons_self)
                have hpw := fun w' hE' => points_walk (toB a1) w' (by show a1.toArray.size < _; simp; omega) (by intro b hb; exact hasc b (by simpa [toB] using hb)) hE'
                have e3 : Sp.pts (toB a1).data.toList = n0 :: l0 := by rw [← hnl0]; rfl
                rw [e3] at hpw
                rw [hnl0] at hpn
                have Hpn := Lib.hid hpn
                have HPW := Lib.hid hpw
                have HE2 := Lib.hid (HE0.out.at_ (HK2.out.below hB0 hB1 hs0) hgB)
                clear hv hpn hps hasc hlen hpl hpw hnl0 e3 hq' hF
                go_wp2_with fail
                refine (HPW.out _ HE2.out).mono ?_
                rintro e w3 ⟨v3, rfl, hv3, hb3⟩
                rw [show (n0 :: l0).length = l0.length + 1 from rfl] at hv3
                obtain ⟨g3, c3, rfl, hg31, hg32, hg33, hg34⟩ := own_form hv3 (by omega)
                have q0 : w3.drew.cell? ⟨g3, 0, none⟩ = some (.int .i64 n0) := own_cell hv3 0 _ rfl
                have q1 : w3.drew.frozen? ⟨g3, 0, none⟩ = false := own_free hv3 0
                have q2 : w3.drew.cell? ⟨w.heap.size, 0, none⟩ = some (.int .i64 x.lo) := ((HRd2.out.kept (Kept2.of_below hb3) hr0 hr1 hg0 hg1).blk.cell 0)
                have hb5 := (hb3.trans ((below_drewN w3 1).mono hb3.size)).setCell (p := ⟨g3, 0, none⟩) hg31 (.int .i64 ((n0 : Int) + ((r : Int) - x.lo)))
                have hv5 := own_set (j := 0) (u := .int .i64 ((n0 : Int) + ((r : Int) - x.lo))) (own_below hv3 (below_drewN w3 1)) (by omega)
                have e5 : (ints (n0 :: l0)).set 0 (.int .i64 ((n0 : Int) + ((r : Int) - x.lo))) = ints (bump (n0 :: l0) (r - x.lo)) := by
                  unfold ints bump
                  simp only [List.map_cons, List.set_cons_zero]
                  congr 2
                  omega
                rw [e5] at hv5
                have hBw : B ≤ wr.heap.size := by have := HQ3.out.lt; omega
                have hv6 := own_base hv5 hBw
                obtain ⟨w6, hrun, hq6, hg6⟩ := (HQ3.out.below hb5).put (l := bump (n0 :: l0) (r - x.lo)) hv6 (r : Int) (wf_i64 (by omega) (by omega)) (by unfold maxLen; omega)
                have HO6 := Lib.hid ((HO2.out.below hb5).other (HQ3.out.below hb5) hne hg6)
                have HK6 := Lib.hid ((HK2.out.trans (Kept2.of_below hb5)).trans (Kept2.of_grown1 hg6))
                have HQ6 := Lib.hid hq6
                have b1 : IntKind.i64.wrap ((r : Int) - x.lo) = (r : Int) - x.lo := by rw [IntKind.wrap_i64]; omega
                have b2 : IntKind.i64.wrap ((n0 : Int) + ((r : Int) - x.lo)) = (n0 : Int) + ((r : Int) - x.lo) := by rw [IntKind.wrap_i64]; omega
                have b3 : (0 : Int) < (l0.length : Int) + 1 := by omega
                rw [show w3.drewN 1 = w3.drew from rfl] at hrun
                clear hb5 hv5 e5 hv6 hq6 hg6 hv3 hb3 HPW HE2 HQ3 HO2 HK2 hlook
                go_wp2_with fail
                go_still_tail 9, (by kernel_rfl)
                change wpList _ _ _ _ _ w3.drew
                generalize w3.drew = W4 at *
                go_wp2_with fail
                refine ⟨?_, ?_⟩
                · (repeat apply Exists.intro)
                  refine ⟨?_, rfl⟩
                  exact ⟨r + 1, by omega, by omega, by go_num, ⟨d' + 1, by omega, by rw [Hpn.out]; exact HQ6.out⟩, HO6, HK6⟩
                · simp [intOf]; omega
            · obtain rfl : r = x.hi + 1 := by omega
              rw [foldPart_all] at hq'
              have HQ3 := Lib.hid hq'
              clear hq'
              go_wp2_with fail
              go_roundw
              case rel =>
                have hq' := HQ3.out
                exact ⟨2, by omega, rfl, ⟨d0, hd0, HO2.out⟩, ⟨d', by omega, (fun h => absurd h (by omega)), by show PtsAt _ _ _ _ (foldRec x true F1); rw [Hfr.out]; exact hq'⟩, (fun h => absurd h (by omega)), HK2⟩
              case measure => simp [intOf]
        · have n1 : ¬ (toB a0).toList = [67] := by rw [toBl]; exact hC
          have e1 : ((toB a0).toList == [67]) = false := beq_eq_false_iff_ne.2 n1
          by_cases hG : a0 = [70]
          · have e2 : (toB a0).toList = [70] := by rw [toBl, hG]
            have hsk : skips x true = false := by unfold skips; rw [hf0, hG]; rfl
            clear hC hG n1
            have Hfr := Lib.hid (show foldRec x true F1 = foldTo x F1 by unfold foldRec; rw [hsk]; rfl)
            clear hsk
            go_wp2_with fail
            go_loopw [6] (fun i wi => ∃ r : Nat, x.lo ≤ r ∧ r ≤ x.hi + 1 ∧ i = .int .i64 r ∧ Hid (∃ d, d ≤ d1 + (r - x.lo) ∧ PtsAt wi B m1 d (foldPart x F1 r)) ∧ Hid (PtsAt wi B m0 d0 (foldRec x false F0)) ∧ Hid (Kept2 m0 m1 W0 wi)) (fun i _ => x.hi + 1 - (intOf i).toNat)
            case atStart => exact ⟨x.lo, Nat.le_refl _, by have := Hx.out.le; omega, rfl, ⟨d1, by omega, by rw [foldPart_zero]; exact HQ.out⟩, HO, HK⟩
            case round =>
              obtain ⟨r, hr1', hr2', rfl, HQ2, HO2, HK2⟩ := hrel
              clear HQ HO HK HRd HE z0 z1 z2 z3
              have HRd2 := Lib.hid (HRd0.out.kept HK2.out hr0 hr1 hg0 hg1)
              obtain ⟨d', hd', hq'⟩ := HQ2.out
              clear HQ2
              have y0 := HRd2.out.blk.cell 0
              have y1 := HRd2.out.blk.cell 1
              have y2 := HRd2.out.blk.cell 2
              simp only [List.getElem?_toArray, List.getElem?_cons_zero, List.getElem?_cons_succ] at y0 y1 y2
              have y3 := HRd2.out.s1
              have hhi := Hx.out.hi
              by_cases hle : r ≤ x.hi
              · obtain ⟨v, hlook, hv⟩ := hq'.look (r : Int) (wf_i64 (by omega) (by omega)) true
                rw [foldPart_at] at hlook hv
                have HQ3 := Lib.hid hq'
                cases hF : F1 (r : Int) with
                | some l =>
                  rw [hF] at hlook
                  simp only [if_true, Option.isSome_some] at hlook
                  have hpm := foldPart_met x F1 r (by rw [hF]; rfl)
                  have Hpm := Lib.hid hpm
                  clear hv hpm hq' hF y2 y3
                  go_wp2_with fail
                  go_roundw
                  case rel => exact ⟨r + 1, by omega, by omega, by go_num, ⟨d', by omega, by rw [Hpm.out]; exact HQ3.out⟩, HO2, HK2⟩
                  case measure => simp [intOf]; omega
                | none =>
                  rw [hF] at hlook
                  simp only [if_true, Option.isSome_none] at hlook
                  have hpn := foldPart_new x F1 r hF hr1' hle
                  have hps := Hx.out.pts
                  have hasc := Hx.out.ascii
                  have hlen := Hx.out.len
                  rw [hf1] at hpn hps hasc hlen
                  have hpl := pts_le a1
                  obtain ⟨n0, l0, hnl0⟩ := List.exists_cons_of_ne_nil hps
                  have hn0 := hpl n0 (by rw [hnl0]; exact List.mem_cons_self)
                  have hpw := fun w' hE' => points_walk (toB a1) w' (by show a1.toArray.size < _; simp; omega) (by intro b hb; exact hasc b (by simpa [toB] using hb)) hE'
                  have e3 : Sp.pts (toB a1).data.toList = n0 :: l0 := by rw [← hnl0]; rfl
                  rw [e3] at hpw
                  rw [hnl0] at hpn
                  have Hpn := Lib.hid hpn
                  have HPW := Lib.hid hpw
                  have HE2 := Lib.hid (HE0.out.at_ (HK2.out.below hB0 hB1 hs0) hgB)
                  clear hv hpn hps hasc hlen hpl hpw hnl0 e3 hq' hF
                  go_wp2_with fail
                  refine (HPW.out _ HE2.out).mono ?_
                  rintro e w3 ⟨v3, rfl, hv3, hb3⟩
                  rw [show (n0 :: l0).length = l0.length + 1 from rfl] at hv3
                  obtain ⟨g3, c3, rfl, hg31, hg32, hg33, hg34⟩ := own_form hv3 (by omega)
                  have q0 : w3.drew.cell? ⟨g3, 0, none⟩ = some (.int .i64 n0) := own_cell hv3 0 _ rfl
                  have q1 : w3.drew.frozen? ⟨g3, 0, none⟩ = false := own_free hv3 0
                  have q2 : w3.drew.cell? ⟨w.heap.size, 0, none⟩ = some (.int .i64 x.lo) := ((HRd2.out.kept (Kept2.of_below hb3) hr0 hr1 hg0 hg1).blk.cell 0)
                  have hb5 := (hb3.trans ((below_drewN w3 1).mono hb3.size)).setCell (p := ⟨g3, 0, none⟩) hg31 (.int .i64 ((n0 : Int) + ((r : Int) - x.lo)))
                  have hv5 := own_set (j := 0) (u := .int .i64 ((n0 : Int) + ((r : Int) - x.lo))) (own_below hv3 (below_drewN w3 1)) (by omega)
                  have e5 : (ints (n0 :: l0)).set 0 (.int .i64 ((n0 : Int) + ((r : Int) - x.lo))) = ints (bump (n0 :: l0) (r - x.lo)) := by
                    unfold ints bump
                    simp only [List.map_cons, List.set_cons_zero]
                    congr 2
                    omega
                  rw [e5] at hv5
                  have hBw : B ≤ wr.heap.size := by have := HQ3.out.lt; omega
                  have hv6 := own_base hv5 hBw
                  obtain ⟨w6, hrun, hq6, hg6⟩ := (HQ3.out.below hb5).put (l := bump (n0 :: l0) (r - x.lo)) hv6 (r : Int) (wf_i64 (by omega) (by omega)) (by unfold maxLen; omega)
                  have HO6 := Lib.hid ((HO2.out.below hb5).other (HQ3.out.below hb5) hne hg6)
                  have HK6 := Lib.hid ((HK2.out.trans (Kept2.of_below hb5)).trans (Kept2.of_grown1 hg6))
                  have HQ6 := Lib.hid hq6
                  have b1 : IntKind.i64.wrap ((r : Int) - x.lo) = (r : Int) - x.lo := by rw [IntKind.wrap_i64]; omega
                  have b2 : IntKind.i64.wrap ((n0 : Int) + ((r : Int) - x.lo)) = (n0 : Int) + ((r : Int) - x.lo) := by rw [IntKind.wrap_i64]; omega
                  have b3 : (0 : Int) < (l0.length : Int) + 1 := by omega
                  rw [show w3.drewN 1 = w3.drew from rfl] at hrun
                  clear hb5 hv5 e5 hv6 hq6 hg6 hv3 hb3 HPW HE2 HQ3 HO2 HK2 hlook
                  go_wp2_with fail
                  go_still_tail 9, (by kernel_rfl)
                  change wpList _ _ _ _ _ w3.drew
                  generalize w3.drew = W4 at *
                  go_wp2_with fail
                  refine ⟨?_, ?_⟩
                  · (repeat apply Exists.intro)
                    refine ⟨?_, rfl⟩
                    exact ⟨r + 1, by omega, by omega, by go_num, ⟨d' + 1, by omega, by rw [Hpn.out]; exact HQ6.out⟩, HO6, HK6⟩
                  · simp [intOf]; omega
              · obtain rfl : r = x.hi + 1 := by omega
                rw [foldPart_all] at hq'
                have HQ3 := Lib.hid hq'
                clear hq'
                go_wp2_with fail
                go_roundw
                case rel =>
                  have hq' := HQ3.out
                  exact ⟨2, by omega, rfl, ⟨d0, hd0, HO2.out⟩, ⟨d', by omega, (fun h => absurd h (by omega)), by show PtsAt _ _ _ _ (foldRec x true F1); rw [Hfr.out]; exact hq'⟩, (fun h => absurd h (by omega)), HK2⟩
                case measure => simp [intOf]
          · have n2 : ¬ (toB a0).toList = [70] := by rw [toBl]; exact hG
            have e2 : ((toB a0).toList == [70]) = false := beq_eq_false_iff_ne.2 n2
            have hsk : skips x true = true := by unfold skips; rw [hf0, decide_eq_true hC, beq_eq_false_iff_ne.2 hG]; rfl
            clear hC hG
            have Hfr := Lib.hid (show foldRec x true F1 = F1 by unfold foldRec; rw [hsk]; rfl)
            clear hsk
            go_wp2_with fail
            go_roundw
            case rel => exact ⟨2, by omega, rfl, ⟨d0, hd0, HO.out⟩, ⟨d1, by omega, (fun h => absurd h (by omega)), by show PtsAt _ _ _ _ (foldRec x true F1); rw [Hfr.out]; exact HQ.out⟩, (fun h => absurd h (by omega)), HK⟩
            case measure => simp [intOf]
    · obtain rfl : k = 2 := by omega
      obtain ⟨d0, hd0, hq0⟩ := HP0.out
      obtain ⟨d1, hd1, _, hq1⟩ := HP1.out
      rw [if_pos (by omega)] at hq0 hq1
      have hfin : FoldingSaid x B m0 m1 c0 c1 F0 F1 w (.returned (.tuple #[])) wr := ⟨rfl, ⟨d0, hd0, hq0⟩, ⟨d1, hd1, hq1⟩, hK0.trans HK.out⟩
      obtain ⟨FS, hFS⟩ : ∃ FS : Prop, FS = FoldingSaid x B m0 m1 c0 c1 F0 F1 w (.returned (.tuple #[])) wr := ⟨_, rfl⟩
      have Hfin := Lib.hid (hFS.symm ▸ hfin : FS)
      have HFS := Lib.hid hFS
      clear hFS
      clear HP0 HP1 HPz hq0 hq1 HK HRd HE hfin
      go_wp2_with fail
      exact ⟨rfl, _, results_none rfl _ _ _, HFS.out ▸ Hfin.out⟩
end Go.Proofs.YtchkckfadennhaaGreatDoor
namespace Go.Proofs.YtchkckfadennhaaGreatDoor
open Go.RowKit
set_option linter.unusedVariables false

/-! ### the parts that the decompositions' records come to -/
def partsRec (x : Rec) (F : Int → Option (List Nat)) : Int → Option (List Nat) := fun y => if (x.lo : Int) ≤ y ∧ y ≤ x.hi then some (Sp.pts (fld0 x)) else F y
def partsTo (x : Rec) (F : Int → Option (List Nat)) (r : Nat) : Int → Option (List Nat) := fun y => if (x.lo : Int) ≤ y ∧ y < r then some (Sp.pts (fld0 x)) else F y
theorem partsTo_zero (x : Rec) (F : Int → Option (List Nat)) : partsTo x F x.lo = F := by
  funext y
  unfold partsTo
  rw [if_neg (by omega)]
theorem partsTo_all (x : Rec) (F : Int → Option (List Nat)) : partsTo x F (x.hi + 1) = partsRec x F := by
  funext y
  unfold partsTo partsRec
  by_cases h : (x.lo : Int) ≤ y ∧ y ≤ x.hi
  · rw [if_pos h, if_pos (by omega)]
  · rw [if_neg h, if_neg (by omega)]
theorem partsTo_next (x : Rec) (F : Int → Option (List Nat)) (r : Nat) (h : x.lo ≤ r) : partsTo x F (r + 1) = setP (partsTo x F r) r (Sp.pts (fld0 x)) := by
  funext y
  unfold partsTo setP
  by_cases e : y = (r : Int)
  · subst e
    rw [if_pos (by omega), if_pos rfl]
  · rw [if_neg e]
    show _ = (if (x.lo : Int) ≤ y ∧ y < (r : Int) then some (Sp.pts (fld0 x)) else F y)
    by_cases h1 : (x.lo : Int) ≤ y ∧ y < (r : Int)
    · rw [if_pos h1, if_pos (by omega)]
    · rw [if_neg h1, if_neg (by omega)]
def partsOf (rs : List Rec) : Int → Option (List Nat) := rs.foldl (fun F x => partsRec x F) (fun _ => none)
theorem partsOf_snoc (rs : List Rec) (x : Rec) : partsOf (rs ++ [x]) = partsRec x (partsOf rs) := by unfold partsOf; rw [List.foldl_append]; rfl
def foldsOf (full : Bool) (rs : List Rec) : Int → Option (List Nat) := rs.foldl (fun F x => foldRec x full F) (fun _ => none)
theorem foldsOf_snoc (full : Bool) (rs : List Rec) (x : Rec) : foldsOf full (rs ++ [x]) = foldRec x full (foldsOf full rs) := by unfold foldsOf; rw [List.foldl_append]; rfl

/-! ### the files -/
structure Files where
  cat : List Rec
  comb : List Rec
  scr : List Rec
  clu : List Rec
  word : List Rec
  dec : List Rec
  fol : List Rec
structure DecOk (r : Rec) : Prop where
  ok : RecOk r
  ascii : ∀ b ∈ fld0 r, b.toNat < 128
  len : (fld0 r).length < 1000
/-- A file that load reads: neither empty nor too long. -/
structure ListOk (rs : List Rec) : Prop where
  pos : 0 < rs.length
  le : rs.length ≤ 100000
  ok : ∀ r ∈ rs, RecOk r
structure FilesOk (Φ : Files) : Prop where
  cat : ListOk Φ.cat
  comb : ListOk Φ.comb
  scr : ListOk Φ.scr
  clu : ListOk Φ.clu
  word : ListOk Φ.word
  decl : ListOk Φ.dec
  dec : ∀ r ∈ Φ.dec, DecOk r
  foll : ListOk Φ.fol
  fol : ∀ r ∈ Φ.fol, FoldOk r
def TextIs (f : FuncId) (rs : List Rec) : Prop := ∃ t, (∀ w, Calls Tryz.prog f #[] w fun e w' => e = .returned (.string t) ∧ w = w') ∧ ∀ w, Env w → Calls Tryz.prog 23 #[.string t] w (ParseSaid rs w)
structure TextsOk (Φ : Files) : Prop where
  cat : TextIs 18 Φ.cat
  comb : TextIs 19 Φ.comb
  scr : TextIs 20 Φ.scr
  clu : TextIs 21 Φ.clu
  word : TextIs 22 Φ.word
  dec : TextIs 24 Φ.dec
  fol : TextIs 26 Φ.fol

/-! ### where it lies -/
def TxAt (w : World) (B p : Nat) (rs : List Rec) : Prop := TrieAt w B p (valsOf rs) (entCur (entsOf rs).reverse)
def KnownAt (w : World) (B : Nat) (kv : Value) (rs : List Rec) : Prop := ∃ s, s.Perm (clipped (rgsOf rs)) ∧ s.Pairwise (fun a b => a.lo ≤ b.lo) ∧ RgsAt w B kv (joinAll s)
structure Five (w : World) (B : Nat) (Φ : Files) (p0 p1 p2 p3 p4 : Nat) (vv kv : Value) : Prop where
  t0 : TxAt w B p0 Φ.cat
  t1 : TxAt w B p1 Φ.comb
  t2 : TxAt w B p2 Φ.scr
  t3 : TxAt w B p3 Φ.clu
  t4 : TxAt w B p4 Φ.word
  kinds : w.ownsRow B 9 1 vv (valsOf Φ.cat).length (strVs (valsOf Φ.cat))
  known : KnownAt w B kv Φ.cat
section
variable {w w' : World} {B : Nat} {Φ : Files} {p p0 p1 p2 p3 p4 : Nat} {vv kv : Value} {rs : List Rec}
theorem TxAt.above (h : TxAt w B p rs) (ha : ∀ k, B ≤ k → k < w.heap.size → w'.heap[k]? = w.heap[k]?) : TxAt w' B p rs := TrieAt.above h ha
theorem KnownAt.above (h : KnownAt w B kv rs) (ha : ∀ k, B ≤ k → k < w.heap.size → w'.heap[k]? = w.heap[k]?) : KnownAt w' B kv rs := by
  obtain ⟨s, h1, h2, h3⟩ := h
  exact ⟨s, h1, h2, own_above h3 ha⟩
theorem Five.above (h : Five w B Φ p0 p1 p2 p3 p4 vv kv) (ha : ∀ k, B ≤ k → k < w.heap.size → w'.heap[k]? = w.heap[k]?) : Five w' B Φ p0 p1 p2 p3 p4 vv kv :=
  ⟨h.t0.above ha, h.t1.above ha, h.t2.above ha, h.t3.above ha, h.t4.above ha, own_above h.kinds ha, h.known.above ha⟩
/-- What load comes to stands when more is made, or the tables' own cells are written. -/
theorem LoadSaid.tx {e : Ending} {W : World} (h : LoadSaid rs W e w) (hB : B ≤ W.heap.size) : ∃ p vv kv, e = .returned (.tuple #[.agg #[.pointer (some ⟨p, 0, none⟩)], vv, kv]) ∧ TxAt w B p rs ∧ w.ownsRow B 9 1 vv (valsOf rs).length (strVs (valsOf rs)) ∧ KnownAt w B kv rs ∧ Below W.heap.size W w := by
  obtain ⟨p, vv, kv, s, he, ht, hv, hp, hs, hk, hb⟩ := h
  exact ⟨p, vv, kv, he, ht.base hB, own_base hv hB, ⟨s, hp, hs, own_base hk hB⟩, hb⟩
end
def tabCells (p0 p1 p2 p3 p4 : Nat) (vv kv : Value) (m : Nat) : Array Value :=
  #[.pointer (some ⟨p0, 0, none⟩), .pointer (some ⟨p1, 0, none⟩), .pointer (some ⟨p2, 0, none⟩), .pointer (some ⟨p3, 0, none⟩), .pointer (some ⟨p4, 0, none⟩), vv, kv, .map (some m), .map (some (m + 1)), .map (some (m + 2))]
/-- The tables: block m + 3; the maps: the three blocks ahead of it. -/
structure TabAt (w : World) (m : Nat) (Φ : Files) : Prop where
  tab : ∃ p0 p1 p2 p3 p4 vv kv, Blk w (m + 3) 48 (tabCells p0 p1 p2 p3 p4 vv kv m) ∧ Five w (m + 4) Φ p0 p1 p2 p3 p4 vv kv
  parts : ∃ c, c ≤ 1000000000000 ∧ PtsAt w m m c (partsOf Φ.dec)
  simple : ∃ c, c ≤ 1000000000000 ∧ PtsAt w m (m + 1) c (foldsOf false Φ.fol)
  full : ∃ c, c ≤ 1000000000000 ∧ PtsAt w m (m + 2) c (foldsOf true Φ.fol)
theorem TabAt.lt {w : World} {m : Nat} {Φ : Files} (h : TabAt w m Φ) : m + 3 < w.heap.size := by
  obtain ⟨⟨p0, p1, p2, p3, p4, vv, kv, hb, _⟩, _⟩ := h
  exact heap_lt hb
theorem TabAt.above {w w' : World} {m : Nat} {Φ : Files} (h : TabAt w m Φ) (ha : ∀ k, m ≤ k → k < w.heap.size → w'.heap[k]? = w.heap[k]?) : TabAt w' m Φ := by
  have hlt := h.lt
  obtain ⟨⟨p0, p1, p2, p3, p4, vv, kv, hb, hf⟩, ⟨c, hc, hp⟩, ⟨c0, hc0, hp0⟩, ⟨c1, hc1, hp1⟩⟩ := h
  exact ⟨⟨p0, p1, p2, p3, p4, vv, kv, (ha _ (by omega) hlt).trans hb, hf.above fun k h1 h2 => ha k (by omega) h2⟩, ⟨c, hc, hp.above ha⟩, ⟨c0, hc0, hp0.above ha⟩, ⟨c1, hc1, hp1.above ha⟩⟩
theorem TabAt.below {w w' : World} {m : Nat} {Φ : Files} (h : TabAt w m Φ) (hb : Below w.heap.size w w') : TabAt w' m Φ := h.above fun k _ hk => hb.block k hk
end Go.Proofs.YtchkckfadennhaaGreatDoor
