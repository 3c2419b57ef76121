/- trie.Ranges: all code points of a value. -/
import Derived.Test.YtchkckfadennhaaGreatDoorNotW
import Derived.Test.YtchkckfadennhaaGreatDoorRgg
namespace Go.Proofs.YtchkckfadennhaaGreatDoor
open Go.RowKit Go.Maps
set_option linter.unusedVariables false
set_option linter.unusedSimpArgs false

/-- The load of an array. -/
theorem wp_load_at {P : Program} (w : World) {ops : Array Oper} {rest : List Oper} {o : Oper} {a : Act} {Q : Exit → Act → World → Prop}
    (hg : o.guard = none) (ty : TypeId) (x : Operand) (hop : o.op = Op.load ty x) (ad : Addr) (hx : a.eval x = .pointer (some ad)) (cs : Array Value) (hc : ∀ j u, cs.toList[j]? = some u → w.cell? (ad.add j) = some u) (d : TypeDesc)
    (hu : P.underlying ty = some d) (hd : (match d with | .struct _ | .array _ _ => true | _ => false) = true) (hi : (P.info? ty).map (·.size) = some cs.size)
    (h : wpList P ops Q rest (a.put o.dst (.agg cs)) w) : wpList P ops Q (o :: rest) a w := by
  refine wpList_plain hg fun K' hK' => ?_
  have hr := r_load_at (P := P) w a.eval o ty x hop ad hx cs hc d hu hd hi
  unfold Oper.wp
  simp [hr, Result.andThen]
  exact hK' _ _ h
theorem idx_cells (cs : Array Value) (i : Nat) (hi : i < 256) (x : Value) (h : cs[i]? = some x) (w : World) : (Instr.index 98 (.agg cs) (.int .i64 (i : Int))).run Tryz.prog w = .ok x w := by
  have hu : Tryz.prog.underlying 98 = some (.array 256 21) := by kernel_rfl
  have h1 := Tryz.isAgg21 w
  have h2 := Tryz.sizeOf21 w
  have h3 : (0 : Int) ≤ (i : Int) ∧ (i : Int) < ((256 : Nat) : Int) := by omega
  simp [Instr.index, asIntOf, Sem.run_bind, run_underlying hu w, part, h1, h2, h, h3]
  intro h
  omega
theorem orBlock (q i : Nat) (h : q < 4352) (hi : i < 256) : bits .or .i64 ((q : Int) * 256) (i : Int) = ((q * 256 + i : Nat) : Int) := by
  have := bits_join .i64 63 (by decide) (fun n h₀ h₁ => by rw [IntKind.wrap_i64]; omega) 8 ((q : Int) * 256) (i : Int) (by omega) (by omega) (by omega) (by omega) (by omega) (by omega)
  rw [this]
  omega
theorem nodup_bound : ∀ (N : Nat) (l : List Nat), l.Nodup → (∀ x ∈ l, x < N) → l.length ≤ N
  | 0, l, _, h => by
    cases l with
    | nil => simp
    | cons a l => exact absurd (h a (by simp)) (by omega)
  | N + 1, l, hn, h => by
    by_cases hm : N ∈ l
    · have := nodup_bound N (l.erase N) (hn.erase N) (fun x hx => by
        have h1 := List.mem_of_mem_erase hx
        have h2 := h x h1
        have : x ≠ N := fun e => by subst e; exact (List.Nodup.not_mem_erase hn) hx
        omega)
      rw [List.length_erase_of_mem hm] at this
      have := List.length_pos_of_mem hm
      omega
    · have := nodup_bound N l hn fun x hx => by
        have := h x hx
        have : x ≠ N := fun e => hm (e ▸ hx)
        omega
      omega

/-- Which places are wanted. -/
def wantB (vals : List Sp.Str) (v : Sp.Str) (x : Int) : Bool := decide (0 ≤ x) && (vals[x.toNat]? == some v)
theorem want_get {vals : List Sp.Str} {f : Int → Int} {v : Sp.Str} {r : Int} (h0 : 0 ≤ r) (h1 : r ≤ 1114111) : trieGet vals f r = some v ↔ wantB vals v (f r) = true := by
  unfold trieGet wantB
  by_cases h : 0 ≤ f r
  · rw [if_pos ⟨h0, h1, h⟩]; simp [h]
  · rw [if_neg (fun h' => h h'.2.2)]; simp [h]
theorem cur_cell (t : TS) (b : Int) (i : Nat) (hi : i < 256) : t.cur (b * 256 + i) = t.cell (t.idx b) i := by
  unfold TS.cur
  rw [show (b * 256 + (i : Int)) / 256 = b by omega, show ((b * 256 + (i : Int)) % 256).toNat = i by omega]
/-- The ranges O of the blocks that G tells, and of the first i places of block b. -/
structure RgInv (t : TS) (wb : Int → Bool) (G : Int → Prop) (b : Int) (i : Nat) (O : List Rg) : Prop where
  set : ∀ r, 0 ≤ r → r ≤ 1114111 → (inSet O r ↔ G r ∨ (b * 256 ≤ r ∧ r < b * 256 + i ∧ wb (t.cur r) = true))
  ord : ∀ x ∈ O, x.lo ≤ x.hi
theorem RgInv.skip {t : TS} {wb : Int → Bool} {G : Int → Prop} {b : Int} {i : Nat} {O : List Rg} (h : RgInv t wb G b i O) (hw : wb (t.cur (b * 256 + i)) = false) : RgInv t wb G b (i + 1) O := by
  refine ⟨fun r h0 h1 => (h.set r h0 h1).trans ?_, h.ord⟩
  constructor
  · rintro (h | ⟨h1, h2, h3⟩)
    · exact .inl h
    · exact .inr ⟨h1, by omega, h3⟩
  · rintro (h | ⟨h1, h2, h3⟩)
    · exact .inl h
    · refine .inr ⟨h1, ?_, h3⟩
      by_cases hr : r = b * 256 + i
      · subst hr; rw [hw] at h3; cases h3
      · omega
theorem RgInv.push {t : TS} {wb : Int → Bool} {G : Int → Prop} {b : Int} {i : Nat} {O : List Rg} (h : RgInv t wb G b i O) {z : Int} (hz : z = b * 256 + i) (hw : wb (t.cur z) = true) : RgInv t wb G b (i + 1) (O ++ [⟨z, z⟩]) := by
  refine ⟨fun r h0 h1 => ?_, fun x hx => ?_⟩
  · rw [inSet_append, inSet_one, h.set r h0 h1]
    constructor
    · rintro ((h | ⟨h1, h2, h3⟩) | ⟨h1, h2⟩)
      · exact .inl h
      · exact .inr ⟨h1, by omega, h3⟩
      · obtain rfl : r = z := by simp only at h1 h2; omega
        exact .inr ⟨by omega, by omega, hw⟩
    · rintro (h | ⟨h1, h2, h3⟩)
      · exact .inl (.inl h)
      · by_cases hr : r = z
        · subst hr; exact .inr ⟨Int.le_refl _, Int.le_refl _⟩
        · exact .inl (.inr ⟨h1, by omega, h3⟩)
  · rcases List.mem_append.1 hx with hx | hx
    · exact h.ord x hx
    · simp at hx; subst hx; exact Int.le_refl _
theorem RgInv.join {t : TS} {wb : Int → Bool} {G : Int → Prop} {b : Int} {i : Nat} {O : List Rg} {l : Rg} (h : RgInv t wb G b i (O ++ [l])) {z : Int} (hz : z = b * 256 + i) (hl : l.hi = z - 1) (hw : wb (t.cur z) = true) : RgInv t wb G b (i + 1) (O ++ [⟨l.lo, z⟩]) := by
  have hlo := h.ord l (by simp)
  refine ⟨fun r h0 h1 => ?_, fun x hx => ?_⟩
  · have hs := h.set r h0 h1
    rw [inSet_append, inSet_one] at hs ⊢
    constructor
    · rintro (h | ⟨h1, h2⟩)
      · rcases hs.1 (.inl h) with h | ⟨h1, h2, h3⟩
        · exact .inl h
        · exact .inr ⟨h1, by omega, h3⟩
      · by_cases hr : r = z
        · subst hr; exact .inr ⟨by omega, by omega, hw⟩
        · rcases hs.1 (.inr ⟨h1, by simp only at h2; omega⟩) with h | ⟨h1, h2, h3⟩
          · exact .inl h
          · exact .inr ⟨h1, by omega, h3⟩
    · rintro (h | ⟨h1, h2, h3⟩)
      · rcases hs.2 (.inl h) with h | ⟨h1, h2⟩
        · exact .inl h
        · exact .inr ⟨h1, by simp only; omega⟩
      · by_cases hr : r = z
        · subst hr; exact .inr ⟨by simp only; omega, Int.le_refl _⟩
        · rcases hs.2 (.inr ⟨h1, by omega, h3⟩) with h | ⟨h1, h2⟩
          · exact .inl h
          · exact .inr ⟨h1, by simp only; omega⟩
  · rcases List.mem_append.1 hx with hx | hx
    · exact h.ord x (by simp [hx])
    · simp at hx; subst hx; simp only; omega
theorem RgInv.at0 {t : TS} {wb : Int → Bool} {G : Int → Prop} {O : List Rg} (h : RgInv t wb G 0 0 O) (b : Int) : RgInv t wb G b 0 O := by
  refine ⟨fun r h0 h1 => (h.set r h0 h1).trans ?_, h.ord⟩
  constructor
  · rintro (h | ⟨h1, h2, h3⟩)
    · exact .inl h
    · omega
  · rintro (h | ⟨h1, h2, h3⟩)
    · exact .inl h
    · omega
def lenOk (O : List Rg) (n : Nat) (b : Int) (q : Nat) : Prop := O.length ≤ 256 * n + (if 0 ≤ b ∧ b ≤ 4351 then q else 0)
theorem lenOk.more {O O' : List Rg} {n : Nat} {b : Int} {q : Nat} (h : lenOk O n b q) (hb : 0 ≤ b ∧ b ≤ 4351) (hO : O'.length ≤ O.length + 1) : lenOk O' n b (q + 1) := by
  unfold lenOk at *
  rw [if_pos hb] at *
  omega
theorem lenOk.same {O O' : List Rg} {n : Nat} {b : Int} {q : Nat} (h : lenOk O n b q) (hO : O'.length ≤ O.length) : lenOk O' n b (q + 1) := by
  unfold lenOk at *
  split at h
  · rw [if_pos (by assumption)]; omega
  · rw [if_neg (by assumption)]; omega
theorem TS.cell_val {t : TS} {nv : Nat} (h : t.Inv nv) (k j : Nat) (hk : k < t.blocks.length) (hj : j < 256) : -1 ≤ t.cell k j ∧ t.cell k j < nv := by
  have hm : t.blk k ∈ t.blocks := by
    unfold TS.blk
    rw [List.getD_eq_getElem?_getD, List.getElem?_eq_getElem (by simpa using hk)]
    exact List.getElem_mem _
  have hl := h.len _ hm
  refine h.vals _ hm _ ?_
  unfold TS.cell
  rw [List.getD_eq_getElem?_getD, List.getElem?_eq_getElem (by omega)]
  exact List.getElem_mem _
def keysG (t : TS) (wb : Int → Bool) (left : Int → Bool) (r : Int) : Prop := (t.first (r / 256)).isSome = true ∧ left (r / 256) = false ∧ wb (t.cur r) = true
theorem RgInv.next {t : TS} {wb left : Int → Bool} {b : Int} {O : List Rg} (h : RgInv t wb (keysG t wb left) b 256 O) (hl : left b = true) (hf : (t.first b).isSome = true) : RgInv t wb (keysG t wb fun y => left y && !decide (y = b)) 0 0 O := by
  refine ⟨fun r h0 h1 => (h.set r h0 h1).trans ?_, h.ord⟩
  unfold keysG
  constructor
  · rintro (⟨h1, h2, h3⟩ | ⟨h1, h2, h3⟩)
    · exact .inl ⟨h1, by show (left (r / 256) && _) = false; rw [h2]; rfl, h3⟩
    · have e : r / 256 = b := by omega
      exact .inl ⟨by rw [e]; exact hf, by show (left (r / 256) && _) = false; rw [e]; simp, h3⟩
  · rintro (⟨h1, h2, h3⟩ | ⟨h1, h2, h3⟩)
    · by_cases e : r / 256 = b
      · exact .inr ⟨by omega, by omega, h3⟩
      · refine .inl ⟨h1, ?_, h3⟩
        simpa [e] using h2
    · omega
theorem RgInv.start (t : TS) (wb : Int → Bool) : RgInv t wb (keysG t wb fun x => (intO (t.first x)).isSome) 0 0 [] := by
  refine ⟨fun r h0 h1 => ?_, by simp⟩
  constructor
  · intro h; exact absurd h (inSet_nil r)
  · rintro (⟨h1, h2, h3⟩ | ⟨h1, h2, h3⟩)
    · have : (intO (t.first (r / 256))).isSome = (t.first (r / 256)).isSome := by unfold intO; cases t.first (r / 256) <;> rfl
      have h2' : (intO (t.first (r / 256))).isSome = false := h2
      rw [this, h1] at h2'
      cases h2'
    · omega
theorem RgInv.done {t : TS} {nv : Nat} (ht : t.Inv nv) {vals : List Sp.Str} {v : Sp.Str} {left : Int → Bool} {O : List Rg} (h : RgInv t (wantB vals v) (keysG t (wantB vals v) left) 0 0 O) (hl : ∀ x, kInt.ok x → left x = false) {f : Int → Int} (hf : ∀ r, 0 ≤ r → r ≤ 1114111 → t.cur r = f r) :
    ∀ r, 0 ≤ r → r ≤ 1114111 → (inSet O r ↔ trieGet vals f r = some v) := by
  intro r h0 h1
  rw [h.set r h0 h1, want_get h0 h1, ← hf r h0 h1]
  unfold keysG
  constructor
  · rintro (⟨_, _, h3⟩ | ⟨h1, h2, h3⟩)
    · exact h3
    · omega
  · intro h3
    refine .inl ⟨?_, hl _ (wf_i64 (by omega) (by omega)), h3⟩
    cases hb : t.first (r / 256) with
    | some k => rfl
    | none =>
      exfalso
      have e : t.cur r = -1 := by
        unfold TS.cur TS.idx
        rw [hb]
        exact (ht.who (-1) 0 ht.none0).2.2 _ (by omega)
      rw [e] at h3
      unfold wantB at h3
      simp at h3
/-- A store into a row of one's own. -/
theorem grown_set (w : World) (g j : Nat) (u : Value) : w.grownBy (w.setCell ⟨g, j, none⟩ u) (some g) := ⟨rfl, rfl, rfl, by simp [World.setCell], fun k hk hne => Below.heap_setCell w ⟨g, j, none⟩ u k (by show k ≠ g; intro h; exact hne (by rw [h]))⟩
theorem bools_set (L : List Bool) (j : Nat) (b : Bool) : (L.map Value.bool).toArray.setIfInBounds j (.bool b) = ((L.set j b).map Value.bool).toArray := by
  simp [List.map_set]
def Wants (vals : List Sp.Str) (v : Sp.Str) (k : Nat) (L : List Bool) : Prop := L.length = vals.length + 1 ∧ L[0]? = some false ∧ ∀ j s, j < k → vals[j]? = some s → L[j + 1]? = some (s == v)
theorem Wants.start (vals : List Sp.Str) (v : Sp.Str) : Wants vals v 0 (List.replicate (vals.length + 1) false) := ⟨by simp, by simp, fun j s hj => by omega⟩
theorem Wants.step {vals : List Sp.Str} {v : Sp.Str} {k : Nat} {L : List Bool} (h : Wants vals v k L) (hk : k < vals.length) {b : Bool} (hb : b = (vals[k] == v)) : Wants vals v (k + 1) (L.set (k + 1) b) := by
  obtain ⟨h1, h2, h3⟩ := h
  refine ⟨by simp [h1], by rw [List.getElem?_set_ne (by omega)]; exact h2, fun j s hj hs => ?_⟩
  by_cases e : j = k
  · subst e
    rw [List.getElem?_set_self (by omega), hb]
    rw [List.getElem?_eq_getElem hk] at hs
    injection hs with hs
    rw [hs]
  · rw [List.getElem?_set_ne (by omega)]
    exact h3 j s (by omega) hs
theorem Wants.get {vals : List Sp.Str} {v : Sp.Str} {L : List Bool} (h : Wants vals v vals.length L) {x : Int} {y : Nat} (hy : x + 1 = y) (hx : x < vals.length) : L[y]? = some (wantB vals v x) := by
  obtain ⟨h1, h2, h3⟩ := h
  unfold wantB
  cases y with
  | zero =>
    rw [h2, decide_eq_false (by omega)]
    rfl
  | succ j =>
    have e : x = j := by omega
    subst e
    have hj : j < vals.length := by omega
    rw [h3 j vals[j] hj (List.getElem?_eq_getElem hj), decide_eq_true (by omega)]
    simp [hj]
set_option maxRecDepth 100000 in
set_option maxHeartbeats 1600000 in
theorem ranges_walk {w : World} {B p : Nat} {vals : List Sp.Str} {f : Int → Int} (h : TrieAt w B p vals f) (v : Sp.Str) (hvl : vals.length ≤ 1000000) :
    Calls Tryz.prog 31 #[.pointer (some ⟨p, 0, none⟩), .string ⟨v.toArray⟩] w (SetIs (fun r => trieGet vals f r = some v) w) := by
  obtain ⟨v0, m, v2, t, c, wm, hst, hc, hf, hz⟩ := h
  obtain ⟨g, cap, rfl, hbg, hgl, hnc, hcm⟩ := hst.form
  unfold maxLen at hcm
  obtain ⟨A0, cp0, rfl⟩ := own_slice hst.hv0
  have c0 : w.cell? ⟨p, 0, none⟩ = some (.slice A0 vals.length cp0) := hst.ptr.cell 0
  have c1 : w.cell? ⟨p, 1, none⟩ = some (.map (some m)) := hst.ptr.cell 1
  have c2 : w.cell? ⟨p, 2, none⟩ = some (.slice (some ⟨g, 0, none⟩) t.blocks.length cap) := hst.ptr.cell 2
  have hpos := hst.inv.pos
  have hpl : p < w.heap.size := heap_lt hst.ptr
  have d0 : ((t.blocks.length : Int) == 0) = false := by rw [beq_eq_false_iff_ne]; omega
  have hmk : ∀ W : World, (Instr.makeSlice 96 (.int .i64 ((vals.length : Int) + 1)) (.int .i64 ((vals.length : Int) + 1))).run Tryz.prog W = .ok (.slice (some ⟨W.heap.size, 0, none⟩) (vals.length + 1) (vals.length + 1)) (W.alloc (.cells (madeCells #[.bool false] (vals.length + 1)) 4)) := fun W => run_make_row' 96 4 (.bool false) 1 Tryz.underlying96 (by kernel_rfl) rfl .i64 .i64 (vals.length + 1) (by omega) (by omega) W
  have hZm : madeCells #[.bool false] (vals.length + 1) = ((List.replicate (vals.length + 1) false).map Value.bool).toArray := by rw [← Array.toList_inj, toList_madeCells_one]; simp
  rw [hZm] at hmk
  have hw0 := Wants.start vals v
  generalize List.replicate (vals.length + 1) false = L0 at *
  have hrow := row_new w (Obj.cells (L0.map Value.bool).toArray 4)
  have hsz := size_new w (Obj.cells (L0.map Value.bool).toArray 4)
  have hb0 := alloc_below w (Obj.cells (L0.map Value.bool).toArray 4)
  have Hst := Lib.hid hst
  have Hf := Lib.hid hf
  have Hz := Lib.hid hz
  clear hZm hst hf hz
  go_enter Tryz.func31, Tryz.ntmps31
  go_wp2_with fail
  generalize w.alloc (Obj.cells (L0.map Value.bool).toArray 4) = W1 at *
  have HL0 := Lib.hid hw0
  have HB0 := Lib.hid hb0
  have Hrow := Lib.hid (show Blk W1 w.heap.size 4 (L0.map Value.bool).toArray from hrow)
  have Hsz := Lib.hid hsz
  have c0' := cell_later hb0 c0
  clear hw0 hb0 hrow hmk hsz
  go_wp2_with fail
  go_loopw [37] (fun i wr => ∃ (k : Nat) (L : List Bool), k ≤ vals.length ∧ i = .int .i64 k ∧ Hid (Wants vals v k L) ∧ Hid (Blk wr w.heap.size 4 (L.map Value.bool).toArray) ∧ Hid (Below w.heap.size w wr) ∧ Hid (wr.heap.size = w.heap.size + 1)) (fun i _ => vals.length - (intOf i).toNat)
  case atStart => exact ⟨0, L0, by omega, rfl, HL0, Hrow, HB0, Hsz⟩
  case round =>
    obtain ⟨k, L, hk, rfl, HL, HR, HB, HS⟩ := hrel
    clear HL0 Hrow HB0 c0'
    by_cases hlt : k < vals.length
    · obtain ⟨gv, cv, e, _, hgvl, _, hcv⟩ := own_form Hst.out.hv0 (by omega)
      cases e
      unfold maxLen at hcv
      have cy : wr.cell? ⟨gv, k, none⟩ = some (.string ⟨vals[k].toArray⟩) := cell_later HB.out (own_cell Hst.out.hv0 k _ (by unfold strVs; rw [List.getElem?_map, List.getElem?_eq_getElem hlt]; rfl))
      have Hstep := Lib.hid (fun b hb => HL.out.step hlt (b := b) hb)
      generalize vals[k] = s at *
      have hLl := HL.out.1
      obtain ⟨u, hu⟩ : ∃ u, wr.cell? ⟨w.heap.size, k + 1, none⟩ = some u := ⟨.bool (L[k + 1]'(by omega)), by rw [HR.out.cell]; simp⟩
      have hfr := HR.out.free (k + 1)
      have HR2 := fun b => HR.out.set (k + 1) (.bool b)
      simp only [bools_set] at HR2
      have HR3 := Lib.hid HR2
      have HB2 := fun b => HB.out.setCell (p := ⟨w.heap.size, k + 1, none⟩) (Nat.le_refl _) (.bool b)
      have HB3 := Lib.hid HB2
      have HS2 := Lib.hid (show ∀ b, (wr.setCell ⟨w.heap.size, k + 1, none⟩ (.bool b)).heap.size = w.heap.size + 1 from fun b => by rw [← HS.out]; simp [World.setCell])
      obtain ⟨b, hb⟩ : ∃ b, b = (s == v) := ⟨_, rfl⟩
      have HL3 := Lib.hid (Hstep.out b hb)
      have Hb := Lib.hid hb
      clear HR2 HB2 HL HR HB hLl Hstep hb
      go_wp2_with fail
      go_roundw
      case rel => exact ⟨k + 1, _, by omega, by go_num, HL3, by rw [Hb.out]; exact HR3.out _, HB3.out _, HS2.out _⟩
      case measure => simp [intOf]; omega
    · obtain rfl : k = vals.length := by omega
      have Hw := Lib.hid (fun (x : Int) (y : Nat) (hy : x + 1 = y) (hx : x < vals.length) => HL.out.get hy hx)
      have hLl := HL.out.1
      obtain ⟨wq, hwq⟩ : ∃ wq, wq = wr := ⟨_, rfl⟩
      rw [← hwq] at HB HR HS ⊢
      clear hwq HL c0
      have HT := Lib.hid (Hst.out.below HB.out)
      have d1 := cell_later HB.out c1
      have hml := HT.out.hm.lt
      go_wp2_with (at_range; refine wp_rangeF wq rfl (.tmp 53) 92 rfl kInt Tryz.underlying92 m c _ rfl (by exact HT.out.hm) ?_; intro w3 cnt0 hrg3 hg3 hs3; have HRg3 := Lib.hid hrg3; have HG3 := Lib.hid hg3; clear hrg3 hg3)
      go_frame
      have HB3 := Lib.hid (Below.grown (Below.refl wq.heap.size wq) HG3.out (Nat.le_refl _) (fun k hk => by cases hk))
      generalize hr0 : wq.heap.size = r0 at *
      have hbw : w.heap.size < r0 := by have := HS.out; omega
      clear HG3 d1 hk hlt
      go_loopw [8] (fun u8 wr => ∃ (left : Int → Bool) (cnt : Nat) (O : List Rg) (Ks : List Nat), Hid (Ranging wr kInt m r0 c (fun i => intO (t.first i)) left cnt) ∧ Hid (RgsAt wr (r0 + 1) u8 O) ∧ Hid (RgInv t (wantB vals v) (keysG t (wantB vals v) left) 0 0 O) ∧ Hid (O.length ≤ 256 * Ks.length) ∧ Hid (Ks.Nodup ∧ ∀ q ∈ Ks, q < 4352 ∧ left (q : Int) = false) ∧ Hid (Below r0 wq wr) ∧ r0 + 1 ≤ wr.heap.size) (fun _ wr => wr.rangeLeft m r0)
      case atStart => exact ⟨_, cnt0, [], [], HRg3, World.ownsRow_nil _ _ _ _, RgInv.start _ _, (by show _ ≤ _; simp), ⟨List.nodup_nil, by simp⟩, HB3, by omega⟩
      case round =>
        obtain ⟨left, cnt, O, Ks, HRg, HO, HI, HOl, HK, HBr, hsz⟩ := hrel
        clear HRg3 HB3
        have hms : Hid (wr.rangeLeft m r0 = cnt) := HRg.out.left_eq
        by_cases h0 : cnt = 0
        · have hKl := nodup_bound 4352 Ks HK.out.1 (fun q hq => (HK.out.2 q hq).1)
          have hOl := HOl.out
          go_wp2_with (at_next; refine wp_nextF wr rfl (.tmp 54) rfl kInt m r0 c _ _ _ rfl HRg.out ?_ (fun x v w' cnt' _ _ _ _ hlt => absurd hlt (by omega)); intro hc0 hl0; have HL0 := Lib.hid hl0; clear hl0 hc0 HRg)
          refine (make_walk O (r0 + 1) u8 wr HO.out (by omega)).mono ?_
          rintro e w5 ⟨v5, s5, rfl, hperm, hsort, hr5, hb5⟩
          have hfin : SetIs (fun r => trieGet vals f r = some v) w (.returned v5) w5 := by
            obtain ⟨k1, k2⟩ := make_set hperm hsort
            have hd := HI.out.done HT.out.inv HL0.out Hf.out
            have hB := HB.out.trans (HBr.out.mono (by omega))
            refine ⟨v5, _, rfl, own_base hr5 hB.size, k1, fun r => ?_, hB.trans (hb5.mono hB.size)⟩
            rw [k2]
            constructor
            · rintro ⟨h1, h2⟩
              exact (hd r h1.1 h1.2).1 h2
            · intro h
              have h1 : 0 ≤ r ∧ r ≤ 1114111 := by
                have h' : trieGet vals f r = some v := h
                unfold trieGet at h'
                split at h'
                · omega
                · cases h'
              exact ⟨h1, (hd r h1.1 h1.2).2 h⟩
          clear hperm hsort hr5 hb5 HO HI HK
          go_wp2_with fail
          go_ret
          exact hfin
        · have Hnext := Lib.hid (show ∀ (b : Int) (v4 : Value) (w4 : World), intO (t.first b) = some v4 → Below r0 wq w4 → ∃ (k : Nat) (CS : Array Value), v4 = .int .i64 k ∧ k < t.blocks.length ∧ t.idx b = k ∧ (t.first b).isSome = true ∧ w4.cell? ⟨p, 2, none⟩ = some (.slice (some ⟨g, 0, none⟩) t.blocks.length cap) ∧ (∀ j u, CS.toList[j]? = some u → w4.cell? ((⟨g, k * 256, none⟩ : Addr).add j) = some u) ∧ (Tryz.prog.info? 98).map (·.size) = some CS.size ∧ ∀ i, i < 256 → CS[i]? = some (.int .i32 (t.cell k i)) from fun b v4 w4 hf4 hb4 => by
            unfold intO at hf4
            obtain ⟨x, hx, rfl⟩ := Option.map_eq_some_iff.1 hf4
            obtain ⟨x0, x1⟩ := HT.out.inv.fst b x hx
            obtain ⟨k, rfl⟩ := Int.eq_ofNat_of_zero_le x0
            have hkl : k < t.blocks.length := by omega
            have hbl : (t.blk k).length = 256 := HT.out.inv.len _ (by unfold TS.blk; rw [List.getD_eq_getElem?_getD, List.getElem?_eq_getElem (by simpa using hkl)]; exact List.getElem_mem _)
            refine ⟨k, ((t.blk k).map (Value.int .i32)).toArray, rfl, hkl, by unfold TS.idx; rw [hx]; rfl, by rw [hx]; rfl, (hb4.cell (p := ⟨p, 2, none⟩) (by show p < r0; omega)).trans (HT.out.ptr.cell 2), ?_, ?_, ?_⟩
            · intro j u hu
              have hj : j < 256 := by
                have := (List.getElem?_eq_some_iff.1 hu).1
                simpa [hbl] using this
              rw [add_plain, hb4.cell (p := ⟨g, k * 256 + j, none⟩) (by show g < r0; omega), HT.out.cell k j hkl hj, ← hu]
              simp only [List.toList_toArray, List.getElem?_map]
              rw [List.getElem?_eq_getElem (by omega)]
              simp [TS.cell, hbl, hj]
            · have : (Tryz.prog.info? 98).map (·.size) = some 256 := by kernel_rfl
              rw [this]
              simp [hbl]
            · intro i hi
              simp only [List.getElem?_toArray, List.getElem?_map]
              rw [List.getElem?_eq_getElem (by omega)]
              simp [TS.cell, hbl, hi])
          go_wp2_with (first | (refine wp_load_at w4 rfl 98 (.tmp 65) rfl ⟨g, k * 256, none⟩ rfl CS (by exact ecs) (.array 256 21) (by kernel_rfl) rfl (by exact esz) ?_) | (at_next; refine wp_nextF wr rfl (.tmp 54) rfl kInt m r0 c _ _ _ rfl HRg.out (fun h => absurd h h0) ?_; intro b v4 w4 cnt4 hok4 hleft4 hf4 hrg4 hlt4 hg4 hs4 hen4; have hb4 := HBr.out.grown hg4 (by omega) (fun k hk => by cases hk; exact Nat.le_refl _); obtain ⟨k, CS, rfl, hk1, hk2, hk3, e2, ecs, esz, hCS⟩ := Hnext.out b v4 w4 hf4 hb4; have hen5 : (Instr.entry (.pointer (some ⟨r0, 0, none⟩))).run Tryz.prog w4 = .ok (.tuple #[.int .i64 b, .int .i64 k]) w4 := hen4; have HRg4 := Lib.hid hrg4; have HO4 := Lib.hid (World.ownsRow.kept HO.out hg4 (HRg.out.own_ne HO.out).1); have HB4 := Lib.hid hb4; have Hl4 := Lib.hid hleft4; have HCS := Lib.hid hCS; have Hk2 := Lib.hid hk2; have Hk3 := Lib.hid hk3; clear hrg4 hg4 hen4 hleft4 hf4 hok4 hb4 hCS hk2 hk3))
          obtain ⟨Wo, hWo⟩ : ∃ Wo, Wo = wr := ⟨_, rfl⟩
          rw [← hWo] at hms
          have HWo := Lib.hid hWo
          clear hWo
          have hKl := nodup_bound 4352 Ks HK.out.1 (fun q hq => (HK.out.2 q hq).1)
          go_loopw [8, 67] (fun u8 i wr => ∃ (q : Nat) (O : List Rg), q ≤ 256 ∧ i = .int .i64 q ∧ Hid (RgsAt wr (r0 + 1) u8 O) ∧ Hid (RgInv t (wantB vals v) (keysG t (wantB vals v) left) b q O) ∧ Hid (lenOk O Ks.length b q) ∧ Hid (Below r0 wq wr) ∧ Hid (Ranging wr kInt m r0 c (fun i => intO (t.first i)) (fun y => left y && !decide (y = b)) cnt4) ∧ r0 + 1 ≤ wr.heap.size) (fun _ i _ => 256 - (intOf i).toNat)
          case atStart => exact ⟨0, O, by omega, rfl, HO4, HI.out.at0 b, Nat.le_trans HOl.out (Nat.le_add_right _ _), HB4, HRg4, by omega⟩
          case round =>
            obtain ⟨q, O1, hq, rfl, HO1, HI1, HL1, HB1, HR1, hsz1⟩ := hrel
            clear HO4 HB4 HRg4 HO HI HOl HBr e2 ecs esz
            by_cases hlt : q < 256
            · obtain ⟨x0, x1⟩ := TS.cell_val HT.out.inv k q hk1 hlt
              have Hcur := Lib.hid (show t.cur (b * 256 + q) = t.cell k q by rw [cur_cell t b q hlt, Hk2.out])
              obtain ⟨y, hy⟩ := Int.eq_ofNat_of_zero_le (show 0 ≤ t.cell k q + 1 by omega)
              have hcx : t.cell k q = (y : Int) - 1 := by omega
              have hix := fun w => idx_cells CS q hlt _ (HCS.out q hlt) w
              rw [hcx] at hix Hcur x0 x1
              have cw : wr.cell? ⟨w.heap.size, y, none⟩ = some (.bool (wantB vals v ((y : Int) - 1))) := by
                rw [HB1.out.cell (p := ⟨w.heap.size, y, none⟩) hbw, HR.out.cell]
                have := Hw.out ((y : Int) - 1) y (by omega) x1
                simp [this]
              have hyl : y < vals.length + 1 := by omega
              have hle := HL1.out
              clear hy hcx
              generalize hwb : wantB vals v ((y : Int) - 1) = wb at *
              have Hwb := Lib.hid hwb
              clear hwb
              cases wb with
              | false =>
                have HI2 := Lib.hid (HI1.out.skip (by rw [Hcur.out, Hwb.out]))
                have HL2 := Lib.hid (HL1.out.same (Nat.le_refl _))
                go_wp2_with fail
                refine ⟨⟨q + 1, O1, by omega, by go_num, HO1, HI2, HL2, HB1, HR1, hsz1⟩, ?_⟩
                simp [intOf]
                omega
              | true =>
                have hin : 0 ≤ b ∧ b ≤ 4351 := by
                  by_cases hz : b * 256 + (q : Int) < 0 ∨ 1114111 < b * 256 + (q : Int)
                  · have h1 := Hz.out _ hz
                    rw [Hcur.out] at h1
                    have h2 := Hwb.out
                    rw [h1] at h2
                    cases h2
                  · omega
                obtain ⟨bb, rfl⟩ := Int.eq_ofNat_of_zero_le hin.1
                have hor := orBlock bb q (by omega) hlt
                obtain ⟨z, hz⟩ : ∃ z : Nat, z = bb * 256 + q := ⟨_, rfl⟩
                rw [← hz] at hor
                have hzi : (z : Int) = (bb : Int) * 256 + (q : Int) := by omega
                have hwz : wantB vals v (t.cur (z : Int)) = true := by rw [hzi, Hcur.out, Hwb.out]
                have Hpush := Lib.hid (HI1.out.push hzi hwz)
                have hzb : z ≤ 1114111 := by omega
                have Hjoin := Lib.hid (fun (O2 : List Rg) (l : Rg) (e : O1 = O2 ++ [l]) (hl : l.hi = (z : Int) - 1) => (e ▸ HI1.out : RgInv _ _ _ _ _ (O2 ++ [l])).join hzi hl hwz)
                have HLp := Lib.hid (fun (O2 : List Rg) (h : O2.length ≤ O1.length + 1) => HL1.out.more hin h)
                have hle2 : O1.length ≤ 256 * Ks.length + 256 := by
                  unfold lenOk at hle
                  rw [if_pos hin] at hle
                  omega
                have hRn := HR1.out.own_ne HO1.out
                clear hwz hzi hz hle Hwb Hcur
                rcases List.eq_nil_or_concat O1 with rfl | ⟨o', l, rfl⟩
                · obtain ⟨A8, c8, rfl⟩ := own_slice HO1.out
                  simp only [List.length_nil] at hle2
                  have hbt : (0 + 1) * 16 ≤ 140737488355328 := by omega
                  have HL2 := Lib.hid (HLp.out ([] ++ [⟨(z : Int), (z : Int)⟩]) (by simp))
                  go_wp2_with (at_builtin; refine wp_append_new slRange rfl (.tmp 102) (.tmp 106) rfl (r0 + 1) (.slice A8 0 c8) _ _ rfl (by exact HO1.out) #[.int .i64 (z : Int), .int .i64 (z : Int)] rfl rfl (by simp [Value.oneCell']) (by exact hbt) (by exact hsz1) ?_; intro v5 w5 hown5 hg5; have HO5 := Lib.hid hown5; have HR5 := Lib.hid (HR1.out.kept hg5 hRn.2.2 hRn.2.1); have HB5 := Lib.hid (HB1.out.grown hg5 (by omega) (fun k hk => by have := (own_lt HO1.out k hk).1; omega)); have hsz5 : r0 + 1 ≤ w5.heap.size := Nat.le_trans hsz1 hg5.size; clear hg5 hown5)
                  refine ⟨⟨q + 1, [] ++ [⟨(z : Int), (z : Int)⟩], by omega, by go_num, (by show RgsAt _ _ _ _; unfold RgsAt; rw [rgs_snoc, List.length_append]; exact HO5.out), Hpush, HL2, HB5, HR5, hsz5⟩, ?_⟩
                  simp [intOf]
                  omega
                · obtain ⟨n, hn⟩ : ∃ n, n = o'.length := ⟨_, rfl⟩
                  have e0 : (o'.concat l).length = n + 1 := by simp [hn]
                  obtain ⟨g6, cap6, e, hg1, hg2, hg3, hg4⟩ := own_form HO1.out (by rw [e0]; omega)
                  cases e
                  have hl0 := rgs_get (o'.concat l) n (by omega)
                  have hgl : (o'.concat l)[n]'(by omega) = l := by subst hn; simp
                  rw [hgl] at hl0
                  have x1 := own_cell HO1.out _ _ hl0.2
                  have x3 := own_free HO1.out (n * 2 + 1)
                  rw [e0] at *
                  clear hl0 hgl
                  have hown1 : wr.ownsRow (r0 + 1) 37 2 (.slice (some ⟨g6, 0, none⟩) (n + 1) cap6) (n + 1) ((o'.concat l).flatMap rgCells) := by have h := HO1.out; unfold RgsAt at h; rw [List.length_concat, ← hn] at h; exact h
                  have HOw := Lib.hid hown1
                  have Hn := Lib.hid hn
                  by_cases hle : l.hi = (z : Int) - 1
                  · have e1 : (l.hi == (z : Int) - 1) = true := beq_iff_eq.2 hle
                    have HI2 := Lib.hid (Hjoin.out o' l (by simp) hle)
                    have HL2 := Lib.hid (HLp.out (o' ++ [⟨l.lo, (z : Int)⟩]) (by simp))
                    have HOe := Lib.hid (own_set (j := n * 2 + 1) (u := .int .i64 (z : Int)) hown1 (by omega))
                    have HBe := Lib.hid (HB1.out.setCell (p := ⟨g6, n * 2 + 1, none⟩) (by show r0 ≤ g6; omega) (.int .i64 (z : Int)))
                    have HRe := Lib.hid (HR1.out.kept (grown_set wr g6 (n * 2 + 1) (.int .i64 (z : Int))) hRn.2.2 hRn.2.1)
                    have hse : r0 + 1 ≤ (wr.setCell ⟨g6, n * 2 + 1, none⟩ (.int .i64 (z : Int))).heap.size := by simpa [World.setCell] using hsz1
                    have Hst := Lib.hid (show ((o'.concat l).flatMap rgCells).set (n * 2 + 1) (.int .i64 (z : Int)) = (o' ++ [(⟨l.lo, (z : Int)⟩ : Rg)]).flatMap rgCells by rw [List.concat_eq_append, hn, rgs_set])
                    clear hn hown1
                    go_wp2_with fail
                    refine ⟨⟨q + 1, o' ++ [⟨l.lo, (z : Int)⟩], by omega, by go_num, (by show RgsAt _ _ _ _; unfold RgsAt; rw [← Hst.out, List.length_append, ← Hn.out]; exact HOe.out), HI2, HL2, HBe, HRe, hse⟩, ?_⟩
                    simp [intOf]
                    omega
                  · have e1 : (l.hi == (z : Int) - 1) = false := beq_eq_false_iff_ne.2 hle
                    have hbt : (n + 1 + 1) * 16 ≤ 140737488355328 := by omega
                    have HL2 := Lib.hid (HLp.out (o'.concat l ++ [⟨(z : Int), (z : Int)⟩]) (by simp))
                    clear hn hown1
                    go_wp2_with (at_builtin; refine wp_append_new slRange rfl (.tmp 102) (.tmp 106) rfl (r0 + 1) (.slice (some ⟨g6, 0, none⟩) (n + 1) cap6) _ _ rfl (by exact HOw.out) #[.int .i64 (z : Int), .int .i64 (z : Int)] rfl rfl (by simp [Value.oneCell']) (by exact hbt) (by exact hsz1) ?_; intro v5 w5 hown5 hg5; have HO5 := Lib.hid hown5; have HR5 := Lib.hid (HR1.out.kept hg5 hRn.2.2 hRn.2.1); have HB5 := Lib.hid (HB1.out.grown hg5 (by omega) (fun k hk => by have := (own_lt HOw.out k hk).1; omega)); have hsz5 : r0 + 1 ≤ w5.heap.size := Nat.le_trans hsz1 hg5.size; clear hg5 hown5)
                    refine ⟨⟨q + 1, o'.concat l ++ [⟨(z : Int), (z : Int)⟩], by omega, by go_num, (by show RgsAt _ _ _ _; unfold RgsAt; rw [rgs_snoc, List.length_append, List.length_concat, ← Hn.out]; exact HO5.out), Hpush, HL2, HB5, HR5, hsz5⟩, ?_⟩
                    simp [intOf]
                    omega
            · obtain rfl : q = 256 := by omega
              have HI2 := Lib.hid (HI1.out.next Hl4.out Hk3.out)
              have HK2 : ∃ Ks2 : List Nat, Hid (O1.length ≤ 256 * Ks2.length) ∧ Hid (Ks2.Nodup ∧ ∀ q ∈ Ks2, q < 4352 ∧ (fun y => left y && !decide (y = b)) (q : Int) = false) := by
                obtain ⟨hn, hq⟩ := HK.out
                by_cases hin : 0 ≤ b ∧ b ≤ 4351
                · obtain ⟨bb, rfl⟩ := Int.eq_ofNat_of_zero_le hin.1
                  refine ⟨bb :: Ks, ?_, ?_, ?_⟩
                  · have h := HL1.out
                    unfold lenOk at h
                    rw [if_pos hin] at h
                    show _ ≤ _
                    rw [List.length_cons]
                    omega
                  · rw [List.nodup_cons]
                    refine ⟨fun hm => ?_, hn⟩
                    have h1 := (hq bb hm).2
                    rw [Hl4.out] at h1
                    cases h1
                  · intro x hx
                    rcases List.mem_cons.1 hx with rfl | hx
                    · exact ⟨by omega, by simp⟩
                    · exact ⟨(hq x hx).1, by simp only; rw [(hq x hx).2]; rfl⟩
                · refine ⟨Ks, ?_, hn, fun x hx => ⟨(hq x hx).1, by simp only; rw [(hq x hx).2]; rfl⟩⟩
                  have h := HL1.out
                  unfold lenOk at h
                  rw [if_neg hin] at h
                  exact h
              obtain ⟨Ks2, HOl2, HKs2⟩ := HK2
              have hmeas : wr.rangeLeft m r0 < Wo.rangeLeft m r0 := by rw [HR1.out.left_eq, hms.out]; exact hlt4
              go_wp2_with fail
              first
                | (go_roundw
                   case rel => exact ⟨_, cnt4, O1, Ks2, HR1, HO1, HI2, HOl2, HKs2, HB1, hsz1⟩
                   case measure => rw [← HWo.out]; exact hmeas)
                | exact ⟨⟨_, cnt4, O1, Ks2, HR1, HO1, HI2, HOl2, HKs2, HB1, hsz1⟩, by rw [← HWo.out]; exact hmeas⟩
end Go.Proofs.YtchkckfadennhaaGreatDoor
