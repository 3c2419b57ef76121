/- Ref6B, Ref6L, Ref6M: in one text. -/
import Derived.Test.YtchkckfadennhaaGreatDoorRef2M
import Derived.Test.YtchkckfadennhaaGreatDoorLod2
import Derived.Test.YtchkckfadennhaaGreatDoorAccM
import Derived.Test.YtchkckfadennhaaGreatDoorDagM
namespace Go.Proofs.YtchkckfadennhaaGreatDoor
open Go.RowKit
set_option linter.unusedVariables false
set_option linter.unusedSimpArgs false

/-- A row of rows of code points. -/
structure RowsAt (w : World) (B : Nat) (v : Value) (ls : List (List Nat)) (us : List Value) : Prop where
  len : ls.length = us.length
  row : w.ownsRow B 57 1 v ls.length us
  one : ∀ (i : Nat) l u, ls[i]? = some l → us[i]? = some u → w.ownsRow B 3 1 u l.length (intsR l)
theorem RowsAt.below {w w' : World} {B : Nat} {v : Value} {ls : List (List Nat)} {us : List Value} (h : RowsAt w B v ls us) (hb : Below w.heap.size w w') : RowsAt w' B v ls us :=
  ⟨h.len, own_below h.row hb, fun i l u h1 h2 => own_below (h.one i l u h1 h2) hb⟩
def decPts (Φ : Files) : List (List Nat) := Φ.dec.map fun x => Sp.pts (fld0 x)
def folPts (Φ : Files) : List (List Nat) := Φ.fol.map fun x => Sp.pts (fld1 x)
/-- The reference's tables: block b. -/
structure RefAt (w : World) (B b : Nat) (Φ : Files) : Prop where
  all : ∃ v0 v1 v2 v3 v4 v5 v6 v7 v8 f0 f1 f2 f3 f4 f5 f6 u7 u8, Blk w b 67 #[v0, v1, v2, v3, v4, v5, v6, v7, v8] ∧ RecsAt w B v0 Φ.cat f0 ∧ RecsAt w B v1 Φ.comb f1 ∧ RecsAt w B v2 Φ.clu f2 ∧ RecsAt w B v3 Φ.word f3 ∧ RecsAt w B v4 Φ.scr f4 ∧
    RecsAt w B v5 Φ.dec f5 ∧ RecsAt w B v6 Φ.fol f6 ∧ RowsAt w B v7 (decPts Φ) u7 ∧ RowsAt w B v8 (folPts Φ) u8
theorem RefAt.below {w w' : World} {B b : Nat} {Φ : Files} (h : RefAt w B b Φ) (hb : Below w.heap.size w w') : RefAt w' B b Φ := by
  obtain ⟨v0, v1, v2, v3, v4, v5, v6, v7, v8, f0, f1, f2, f3, f4, f5, f6, u7, u8, h0, h1, h2, h3, h4, h5, h6, h7, h8, h9⟩ := h.all
  exact ⟨v0, v1, v2, v3, v4, v5, v6, v7, v8, f0, f1, f2, f3, f4, f5, f6, u7, u8, h0.below hb, h1.below hb, h2.below hb, h3.below hb, h4.below hb, h5.below hb, h6.below hb, h7.below hb, h8.below hb, h9.below hb⟩
/-- What field tells: the fields of the first record that has the code point. -/
def FieldSaid (recs : List Rec) (r : Int) (B : Nat) (w : World) (e : Ending) (w' : World) : Prop := ∃ u, e = .returned u ∧ Below w.heap.size w w' ∧
  match recs.find? (inRec2 r) with
  | some x => x ∈ recs ∧ w'.ownsRow B 9 1 u x.fields.length (strVs x.fields)
  | none => u = .slice none 0 0
theorem listOk_ne {rs : List Rec} (h : ListOk rs) : ∀ x ∈ rs, x.fields ≠ [] := fun x hx => (h.ok x hx).2.2
end Go.Proofs.YtchkckfadennhaaGreatDoor

namespace Go.Proofs.YtchkckfadennhaaGreatDoor
open Go.RowKit
set_option linter.unusedVariables false
set_option linter.unusedSimpArgs false

theorem slIntsR : SlT Tryz.prog 65 57 1 24 := ⟨Tryz.underlying65, by kernel_rfl, by decide, by decide⟩
theorem q_fieldT (f : Nat) (hf : f = 7 ∨ f = 8) (ρ : Operand → Value) (W : World) (o : Oper) (x : Operand) (ho : o.op = .fieldAddr 67 x f) (p : Nat) (hx : ρ x = .pointer (some ⟨p, 0, none⟩)) : (execOp ρ o).run Tryz.prog W = .ok (.value (.pointer (some ⟨p, f, none⟩))) W := by
  unfold execOp
  rw [ho]
  rcases hf with rfl | rfl <;> go_simp
theorem q_fieldRec (ρ : Operand → Value) (W : World) (o : Oper) (x : Operand) (ho : o.op = .fieldAddr 56 x 2) (p : Nat) (hx : ρ x = .pointer (some ⟨p, 0, none⟩)) : (execOp ρ o).run Tryz.prog W = .ok (.value (.pointer (some ⟨p, 2, none⟩))) W := by
  unfold execOp
  rw [ho]
  go_simp
theorem q_loadLists (ρ : Operand → Value) (W : World) (o : Oper) (x : Operand) (ho : o.op = .load 65 x) (ad : Addr) (hx : ρ x = .pointer (some ad)) (A : Option Addr) (n c : Nat) (hc : W.cell? ad = some (.slice A n c)) : (execOp ρ o).run Tryz.prog W = .ok (.value (.slice A n c)) W := by
  unfold execOp
  rw [ho]
  go_simp
theorem q_loadStrs (ρ : Operand → Value) (W : World) (o : Oper) (x : Operand) (ho : o.op = .load 25 x) (ad : Addr) (hx : ρ x = .pointer (some ad)) (A : Option Addr) (n c : Nat) (hc : W.cell? ad = some (.slice A n c)) : (execOp ρ o).run Tryz.prog W = .ok (.value (.slice A n c)) W := by
  unfold execOp
  rw [ho]
  go_simp
theorem q_loadStr (ρ : Operand → Value) (W : World) (o : Oper) (x : Operand) (ho : o.op = .load 9 x) (ad : Addr) (hx : ρ x = .pointer (some ad)) (s : ByteArray) (hc : W.cell? ad = some (.string s)) : (execOp ρ o).run Tryz.prog W = .ok (.value (.string s)) W := by
  unfold execOp
  rw [ho]
  go_simp
theorem q_index (i : Nat) (ρ : Operand → Value) (W : World) (o : Oper) (x y : Operand) (ho : o.op = .indexAddr 25 x y) (g n c : Nat) (hx : ρ x = .slice (some ⟨g, 0, none⟩) n c) (hy : ρ y = .int .i64 (i : Int)) (hk : i < n) (hn : n ≤ 9223372036854775807) : (execOp ρ o).run Tryz.prog W = .ok (.value (.pointer (some ⟨g, i, none⟩))) W := by
  unfold execOp
  rw [ho]
  go_simp
theorem q_build (ρ : Operand → Value) (W : World) (o : Oper) (x : Operand) (ho : o.op = .buildSlice 65 1 #[(0, x)]) (A : Option Addr) (n c : Nat) (hx : ρ x = .slice A n c) : (execOp ρ o).run Tryz.prog W = .ok (.value (.slice (some ⟨W.heap.size, 0, none⟩) 1 1)) (W.alloc (.cells #[.slice A n c] 57)) := by
  unfold execOp
  rw [ho]
  go_simp
theorem q_store (ρ : Operand → Value) (W : World) (o : Oper) (x y : Operand) (ho : o.op = .store 65 x y) (ad : Addr) (hx : ρ x = .pointer (some ad)) (A : Option Addr) (n c : Nat) (hy : ρ y = .slice A n c) (u : Value) (hc : W.cell? ad = some u) (hf : W.frozen? ad = false) : (execOp ρ o).run Tryz.prog W = .ok .skip (W.setCell ad (.slice A n c)) := by
  unfold execOp
  rw [ho]
  go_simp
/-- What holds of the world behind k of the region's four steps: the points are read, a slice of them is built, it is put behind, the field is set. -/
def RT (w W0 : World) (B b f n : Nat) (v : Value) (us : List Value) (l : List Nat) : Nat → (Nat → Value) → World → Prop
  | 0, _, W => W = W0
  | 1, vs, W => Below w.heap.size w W ∧ W.ownsRow w.heap.size 3 1 (vs 9) l.length (intsR l)
  | 2, vs, W => Below w.heap.size w W ∧ W.ownsRow w.heap.size 3 1 (vs 9) l.length (intsR l) ∧ ∃ g, vs 10 = .slice (some ⟨g, 0, none⟩) 1 1 ∧ Blk W g 57 #[vs 9]
  | 3, vs, W => ∃ W2, Below w.heap.size w W2 ∧ W2.ownsRow w.heap.size 3 1 (vs 9) l.length (intsR l) ∧ W2.grownBy W v.ownBlock ∧ W.ownsRow B 57 1 (vs 11) (n + 1) (us ++ [vs 9]) ∧ ((vs 11).ownBlock = v.ownBlock ∨ (vs 11).ownBlock = some W2.heap.size)
  | _, vs, W => ∃ W2 W3, Below w.heap.size w W2 ∧ W2.ownsRow w.heap.size 3 1 (vs 9) l.length (intsR l) ∧ W2.grownBy W3 v.ownBlock ∧ W3.ownsRow B 57 1 (vs 11) (n + 1) (us ++ [vs 9]) ∧ ((vs 11).ownBlock = v.ownBlock ∨ (vs 11).ownBlock = some W2.heap.size) ∧ W = W3.setCell ⟨b, f, none⟩ (vs 11)
theorem RT.kept {w W0 : World} {B b f n : Nat} {v : Value} {us : List Value} {l : List Nat} (h0 : Below w.heap.size w W0) : ∀ (k : Nat) (vs : Nat → Value) (W : World), RT w W0 B b f n v us l k vs W → ∀ i, i < w.heap.size → v.ownBlock ≠ some i → i ≠ b → W.heap[i]? = w.heap[i]?
  | 0, vs, W, h, i, hi, _, _ => by
    have h : W = W0 := h
    subst h; exact h0.block i hi
  | 1, vs, W, h, i, hi, _, _ => h.1.block i hi
  | 2, vs, W, h, i, hi, _, _ => h.1.block i hi
  | 3, vs, W, h, i, hi, hv, _ => by
    obtain ⟨W2, hb, _, hg, _⟩ := h
    rw [hg.block i (Nat.lt_of_lt_of_le hi hb.size) (Ne.symm hv), hb.block i hi]
  | k + 4, vs, W, h, i, hi, hv, hb' => by
    obtain ⟨W2, W3, hb, _, hg, _, _, rfl⟩ := h
    rw [Below.heap_setCell _ _ _ _ hb', hg.block i (Nat.lt_of_lt_of_le hi hb.size) (Ne.symm hv), hb.block i hi]

abbrev needsR : List (Nat × Nat) := [(2, 1), (3, 2), (4, 3), (6, 5), (7, 6), (8, 7), (9, 8), (10, 9), (11, 4), (11, 10), (12, 0), (13, 12), (14, 13), (14, 11)]
abbrev ds5 : List (Option Tmp) := [some 31, some 32, some 33, some 34, some 35, some 36, some 37, some 38, some 39, some 40, some 41, some 42, some 43, some 44, none]
abbrev ops5 : List Op := [.move (.tmp 1), .move (.tmp 1), .nilCheck (.tmp 32), .fieldAddr 67 (.tmp 33) 7, .load 65 (.tmp 34), .fieldAddr 56 (.tmp 3) 2, .load 25 (.tmp 36), .indexAddr 25 (.tmp 37) (.const (.int .i64 0)), .load 9 (.tmp 38),
  .call { callee := .value (.func 36), args := #[(.tmp 39)], argTypes := #[9] }, .buildSlice 65 1 #[(0, (.tmp 40))], .call { callee := .builtin .append, args := #[(.tmp 35), (.tmp 41)], argTypes := #[65, 65] }, .nilCheck (.tmp 31), .fieldAddr 67 (.tmp 43) 7, .store 65 (.tmp 44) (.tmp 42)]
set_option maxHeartbeats 1600000 in
theorem region5 (a : Act) (ops : Array Oper) (rid : Nat) (Q : Exit → Act → World → Prop) (w : World) (b xb gf n nf cf B : Nat) (cs : Array Value) (A : Option Addr) (c : Nat) (us : List Value) (rlo rhi : Value) (s : ByteArray) (l : List Nat)
    (hops : ops.toList.map (·.op) = ops5) (hok : dagOk ops ds5 = true) (hcn : chainOk ops [9, 10, 11, 14] = true) (hnd : needsOk2 ops needsR = true) (hsz : 45 ≤ a.tmps.size)
    (h1 : a.tmps.getD 1 undef = .pointer (some ⟨b, 0, none⟩)) (hx : a.tmps.getD 3 undef = .pointer (some ⟨xb, 0, none⟩))
    (hT : Blk w b 67 cs) (hc : cs[7]? = some (.slice A n c)) (hX : Blk w xb 56 #[rlo, rhi, .slice (some ⟨gf, 0, none⟩) nf cf]) (hstr : w.cell? ⟨gf, 0, none⟩ = some (.string s)) (hn : 0 < nf) (hn2 : nf ≤ 9223372036854775807)
    (hp : ∀ W, Below w.heap.size w W → Calls Tryz.prog 36 #[.string s] W (PtsRef l W))
    (hr : w.ownsRow B 57 1 (.slice A n c) n us) (hB : B ≤ w.heap.size) (hcap : (n + 1) * 24 ≤ 140737488355328)
    (hend : ∀ V v' u' w', w'.ownsRow B 57 1 v' (n + 1) (us ++ [u']) → w'.ownsRow w.heap.size 3 1 u' l.length (intsR l) → Blk w' b 67 (cs.setIfInBounds 7 v') → (∀ C, C ≤ b → C ≤ B → C ≤ w.heap.size → Below C w w') →
      (∀ i, i < w.heap.size → (Value.slice A n c).ownBlock ≠ some i → i ≠ b → w'.heap[i]? = w.heap[i]?) → (v'.ownBlock = (Value.slice A n c).ownBlock ∨ ∃ k, w.heap.size ≤ k ∧ v'.ownBlock = some k) →
      Q .normal { a with tmps := frS (fun j => decide (j < 15)) V 0 ds5 a.tmps } w') :
    (Code.region rid ops true).wp Tryz.prog Q a w := by
  have hlen : ops.size = 15 := by have := congrArg List.length hops; simpa using this
  obtain ⟨W0, hW0⟩ : ∃ W0 : World, W0 = { w with drawn := w.drawn + 1 } := ⟨_, rfl⟩
  have hb0 : Below w.heap.size w W0 := by subst hW0; exact ⟨rfl, rfl, rfl, Nat.le_refl _, fun _ _ => rfl⟩
  have hs0 : W0.heap.size = w.heap.size := by subst hW0; rfl
  have hop : ∀ (i : Nat) (o : Oper), ops[i]? = some o → ∀ x, ops5[i]? = some x → o.op = x := by
    intro i o ho x hx
    rw [← hops, List.getElem?_map, Array.getElem?_toList, ho] at hx
    simpa using hx
  have hlt : ∀ t, t < 45 → t < a.tmps.size := fun t ht => by omega
  rw [← hlen] at hend
  have hvb : ∀ k, (Value.slice A n c).ownBlock = some k → k < w.heap.size ∧ k ≠ b ∧ k ≠ xb ∧ B ≤ k := by
    intro k hk
    have h2 := own_lt hr k hk
    cases A with
    | none => cases hk
    | some ad =>
      obtain ⟨g2, cap2, cur2, he2, _, hh, _⟩ := hr.2.resolve_left (by rintro ⟨h, _⟩; cases h)
      cases he2
      have hk : g2 = k := by simpa [Value.ownBlock] using hk
      subst hk
      refine ⟨h2.2, ?_, ?_, h2.1⟩
      · rintro rfl; unfold Blk at hT; rw [hh] at hT; simp at hT
      · rintro rfl; unfold Blk at hX; rw [hh] at hX; simp at hX
  have hxb : xb ≠ b := by rintro rfl; unfold Blk at hT hX; rw [hT] at hX; simp at hX
  have hxl := heap_lt hX
  have hbl := heap_lt hT
  refine wp_region_path (by kernel_rfl) ds5 hok [9, 10, 11, 14] hcn
    (fun j => match j with | 0 => .pointer (some ⟨b, 0, none⟩) | 1 => .pointer (some ⟨b, 0, none⟩) | 2 => .pointer (some ⟨b, 0, none⟩) | 3 => .pointer (some ⟨b, 7, none⟩) | 4 => .slice A n c | 5 => .pointer (some ⟨xb, 2, none⟩) | 6 => .slice (some ⟨gf, 0, none⟩) nf cf | 7 => .pointer (some ⟨gf, 0, none⟩) | 8 => .string s | 12 => .pointer (some ⟨b, 0, none⟩) | 13 => .pointer (some ⟨b, 7, none⟩) | _ => undef)
    (RT w W0 B b 7 n (.slice A n c) us l) ?_ (fun vs => hW0.symm) ?_ ?_
  · intro k vs vs' W hag h
    match k, hag, h with
    | 0, _, h => exact h
    | 1, hag, h =>
      have e9 := hag 9 0 rfl (by decide)
      exact ⟨h.1, by rw [← e9]; exact h.2⟩
    | 2, hag, h =>
      have e9 := hag 9 0 rfl (by decide)
      have e10 := hag 10 1 rfl (by decide)
      obtain ⟨h1, h2, g, h3, h4⟩ := h
      exact ⟨h1, by rw [← e9]; exact h2, g, by rw [← e10]; exact h3, by rw [← e9]; exact h4⟩
    | 3, hag, h =>
      have e9 := hag 9 0 rfl (by decide)
      have e11 := hag 11 2 rfl (by decide)
      obtain ⟨W2, h1, h2, h3, h4, h5⟩ := h
      exact ⟨W2, h1, by rw [← e9]; exact h2, h3, by rw [← e9, ← e11]; exact h4, by rw [← e11]; exact h5⟩
    | k + 4, hag, h =>
      have e9 := hag 9 0 rfl (by omega)
      have e11 := hag 11 2 rfl (by omega)
      obtain ⟨W2, W3, h1, h2, h3, h4, h5, h6⟩ := h
      exact ⟨W2, W3, h1, by rw [← e9]; exact h2, h3, by rw [← e9, ← e11]; exact h4, by rw [← e11]; exact h5, by rw [← e11]; exact h6⟩
  · intro i o ho ρ vs hρ hold hcon hfun _
    have hi : i < 15 := by rw [← hlen]; exact (Array.getElem?_eq_some_iff.1 ho).1
    have e1 : ρ (.tmp 1) = .pointer (some ⟨b, 0, none⟩) := (hold 1 (by decide)).trans h1
    have ex : ρ (.tmp 3) = .pointer (some ⟨xb, 0, none⟩) := (hold 3 (by decide)).trans hx
    match i, hi with
    | 0, _ => intro k _ _ _ W _; exact .inl (by rw [← e1]; exact r_move _ _ _ o _ (hop _ _ ho _ rfl))
    | 1, _ => intro k _ _ _ W _; exact .inl (by rw [← e1]; exact r_move _ _ _ o _ (hop _ _ ho _ rfl))
    | 2, _ => intro k _ _ _ W _; exact .inl (r_nilCheck _ _ o _ (hop _ _ ho _ rfl) _ (hρ 1 (needs2_get hnd 2 1 (by decide)) 32 rfl (hlt _ (by decide))))
    | 3, _ => intro k _ _ _ W _; exact .inl (q_fieldT 7 (by decide) _ _ o _ (hop _ _ ho _ rfl) b (hρ 2 (needs2_get hnd 3 2 (by decide)) 33 rfl (hlt _ (by decide))))
    | 4, _ =>
      intro k _ _ hk W hW
      have h2 := hk 11 2 (needs2_get hnd 11 4 (by decide)) rfl
      have hbW : Below w.heap.size w W := by
        match k, h2, hW with
        | 0, _, hW => have hW : W = W0 := hW; subst hW; exact hb0
        | 1, _, hW => exact hW.1
        | 2, _, hW => exact hW.1
      exact .inl (q_loadLists _ _ o _ (hop _ _ ho _ rfl) ⟨b, 7, none⟩ (hρ 3 (needs2_get hnd 4 3 (by decide)) 34 rfl (hlt _ (by decide))) A n c (((hT.below hbW).cell 7).trans hc))
    | 5, _ => intro k _ _ _ W _; exact .inl (q_fieldRec _ _ o _ (hop _ _ ho _ rfl) xb ex)
    | 6, _ =>
      intro k _ _ _ W hW
      have hk := RT.kept hb0 k vs W hW xb hxl (fun e => (hvb xb e).2.2.1 rfl) hxb
      have hX2 : Blk W xb 56 #[rlo, rhi, .slice (some ⟨gf, 0, none⟩) nf cf] := hk.trans hX
      exact .inl (q_loadStrs _ _ o _ (hop _ _ ho _ rfl) ⟨xb, 2, none⟩ (hρ 5 (needs2_get hnd 6 5 (by decide)) 36 rfl (hlt _ (by decide))) _ _ _ (hX2.cell 2))
    | 7, _ => intro k _ _ _ W _; exact .inl (q_index 0 _ _ o _ _ (hop _ _ ho _ rfl) gf nf cf (hρ 6 (needs2_get hnd 7 6 (by decide)) 37 rfl (hlt _ (by decide))) (hcon _) hn hn2)
    | 8, _ =>
      intro k _ _ hk W hW
      have h2 := hk 9 0 (needs2_get hnd 9 8 (by decide)) rfl
      obtain rfl : k = 0 := by omega
      have hW : W = W0 := hW
      subst hW
      exact .inl (q_loadStr _ _ o _ (hop _ _ ho _ rfl) ⟨gf, 0, none⟩ (hρ 7 (needs2_get hnd 8 7 (by decide)) 38 rfl (hlt _ (by decide))) _ (cell_later hb0 hstr))
    | 9, _ =>
      intro W hW
      have hW : W = W0 := hW
      subst hW
      refine .inr ⟨36, #[.string s], ?_, ?_⟩
      · have e := hρ 8 (needs2_get hnd 9 8 (by decide)) 39 rfl (hlt _ (by decide))
        have e : ρ (.tmp 39) = .string s := e
        unfold execOp
        rw [hop _ _ ho _ rfl]
        simp [go_sem, hfun, e, resolve, Act.eval]
      · refine (hp W hb0).mono ?_
        rintro e W' ⟨v, rfl, ho, hb⟩
        rw [hs0] at ho hb
        exact ⟨v, rfl, hb0.trans hb, ho⟩
    | 10, _ =>
      rintro W ⟨hbW, hv⟩
      have e := hρ 9 (needs2_get hnd 10 9 (by decide)) 40 rfl (hlt _ (by decide))
      have e : ρ (.tmp 40) = vs 9 := e
      obtain ⟨Av, cv, hvs⟩ := own_slice hv
      refine .inl ⟨.slice (some ⟨W.heap.size, 0, none⟩) 1 1, W.alloc (.cells #[vs 9] 57), ⟨hbW.trans ((alloc_below W _).mono hbW.size), own_below hv (alloc_below W _), W.heap.size, rfl, row_new _ _⟩, .inl ?_⟩
      have := q_build ρ W o _ (hop _ _ ho _ rfl) Av l.length cv (e.trans hvs)
      rw [← hvs] at this
      exact this
    | 11, _ =>
      rintro W ⟨hbW, hv, g, h10, hg⟩
      have e4 := hρ 4 (needs2_get hnd 11 4 (by decide)) 35 rfl (hlt _ (by decide))
      have e4 : ρ (.tmp 35) = .slice A n c := e4
      have e10 := hρ 10 (needs2_get hnd 11 10 (by decide)) 41 rfl (hlt _ (by decide))
      have e10 : ρ (.tmp 41) = vs 10 := e10
      obtain ⟨Av, cv, hvs⟩ := own_slice hv
      obtain ⟨v', W', hrun, hown, hgr, hat⟩ := r_append W slIntsR ρ o _ _ (hop _ _ ho _ rfl) B _ n us e4 (own_below hr hbW) ⟨g, 0, none⟩ 1 1 [vs 9] (e10.trans h10) rfl hg.at_ (by intro u hu; rw [List.mem_singleton] at hu; subst hu; rw [hvs]; rfl) hcap (Nat.le_trans hB hbW.size)
      exact .inl ⟨v', W', ⟨W, hbW, hv, hgr, hown, hat⟩, .inl hrun⟩
    | 12, _ => intro k _ _ _ W _; exact .inl (r_nilCheck _ _ o _ (hop _ _ ho _ rfl) _ (hρ 0 (needs2_get hnd 12 0 (by decide)) 31 rfl (hlt _ (by decide))))
    | 13, _ => intro k _ _ _ W _; exact .inl (q_fieldT 7 (by decide) _ _ o _ (hop _ _ ho _ rfl) b (hρ 12 (needs2_get hnd 13 12 (by decide)) 43 rfl (hlt _ (by decide))))
    | 14, _ =>
      rintro W ⟨W2, hbW, hv, hgr, hown, hat⟩
      have e13 := hρ 13 (needs2_get hnd 14 13 (by decide)) 44 rfl (hlt _ (by decide))
      have e13 : ρ (.tmp 44) = .pointer (some ⟨b, 7, none⟩) := e13
      have e11 := hρ 11 (needs2_get hnd 14 11 (by decide)) 42 rfl (hlt _ (by decide))
      have e11 : ρ (.tmp 42) = vs 11 := e11
      obtain ⟨A2, c2, hvs⟩ := own_slice hown
      have hTW : Blk W b 67 cs := (hT.below hbW).grown hgr (fun e => (hvb b e.symm).2.1 rfl)
      refine .inl ⟨undef, W.setCell ⟨b, 7, none⟩ (vs 11), ⟨W2, W, hbW, hv, hgr, hown, hat, rfl⟩, .inr ⟨?_, rfl⟩⟩
      rw [hvs]
      exact q_store ρ W o _ _ (hop _ _ ho _ rfl) _ e13 A2 (n + 1) c2 (e11.trans hvs) _ ((hTW.cell 7).trans hc) (hTW.free 7)
  · intro vs W h
    have hk := RT.kept hb0 4 vs W h
    obtain ⟨W2, W3, hbW, hv, hgr, hown, hat, rfl⟩ := h
    have hTW : Blk W3 b 67 cs := (hT.below hbW).grown hgr (fun e => (hvb b e.symm).2.1 rfl)
    have hbs := heap_lt hTW
    have hkeep : ∀ {e : TypeId} {B' k : Nat} {v : Value} {xs : List Value}, W3.ownsRow B' e 1 v k xs → e ≠ 67 → (W3.setCell ⟨b, 7, none⟩ (vs 11)).ownsRow B' e 1 v k xs := by
      intro e B' k v xs ho hne
      refine ho.kept (row := some b) ⟨rfl, rfl, rfl, by simp [World.setCell], fun k _ hk => Below.heap_setCell _ _ _ _ (fun e => hk (by rw [e]))⟩ ?_
      rcases ho.2 with ⟨rfl, _⟩ | ⟨g, cap, cur, rfl, _, hh, _⟩
      · exact .inl rfl
      · right
        intro e2
        have e2 : g = b := by simpa [Value.ownBlock] using e2
        subst e2
        unfold Blk at hTW
        rw [hh] at hTW
        simp only [Option.some.injEq, Obj.cells.injEq] at hTW
        exact hne hTW.2.1
    have hv3 : W3.ownsRow w.heap.size 3 1 (vs 9) l.length (intsR l) := hv.kept hgr (by
      rcases hv.2 with ⟨h, _⟩ | ⟨g, cap, cur, h, hgb, _⟩
      · left; rw [h]; rfl
      · right
        intro e2
        rw [h] at e2
        have := (hvb g (by rw [← e2]; rfl)).1
        omega)
    refine hend _ (vs 11) (vs 9) _ (hkeep hown (by decide)) (hkeep hv3 (by decide)) (hTW.set 7 _) ?_ hk ?_
    · intro C hC1 hC2 hC3
      exact ((hbW.mono hC3).grown hgr (Nat.le_trans hC3 hbW.size) (fun k hk => Nat.le_trans hC2 (hvb k hk).2.2.2)).setCell hC1 _
    · rcases hat with h | h
      · exact .inl h
      · exact .inr ⟨_, hbW.size, h⟩

abbrev dsA : List (Option Tmp) := [some 55, some 56, some 57, some 58, some 59, some 60, some 61, some 62, some 63, some 64, some 65, some 66, some 67, some 68, none]
abbrev opsA : List Op := [.move (.tmp 1), .move (.tmp 1), .nilCheck (.tmp 56), .fieldAddr 67 (.tmp 57) 8, .load 65 (.tmp 58), .fieldAddr 56 (.tmp 5) 2, .load 25 (.tmp 60), .indexAddr 25 (.tmp 61) (.const (.int .i64 1)), .load 9 (.tmp 62),
  .call { callee := .value (.func 36), args := #[(.tmp 63)], argTypes := #[9] }, .buildSlice 65 1 #[(0, (.tmp 64))], .call { callee := .builtin .append, args := #[(.tmp 59), (.tmp 65)], argTypes := #[65, 65] }, .nilCheck (.tmp 55), .fieldAddr 67 (.tmp 67) 8, .store 65 (.tmp 68) (.tmp 66)]
set_option maxHeartbeats 1600000 in
theorem regionA (a : Act) (ops : Array Oper) (rid : Nat) (Q : Exit → Act → World → Prop) (w : World) (b xb gf n nf cf B : Nat) (cs : Array Value) (A : Option Addr) (c : Nat) (us : List Value) (rlo rhi : Value) (s : ByteArray) (l : List Nat)
    (hops : ops.toList.map (·.op) = opsA) (hok : dagOk ops dsA = true) (hcn : chainOk ops [9, 10, 11, 14] = true) (hnd : needsOk2 ops needsR = true) (hsz : 69 ≤ a.tmps.size)
    (h1 : a.tmps.getD 1 undef = .pointer (some ⟨b, 0, none⟩)) (hx : a.tmps.getD 5 undef = .pointer (some ⟨xb, 0, none⟩))
    (hT : Blk w b 67 cs) (hc : cs[8]? = some (.slice A n c)) (hX : Blk w xb 56 #[rlo, rhi, .slice (some ⟨gf, 0, none⟩) nf cf]) (hstr : w.cell? ⟨gf, 1, none⟩ = some (.string s)) (hn : 1 < nf) (hn2 : nf ≤ 9223372036854775807)
    (hp : ∀ W, Below w.heap.size w W → Calls Tryz.prog 36 #[.string s] W (PtsRef l W))
    (hr : w.ownsRow B 57 1 (.slice A n c) n us) (hB : B ≤ w.heap.size) (hcap : (n + 1) * 24 ≤ 140737488355328)
    (hend : ∀ V v' u' w', w'.ownsRow B 57 1 v' (n + 1) (us ++ [u']) → w'.ownsRow w.heap.size 3 1 u' l.length (intsR l) → Blk w' b 67 (cs.setIfInBounds 8 v') → (∀ C, C ≤ b → C ≤ B → C ≤ w.heap.size → Below C w w') →
      (∀ i, i < w.heap.size → (Value.slice A n c).ownBlock ≠ some i → i ≠ b → w'.heap[i]? = w.heap[i]?) → (v'.ownBlock = (Value.slice A n c).ownBlock ∨ ∃ k, w.heap.size ≤ k ∧ v'.ownBlock = some k) →
      Q .normal { a with tmps := frS (fun j => decide (j < 15)) V 0 dsA a.tmps } w') :
    (Code.region rid ops true).wp Tryz.prog Q a w := by
  have hlen : ops.size = 15 := by have := congrArg List.length hops; simpa using this
  obtain ⟨W0, hW0⟩ : ∃ W0 : World, W0 = { w with drawn := w.drawn + 1 } := ⟨_, rfl⟩
  have hb0 : Below w.heap.size w W0 := by subst hW0; exact ⟨rfl, rfl, rfl, Nat.le_refl _, fun _ _ => rfl⟩
  have hs0 : W0.heap.size = w.heap.size := by subst hW0; rfl
  have hop : ∀ (i : Nat) (o : Oper), ops[i]? = some o → ∀ x, opsA[i]? = some x → o.op = x := by
    intro i o ho x hx
    rw [← hops, List.getElem?_map, Array.getElem?_toList, ho] at hx
    simpa using hx
  have hlt : ∀ t, t < 69 → t < a.tmps.size := fun t ht => by omega
  rw [← hlen] at hend
  have hvb : ∀ k, (Value.slice A n c).ownBlock = some k → k < w.heap.size ∧ k ≠ b ∧ k ≠ xb ∧ B ≤ k := by
    intro k hk
    have h2 := own_lt hr k hk
    cases A with
    | none => cases hk
    | some ad =>
      obtain ⟨g2, cap2, cur2, he2, _, hh, _⟩ := hr.2.resolve_left (by rintro ⟨h, _⟩; cases h)
      cases he2
      have hk : g2 = k := by simpa [Value.ownBlock] using hk
      subst hk
      refine ⟨h2.2, ?_, ?_, h2.1⟩
      · rintro rfl; unfold Blk at hT; rw [hh] at hT; simp at hT
      · rintro rfl; unfold Blk at hX; rw [hh] at hX; simp at hX
  have hxb : xb ≠ b := by rintro rfl; unfold Blk at hT hX; rw [hT] at hX; simp at hX
  have hxl := heap_lt hX
  have hbl := heap_lt hT
  refine wp_region_path (by kernel_rfl) dsA hok [9, 10, 11, 14] hcn
    (fun j => match j with | 0 => .pointer (some ⟨b, 0, none⟩) | 1 => .pointer (some ⟨b, 0, none⟩) | 2 => .pointer (some ⟨b, 0, none⟩) | 3 => .pointer (some ⟨b, 8, none⟩) | 4 => .slice A n c | 5 => .pointer (some ⟨xb, 2, none⟩) | 6 => .slice (some ⟨gf, 0, none⟩) nf cf | 7 => .pointer (some ⟨gf, 1, none⟩) | 8 => .string s | 12 => .pointer (some ⟨b, 0, none⟩) | 13 => .pointer (some ⟨b, 8, none⟩) | _ => undef)
    (RT w W0 B b 8 n (.slice A n c) us l) ?_ (fun vs => hW0.symm) ?_ ?_
  · intro k vs vs' W hag h
    match k, hag, h with
    | 0, _, h => exact h
    | 1, hag, h =>
      have e9 := hag 9 0 rfl (by decide)
      exact ⟨h.1, by rw [← e9]; exact h.2⟩
    | 2, hag, h =>
      have e9 := hag 9 0 rfl (by decide)
      have e10 := hag 10 1 rfl (by decide)
      obtain ⟨h1, h2, g, h3, h4⟩ := h
      exact ⟨h1, by rw [← e9]; exact h2, g, by rw [← e10]; exact h3, by rw [← e9]; exact h4⟩
    | 3, hag, h =>
      have e9 := hag 9 0 rfl (by decide)
      have e11 := hag 11 2 rfl (by decide)
      obtain ⟨W2, h1, h2, h3, h4, h5⟩ := h
      exact ⟨W2, h1, by rw [← e9]; exact h2, h3, by rw [← e9, ← e11]; exact h4, by rw [← e11]; exact h5⟩
    | k + 4, hag, h =>
      have e9 := hag 9 0 rfl (by omega)
      have e11 := hag 11 2 rfl (by omega)
      obtain ⟨W2, W3, h1, h2, h3, h4, h5, h6⟩ := h
      exact ⟨W2, W3, h1, by rw [← e9]; exact h2, h3, by rw [← e9, ← e11]; exact h4, by rw [← e11]; exact h5, by rw [← e11]; exact h6⟩
  · intro i o ho ρ vs hρ hold hcon hfun _
    have hi : i < 15 := by rw [← hlen]; exact (Array.getElem?_eq_some_iff.1 ho).1
    have e1 : ρ (.tmp 1) = .pointer (some ⟨b, 0, none⟩) := (hold 1 (by decide)).trans h1
    have ex : ρ (.tmp 5) = .pointer (some ⟨xb, 0, none⟩) := (hold 5 (by decide)).trans hx
    match i, hi with
    | 0, _ => intro k _ _ _ W _; exact .inl (by rw [← e1]; exact r_move _ _ _ o _ (hop _ _ ho _ rfl))
    | 1, _ => intro k _ _ _ W _; exact .inl (by rw [← e1]; exact r_move _ _ _ o _ (hop _ _ ho _ rfl))
    | 2, _ => intro k _ _ _ W _; exact .inl (r_nilCheck _ _ o _ (hop _ _ ho _ rfl) _ (hρ 1 (needs2_get hnd 2 1 (by decide)) 56 rfl (hlt _ (by decide))))
    | 3, _ => intro k _ _ _ W _; exact .inl (q_fieldT 8 (by decide) _ _ o _ (hop _ _ ho _ rfl) b (hρ 2 (needs2_get hnd 3 2 (by decide)) 57 rfl (hlt _ (by decide))))
    | 4, _ =>
      intro k _ _ hk W hW
      have h2 := hk 11 2 (needs2_get hnd 11 4 (by decide)) rfl
      have hbW : Below w.heap.size w W := by
        match k, h2, hW with
        | 0, _, hW => have hW : W = W0 := hW; subst hW; exact hb0
        | 1, _, hW => exact hW.1
        | 2, _, hW => exact hW.1
      exact .inl (q_loadLists _ _ o _ (hop _ _ ho _ rfl) ⟨b, 8, none⟩ (hρ 3 (needs2_get hnd 4 3 (by decide)) 58 rfl (hlt _ (by decide))) A n c (((hT.below hbW).cell 8).trans hc))
    | 5, _ => intro k _ _ _ W _; exact .inl (q_fieldRec _ _ o _ (hop _ _ ho _ rfl) xb ex)
    | 6, _ =>
      intro k _ _ _ W hW
      have hk := RT.kept hb0 k vs W hW xb hxl (fun e => (hvb xb e).2.2.1 rfl) hxb
      have hX2 : Blk W xb 56 #[rlo, rhi, .slice (some ⟨gf, 0, none⟩) nf cf] := hk.trans hX
      exact .inl (q_loadStrs _ _ o _ (hop _ _ ho _ rfl) ⟨xb, 2, none⟩ (hρ 5 (needs2_get hnd 6 5 (by decide)) 60 rfl (hlt _ (by decide))) _ _ _ (hX2.cell 2))
    | 7, _ => intro k _ _ _ W _; exact .inl (q_index 1 _ _ o _ _ (hop _ _ ho _ rfl) gf nf cf (hρ 6 (needs2_get hnd 7 6 (by decide)) 61 rfl (hlt _ (by decide))) (hcon _) hn hn2)
    | 8, _ =>
      intro k _ _ hk W hW
      have h2 := hk 9 0 (needs2_get hnd 9 8 (by decide)) rfl
      obtain rfl : k = 0 := by omega
      have hW : W = W0 := hW
      subst hW
      exact .inl (q_loadStr _ _ o _ (hop _ _ ho _ rfl) ⟨gf, 1, none⟩ (hρ 7 (needs2_get hnd 8 7 (by decide)) 62 rfl (hlt _ (by decide))) _ (cell_later hb0 hstr))
    | 9, _ =>
      intro W hW
      have hW : W = W0 := hW
      subst hW
      refine .inr ⟨36, #[.string s], ?_, ?_⟩
      · have e := hρ 8 (needs2_get hnd 9 8 (by decide)) 63 rfl (hlt _ (by decide))
        have e : ρ (.tmp 63) = .string s := e
        unfold execOp
        rw [hop _ _ ho _ rfl]
        simp [go_sem, hfun, e, resolve, Act.eval]
      · refine (hp W hb0).mono ?_
        rintro e W' ⟨v, rfl, ho, hb⟩
        rw [hs0] at ho hb
        exact ⟨v, rfl, hb0.trans hb, ho⟩
    | 10, _ =>
      rintro W ⟨hbW, hv⟩
      have e := hρ 9 (needs2_get hnd 10 9 (by decide)) 64 rfl (hlt _ (by decide))
      have e : ρ (.tmp 64) = vs 9 := e
      obtain ⟨Av, cv, hvs⟩ := own_slice hv
      refine .inl ⟨.slice (some ⟨W.heap.size, 0, none⟩) 1 1, W.alloc (.cells #[vs 9] 57), ⟨hbW.trans ((alloc_below W _).mono hbW.size), own_below hv (alloc_below W _), W.heap.size, rfl, row_new _ _⟩, .inl ?_⟩
      have := q_build ρ W o _ (hop _ _ ho _ rfl) Av l.length cv (e.trans hvs)
      rw [← hvs] at this
      exact this
    | 11, _ =>
      rintro W ⟨hbW, hv, g, h10, hg⟩
      have e4 := hρ 4 (needs2_get hnd 11 4 (by decide)) 59 rfl (hlt _ (by decide))
      have e4 : ρ (.tmp 59) = .slice A n c := e4
      have e10 := hρ 10 (needs2_get hnd 11 10 (by decide)) 65 rfl (hlt _ (by decide))
      have e10 : ρ (.tmp 65) = vs 10 := e10
      obtain ⟨Av, cv, hvs⟩ := own_slice hv
      obtain ⟨v', W', hrun, hown, hgr, hat⟩ := r_append W slIntsR ρ o _ _ (hop _ _ ho _ rfl) B _ n us e4 (own_below hr hbW) ⟨g, 0, none⟩ 1 1 [vs 9] (e10.trans h10) rfl hg.at_ (by intro u hu; rw [List.mem_singleton] at hu; subst hu; rw [hvs]; rfl) hcap (Nat.le_trans hB hbW.size)
      exact .inl ⟨v', W', ⟨W, hbW, hv, hgr, hown, hat⟩, .inl hrun⟩
    | 12, _ => intro k _ _ _ W _; exact .inl (r_nilCheck _ _ o _ (hop _ _ ho _ rfl) _ (hρ 0 (needs2_get hnd 12 0 (by decide)) 55 rfl (hlt _ (by decide))))
    | 13, _ => intro k _ _ _ W _; exact .inl (q_fieldT 8 (by decide) _ _ o _ (hop _ _ ho _ rfl) b (hρ 12 (needs2_get hnd 13 12 (by decide)) 67 rfl (hlt _ (by decide))))
    | 14, _ =>
      rintro W ⟨W2, hbW, hv, hgr, hown, hat⟩
      have e13 := hρ 13 (needs2_get hnd 14 13 (by decide)) 68 rfl (hlt _ (by decide))
      have e13 : ρ (.tmp 68) = .pointer (some ⟨b, 8, none⟩) := e13
      have e11 := hρ 11 (needs2_get hnd 14 11 (by decide)) 66 rfl (hlt _ (by decide))
      have e11 : ρ (.tmp 66) = vs 11 := e11
      obtain ⟨A2, c2, hvs⟩ := own_slice hown
      have hTW : Blk W b 67 cs := (hT.below hbW).grown hgr (fun e => (hvb b e.symm).2.1 rfl)
      refine .inl ⟨undef, W.setCell ⟨b, 8, none⟩ (vs 11), ⟨W2, W, hbW, hv, hgr, hown, hat, rfl⟩, .inr ⟨?_, rfl⟩⟩
      rw [hvs]
      exact q_store ρ W o _ _ (hop _ _ ho _ rfl) _ e13 A2 (n + 1) c2 (e11.trans hvs) _ ((hTW.cell 8).trans hc) (hTW.free 8)
  · intro vs W h
    have hk := RT.kept hb0 4 vs W h
    obtain ⟨W2, W3, hbW, hv, hgr, hown, hat, rfl⟩ := h
    have hTW : Blk W3 b 67 cs := (hT.below hbW).grown hgr (fun e => (hvb b e.symm).2.1 rfl)
    have hbs := heap_lt hTW
    have hkeep : ∀ {e : TypeId} {B' k : Nat} {v : Value} {xs : List Value}, W3.ownsRow B' e 1 v k xs → e ≠ 67 → (W3.setCell ⟨b, 8, none⟩ (vs 11)).ownsRow B' e 1 v k xs := by
      intro e B' k v xs ho hne
      refine ho.kept (row := some b) ⟨rfl, rfl, rfl, by simp [World.setCell], fun k _ hk => Below.heap_setCell _ _ _ _ (fun e => hk (by rw [e]))⟩ ?_
      rcases ho.2 with ⟨rfl, _⟩ | ⟨g, cap, cur, rfl, _, hh, _⟩
      · exact .inl rfl
      · right
        intro e2
        have e2 : g = b := by simpa [Value.ownBlock] using e2
        subst e2
        unfold Blk at hTW
        rw [hh] at hTW
        simp only [Option.some.injEq, Obj.cells.injEq] at hTW
        exact hne hTW.2.1
    have hv3 : W3.ownsRow w.heap.size 3 1 (vs 9) l.length (intsR l) := hv.kept hgr (by
      rcases hv.2 with ⟨h, _⟩ | ⟨g, cap, cur, h, hgb, _⟩
      · left; rw [h]; rfl
      · right
        intro e2
        rw [h] at e2
        have := (hvb g (by rw [← e2]; rfl)).1
        omega)
    refine hend _ (vs 11) (vs 9) _ (hkeep hown (by decide)) (hkeep hv3 (by decide)) (hTW.set 8 _) ?_ hk ?_
    · intro C hC1 hC2 hC3
      exact ((hbW.mono hC3).grown hgr (Nat.le_trans hC3 hbW.size) (fun k hk => Nat.le_trans hC2 (hvb k hk).2.2.2)).setCell hC1 _
    · rcases hat with h | h
      · exact .inl h
      · exact .inr ⟨_, hbW.size, h⟩

end Go.Proofs.YtchkckfadennhaaGreatDoor

namespace Go.Proofs.YtchkckfadennhaaGreatDoor
open Go.RowKit
set_option linter.unusedVariables false
set_option linter.unusedSimpArgs false

def RTextIs (f : FuncId) (rs : List Rec) : Prop := ∃ t, (∀ w, Calls Tryz.prog f #[] w fun e w' => e = .returned (.string t) ∧ w = w') ∧ ∀ w, Calls Tryz.prog 35 #[.string t] w fun e w' => ∃ v fv, e = .returned v ∧ RecsAt w' w.heap.size v rs fv ∧ Below w.heap.size w w'
theorem rtext_of {f : FuncId} {g : Func} (h1 : ∀ w, Calls Tryz.prog f #[] w fun e w' => e = .returned (.string (textOf g)) ∧ w = w') (h2 : refB g) (h3 : goodText g = true) : RTextIs f (recsOf g) := by
  refine ⟨textOf g, h1, fun w => ?_⟩
  have e : textOf g = ⟨(textOf g).data.toList.toArray⟩ := by rw [Array.toArray_toList]
  unfold goodText at h3
  simp only [Bool.and_eq_true, decide_eq_true_eq] at h3
  have := records_ref (textOf g).data.toList (recsOf g) w (by rw [blen]; exact h3.1.2) h2
  rwa [← e] at this
structure RTexts (Φ : Files) : Prop where
  cat : RTextIs 18 Φ.cat
  comb : RTextIs 19 Φ.comb
  clu : RTextIs 21 Φ.clu
  word : RTextIs 22 Φ.word
  scr : RTextIs 20 Φ.scr
  dec : RTextIs 24 Φ.dec
  fol : RTextIs 26 Φ.fol
  pdec : ∀ x ∈ Φ.dec, RSp.pts (fld0 x) = Sp.pts (fld0 x)
  pfol : ∀ x ∈ Φ.fol, RSp.pts (fld1 x) = Sp.pts (fld1 x)
def samePts (rs : List Rec) (k : Rec → Sp.Str) : Bool := rs.all fun x => RSp.pts (k x) == Sp.pts (k x)
theorem ref_dec_pts : samePts (recsOf Tryz.f24) fld0 = true := by kernel_rfl
theorem ref_fol_pts : samePts (recsOf Tryz.f26) fld1 = true := by kernel_rfl
theorem samePts_of {rs : List Rec} {k : Rec → Sp.Str} (h : samePts rs k = true) : ∀ x ∈ rs, RSp.pts (k x) = Sp.pts (k x) := fun x hx => by
  have := List.all_eq_true.1 h x hx
  simpa using this
set_option maxRecDepth 100000 in
theorem ref_texts : RTexts files where
  cat := rtext_of categories_calls ref_cat good_categories
  comb := rtext_of combining_calls ref_comb good_combining
  clu := rtext_of clusters_calls ref_clu good_clusters
  word := rtext_of words_calls ref_word good_words
  scr := rtext_of scripts_calls ref_scr good_scripts
  dec := rtext_of decompositions_calls ref_dec good_decompositions
  fol := rtext_of folding_calls ref_fol good_folding
  pdec := samePts_of ref_dec_pts
  pfol := samePts_of ref_fol_pts
theorem own_keep {w w' : World} {B : Nat} {e : TypeId} {s n : Nat} {v : Value} {xs : List Value} (h : w.ownsRow B e s v n xs) (hk : ∀ i, v.ownBlock = some i → i < w.heap.size → w'.heap[i]? = w.heap[i]?) : w'.ownsRow B e s v n xs := by
  refine ⟨h.1, ?_⟩
  rcases h.2 with h1 | ⟨g, cap, cur, rfl, hb, hg, h2⟩
  · exact .inl h1
  · exact .inr ⟨g, cap, cur, rfl, hb, (hk g rfl (heap_lt hg)).trans hg, h2⟩
/-- All but a row of lists of one's own and the tables' block stands. -/
def KeptR (w w' : World) (b : Nat) (vc : Value) : Prop := ∀ i, i < w.heap.size → vc.ownBlock ≠ some i → i ≠ b → w'.heap[i]? = w.heap[i]?
theorem KeptR.own {w w' : World} {b B n : Nat} {vc : Value} {us : List Value} {cs : Array Value} (hk : KeptR w w' b vc) (hr : w.ownsRow B 57 1 vc n us) (hT : Blk w b 67 cs) {B' m : Nat} {e : TypeId} {s : Nat} {v : Value} {xs : List Value}
    (h : w.ownsRow B' e s v m xs) (h1 : e ≠ 57) (h2 : e ≠ 67) : w'.ownsRow B' e s v m xs := by
  refine own_keep h fun i hi hl => hk i hl ?_ ?_
  · rcases own_types h hr h1 with h3 | h3
    · rw [h3] at hi; cases hi
    · rw [hi] at h3; exact Ne.symm h3
  · rintro rfl
    rcases h.2 with ⟨rfl, _⟩ | ⟨g, cap, cur, rfl, _, hg, _⟩
    · cases hi
    · have hi : g = i := by simpa [Value.ownBlock] using hi
      subst hi
      unfold Blk at hT
      rw [hg] at hT
      simp only [Option.some.injEq, Obj.cells.injEq] at hT
      exact h2 hT.2.1
theorem KeptR.recs {w w' : World} {b B n : Nat} {vc : Value} {us : List Value} {cs : Array Value} (hk : KeptR w w' b vc) (hr : w.ownsRow B 57 1 vc n us) (hT : Blk w b 67 cs) {B' : Nat} {v : Value} {rs : List Rec} {fv : List Value}
    (h : RecsAt w B' v rs fv) : RecsAt w' B' v rs fv := ⟨h.len, hk.own hr hT h.row (by decide) (by decide), fun i r u h1 h2 => hk.own hr hT (h.fld i r u h1 h2) (by decide) (by decide)⟩
theorem KeptR.rows {w w' : World} {b B n : Nat} {vc : Value} {us : List Value} {cs : Array Value} (hk : KeptR w w' b vc) (hr : w.ownsRow B 57 1 vc n us) (hT : Blk w b 67 cs) {B' : Nat} {v : Value} {ls : List (List Nat)} {us' : List Value}
    (h : RowsAt w B' v ls us') (hne : v.ownBlock = none ∨ v.ownBlock ≠ vc.ownBlock) : RowsAt w' B' v ls us' := by
  refine ⟨h.len, own_keep h.row fun i hi hl => hk i hl ?_ ?_, fun i r u h1 h2 => hk.own hr hT (h.one i r u h1 h2) (by decide) (by decide)⟩
  · rcases hne with h3 | h3
    · rw [h3] at hi; cases hi
    · rw [hi] at h3; exact Ne.symm h3
  · rintro rfl
    rcases h.row.2 with ⟨h3, _⟩ | ⟨g, cap, cur, h3, _, hg, _⟩
    · rw [h3] at hi; cases hi
    · rw [h3] at hi
      have hi : g = i := by simpa [Value.ownBlock] using hi
      subst hi
      unfold Blk at hT
      rw [hg] at hT
      simp only [Option.some.injEq, Obj.cells.injEq] at hT
      exact absurd hT.2.1 (by decide)
/-- One list more. -/
theorem RowsAt.snoc {w w' : World} {b B : Nat} {v v' : Value} {ls : List (List Nat)} {us : List Value} {cs : Array Value} (h : RowsAt w B v ls us) (hT : Blk w b 67 cs) (hk : KeptR w w' b v) {l : List Nat} {u' : Value} (hu : w'.ownsRow B 3 1 u' l.length (intsR l))
    (hr : w'.ownsRow B 57 1 v' (ls.length + 1) (us ++ [u'])) : RowsAt w' B v' (ls ++ [l]) (us ++ [u']) := by
  refine ⟨by simp [h.len], by rw [List.length_append]; exact hr, fun i l' u h1 h2 => ?_⟩
  by_cases hi : i < ls.length
  · rw [List.getElem?_append_left hi] at h1
    rw [List.getElem?_append_left (by rw [← h.len]; exact hi)] at h2
    exact hk.own h.row hT (h.one i l' u h1 h2) (by decide) (by decide)
  · have hil : i = ls.length := by
      have := (List.getElem?_eq_some_iff.1 h1).1
      simp at this
      omega
    subst hil
    rw [List.getElem?_append_right (Nat.le_refl _)] at h1
    rw [h.len, List.getElem?_append_right (Nat.le_refl _)] at h2
    simp at h1 h2
    subst h1 h2
    exact hu

/-- What stands while the two lists are made: k of the first, j of the second. -/
structure RSt (w0 w : World) (b : Nat) (Φ : Files) (v0 v1 v2 v3 v4 v5 v6 : Value) (f0 f1 f2 f3 f4 f5 f6 : List Value) (k j : Nat) (v7 v8 : Value) : Prop where
  blk : Blk w b 67 #[v0, v1, v2, v3, v4, v5, v6, v7, v8]
  r0 : RecsAt w w0.heap.size v0 Φ.cat f0
  r1 : RecsAt w w0.heap.size v1 Φ.comb f1
  r2 : RecsAt w w0.heap.size v2 Φ.clu f2
  r3 : RecsAt w w0.heap.size v3 Φ.word f3
  r4 : RecsAt w w0.heap.size v4 Φ.scr f4
  r5 : RecsAt w w0.heap.size v5 Φ.dec f5
  r6 : RecsAt w w0.heap.size v6 Φ.fol f6
  q7 : ∃ us, RowsAt w w0.heap.size v7 ((decPts Φ).take k) us
  q8 : ∃ us, RowsAt w w0.heap.size v8 ((folPts Φ).take j) us
  ne : v8.ownBlock = none ∨ v8.ownBlock ≠ v7.ownBlock
  bel : Below w0.heap.size w0 w
  hb : w0.heap.size ≤ b
section
variable {w0 w w' : World} {b k j : Nat} {Φ : Files} {v0 v1 v2 v3 v4 v5 v6 v7 v8 : Value} {f0 f1 f2 f3 f4 f5 f6 : List Value}
theorem RSt.below (h : RSt w0 w b Φ v0 v1 v2 v3 v4 v5 v6 f0 f1 f2 f3 f4 f5 f6 k j v7 v8) (hb : Below w.heap.size w w') : RSt w0 w' b Φ v0 v1 v2 v3 v4 v5 v6 f0 f1 f2 f3 f4 f5 f6 k j v7 v8 :=
  ⟨h.blk.below hb, h.r0.below hb, h.r1.below hb, h.r2.below hb, h.r3.below hb, h.r4.below hb, h.r5.below hb, h.r6.below hb, h.q7.imp fun _ hq => hq.below hb, h.q8.imp fun _ hq => hq.below hb, h.ne, h.bel.trans (hb.mono h.bel.size), h.hb⟩
theorem RSt.next7 (h : RSt w0 w b Φ v0 v1 v2 v3 v4 v5 v6 f0 f1 f2 f3 f4 f5 f6 k j v7 v8) {us : List Value} {u' v' : Value} (hq : RowsAt w w0.heap.size v7 ((decPts Φ).take k) us) (hk : k < (decPts Φ).length) (hlen : k ≤ (decPts Φ).length) (he : v8 = .slice none 0 0)
    (hr : w'.ownsRow w0.heap.size 57 1 v' (k + 1) (us ++ [u'])) (hu : w'.ownsRow w.heap.size 3 1 u' ((decPts Φ)[k]).length (intsR (decPts Φ)[k])) (hT : Blk w' b 67 (#[v0, v1, v2, v3, v4, v5, v6, v7, v8].setIfInBounds 7 v'))
    (hb : Below w0.heap.size w w') (hkp : KeptR w w' b v7) (hat : v'.ownBlock = v7.ownBlock ∨ ∃ k, w.heap.size ≤ k ∧ v'.ownBlock = some k) : RSt w0 w' b Φ v0 v1 v2 v3 v4 v5 v6 f0 f1 f2 f3 f4 f5 f6 (k + 1) (j) v' v8 := by
  have ht : ((decPts Φ).take k).length = k := by rw [List.length_take]; omega
  have e : (decPts Φ).take (k + 1) = (decPts Φ).take k ++ [(decPts Φ)[k]] := (List.take_append_getElem hk).symm
  have hsn : RowsAt w' w0.heap.size v' ((decPts Φ).take (k + 1)) (us ++ [u']) := by rw [e]; exact hq.snoc h.blk hkp (own_base hu (by have := h.bel.size; omega)) (by rw [ht]; exact hr)
  obtain ⟨us8, h8⟩ := h.q8
  refine ⟨hT, hkp.recs hq.row h.blk h.r0, hkp.recs hq.row h.blk h.r1, hkp.recs hq.row h.blk h.r2, hkp.recs hq.row h.blk h.r3, hkp.recs hq.row h.blk h.r4, hkp.recs hq.row h.blk h.r5, hkp.recs hq.row h.blk h.r6, ⟨_, hsn⟩, ⟨us8, hkp.rows hq.row h.blk h8 h.ne⟩, .inl (by rw [he]; rfl), h.bel.trans hb, h.hb⟩
theorem RSt.next8 (h : RSt w0 w b Φ v0 v1 v2 v3 v4 v5 v6 f0 f1 f2 f3 f4 f5 f6 k j v7 v8) {us : List Value} {u' v' : Value} (hq : RowsAt w w0.heap.size v8 ((folPts Φ).take j) us) (hk : j < (folPts Φ).length) (hlen : j ≤ (folPts Φ).length)
    (hr : w'.ownsRow w0.heap.size 57 1 v' (j + 1) (us ++ [u'])) (hu : w'.ownsRow w.heap.size 3 1 u' ((folPts Φ)[j]).length (intsR (folPts Φ)[j])) (hT : Blk w' b 67 (#[v0, v1, v2, v3, v4, v5, v6, v7, v8].setIfInBounds 8 v'))
    (hb : Below w0.heap.size w w') (hkp : KeptR w w' b v8) (hat : v'.ownBlock = v8.ownBlock ∨ ∃ k, w.heap.size ≤ k ∧ v'.ownBlock = some k) : RSt w0 w' b Φ v0 v1 v2 v3 v4 v5 v6 f0 f1 f2 f3 f4 f5 f6 (k) (j + 1) v7 v' := by
  have ht : ((folPts Φ).take j).length = j := by rw [List.length_take]; omega
  have e : (folPts Φ).take (j + 1) = (folPts Φ).take j ++ [(folPts Φ)[j]] := (List.take_append_getElem hk).symm
  have hsn : RowsAt w' w0.heap.size v' ((folPts Φ).take (j + 1)) (us ++ [u']) := by rw [e]; exact hq.snoc h.blk hkp (own_base hu (by have := h.bel.size; omega)) (by rw [ht]; exact hr)
  obtain ⟨us7, h7⟩ := h.q7
  have hne : v7.ownBlock = none ∨ v7.ownBlock ≠ v8.ownBlock := by
    rcases h.ne with h1 | h1
    · cases h2 : v7.ownBlock with
      | none => exact .inl rfl
      | some g => right; rw [h1]; exact fun e => by cases e
    · exact .inr (Ne.symm h1)
  refine ⟨hT, hkp.recs hq.row h.blk h.r0, hkp.recs hq.row h.blk h.r1, hkp.recs hq.row h.blk h.r2, hkp.recs hq.row h.blk h.r3, hkp.recs hq.row h.blk h.r4, hkp.recs hq.row h.blk h.r5, hkp.recs hq.row h.blk h.r6, ⟨us7, hkp.rows hq.row h.blk h7 hne⟩, ⟨_, hsn⟩, ?_, h.bel.trans hb, h.hb⟩
  rcases hat with h1 | ⟨g, hg, h1⟩
  · rw [h1]; exact h.ne
  · right
    rw [h1]
    intro e2
    have := (own_lt h7.row g e2.symm).2
    omega
end
set_option maxRecDepth 100000 in
set_option maxHeartbeats 1600000 in
theorem ref_load_of (Φ : Files) (hok : FilesOk Φ) (htx : RTexts Φ) (w : World) : Calls Tryz.prog 12 #[] w fun e w' => ∃ b, e = .returned (.pointer (some ⟨b, 0, none⟩)) ∧ RefAt w' w.heap.size b Φ ∧ Below w.heap.size w w' := by
  obtain ⟨t0, ht0, hr0⟩ := htx.cat
  have HT0 := Lib.hid ht0
  have HR0 := Lib.hid hr0
  obtain ⟨t1, ht1, hr1⟩ := htx.comb
  have HT1 := Lib.hid ht1
  have HR1 := Lib.hid hr1
  obtain ⟨t2, ht2, hr2⟩ := htx.clu
  have HT2 := Lib.hid ht2
  have HR2 := Lib.hid hr2
  obtain ⟨t3, ht3, hr3⟩ := htx.word
  have HT3 := Lib.hid ht3
  have HR3 := Lib.hid hr3
  obtain ⟨t4, ht4, hr4⟩ := htx.scr
  have HT4 := Lib.hid ht4
  have HR4 := Lib.hid hr4
  obtain ⟨t5, ht5, hr5⟩ := htx.dec
  have HT5 := Lib.hid ht5
  have HR5 := Lib.hid hr5
  obtain ⟨t6, ht6, hr6⟩ := htx.fol
  have HT6 := Lib.hid ht6
  have HR6 := Lib.hid hr6
  have Hok := Lib.hid hok
  have Hpd := Lib.hid htx.pdec
  have Hpf := Lib.hid htx.pfol
  have hnd : Φ.dec.length ≤ 100000 := hok.decl.le
  have hnf : Φ.fol.length ≤ 100000 := hok.foll.le
  clear hok htx ht0 hr0 ht1 hr1 ht2 hr2 ht3 hr3 ht4 hr4 ht5 hr5 ht6 hr6
  go_enter Tryz.func12, Tryz.ntmps12
  go_wp2_with fail
  refine (HT0.out _).mono ?_
  rintro e wt0 ⟨rfl, rfl⟩
  go_wp2_with fail
  refine (HR0.out _).mono ?_
  rintro e w1 ⟨v0, f0, rfl, hq0, hb0⟩
  have HB1 := Lib.hid hb0
  have HQ0_1 := Lib.hid hq0
  obtain ⟨A0, c0, hv0⟩ := own_slice hq0.row
  subst hv0
  clear hq0 hb0 HT0 HR0
  go_wp2_with fail
  refine (HT1.out _).mono ?_
  rintro e wt1 ⟨rfl, rfl⟩
  go_wp2_with fail
  refine (HR1.out _).mono ?_
  rintro e w2 ⟨v1, f1, rfl, hq1, hb1⟩
  have HB2 := Lib.hid (HB1.out.trans (hb1.mono HB1.out.size))
  have HQ0_2 := Lib.hid (HQ0_1.out.below hb1)
  have HQ1_2 := Lib.hid (hq1.base HB1.out.size)
  clear HB1 HQ0_1
  obtain ⟨A1, c1, hv1⟩ := own_slice hq1.row
  subst hv1
  clear hq1 hb1 HT1 HR1
  go_wp2_with fail
  refine (HT2.out _).mono ?_
  rintro e wt2 ⟨rfl, rfl⟩
  go_wp2_with fail
  refine (HR2.out _).mono ?_
  rintro e w3 ⟨v2, f2, rfl, hq2, hb2⟩
  have HB3 := Lib.hid (HB2.out.trans (hb2.mono HB2.out.size))
  have HQ0_3 := Lib.hid (HQ0_2.out.below hb2)
  have HQ1_3 := Lib.hid (HQ1_2.out.below hb2)
  have HQ2_3 := Lib.hid (hq2.base HB2.out.size)
  clear HB2 HQ0_2 HQ1_2
  obtain ⟨A2, c2, hv2⟩ := own_slice hq2.row
  subst hv2
  clear hq2 hb2 HT2 HR2
  go_wp2_with fail
  refine (HT3.out _).mono ?_
  rintro e wt3 ⟨rfl, rfl⟩
  go_wp2_with fail
  refine (HR3.out _).mono ?_
  rintro e w4 ⟨v3, f3, rfl, hq3, hb3⟩
  have HB4 := Lib.hid (HB3.out.trans (hb3.mono HB3.out.size))
  have HQ0_4 := Lib.hid (HQ0_3.out.below hb3)
  have HQ1_4 := Lib.hid (HQ1_3.out.below hb3)
  have HQ2_4 := Lib.hid (HQ2_3.out.below hb3)
  have HQ3_4 := Lib.hid (hq3.base HB3.out.size)
  clear HB3 HQ0_3 HQ1_3 HQ2_3
  obtain ⟨A3, c3, hv3⟩ := own_slice hq3.row
  subst hv3
  clear hq3 hb3 HT3 HR3
  go_wp2_with fail
  refine (HT4.out _).mono ?_
  rintro e wt4 ⟨rfl, rfl⟩
  go_wp2_with fail
  refine (HR4.out _).mono ?_
  rintro e w5 ⟨v4, f4, rfl, hq4, hb4⟩
  have HB5 := Lib.hid (HB4.out.trans (hb4.mono HB4.out.size))
  have HQ0_5 := Lib.hid (HQ0_4.out.below hb4)
  have HQ1_5 := Lib.hid (HQ1_4.out.below hb4)
  have HQ2_5 := Lib.hid (HQ2_4.out.below hb4)
  have HQ3_5 := Lib.hid (HQ3_4.out.below hb4)
  have HQ4_5 := Lib.hid (hq4.base HB4.out.size)
  clear HB4 HQ0_4 HQ1_4 HQ2_4 HQ3_4
  obtain ⟨A4, c4, hv4⟩ := own_slice hq4.row
  subst hv4
  clear hq4 hb4 HT4 HR4
  go_wp2_with fail
  refine (HT5.out _).mono ?_
  rintro e wt5 ⟨rfl, rfl⟩
  go_wp2_with fail
  refine (HR5.out _).mono ?_
  rintro e w6 ⟨v5, f5, rfl, hq5, hb5⟩
  have HB6 := Lib.hid (HB5.out.trans (hb5.mono HB5.out.size))
  have HQ0_6 := Lib.hid (HQ0_5.out.below hb5)
  have HQ1_6 := Lib.hid (HQ1_5.out.below hb5)
  have HQ2_6 := Lib.hid (HQ2_5.out.below hb5)
  have HQ3_6 := Lib.hid (HQ3_5.out.below hb5)
  have HQ4_6 := Lib.hid (HQ4_5.out.below hb5)
  have HQ5_6 := Lib.hid (hq5.base HB5.out.size)
  clear HB5 HQ0_5 HQ1_5 HQ2_5 HQ3_5 HQ4_5
  obtain ⟨A5, c5, hv5⟩ := own_slice hq5.row
  subst hv5
  clear hq5 hb5 HT5 HR5
  go_wp2_with fail
  refine (HT6.out _).mono ?_
  rintro e wt6 ⟨rfl, rfl⟩
  go_wp2_with fail
  refine (HR6.out _).mono ?_
  rintro e w7 ⟨v6, f6, rfl, hq6, hb6⟩
  have HB7 := Lib.hid (HB6.out.trans (hb6.mono HB6.out.size))
  have HQ0_7 := Lib.hid (HQ0_6.out.below hb6)
  have HQ1_7 := Lib.hid (HQ1_6.out.below hb6)
  have HQ2_7 := Lib.hid (HQ2_6.out.below hb6)
  have HQ3_7 := Lib.hid (HQ3_6.out.below hb6)
  have HQ4_7 := Lib.hid (HQ4_6.out.below hb6)
  have HQ5_7 := Lib.hid (HQ5_6.out.below hb6)
  have HQ6_7 := Lib.hid (hq6.base HB6.out.size)
  clear HB6 HQ0_6 HQ1_6 HQ2_6 HQ3_6 HQ4_6 HQ5_6
  obtain ⟨A6, c6, hv6⟩ := own_slice hq6.row
  subst hv6
  clear hq6 hb6 HT6 HR6
  go_upto_region 2 with fail
  have hbx := alloc_below w7 (Obj.cells #[.slice A0 Φ.cat.length c0, .slice A1 Φ.comb.length c1, .slice A2 Φ.clu.length c2, .slice A3 Φ.word.length c3, .slice A4 Φ.scr.length c4, .slice A5 Φ.dec.length c5, .slice A6 Φ.fol.length c6, .slice none 0 0, .slice none 0 0] 67)
  have hRS : RSt w (w7.alloc (Obj.cells #[.slice A0 Φ.cat.length c0, .slice A1 Φ.comb.length c1, .slice A2 Φ.clu.length c2, .slice A3 Φ.word.length c3, .slice A4 Φ.scr.length c4, .slice A5 Φ.dec.length c5, .slice A6 Φ.fol.length c6, .slice none 0 0, .slice none 0 0] 67)) w7.heap.size Φ (.slice A0 Φ.cat.length c0) (.slice A1 Φ.comb.length c1) (.slice A2 Φ.clu.length c2) (.slice A3 Φ.word.length c3) (.slice A4 Φ.scr.length c4) (.slice A5 Φ.dec.length c5) (.slice A6 Φ.fol.length c6) f0 f1 f2 f3 f4 f5 f6 0 0 (.slice none 0 0) (.slice none 0 0) :=
    ⟨row_new _ _, HQ0_7.out.below hbx, HQ1_7.out.below hbx, HQ2_7.out.below hbx, HQ3_7.out.below hbx, HQ4_7.out.below hbx, HQ5_7.out.below hbx, HQ6_7.out.below hbx, ⟨[], rfl, ⟨rfl, .inl ⟨rfl, rfl⟩⟩, fun i l u h _ => by cases h⟩, ⟨[], rfl, ⟨rfl, .inl ⟨rfl, rfl⟩⟩, fun i l u h _ => by cases h⟩, .inl rfl, HB7.out.trans (hbx.mono HB7.out.size), HB7.out.size⟩
  generalize w7.alloc _ = W8 at hRS ⊢
  generalize w7.heap.size = b8 at *
  have HS8 := Lib.hid hRS
  have z5 : W8.cell? ⟨b8, 5, none⟩ = some (.slice A5 Φ.dec.length c5) := hRS.blk.cell 5
  clear hbx hRS HB7 HQ0_7 HQ1_7 HQ2_7 HQ3_7 HQ4_7 HQ5_7 HQ6_7
  go_wp2_with fail
  go_loopw [27] (fun i wr => ∃ k : Nat, k ≤ Φ.dec.length ∧ i = .int .i64 k ∧ Hid (∃ v7 : Value, RSt w wr b8 Φ (.slice A0 Φ.cat.length c0) (.slice A1 Φ.comb.length c1) (.slice A2 Φ.clu.length c2) (.slice A3 Φ.word.length c3) (.slice A4 Φ.scr.length c4) (.slice A5 Φ.dec.length c5) (.slice A6 Φ.fol.length c6) f0 f1 f2 f3 f4 f5 f6 k 0 v7 (.slice none 0 0))) (fun i _ => Φ.dec.length - (intOf i).toNat)
  case atStart => exact ⟨0, by omega, rfl, _, HS8.out⟩
  case round =>
    obtain ⟨k, hk, rfl, HI⟩ := hrel
    clear HS8 z5
    by_cases hlt : k < Φ.dec.length
    · obtain ⟨v7, hS⟩ := HI.out
      clear HI
      obtain ⟨us, hq⟩ := hS.q7
      have hlk : ((decPts Φ).take k).length = k := by rw [List.length_take]; unfold decPts; rw [List.length_map]; omega
      obtain ⟨A7, c7, rfl⟩ := own_slice hq.row
      rw [hlk] at hS hq
      have hrow := hq.row
      rw [hlk] at hrow
      obtain ⟨g0, cap0, hv, _, _, _, _⟩ := own_form hS.r5.row (by omega)
      injection hv with hA hn0 hc0
      subst hA hc0
      obtain ⟨u, hu⟩ : ∃ u, u = f5[k]'(by rw [← hS.r5.len]; exact hlt) := ⟨_, rfl⟩
      obtain ⟨x, hx⟩ : ∃ x, x = Φ.dec[k] := ⟨_, rfl⟩
      obtain ⟨e0, e1, e2⟩ := recCells_get Φ.dec f5 k hS.r5.len hlt
      rw [← hx] at e0 e1
      rw [← hu] at e2
      have d0 := own_cell hS.r5.row _ _ e0
      have d1 := own_cell hS.r5.row _ _ e1
      have d2 := own_cell hS.r5.row _ _ e2
      have hfld := hS.r5.fld k x u (by rw [hx]; exact List.getElem?_eq_getElem hlt) (by rw [hu]; exact List.getElem?_eq_getElem _)
      have hmem : x ∈ Φ.dec := by rw [hx]; exact List.getElem_mem _
      have hne : 0 < x.fields.length := List.length_pos_iff.2 (Hok.out.dec x hmem).ok.2.2
      have hst : (strVs x.fields)[0]? = some (.string ⟨(fld0 x).toArray⟩) := by
        unfold fld0 strVs
        cases hxf : x.fields with
        | nil => rw [hxf] at hne; simp at hne
        | cons a b => rfl
      have hlen := (Hok.out.dec x hmem).len
      have hpe := Hpd.out x hmem
      have hel : (decPts Φ)[k]'(by unfold decPts; rw [List.length_map]; exact hlt) = Sp.pts (fld0 x) := by
        unfold decPts
        rw [List.getElem_map, hx]
      obtain ⟨gx, cx, rfl, _, _, hxm, hxc⟩ := own_form hfld (by omega)
      have hxl : x.fields.length ≤ 9223372036854775807 := by unfold maxLen at hxc; omega
      have hbx := alloc_below wr (Obj.cells #[Value.int IntKind.i64 x.lo, Value.int IntKind.i64 x.hi, Value.slice (some ⟨gx, 0, none⟩) x.fields.length cx] 56)
      have HX := Lib.hid (show Blk (wr.alloc (Obj.cells #[Value.int IntKind.i64 x.lo, Value.int IntKind.i64 x.hi, Value.slice (some ⟨gx, 0, none⟩) x.fields.length cx] 56)) wr.heap.size 56 #[.int .i64 x.lo, .int .i64 x.hi, .slice (some ⟨gx, 0, none⟩) x.fields.length cx] from row_new _ _)
      have HSx := Lib.hid (hS.below hbx)
      have Hq := Lib.hid (hq.below hbx)
      have Hrow := Lib.hid (own_below hrow hbx)
      have Hst := Lib.hid (own_cell (own_below hfld hbx) _ _ hst)
      have Hpts := Lib.hid (fun W => points_ref (fld0 x) W (by omega))
      have Hel := Lib.hid hel
      have Hpe := Lib.hid hpe
      have Hlk := Lib.hid hlk
      have Hbs := Lib.hid (Nat.le_trans hS.bel.size hbx.size)
      clear hS hq hrow hu hx e0 e1 e2 hfld hmem hst hlen hpe hel hbx hlk
      go_upto_region 5 with fail
      generalize wr.alloc _ = W at *
      generalize wr.heap.size = xb at *
      refine region5 _ _ _ _ _ b8 xb gx k x.fields.length cx w.heap.size _ A7 c7 us _ _ ⟨(fld0 x).toArray⟩ (RSp.pts (fld0 x)) rfl (by kernel_rfl) (by kernel_rfl) (by kernel_rfl) (by first | exact Nat.le_refl _ | decide | simp) rfl rfl HSx.out.blk rfl HX.out Hst.out hne hxl (fun W2 _ => Hpts.out W2) Hrow.out Hbs.out (by omega) ?_
      intro V v' u' w' hown hul hblk hbel hkp hat
      rw [Hpe.out, ← Hel.out] at hul
      have HS' := Lib.hid (HSx.out.next7 Hq.out (by unfold decPts; rw [List.length_map]; exact hlt) (by unfold decPts; rw [List.length_map]; omega) rfl hown hul hblk (hbel _ HSx.out.hb (Nat.le_refl _) Hbs.out) hkp hat)
      clear hown hul hblk hbel hkp hat HX HSx Hq Hrow Hst Hpts Hel Hpe Hlk Hbs d0 d1 d2
      simp [frS, stepS, Exit.then]
      go_wp2_with fail
      go_roundw
      case rel => exact ⟨k + 1, by omega, by go_num, ⟨_, HS'.out⟩⟩
      case measure => simp [intOf]; omega
    · obtain rfl : k = Φ.dec.length := by omega
      obtain ⟨v7, HS9⟩ := HI.out
      have z6 : wr.cell? ⟨b8, 6, none⟩ = some (.slice A6 Φ.fol.length c6) := HS9.blk.cell 6
      replace HS9 := Lib.hid HS9
      clear HI
      go_wp2_with fail
      go_loopw [51] (fun i wr => ∃ k : Nat, k ≤ Φ.fol.length ∧ i = .int .i64 k ∧ Hid (∃ v7 v8 : Value, RSt w wr b8 Φ (.slice A0 Φ.cat.length c0) (.slice A1 Φ.comb.length c1) (.slice A2 Φ.clu.length c2) (.slice A3 Φ.word.length c3) (.slice A4 Φ.scr.length c4) (.slice A5 Φ.dec.length c5) (.slice A6 Φ.fol.length c6) f0 f1 f2 f3 f4 f5 f6 Φ.dec.length k v7 v8)) (fun i _ => Φ.fol.length - (intOf i).toNat)
      case atStart => exact ⟨0, by omega, rfl, _, _, HS9.out⟩
      case round =>
        obtain ⟨k, hk, rfl, HI⟩ := hrel
        clear HS9 z6
        by_cases hlt : k < Φ.fol.length
        · obtain ⟨v7, v8, hS⟩ := HI.out
          clear HI
          obtain ⟨us, hq⟩ := hS.q8
          have hlk : ((folPts Φ).take k).length = k := by rw [List.length_take]; unfold folPts; rw [List.length_map]; omega
          obtain ⟨A8, c8, rfl⟩ := own_slice hq.row
          rw [hlk] at hS hq
          have hrow := hq.row
          rw [hlk] at hrow
          obtain ⟨g0, cap0, hv, _, _, _, _⟩ := own_form hS.r6.row (by omega)
          injection hv with hA hn0 hc0
          subst hA hc0
          obtain ⟨u, hu⟩ : ∃ u, u = f6[k]'(by rw [← hS.r6.len]; exact hlt) := ⟨_, rfl⟩
          obtain ⟨x, hx⟩ : ∃ x, x = Φ.fol[k] := ⟨_, rfl⟩
          obtain ⟨e0, e1, e2⟩ := recCells_get Φ.fol f6 k hS.r6.len hlt
          rw [← hx] at e0 e1
          rw [← hu] at e2
          have d0 := own_cell hS.r6.row _ _ e0
          have d1 := own_cell hS.r6.row _ _ e1
          have d2 := own_cell hS.r6.row _ _ e2
          have hfld := hS.r6.fld k x u (by rw [hx]; exact List.getElem?_eq_getElem hlt) (by rw [hu]; exact List.getElem?_eq_getElem _)
          have hmem : x ∈ Φ.fol := by rw [hx]; exact List.getElem_mem _
          obtain ⟨a', b', l', hxf⟩ := (Hok.out.fol x hmem).two
          have hne : 1 < x.fields.length := by rw [hxf]; simp
          have hst : (strVs x.fields)[1]? = some (.string ⟨(fld1 x).toArray⟩) := by
            unfold fld1 strVs
            rw [hxf]
            rfl
          have hlen := (Hok.out.fol x hmem).len
          have hpe := Hpf.out x hmem
          clear hxf
          have hel : (folPts Φ)[k]'(by unfold folPts; rw [List.length_map]; exact hlt) = Sp.pts (fld1 x) := by
            unfold folPts
            rw [List.getElem_map, hx]
          obtain ⟨gx, cx, rfl, _, _, hxm, hxc⟩ := own_form hfld (by omega)
          have hxl : x.fields.length ≤ 9223372036854775807 := by unfold maxLen at hxc; omega
          have hbx := alloc_below wr (Obj.cells #[Value.int IntKind.i64 x.lo, Value.int IntKind.i64 x.hi, Value.slice (some ⟨gx, 0, none⟩) x.fields.length cx] 56)
          have HX := Lib.hid (show Blk (wr.alloc (Obj.cells #[Value.int IntKind.i64 x.lo, Value.int IntKind.i64 x.hi, Value.slice (some ⟨gx, 0, none⟩) x.fields.length cx] 56)) wr.heap.size 56 #[.int .i64 x.lo, .int .i64 x.hi, .slice (some ⟨gx, 0, none⟩) x.fields.length cx] from row_new _ _)
          have HSx := Lib.hid (hS.below hbx)
          have Hq := Lib.hid (hq.below hbx)
          have Hrow := Lib.hid (own_below hrow hbx)
          have Hst := Lib.hid (own_cell (own_below hfld hbx) _ _ hst)
          have Hpts := Lib.hid (fun W => points_ref (fld1 x) W (by omega))
          have Hel := Lib.hid hel
          have Hpe := Lib.hid hpe
          have Hlk := Lib.hid hlk
          have Hbs := Lib.hid (Nat.le_trans hS.bel.size hbx.size)
          clear hS hq hrow hu hx e0 e1 e2 hfld hmem hst hlen hpe hel hbx hlk
          go_upto_region 10 with fail
          generalize wr.alloc _ = W at *
          generalize wr.heap.size = xb at *
          refine regionA _ _ _ _ _ b8 xb gx k x.fields.length cx w.heap.size _ A8 c8 us _ _ ⟨(fld1 x).toArray⟩ (RSp.pts (fld1 x)) rfl (by kernel_rfl) (by kernel_rfl) (by kernel_rfl) (by first | exact Nat.le_refl _ | decide | simp) rfl rfl HSx.out.blk rfl HX.out Hst.out hne hxl (fun W2 _ => Hpts.out W2) Hrow.out Hbs.out (by omega) ?_
          intro V v' u' w' hown hul hblk hbel hkp hat
          rw [Hpe.out, ← Hel.out] at hul
          have HS' := Lib.hid (HSx.out.next8 Hq.out (by unfold folPts; rw [List.length_map]; exact hlt) (by unfold folPts; rw [List.length_map]; omega) hown hul hblk (hbel _ HSx.out.hb (Nat.le_refl _) Hbs.out) hkp hat)
          clear hown hul hblk hbel hkp hat HX HSx Hq Hrow Hst Hpts Hel Hpe Hlk Hbs d0 d1 d2
          simp [frS, stepS, Exit.then]
          go_wp2_with fail
          go_roundw
          case rel => exact ⟨k + 1, by omega, by go_num, ⟨_, _, HS'.out⟩⟩
          case measure => simp [intOf]; omega
        · obtain rfl : k = Φ.fol.length := by omega
          obtain ⟨v7, v8, hS⟩ := HI.out
          clear HI
          have hfin : RefAt wr w.heap.size b8 Φ := by
            obtain ⟨us7, h7⟩ := hS.q7
            obtain ⟨us8, h8⟩ := hS.q8
            rw [List.take_of_length_le (by unfold decPts; rw [List.length_map]; exact Nat.le_refl _)] at h7
            rw [List.take_of_length_le (by unfold folPts; rw [List.length_map]; exact Nat.le_refl _)] at h8
            exact ⟨_, _, _, _, _, _, _, v7, v8, f0, f1, f2, f3, f4, f5, f6, us7, us8, hS.blk, hS.r0, hS.r1, hS.r2, hS.r3, hS.r4, hS.r5, hS.r6, h7, h8⟩
          have HF := Lib.hid hfin
          have HB := Lib.hid hS.bel
          clear hfin hS
          go_wp2_with fail
          go_ret
          exact ⟨b8, rfl, HF.out, HB.out⟩
theorem ref_load (w : World) : Calls Tryz.prog 12 #[] w fun e w' => ∃ b, e = .returned (.pointer (some ⟨b, 0, none⟩)) ∧ RefAt w' w.heap.size b files ∧ Below w.heap.size w w' := ref_load_of files files_ok ref_texts w
end Go.Proofs.YtchkckfadennhaaGreatDoor
