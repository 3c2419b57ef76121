/- rubricatorref06.Load: the two regions that draw their order (printed by wip/tools/mkrefload.py). -/
import Derived.Test.YtpmbebofinlmmaaGreatDoorRef6B
import Derived.Test.YtpmbebofinlmmaaGreatDoorDagH
namespace Go.Proofs.YtpmbebofinlmmaaGreatDoor
open Go.RowKit
set_option linter.unusedVariables false
set_option linter.unusedSimpArgs false

theorem slIntsR : SlT Tryz.prog 89 42 1 24 := ⟨Tryz.underlying89, by kernel_rfl, by decide, by decide⟩
theorem q_fieldT (f : Nat) (hf : f = 7 ∨ f = 8) (ρ : Operand → Value) (W : World) (o : Oper) (x : Operand) (ho : o.op = .fieldAddr 91 x f) (p : Nat) (hx : ρ x = .pointer (some ⟨p, 0, none⟩)) : (execOp ρ o).run Tryz.prog W = .ok (.value (.pointer (some ⟨p, f, none⟩))) W := by
  unfold execOp
  rw [ho]
  rcases hf with rfl | rfl <;> go_simp
theorem q_fieldRec (ρ : Operand → Value) (W : World) (o : Oper) (x : Operand) (ho : o.op = .fieldAddr 81 x 2) (p : Nat) (hx : ρ x = .pointer (some ⟨p, 0, none⟩)) : (execOp ρ o).run Tryz.prog W = .ok (.value (.pointer (some ⟨p, 2, none⟩))) W := by
  unfold execOp
  rw [ho]
  go_simp
theorem q_loadLists (ρ : Operand → Value) (W : World) (o : Oper) (x : Operand) (ho : o.op = .load 89 x) (ad : Addr) (hx : ρ x = .pointer (some ad)) (A : Option Addr) (n c : Nat) (hc : W.cell? ad = some (.slice A n c)) : (execOp ρ o).run Tryz.prog W = .ok (.value (.slice A n c)) W := by
  unfold execOp
  rw [ho]
  go_simp
theorem q_loadStrs (ρ : Operand → Value) (W : World) (o : Oper) (x : Operand) (ho : o.op = .load 25 x) (ad : Addr) (hx : ρ x = .pointer (some ad)) (A : Option Addr) (n c : Nat) (hc : W.cell? ad = some (.slice A n c)) : (execOp ρ o).run Tryz.prog W = .ok (.value (.slice A n c)) W := by
  unfold execOp
  rw [ho]
  go_simp
theorem q_loadStr (ρ : Operand → Value) (W : World) (o : Oper) (x : Operand) (ho : o.op = .load 9 x) (ad : Addr) (hx : ρ x = .pointer (some ad)) (s : ByteArray) (hc : W.cell? ad = some (.string s)) : (execOp ρ o).run Tryz.prog W = .ok (.value (.string s)) W := by
  unfold execOp
  rw [ho]
  go_simp
theorem q_index (i : Nat) (ρ : Operand → Value) (W : World) (o : Oper) (x y : Operand) (ho : o.op = .indexAddr 25 x y) (g n c : Nat) (hx : ρ x = .slice (some ⟨g, 0, none⟩) n c) (hy : ρ y = .int .i64 (i : Int)) (hk : i < n) (hn : n ≤ 9223372036854775807) : (execOp ρ o).run Tryz.prog W = .ok (.value (.pointer (some ⟨g, i, none⟩))) W := by
  unfold execOp
  rw [ho]
  go_simp
theorem q_build (ρ : Operand → Value) (W : World) (o : Oper) (x : Operand) (ho : o.op = .buildSlice 89 1 #[(0, x)]) (A : Option Addr) (n c : Nat) (hx : ρ x = .slice A n c) : (execOp ρ o).run Tryz.prog W = .ok (.value (.slice (some ⟨W.heap.size, 0, none⟩) 1 1)) (W.alloc (.cells #[.slice A n c] 42)) := by
  unfold execOp
  rw [ho]
  go_simp
theorem q_store (ρ : Operand → Value) (W : World) (o : Oper) (x y : Operand) (ho : o.op = .store 89 x y) (ad : Addr) (hx : ρ x = .pointer (some ad)) (A : Option Addr) (n c : Nat) (hy : ρ y = .slice A n c) (u : Value) (hc : W.cell? ad = some u) (hf : W.frozen? ad = false) : (execOp ρ o).run Tryz.prog W = .ok .skip (W.setCell ad (.slice A n c)) := by
  unfold execOp
  rw [ho]
  go_simp
/-- What holds of the world behind k of the region's four steps: the points are read, a slice of them is built, it is put behind, the field is set. -/
def RT (w W0 : World) (B b f n : Nat) (v : Value) (us : List Value) (l : List Nat) : Nat → (Nat → Value) → World → Prop
  | 0, _, W => W = W0
  | 1, vs, W => Below w.heap.size w W ∧ W.ownsRow w.heap.size 3 1 (vs 9) l.length (intsR l)
  | 2, vs, W => Below w.heap.size w W ∧ W.ownsRow w.heap.size 3 1 (vs 9) l.length (intsR l) ∧ ∃ g, vs 10 = .slice (some ⟨g, 0, none⟩) 1 1 ∧ Blk W g 42 #[vs 9]
  | 3, vs, W => ∃ W2, Below w.heap.size w W2 ∧ W2.ownsRow w.heap.size 3 1 (vs 9) l.length (intsR l) ∧ W2.grownBy W v.ownBlock ∧ W.ownsRow B 42 1 (vs 11) (n + 1) (us ++ [vs 9]) ∧ ((vs 11).ownBlock = v.ownBlock ∨ (vs 11).ownBlock = some W2.heap.size)
  | _, vs, W => ∃ W2 W3, Below w.heap.size w W2 ∧ W2.ownsRow w.heap.size 3 1 (vs 9) l.length (intsR l) ∧ W2.grownBy W3 v.ownBlock ∧ W3.ownsRow B 42 1 (vs 11) (n + 1) (us ++ [vs 9]) ∧ ((vs 11).ownBlock = v.ownBlock ∨ (vs 11).ownBlock = some W2.heap.size) ∧ W = W3.setCell ⟨b, f, none⟩ (vs 11)
theorem RT.kept {w W0 : World} {B b f n : Nat} {v : Value} {us : List Value} {l : List Nat} (h0 : Below w.heap.size w W0) : ∀ (k : Nat) (vs : Nat → Value) (W : World), RT w W0 B b f n v us l k vs W → ∀ i, i < w.heap.size → v.ownBlock ≠ some i → i ≠ b → W.heap[i]? = w.heap[i]?
  | 0, vs, W, h, i, hi, _, _ => by
    have h : W = W0 := h
    subst h; exact h0.block i hi
  | 1, vs, W, h, i, hi, _, _ => h.1.block i hi
  | 2, vs, W, h, i, hi, _, _ => h.1.block i hi
  | 3, vs, W, h, i, hi, hv, _ => by
    obtain ⟨W2, hb, _, hg, _⟩ := h
    rw [hg.block i (Nat.lt_of_lt_of_le hi hb.size) (Ne.symm hv), hb.block i hi]
  | k + 4, vs, W, h, i, hi, hv, hb' => by
    obtain ⟨W2, W3, hb, _, hg, _, _, rfl⟩ := h
    rw [Below.heap_setCell _ _ _ _ hb', hg.block i (Nat.lt_of_lt_of_le hi hb.size) (Ne.symm hv), hb.block i hi]

abbrev needsR : List (Nat × Nat) := [(2, 1), (3, 2), (4, 3), (6, 5), (7, 6), (8, 7), (9, 8), (10, 9), (11, 4), (11, 10), (12, 0), (13, 12), (14, 13), (14, 11)]
abbrev ds5 : List (Option Tmp) := [some 31, some 32, some 33, some 34, some 35, some 36, some 37, some 38, some 39, some 40, some 41, some 42, some 43, some 44, none]
abbrev ops5 : List Op := [.move (.tmp 1), .move (.tmp 1), .nilCheck (.tmp 32), .fieldAddr 91 (.tmp 33) 7, .load 89 (.tmp 34), .fieldAddr 81 (.tmp 3) 2, .load 25 (.tmp 36), .indexAddr 25 (.tmp 37) (.const (.int .i64 0)), .load 9 (.tmp 38),
  .call { callee := .value (.func 72), args := #[(.tmp 39)], argTypes := #[9] }, .buildSlice 89 1 #[(0, (.tmp 40))], .call { callee := .builtin .append, args := #[(.tmp 35), (.tmp 41)], argTypes := #[89, 89] }, .nilCheck (.tmp 31), .fieldAddr 91 (.tmp 43) 7, .store 89 (.tmp 44) (.tmp 42)]
set_option maxHeartbeats 1600000 in
theorem region5 (a : Act) (ops : Array Oper) (rid : Nat) (Q : Exit → Act → World → Prop) (w : World) (b xb gf n nf cf B : Nat) (cs : Array Value) (A : Option Addr) (c : Nat) (us : List Value) (rlo rhi : Value) (s : ByteArray) (l : List Nat)
    (hops : ops.toList.map (·.op) = ops5) (hok : dagOk ops ds5 = true) (hcn : chainOk ops [9, 10, 11, 14] = true) (hnd : needsOk2 ops needsR = true) (hsz : 45 ≤ a.tmps.size)
    (h1 : a.tmps.getD 1 undef = .pointer (some ⟨b, 0, none⟩)) (hx : a.tmps.getD 3 undef = .pointer (some ⟨xb, 0, none⟩))
    (hT : Blk w b 91 cs) (hc : cs[7]? = some (.slice A n c)) (hX : Blk w xb 81 #[rlo, rhi, .slice (some ⟨gf, 0, none⟩) nf cf]) (hstr : w.cell? ⟨gf, 0, none⟩ = some (.string s)) (hn : 0 < nf) (hn2 : nf ≤ 9223372036854775807)
    (hp : ∀ W, Below w.heap.size w W → Calls Tryz.prog 72 #[.string s] W (PtsRef l W))
    (hr : w.ownsRow B 42 1 (.slice A n c) n us) (hB : B ≤ w.heap.size) (hcap : (n + 1) * 24 ≤ 140737488355328)
    (hend : ∀ V v' u' w', w'.ownsRow B 42 1 v' (n + 1) (us ++ [u']) → w'.ownsRow w.heap.size 3 1 u' l.length (intsR l) → Blk w' b 91 (cs.setIfInBounds 7 v') → (∀ C, C ≤ b → C ≤ B → C ≤ w.heap.size → Below C w w') →
      (∀ i, i < w.heap.size → (Value.slice A n c).ownBlock ≠ some i → i ≠ b → w'.heap[i]? = w.heap[i]?) → (v'.ownBlock = (Value.slice A n c).ownBlock ∨ ∃ k, w.heap.size ≤ k ∧ v'.ownBlock = some k) →
      Q .normal { a with tmps := frS (fun j => decide (j < 15)) V 0 ds5 a.tmps } w') :
    (Code.region rid ops true).wp Tryz.prog Q a w := by
  have hlen : ops.size = 15 := by have := congrArg List.length hops; simpa using this
  obtain ⟨W0, hW0⟩ : ∃ W0 : World, W0 = { w with drawn := w.drawn + 1 } := ⟨_, rfl⟩
  have hb0 : Below w.heap.size w W0 := by subst hW0; exact ⟨rfl, rfl, rfl, Nat.le_refl _, fun _ _ => rfl⟩
  have hs0 : W0.heap.size = w.heap.size := by subst hW0; rfl
  have hop : ∀ (i : Nat) (o : Oper), ops[i]? = some o → ∀ x, ops5[i]? = some x → o.op = x := by
    intro i o ho x hx
    rw [← hops, List.getElem?_map, Array.getElem?_toList, ho] at hx
    simpa using hx
  have hlt : ∀ t, t < 45 → t < a.tmps.size := fun t ht => by omega
  rw [← hlen] at hend
  have hvb : ∀ k, (Value.slice A n c).ownBlock = some k → k < w.heap.size ∧ k ≠ b ∧ k ≠ xb ∧ B ≤ k := by
    intro k hk
    have h2 := own_lt hr k hk
    cases A with
    | none => cases hk
    | some ad =>
      obtain ⟨g2, cap2, cur2, he2, _, hh, _⟩ := hr.2.resolve_left (by rintro ⟨h, _⟩; cases h)
      cases he2
      have hk : g2 = k := by simpa [Value.ownBlock] using hk
      subst hk
      refine ⟨h2.2, ?_, ?_, h2.1⟩
      · rintro rfl; unfold Blk at hT; rw [hh] at hT; simp at hT
      · rintro rfl; unfold Blk at hX; rw [hh] at hX; simp at hX
  have hxb : xb ≠ b := by rintro rfl; unfold Blk at hT hX; rw [hT] at hX; simp at hX
  have hxl := heap_lt hX
  have hbl := heap_lt hT
  refine wp_region_path (by kernel_rfl) ds5 hok [9, 10, 11, 14] hcn
    (fun j => match j with | 0 => .pointer (some ⟨b, 0, none⟩) | 1 => .pointer (some ⟨b, 0, none⟩) | 2 => .pointer (some ⟨b, 0, none⟩) | 3 => .pointer (some ⟨b, 7, none⟩) | 4 => .slice A n c | 5 => .pointer (some ⟨xb, 2, none⟩) | 6 => .slice (some ⟨gf, 0, none⟩) nf cf | 7 => .pointer (some ⟨gf, 0, none⟩) | 8 => .string s | 12 => .pointer (some ⟨b, 0, none⟩) | 13 => .pointer (some ⟨b, 7, none⟩) | _ => undef)
    (RT w W0 B b 7 n (.slice A n c) us l) ?_ (fun vs => hW0.symm) ?_ ?_
  · intro k vs vs' W hag h
    match k, hag, h with
    | 0, _, h => exact h
    | 1, hag, h =>
      have e9 := hag 9 0 rfl (by decide)
      exact ⟨h.1, by rw [← e9]; exact h.2⟩
    | 2, hag, h =>
      have e9 := hag 9 0 rfl (by decide)
      have e10 := hag 10 1 rfl (by decide)
      obtain ⟨h1, h2, g, h3, h4⟩ := h
      exact ⟨h1, by rw [← e9]; exact h2, g, by rw [← e10]; exact h3, by rw [← e9]; exact h4⟩
    | 3, hag, h =>
      have e9 := hag 9 0 rfl (by decide)
      have e11 := hag 11 2 rfl (by decide)
      obtain ⟨W2, h1, h2, h3, h4, h5⟩ := h
      exact ⟨W2, h1, by rw [← e9]; exact h2, h3, by rw [← e9, ← e11]; exact h4, by rw [← e11]; exact h5⟩
    | k + 4, hag, h =>
      have e9 := hag 9 0 rfl (by omega)
      have e11 := hag 11 2 rfl (by omega)
      obtain ⟨W2, W3, h1, h2, h3, h4, h5, h6⟩ := h
      exact ⟨W2, W3, h1, by rw [← e9]; exact h2, h3, by rw [← e9, ← e11]; exact h4, by rw [← e11]; exact h5, by rw [← e11]; exact h6⟩
  · intro i o ho ρ vs hρ hold hcon hfun _
    have hi : i < 15 := by rw [← hlen]; exact (Array.getElem?_eq_some_iff.1 ho).1
    have e1 : ρ (.tmp 1) = .pointer (some ⟨b, 0, none⟩) := (hold 1 (by decide)).trans h1
    have ex : ρ (.tmp 3) = .pointer (some ⟨xb, 0, none⟩) := (hold 3 (by decide)).trans hx
    match i, hi with
    | 0, _ => intro k _ _ _ W _; exact .inl (by rw [← e1]; exact r_move _ _ _ o _ (hop _ _ ho _ rfl))
    | 1, _ => intro k _ _ _ W _; exact .inl (by rw [← e1]; exact r_move _ _ _ o _ (hop _ _ ho _ rfl))
    | 2, _ => intro k _ _ _ W _; exact .inl (r_nilCheck _ _ o _ (hop _ _ ho _ rfl) _ (hρ 1 (needs2_get hnd 2 1 (by decide)) 32 rfl (hlt _ (by decide))))
    | 3, _ => intro k _ _ _ W _; exact .inl (q_fieldT 7 (by decide) _ _ o _ (hop _ _ ho _ rfl) b (hρ 2 (needs2_get hnd 3 2 (by decide)) 33 rfl (hlt _ (by decide))))
    | 4, _ =>
      intro k _ _ hk W hW
      have h2 := hk 11 2 (needs2_get hnd 11 4 (by decide)) rfl
      have hbW : Below w.heap.size w W := by
        match k, h2, hW with
        | 0, _, hW => have hW : W = W0 := hW; subst hW; exact hb0
        | 1, _, hW => exact hW.1
        | 2, _, hW => exact hW.1
      exact .inl (q_loadLists _ _ o _ (hop _ _ ho _ rfl) ⟨b, 7, none⟩ (hρ 3 (needs2_get hnd 4 3 (by decide)) 34 rfl (hlt _ (by decide))) A n c (((hT.below hbW).cell 7).trans hc))
    | 5, _ => intro k _ _ _ W _; exact .inl (q_fieldRec _ _ o _ (hop _ _ ho _ rfl) xb ex)
    | 6, _ =>
      intro k _ _ _ W hW
      have hk := RT.kept hb0 k vs W hW xb hxl (fun e => (hvb xb e).2.2.1 rfl) hxb
      have hX2 : Blk W xb 81 #[rlo, rhi, .slice (some ⟨gf, 0, none⟩) nf cf] := hk.trans hX
      exact .inl (q_loadStrs _ _ o _ (hop _ _ ho _ rfl) ⟨xb, 2, none⟩ (hρ 5 (needs2_get hnd 6 5 (by decide)) 36 rfl (hlt _ (by decide))) _ _ _ (hX2.cell 2))
    | 7, _ => intro k _ _ _ W _; exact .inl (q_index 0 _ _ o _ _ (hop _ _ ho _ rfl) gf nf cf (hρ 6 (needs2_get hnd 7 6 (by decide)) 37 rfl (hlt _ (by decide))) (hcon _) hn hn2)
    | 8, _ =>
      intro k _ _ hk W hW
      have h2 := hk 9 0 (needs2_get hnd 9 8 (by decide)) rfl
      obtain rfl : k = 0 := by omega
      have hW : W = W0 := hW
      subst hW
      exact .inl (q_loadStr _ _ o _ (hop _ _ ho _ rfl) ⟨gf, 0, none⟩ (hρ 7 (needs2_get hnd 8 7 (by decide)) 38 rfl (hlt _ (by decide))) _ (cell_later hb0 hstr))
    | 9, _ =>
      intro W hW
      have hW : W = W0 := hW
      subst hW
      refine .inr ⟨72, #[.string s], ?_, ?_⟩
      · have e := hρ 8 (needs2_get hnd 9 8 (by decide)) 39 rfl (hlt _ (by decide))
        have e : ρ (.tmp 39) = .string s := e
        unfold execOp
        rw [hop _ _ ho _ rfl]
        simp [go_sem, hfun, e, resolve, Act.eval]
      · refine (hp W hb0).mono ?_
        rintro e W' ⟨v, rfl, ho, hb⟩
        rw [hs0] at ho hb
        exact ⟨v, rfl, hb0.trans hb, ho⟩
    | 10, _ =>
      rintro W ⟨hbW, hv⟩
      have e := hρ 9 (needs2_get hnd 10 9 (by decide)) 40 rfl (hlt _ (by decide))
      have e : ρ (.tmp 40) = vs 9 := e
      obtain ⟨Av, cv, hvs⟩ := own_slice hv
      refine .inl ⟨.slice (some ⟨W.heap.size, 0, none⟩) 1 1, W.alloc (.cells #[vs 9] 42), ⟨hbW.trans ((alloc_below W _).mono hbW.size), own_below hv (alloc_below W _), W.heap.size, rfl, row_new _ _⟩, .inl ?_⟩
      have := q_build ρ W o _ (hop _ _ ho _ rfl) Av l.length cv (e.trans hvs)
      rw [← hvs] at this
      exact this
    | 11, _ =>
      rintro W ⟨hbW, hv, g, h10, hg⟩
      have e4 := hρ 4 (needs2_get hnd 11 4 (by decide)) 35 rfl (hlt _ (by decide))
      have e4 : ρ (.tmp 35) = .slice A n c := e4
      have e10 := hρ 10 (needs2_get hnd 11 10 (by decide)) 41 rfl (hlt _ (by decide))
      have e10 : ρ (.tmp 41) = vs 10 := e10
      obtain ⟨Av, cv, hvs⟩ := own_slice hv
      obtain ⟨v', W', hrun, hown, hgr, hat⟩ := r_append W slIntsR ρ o _ _ (hop _ _ ho _ rfl) B _ n us e4 (own_below hr hbW) ⟨g, 0, none⟩ 1 1 [vs 9] (e10.trans h10) rfl hg.at_ (by intro u hu; rw [List.mem_singleton] at hu; subst hu; rw [hvs]; rfl) hcap (Nat.le_trans hB hbW.size)
      exact .inl ⟨v', W', ⟨W, hbW, hv, hgr, hown, hat⟩, .inl hrun⟩
    | 12, _ => intro k _ _ _ W _; exact .inl (r_nilCheck _ _ o _ (hop _ _ ho _ rfl) _ (hρ 0 (needs2_get hnd 12 0 (by decide)) 31 rfl (hlt _ (by decide))))
    | 13, _ => intro k _ _ _ W _; exact .inl (q_fieldT 7 (by decide) _ _ o _ (hop _ _ ho _ rfl) b (hρ 12 (needs2_get hnd 13 12 (by decide)) 43 rfl (hlt _ (by decide))))
    | 14, _ =>
      rintro W ⟨W2, hbW, hv, hgr, hown, hat⟩
      have e13 := hρ 13 (needs2_get hnd 14 13 (by decide)) 44 rfl (hlt _ (by decide))
      have e13 : ρ (.tmp 44) = .pointer (some ⟨b, 7, none⟩) := e13
      have e11 := hρ 11 (needs2_get hnd 14 11 (by decide)) 42 rfl (hlt _ (by decide))
      have e11 : ρ (.tmp 42) = vs 11 := e11
      obtain ⟨A2, c2, hvs⟩ := own_slice hown
      have hTW : Blk W b 91 cs := (hT.below hbW).grown hgr (fun e => (hvb b e.symm).2.1 rfl)
      refine .inl ⟨undef, W.setCell ⟨b, 7, none⟩ (vs 11), ⟨W2, W, hbW, hv, hgr, hown, hat, rfl⟩, .inr ⟨?_, rfl⟩⟩
      rw [hvs]
      exact q_store ρ W o _ _ (hop _ _ ho _ rfl) _ e13 A2 (n + 1) c2 (e11.trans hvs) _ ((hTW.cell 7).trans hc) (hTW.free 7)
  · intro vs W h
    have hk := RT.kept hb0 4 vs W h
    obtain ⟨W2, W3, hbW, hv, hgr, hown, hat, rfl⟩ := h
    have hTW : Blk W3 b 91 cs := (hT.below hbW).grown hgr (fun e => (hvb b e.symm).2.1 rfl)
    have hbs := heap_lt hTW
    have hkeep : ∀ {e : TypeId} {B' k : Nat} {v : Value} {xs : List Value}, W3.ownsRow B' e 1 v k xs → e ≠ 91 → (W3.setCell ⟨b, 7, none⟩ (vs 11)).ownsRow B' e 1 v k xs := by
      intro e B' k v xs ho hne
      refine ho.kept (row := some b) ⟨rfl, rfl, rfl, by simp [World.setCell], fun k _ hk => Below.heap_setCell _ _ _ _ (fun e => hk (by rw [e]))⟩ ?_
      rcases ho.2 with ⟨rfl, _⟩ | ⟨g, cap, cur, rfl, _, hh, _⟩
      · exact .inl rfl
      · right
        intro e2
        have e2 : g = b := by simpa [Value.ownBlock] using e2
        subst e2
        unfold Blk at hTW
        rw [hh] at hTW
        simp only [Option.some.injEq, Obj.cells.injEq] at hTW
        exact hne hTW.2.1
    have hv3 : W3.ownsRow w.heap.size 3 1 (vs 9) l.length (intsR l) := hv.kept hgr (by
      rcases hv.2 with ⟨h, _⟩ | ⟨g, cap, cur, h, hgb, _⟩
      · left; rw [h]; rfl
      · right
        intro e2
        rw [h] at e2
        have := (hvb g (by rw [← e2]; rfl)).1
        omega)
    refine hend _ (vs 11) (vs 9) _ (hkeep hown (by decide)) (hkeep hv3 (by decide)) (hTW.set 7 _) ?_ hk ?_
    · intro C hC1 hC2 hC3
      exact ((hbW.mono hC3).grown hgr (Nat.le_trans hC3 hbW.size) (fun k hk => Nat.le_trans hC2 (hvb k hk).2.2.2)).setCell hC1 _
    · rcases hat with h | h
      · exact .inl h
      · exact .inr ⟨_, hbW.size, h⟩

abbrev dsA : List (Option Tmp) := [some 55, some 56, some 57, some 58, some 59, some 60, some 61, some 62, some 63, some 64, some 65, some 66, some 67, some 68, none]
abbrev opsA : List Op := [.move (.tmp 1), .move (.tmp 1), .nilCheck (.tmp 56), .fieldAddr 91 (.tmp 57) 8, .load 89 (.tmp 58), .fieldAddr 81 (.tmp 5) 2, .load 25 (.tmp 60), .indexAddr 25 (.tmp 61) (.const (.int .i64 1)), .load 9 (.tmp 62),
  .call { callee := .value (.func 72), args := #[(.tmp 63)], argTypes := #[9] }, .buildSlice 89 1 #[(0, (.tmp 64))], .call { callee := .builtin .append, args := #[(.tmp 59), (.tmp 65)], argTypes := #[89, 89] }, .nilCheck (.tmp 55), .fieldAddr 91 (.tmp 67) 8, .store 89 (.tmp 68) (.tmp 66)]
set_option maxHeartbeats 1600000 in
theorem regionA (a : Act) (ops : Array Oper) (rid : Nat) (Q : Exit → Act → World → Prop) (w : World) (b xb gf n nf cf B : Nat) (cs : Array Value) (A : Option Addr) (c : Nat) (us : List Value) (rlo rhi : Value) (s : ByteArray) (l : List Nat)
    (hops : ops.toList.map (·.op) = opsA) (hok : dagOk ops dsA = true) (hcn : chainOk ops [9, 10, 11, 14] = true) (hnd : needsOk2 ops needsR = true) (hsz : 69 ≤ a.tmps.size)
    (h1 : a.tmps.getD 1 undef = .pointer (some ⟨b, 0, none⟩)) (hx : a.tmps.getD 5 undef = .pointer (some ⟨xb, 0, none⟩))
    (hT : Blk w b 91 cs) (hc : cs[8]? = some (.slice A n c)) (hX : Blk w xb 81 #[rlo, rhi, .slice (some ⟨gf, 0, none⟩) nf cf]) (hstr : w.cell? ⟨gf, 1, none⟩ = some (.string s)) (hn : 1 < nf) (hn2 : nf ≤ 9223372036854775807)
    (hp : ∀ W, Below w.heap.size w W → Calls Tryz.prog 72 #[.string s] W (PtsRef l W))
    (hr : w.ownsRow B 42 1 (.slice A n c) n us) (hB : B ≤ w.heap.size) (hcap : (n + 1) * 24 ≤ 140737488355328)
    (hend : ∀ V v' u' w', w'.ownsRow B 42 1 v' (n + 1) (us ++ [u']) → w'.ownsRow w.heap.size 3 1 u' l.length (intsR l) → Blk w' b 91 (cs.setIfInBounds 8 v') → (∀ C, C ≤ b → C ≤ B → C ≤ w.heap.size → Below C w w') →
      (∀ i, i < w.heap.size → (Value.slice A n c).ownBlock ≠ some i → i ≠ b → w'.heap[i]? = w.heap[i]?) → (v'.ownBlock = (Value.slice A n c).ownBlock ∨ ∃ k, w.heap.size ≤ k ∧ v'.ownBlock = some k) →
      Q .normal { a with tmps := frS (fun j => decide (j < 15)) V 0 dsA a.tmps } w') :
    (Code.region rid ops true).wp Tryz.prog Q a w := by
  have hlen : ops.size = 15 := by have := congrArg List.length hops; simpa using this
  obtain ⟨W0, hW0⟩ : ∃ W0 : World, W0 = { w with drawn := w.drawn + 1 } := ⟨_, rfl⟩
  have hb0 : Below w.heap.size w W0 := by subst hW0; exact ⟨rfl, rfl, rfl, Nat.le_refl _, fun _ _ => rfl⟩
  have hs0 : W0.heap.size = w.heap.size := by subst hW0; rfl
  have hop : ∀ (i : Nat) (o : Oper), ops[i]? = some o → ∀ x, opsA[i]? = some x → o.op = x := by
    intro i o ho x hx
    rw [← hops, List.getElem?_map, Array.getElem?_toList, ho] at hx
    simpa using hx
  have hlt : ∀ t, t < 69 → t < a.tmps.size := fun t ht => by omega
  rw [← hlen] at hend
  have hvb : ∀ k, (Value.slice A n c).ownBlock = some k → k < w.heap.size ∧ k ≠ b ∧ k ≠ xb ∧ B ≤ k := by
    intro k hk
    have h2 := own_lt hr k hk
    cases A with
    | none => cases hk
    | some ad =>
      obtain ⟨g2, cap2, cur2, he2, _, hh, _⟩ := hr.2.resolve_left (by rintro ⟨h, _⟩; cases h)
      cases he2
      have hk : g2 = k := by simpa [Value.ownBlock] using hk
      subst hk
      refine ⟨h2.2, ?_, ?_, h2.1⟩
      · rintro rfl; unfold Blk at hT; rw [hh] at hT; simp at hT
      · rintro rfl; unfold Blk at hX; rw [hh] at hX; simp at hX
  have hxb : xb ≠ b := by rintro rfl; unfold Blk at hT hX; rw [hT] at hX; simp at hX
  have hxl := heap_lt hX
  have hbl := heap_lt hT
  refine wp_region_path (by kernel_rfl) dsA hok [9, 10, 11, 14] hcn
    (fun j => match j with | 0 => .pointer (some ⟨b, 0, none⟩) | 1 => .pointer (some ⟨b, 0, none⟩) | 2 => .pointer (some ⟨b, 0, none⟩) | 3 => .pointer (some ⟨b, 8, none⟩) | 4 => .slice A n c | 5 => .pointer (some ⟨xb, 2, none⟩) | 6 => .slice (some ⟨gf, 0, none⟩) nf cf | 7 => .pointer (some ⟨gf, 1, none⟩) | 8 => .string s | 12 => .pointer (some ⟨b, 0, none⟩) | 13 => .pointer (some ⟨b, 8, none⟩) | _ => undef)
    (RT w W0 B b 8 n (.slice A n c) us l) ?_ (fun vs => hW0.symm) ?_ ?_
  · intro k vs vs' W hag h
    match k, hag, h with
    | 0, _, h => exact h
    | 1, hag, h =>
      have e9 := hag 9 0 rfl (by decide)
      exact ⟨h.1, by rw [← e9]; exact h.2⟩
    | 2, hag, h =>
      have e9 := hag 9 0 rfl (by decide)
      have e10 := hag 10 1 rfl (by decide)
      obtain ⟨h1, h2, g, h3, h4⟩ := h
      exact ⟨h1, by rw [← e9]; exact h2, g, by rw [← e10]; exact h3, by rw [← e9]; exact h4⟩
    | 3, hag, h =>
      have e9 := hag 9 0 rfl (by decide)
      have e11 := hag 11 2 rfl (by decide)
      obtain ⟨W2, h1, h2, h3, h4, h5⟩ := h
      exact ⟨W2, h1, by rw [← e9]; exact h2, h3, by rw [← e9, ← e11]; exact h4, by rw [← e11]; exact h5⟩
    | k + 4, hag, h =>
      have e9 := hag 9 0 rfl (by omega)
      have e11 := hag 11 2 rfl (by omega)
      obtain ⟨W2, W3, h1, h2, h3, h4, h5, h6⟩ := h
      exact ⟨W2, W3, h1, by rw [← e9]; exact h2, h3, by rw [← e9, ← e11]; exact h4, by rw [← e11]; exact h5, by rw [← e11]; exact h6⟩
  · intro i o ho ρ vs hρ hold hcon hfun _
    have hi : i < 15 := by rw [← hlen]; exact (Array.getElem?_eq_some_iff.1 ho).1
    have e1 : ρ (.tmp 1) = .pointer (some ⟨b, 0, none⟩) := (hold 1 (by decide)).trans h1
    have ex : ρ (.tmp 5) = .pointer (some ⟨xb, 0, none⟩) := (hold 5 (by decide)).trans hx
    match i, hi with
    | 0, _ => intro k _ _ _ W _; exact .inl (by rw [← e1]; exact r_move _ _ _ o _ (hop _ _ ho _ rfl))
    | 1, _ => intro k _ _ _ W _; exact .inl (by rw [← e1]; exact r_move _ _ _ o _ (hop _ _ ho _ rfl))
    | 2, _ => intro k _ _ _ W _; exact .inl (r_nilCheck _ _ o _ (hop _ _ ho _ rfl) _ (hρ 1 (needs2_get hnd 2 1 (by decide)) 56 rfl (hlt _ (by decide))))
    | 3, _ => intro k _ _ _ W _; exact .inl (q_fieldT 8 (by decide) _ _ o _ (hop _ _ ho _ rfl) b (hρ 2 (needs2_get hnd 3 2 (by decide)) 57 rfl (hlt _ (by decide))))
    | 4, _ =>
      intro k _ _ hk W hW
      have h2 := hk 11 2 (needs2_get hnd 11 4 (by decide)) rfl
      have hbW : Below w.heap.size w W := by
        match k, h2, hW with
        | 0, _, hW => have hW : W = W0 := hW; subst hW; exact hb0
        | 1, _, hW => exact hW.1
        | 2, _, hW => exact hW.1
      exact .inl (q_loadLists _ _ o _ (hop _ _ ho _ rfl) ⟨b, 8, none⟩ (hρ 3 (needs2_get hnd 4 3 (by decide)) 58 rfl (hlt _ (by decide))) A n c (((hT.below hbW).cell 8).trans hc))
    | 5, _ => intro k _ _ _ W _; exact .inl (q_fieldRec _ _ o _ (hop _ _ ho _ rfl) xb ex)
    | 6, _ =>
      intro k _ _ _ W hW
      have hk := RT.kept hb0 k vs W hW xb hxl (fun e => (hvb xb e).2.2.1 rfl) hxb
      have hX2 : Blk W xb 81 #[rlo, rhi, .slice (some ⟨gf, 0, none⟩) nf cf] := hk.trans hX
      exact .inl (q_loadStrs _ _ o _ (hop _ _ ho _ rfl) ⟨xb, 2, none⟩ (hρ 5 (needs2_get hnd 6 5 (by decide)) 60 rfl (hlt _ (by decide))) _ _ _ (hX2.cell 2))
    | 7, _ => intro k _ _ _ W _; exact .inl (q_index 1 _ _ o _ _ (hop _ _ ho _ rfl) gf nf cf (hρ 6 (needs2_get hnd 7 6 (by decide)) 61 rfl (hlt _ (by decide))) (hcon _) hn hn2)
    | 8, _ =>
      intro k _ _ hk W hW
      have h2 := hk 9 0 (needs2_get hnd 9 8 (by decide)) rfl
      obtain rfl : k = 0 := by omega
      have hW : W = W0 := hW
      subst hW
      exact .inl (q_loadStr _ _ o _ (hop _ _ ho _ rfl) ⟨gf, 1, none⟩ (hρ 7 (needs2_get hnd 8 7 (by decide)) 62 rfl (hlt _ (by decide))) _ (cell_later hb0 hstr))
    | 9, _ =>
      intro W hW
      have hW : W = W0 := hW
      subst hW
      refine .inr ⟨72, #[.string s], ?_, ?_⟩
      · have e := hρ 8 (needs2_get hnd 9 8 (by decide)) 63 rfl (hlt _ (by decide))
        have e : ρ (.tmp 63) = .string s := e
        unfold execOp
        rw [hop _ _ ho _ rfl]
        simp [go_sem, hfun, e, resolve, Act.eval]
      · refine (hp W hb0).mono ?_
        rintro e W' ⟨v, rfl, ho, hb⟩
        rw [hs0] at ho hb
        exact ⟨v, rfl, hb0.trans hb, ho⟩
    | 10, _ =>
      rintro W ⟨hbW, hv⟩
      have e := hρ 9 (needs2_get hnd 10 9 (by decide)) 64 rfl (hlt _ (by decide))
      have e : ρ (.tmp 64) = vs 9 := e
      obtain ⟨Av, cv, hvs⟩ := own_slice hv
      refine .inl ⟨.slice (some ⟨W.heap.size, 0, none⟩) 1 1, W.alloc (.cells #[vs 9] 42), ⟨hbW.trans ((alloc_below W _).mono hbW.size), own_below hv (alloc_below W _), W.heap.size, rfl, row_new _ _⟩, .inl ?_⟩
      have := q_build ρ W o _ (hop _ _ ho _ rfl) Av l.length cv (e.trans hvs)
      rw [← hvs] at this
      exact this
    | 11, _ =>
      rintro W ⟨hbW, hv, g, h10, hg⟩
      have e4 := hρ 4 (needs2_get hnd 11 4 (by decide)) 59 rfl (hlt _ (by decide))
      have e4 : ρ (.tmp 59) = .slice A n c := e4
      have e10 := hρ 10 (needs2_get hnd 11 10 (by decide)) 65 rfl (hlt _ (by decide))
      have e10 : ρ (.tmp 65) = vs 10 := e10
      obtain ⟨Av, cv, hvs⟩ := own_slice hv
      obtain ⟨v', W', hrun, hown, hgr, hat⟩ := r_append W slIntsR ρ o _ _ (hop _ _ ho _ rfl) B _ n us e4 (own_below hr hbW) ⟨g, 0, none⟩ 1 1 [vs 9] (e10.trans h10) rfl hg.at_ (by intro u hu; rw [List.mem_singleton] at hu; subst hu; rw [hvs]; rfl) hcap (Nat.le_trans hB hbW.size)
      exact .inl ⟨v', W', ⟨W, hbW, hv, hgr, hown, hat⟩, .inl hrun⟩
    | 12, _ => intro k _ _ _ W _; exact .inl (r_nilCheck _ _ o _ (hop _ _ ho _ rfl) _ (hρ 0 (needs2_get hnd 12 0 (by decide)) 55 rfl (hlt _ (by decide))))
    | 13, _ => intro k _ _ _ W _; exact .inl (q_fieldT 8 (by decide) _ _ o _ (hop _ _ ho _ rfl) b (hρ 12 (needs2_get hnd 13 12 (by decide)) 67 rfl (hlt _ (by decide))))
    | 14, _ =>
      rintro W ⟨W2, hbW, hv, hgr, hown, hat⟩
      have e13 := hρ 13 (needs2_get hnd 14 13 (by decide)) 68 rfl (hlt _ (by decide))
      have e13 : ρ (.tmp 68) = .pointer (some ⟨b, 8, none⟩) := e13
      have e11 := hρ 11 (needs2_get hnd 14 11 (by decide)) 66 rfl (hlt _ (by decide))
      have e11 : ρ (.tmp 66) = vs 11 := e11
      obtain ⟨A2, c2, hvs⟩ := own_slice hown
      have hTW : Blk W b 91 cs := (hT.below hbW).grown hgr (fun e => (hvb b e.symm).2.1 rfl)
      refine .inl ⟨undef, W.setCell ⟨b, 8, none⟩ (vs 11), ⟨W2, W, hbW, hv, hgr, hown, hat, rfl⟩, .inr ⟨?_, rfl⟩⟩
      rw [hvs]
      exact q_store ρ W o _ _ (hop _ _ ho _ rfl) _ e13 A2 (n + 1) c2 (e11.trans hvs) _ ((hTW.cell 8).trans hc) (hTW.free 8)
  · intro vs W h
    have hk := RT.kept hb0 4 vs W h
    obtain ⟨W2, W3, hbW, hv, hgr, hown, hat, rfl⟩ := h
    have hTW : Blk W3 b 91 cs := (hT.below hbW).grown hgr (fun e => (hvb b e.symm).2.1 rfl)
    have hbs := heap_lt hTW
    have hkeep : ∀ {e : TypeId} {B' k : Nat} {v : Value} {xs : List Value}, W3.ownsRow B' e 1 v k xs → e ≠ 91 → (W3.setCell ⟨b, 8, none⟩ (vs 11)).ownsRow B' e 1 v k xs := by
      intro e B' k v xs ho hne
      refine ho.kept (row := some b) ⟨rfl, rfl, rfl, by simp [World.setCell], fun k _ hk => Below.heap_setCell _ _ _ _ (fun e => hk (by rw [e]))⟩ ?_
      rcases ho.2 with ⟨rfl, _⟩ | ⟨g, cap, cur, rfl, _, hh, _⟩
      · exact .inl rfl
      · right
        intro e2
        have e2 : g = b := by simpa [Value.ownBlock] using e2
        subst e2
        unfold Blk at hTW
        rw [hh] at hTW
        simp only [Option.some.injEq, Obj.cells.injEq] at hTW
        exact hne hTW.2.1
    have hv3 : W3.ownsRow w.heap.size 3 1 (vs 9) l.length (intsR l) := hv.kept hgr (by
      rcases hv.2 with ⟨h, _⟩ | ⟨g, cap, cur, h, hgb, _⟩
      · left; rw [h]; rfl
      · right
        intro e2
        rw [h] at e2
        have := (hvb g (by rw [← e2]; rfl)).1
        omega)
    refine hend _ (vs 11) (vs 9) _ (hkeep hown (by decide)) (hkeep hv3 (by decide)) (hTW.set 8 _) ?_ hk ?_
    · intro C hC1 hC2 hC3
      exact ((hbW.mono hC3).grown hgr (Nat.le_trans hC3 hbW.size) (fun k hk => Nat.le_trans hC2 (hvb k hk).2.2.2)).setCell hC1 _
    · rcases hat with h | h
      · exact .inl h
      · exact .inr ⟨_, hbW.size, h⟩

end Go.Proofs.YtpmbebofinlmmaaGreatDoor
