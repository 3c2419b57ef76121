import Derived.Test.YtmdkjljcnegmeaaDoorFillW
namespace Go.Proofs.YtmdkjljcnegmeaaDoor
open Go.RowKit
set_option linter.unusedVariables false
set_option linter.unusedSimpArgs false
theorem r_nilCheck {P : Program} (ρ : Operand → Value) (W : World) (o : Oper) (x : Operand) (ho : o.op = .nilCheck x) (ad : Addr) (hx : ρ x = .pointer (some ad)) : (execOp ρ o).run P W = .ok (.value (.pointer (some ad))) W := by
  unfold execOp
  rw [ho]
  go_simp
theorem r_fieldTrie2 (ρ : Operand → Value) (W : World) (o : Oper) (x : Operand) (ho : o.op = .fieldAddr 106 x 2) (p : Nat) (hx : ρ x = .pointer (some ⟨p, 0, none⟩)) : (execOp ρ o).run Tryd.prog W = .ok (.value (.pointer (some ⟨p, 2, none⟩))) W := by
  unfold execOp
  rw [ho]
  go_simp
theorem r_loadCells (ρ : Operand → Value) (W : World) (o : Oper) (x : Operand) (ho : o.op = .load 104 x) (ad : Addr) (hx : ρ x = .pointer (some ad)) (A : Option Addr) (n c : Nat) (hc : W.cell? ad = some (.slice A n c)) : (execOp ρ o).run Tryd.prog W = .ok (.value (.slice A n c)) W := by
  unfold execOp
  rw [ho]
  go_simp
theorem r_storeCells (ρ : Operand → Value) (W : World) (o : Oper) (x y : Operand) (ho : o.op = .store 104 x y) (ad : Addr) (hx : ρ x = .pointer (some ad)) (A : Option Addr) (n c : Nat) (hy : ρ y = .slice A n c) (u : Value) (hc : W.cell? ad = some u) (hf : W.frozen? ad = false) : (execOp ρ o).run Tryd.prog W = .ok .skip (W.setCell ad (.slice A n c)) := by
  unfold execOp
  rw [ho]
  go_simp
theorem r_indexCells (ρ : Operand → Value) (W : World) (o : Oper) (x y : Operand) (ho : o.op = .indexAddr 104 x y) (g n c k : Nat) (hx : ρ x = .slice (some ⟨g, 0, none⟩) n c) (hy : ρ y = .int .i64 k) (hk : k < n) (hn : n ≤ 9223372036854775807) : (execOp ρ o).run Tryd.prog W = .ok (.value (.pointer (some ⟨g, k * 256, none⟩))) W := by
  unfold execOp
  rw [ho]
  go_simp

def needsOk (ops : Array Oper) (l : List (Nat × Nat)) : Bool := l.all fun p => (waits ops p.1).contains p.2
theorem needs_get {ops : Array Oper} {l : List (Nat × Nat)} (h : needsOk ops l = true) (i j : Nat) (hm : (i, j) ∈ l) : j ∈ waits ops i := by
  have := List.all_eq_true.1 h _ hm
  simpa using this
abbrev ds10 : List (Option Tmp) := [some 42, some 43, some 44, some 45, some 46, some 47, some 48, some 49, some 50, some 51, none]
abbrev needs10 : List (Nat × Nat) := [(2, 1), (3, 2), (4, 3), (6, 5), (7, 4), (7, 6), (8, 0), (9, 8), (10, 9), (10, 7)]
abbrev ops10 : List Op := [.move (.tmp 0), .move (.tmp 0), .nilCheck (.tmp 43), .fieldAddr 106 (.tmp 44) 2, .load 104 (.tmp 45), .load 102 (.tmp 14), .buildSlice 104 1 #[(0, .tmp 47)],
  .call { callee := .builtin .append, args := #[.tmp 46, .tmp 48], argTypes := #[104, 104] }, .nilCheck (.tmp 42), .fieldAddr 106 (.tmp 50) 2, .store 104 (.tmp 51) (.tmp 49)]
/-- t.blocks = append(t.blocks, c), c a block of its own. -/
theorem fill_great10 (a : Act) (ops : Array Oper) (rid : Nat) (Q : Exit → Act → World → Prop) (w : World) (p bc base n : Nat) (cs : Array Value) (v0 : Value) (m : Nat) (g cap : Nat) (xs : List Value)
    (hops : ops.toList.map (·.op) = ops10) (hok : dagOk ops ds10 = true) (hcn : chainOk ops [6, 7, 10] = true) (hnd : needsOk ops needs10 = true) (hsz : 52 ≤ a.tmps.size)
    (h0 : a.tmps.getD 0 undef = .pointer (some ⟨p, 0, none⟩)) (h14 : a.tmps.getD 14 undef = .pointer (some ⟨bc, 0, none⟩)) (hcs : cs.size = 256) (h1 : ∀ u ∈ cs.toList, u.oneCell' = true)
    (hp : Blk w p 106 #[v0, .map (some m), .slice (some ⟨g, 0, none⟩) n cap]) (hc : Blk w bc 102 cs) (hr : w.ownsRow base 102 256 (.slice (some ⟨g, 0, none⟩) n cap) n xs) (hb : base ≤ w.heap.size) (hn : (n + 1) * 1024 ≤ 140737488355328)
    (hend : ∀ v' w' V, w'.ownsRow base 102 256 v' (n + 1) (xs ++ cs.toList) → Blk w' p 106 #[v0, .map (some m), v'] → (∀ B, B ≤ p → B ≤ g → B ≤ w.heap.size → Below B w w') → (∀ i, i < w.heap.size → i ≠ g → i ≠ p → w'.heap[i]? = w.heap[i]?) →
      Q .normal { a with tmps := frS (fun j => decide (j < 11)) V 0 ds10 a.tmps } w') :
    (Code.region rid ops true).wp Tryd.prog Q a w := by
  have hlen : ops.size = 11 := by have := congrArg List.length hops; simpa using this
  rw [← hlen] at hend
  have hgp : g ≠ p := row_blk_ne hr hp (by decide)
  have hgl := (own_lt hr g rfl).2
  have hpl := heap_lt hp
  obtain ⟨W0, hW0⟩ : ∃ W0 : World, W0 = { w with drawn := w.drawn + 1 } := ⟨_, rfl⟩
  have hb0 : Below w.heap.size w W0 := by subst hW0; exact ⟨rfl, rfl, rfl, Nat.le_refl _, fun _ _ => rfl⟩
  have hs0 : W0.heap = w.heap := by subst hW0; rfl
  obtain ⟨W1, hW1⟩ : ∃ W1, W1 = W0.alloc (.cells cs 102) := ⟨_, rfl⟩
  have hb1 : Below W0.heap.size W0 W1 := by subst hW1; exact alloc_below _ _
  have hp0 := hp.below hb0
  have hp1 := hp0.below hb1
  have hc0 := hc.below hb0
  have hr1 := own_below (own_below hr hb0) hb1
  have hnew : Blk W1 W0.heap.size 102 cs := by subst hW1; exact row_new _ _
  have hbs : base ≤ W1.heap.size := by rw [hW1, size_new, hs0]; omega
  have hop7 : (ops[7]'(by omega)).op = .call { callee := .builtin .append, args := #[.tmp 46, .tmp 48], argTypes := #[104, 104] } := by
    have := congrArg (fun l => l[7]?) hops
    simp only [List.getElem?_map, Array.getElem?_toList] at this
    rw [Array.getElem?_eq_getElem (by omega)] at this
    exact Option.some.inj this
  obtain ⟨v', W2, hrun, hown2, hg2, hat⟩ := r_append W1 slCells (fun x => match x with | .tmp 46 => .slice (some ⟨g, 0, none⟩) n cap | _ => .slice (some ⟨W0.heap.size, 0, none⟩) 1 1) (ops[7]'(by omega))
    (.tmp 46) (.tmp 48) hop7 base _ n xs rfl hr1 ⟨W0.heap.size, 0, none⟩ 1 1 cs.toList rfl (by simpa using hcs) hnew.at_ h1 hn hbs
  obtain ⟨A2, c2, rfl⟩ := own_slice hown2
  have hp2 : Blk W2 p 106 #[v0, .map (some m), .slice (some ⟨g, 0, none⟩) n cap] := hp1.grown hg2 (by simpa [Value.ownBlock] using Ne.symm hgp)
  have hp3 := hp2.set 2 (.slice A2 (n + 1) c2)
  have hown3 : (W2.setCell ⟨p, 2, none⟩ (.slice A2 (n + 1) c2)).ownsRow base 102 256 (.slice A2 (n + 1) c2) (n + 1) (xs ++ cs.toList) := by
    refine hown2.kept (row := some p) ⟨rfl, rfl, rfl, by simp [World.setCell], fun k _ hk => Below.heap_setCell _ _ _ _ (fun e => hk (by rw [e]))⟩ ?_
    obtain ⟨g2, cap2, e2, _⟩ := own_form hown2 (by omega)
    rw [e2] at hown2 ⊢
    have := row_blk_ne hown2 hp2 (by decide)
    right; simpa [Value.ownBlock] using this
  refine wp_region_chain (by kernel_rfl) ds10 hok [6, 7, 10] hcn
    (fun j => match j with | 0 => .pointer (some ⟨p, 0, none⟩) | 1 => .pointer (some ⟨p, 0, none⟩) | 2 => .pointer (some ⟨p, 0, none⟩) | 3 => .pointer (some ⟨p, 2, none⟩) | 4 => .slice (some ⟨g, 0, none⟩) n cap | 5 => .agg cs | 6 => .slice (some ⟨W0.heap.size, 0, none⟩) 1 1 | 7 => .slice A2 (n + 1) c2 | 8 => .pointer (some ⟨p, 0, none⟩) | 9 => .pointer (some ⟨p, 2, none⟩) | _ => undef)
    (fun k => match k with | 0 => W0 | 1 => W1 | 2 => W2 | _ => W2.setCell ⟨p, 2, none⟩ (.slice A2 (n + 1) c2)) hW0 ?_ (hend _ _ _ hown3 hp3 ?_ ?_)
  · intro i o ho ρ hρ hold _ _ _
    have hi : i < 11 := by rw [← hlen]; exact (Array.getElem?_eq_some_iff.1 ho).1
    have hop : ∀ x, ops10[i]? = some x → o.op = x := by
      intro x hx
      rw [← hops, List.getElem?_map, Array.getElem?_toList, ho] at hx
      simpa using hx
    have e0 : ρ (.tmp 0) = .pointer (some ⟨p, 0, none⟩) := (hold 0 (by decide)).trans h0
    have hlt : ∀ t, t < 52 → t < a.tmps.size := fun t ht => by omega
    match i, hi with
    | 0, _ => intro k _ _ _; exact .inl (by rw [← e0]; exact r_move _ _ _ o _ (hop _ rfl))
    | 1, _ => intro k _ _ _; exact .inl (by rw [← e0]; exact r_move _ _ _ o _ (hop _ rfl))
    | 2, _ => intro k _ _ _; exact .inl (r_nilCheck _ _ o _ (hop _ rfl) _ (hρ 1 (needs_get hnd 2 1 (by decide)) 43 rfl (hlt _ (by decide))))
    | 3, _ => intro k _ _ _; exact .inl (r_fieldTrie2 _ _ o _ (hop _ rfl) p (hρ 2 (needs_get hnd 3 2 (by decide)) 44 rfl (hlt _ (by decide))))
    | 4, _ =>
      intro k _ _ hk
      have h2 := hk 7 1 (needs_get hnd 7 4 (by decide)) rfl
      match k, h2 with
      | 0, _ => exact .inl (r_loadCells _ _ o _ (hop _ rfl) ⟨p, 2, none⟩ (hρ 3 (needs_get hnd 4 3 (by decide)) 45 rfl (hlt _ (by decide))) _ _ _ (hp0.cell 2))
      | 1, _ => exact .inl (r_loadCells _ _ o _ (hop _ rfl) ⟨p, 2, none⟩ (hρ 3 (needs_get hnd 4 3 (by decide)) 45 rfl (hlt _ (by decide))) _ _ _ (hp1.cell 2))
    | 5, _ =>
      intro k _ _ hk
      have h2 := hk 6 0 (needs_get hnd 6 5 (by decide)) rfl
      obtain rfl : k = 0 := by omega
      exact .inl (r_load_at _ _ o _ _ (hop _ rfl) _ ((hold 14 (by decide)).trans h14) cs hc0.at_ _ Tryd.underlying102 rfl (by rw [hcs]; kernel_rfl))
    | 6, _ =>
      refine .inl ?_
      show _ = Result.ok _ W1
      rw [hW1]
      exact r_bs1 _ _ o _ (hop _ rfl) cs (hρ 5 (needs_get hnd 6 5 (by decide)) 47 rfl (hlt _ (by decide))) hcs
    | 7, _ =>
      refine .inl ?_
      have e1 := hρ 4 (needs_get hnd 7 4 (by decide)) 46 rfl (hlt _ (by decide))
      have e2 := hρ 6 (needs_get hnd 7 6 (by decide)) 48 rfl (hlt _ (by decide))
      have e3 : o = ops[7]'(by omega) := by
        rw [Array.getElem?_eq_getElem (by omega)] at ho
        exact (Option.some.inj ho).symm
      show (execOp ρ o).run Tryd.prog W1 = .ok (.value (.slice A2 (n + 1) c2)) W2
      rw [← hrun, e3]
      congr 1
      unfold execOp
      rw [hop7]
      simp only [resolve, List.map_toArray, List.map_cons, List.map_nil, e1, e2]
    | 8, _ => intro k _ _ _; exact .inl (r_nilCheck _ _ o _ (hop _ rfl) _ (hρ 0 (needs_get hnd 8 0 (by decide)) 42 rfl (hlt _ (by decide))))
    | 9, _ => intro k _ _ _; exact .inl (r_fieldTrie2 _ _ o _ (hop _ rfl) p (hρ 8 (needs_get hnd 9 8 (by decide)) 50 rfl (hlt _ (by decide))))
    | 10, _ => exact .inr ⟨r_storeCells _ _ o _ _ (hop _ rfl) ⟨p, 2, none⟩ (hρ 9 (needs_get hnd 10 9 (by decide)) 51 rfl (hlt _ (by decide))) A2 (n + 1) c2 (hρ 7 (needs_get hnd 10 7 (by decide)) 49 rfl (hlt _ (by decide))) _ (hp2.cell 2) (hp2.free 2), rfl⟩
  · intro B h1 h2 h3
    have b1 : Below B w W1 := (hb0.mono h3).trans (hb1.mono (by rw [hs0]; exact h3))
    have b2 : Below B w W2 := b1.grown hg2 (by rw [hW1, size_new, hs0]; omega) (fun k hk => by simp [Value.ownBlock] at hk; omega)
    exact b2.setCell h1 _
  · intro i hi h1 h2
    show (W2.setCell ⟨p, 2, none⟩ (.slice A2 (n + 1) c2)).heap[i]? = _
    rw [Below.heap_setCell _ _ _ _ h2, hg2.block i (by rw [hW1, size_new, hs0]; omega) (by simpa [Value.ownBlock] using h1), hb1.block i (by rw [hs0]; exact hi), hs0]

abbrev ds15 : List (Option Tmp) := [some 71, some 72, some 73, some 74, some 75, some 76, some 77, some 78, some 79, some 80, some 81, some 82, some 83, some 84, some 85, some 86, none]
abbrev needs15 : List (Nat × Nat) := [(2, 1), (3, 2), (4, 3), (6, 5), (7, 6), (8, 7), (10, 8), (10, 9), (11, 10), (12, 11), (13, 4), (13, 12), (14, 0), (15, 14), (16, 15), (16, 13), (16, 8)]
abbrev ops15 : List Op := [.move (.tmp 0), .move (.tmp 0), .nilCheck (.tmp 72), .fieldAddr 106 (.tmp 73) 2, .load 104 (.tmp 74), .move (.tmp 0), .nilCheck (.tmp 76), .fieldAddr 106 (.tmp 77) 2, .load 104 (.tmp 78),
  .move (.tmp 16), .indexAddr 104 (.tmp 79) (.tmp 80), .load 102 (.tmp 81), .buildSlice 104 1 #[(0, .tmp 82)],
  .call { callee := .builtin .append, args := #[.tmp 75, .tmp 83], argTypes := #[104, 104] }, .nilCheck (.tmp 71), .fieldAddr 106 (.tmp 85) 2, .store 104 (.tmp 86) (.tmp 84)]
/-- t.blocks = append(t.blocks, c), c a block of t.blocks. -/
theorem fill_great15 (a : Act) (ops : Array Oper) (rid : Nat) (Q : Exit → Act → World → Prop) (w : World) (p k base n : Nat) (cs : Array Value) (v0 : Value) (m : Nat) (g cap : Nat) (xs : List Value)
    (hops : ops.toList.map (·.op) = ops15) (hok : dagOk ops ds15 = true) (hcn : chainOk ops [12, 13, 16] = true) (hnd : needsOk ops needs15 = true) (hsz : 87 ≤ a.tmps.size)
    (h0 : a.tmps.getD 0 undef = .pointer (some ⟨p, 0, none⟩)) (h16 : a.tmps.getD 16 undef = .int .i64 k) (hk : k < n) (hcs : cs.size = 256) (h1 : ∀ u ∈ cs.toList, u.oneCell' = true)
    (hp : Blk w p 106 #[v0, .map (some m), .slice (some ⟨g, 0, none⟩) n cap]) (hc : ∀ j u, cs.toList[j]? = some u → xs[k * 256 + j]? = some u) (hr : w.ownsRow base 102 256 (.slice (some ⟨g, 0, none⟩) n cap) n xs) (hb : base ≤ w.heap.size) (hn : (n + 1) * 1024 ≤ 140737488355328)
    (hend : ∀ v' w' V, w'.ownsRow base 102 256 v' (n + 1) (xs ++ cs.toList) → Blk w' p 106 #[v0, .map (some m), v'] → (∀ B, B ≤ p → B ≤ g → B ≤ w.heap.size → Below B w w') → (∀ i, i < w.heap.size → i ≠ g → i ≠ p → w'.heap[i]? = w.heap[i]?) →
      Q .normal { a with tmps := frS (fun j => decide (j < 17)) V 0 ds15 a.tmps } w') :
    (Code.region rid ops true).wp Tryd.prog Q a w := by
  have hlen : ops.size = 17 := by have := congrArg List.length hops; simpa using this
  rw [← hlen] at hend
  have hgp : g ≠ p := row_blk_ne hr hp (by decide)
  have hgl := (own_lt hr g rfl).2
  have hpl := heap_lt hp
  obtain ⟨W0, hW0⟩ : ∃ W0 : World, W0 = { w with drawn := w.drawn + 1 } := ⟨_, rfl⟩
  have hb0 : Below w.heap.size w W0 := by subst hW0; exact ⟨rfl, rfl, rfl, Nat.le_refl _, fun _ _ => rfl⟩
  have hs0 : W0.heap = w.heap := by subst hW0; rfl
  obtain ⟨W1, hW1⟩ : ∃ W1, W1 = W0.alloc (.cells cs 102) := ⟨_, rfl⟩
  have hb1 : Below W0.heap.size W0 W1 := by subst hW1; exact alloc_below _ _
  have hp0 := hp.below hb0
  have hp1 := hp0.below hb1
  have hr0 := own_below hr hb0
  have hc0 : ∀ j u, cs.toList[j]? = some u → W0.cell? ((⟨g, k * 256, none⟩ : Addr).add j) = some u := fun j u hu => by rw [add_plain]; exact own_cell hr0 _ u (hc j u hu)
  have hnm : n ≤ 9223372036854775807 := by omega
  have hr1 := own_below (own_below hr hb0) hb1
  have hnew : Blk W1 W0.heap.size 102 cs := by subst hW1; exact row_new _ _
  have hbs : base ≤ W1.heap.size := by rw [hW1, size_new, hs0]; omega
  have hop7 : (ops[13]'(by omega)).op = .call { callee := .builtin .append, args := #[.tmp 75, .tmp 83], argTypes := #[104, 104] } := by
    have := congrArg (fun l => l[13]?) hops
    simp only [List.getElem?_map, Array.getElem?_toList] at this
    rw [Array.getElem?_eq_getElem (by omega)] at this
    exact Option.some.inj this
  obtain ⟨v', W2, hrun, hown2, hg2, hat⟩ := r_append W1 slCells (fun x => match x with | .tmp 75 => .slice (some ⟨g, 0, none⟩) n cap | _ => .slice (some ⟨W0.heap.size, 0, none⟩) 1 1) (ops[13]'(by omega))
    (.tmp 75) (.tmp 83) hop7 base _ n xs rfl hr1 ⟨W0.heap.size, 0, none⟩ 1 1 cs.toList rfl (by simpa using hcs) hnew.at_ h1 hn hbs
  obtain ⟨A2, c2, rfl⟩ := own_slice hown2
  have hp2 : Blk W2 p 106 #[v0, .map (some m), .slice (some ⟨g, 0, none⟩) n cap] := hp1.grown hg2 (by simpa [Value.ownBlock] using Ne.symm hgp)
  have hp3 := hp2.set 2 (.slice A2 (n + 1) c2)
  have hown3 : (W2.setCell ⟨p, 2, none⟩ (.slice A2 (n + 1) c2)).ownsRow base 102 256 (.slice A2 (n + 1) c2) (n + 1) (xs ++ cs.toList) := by
    refine hown2.kept (row := some p) ⟨rfl, rfl, rfl, by simp [World.setCell], fun k _ hk => Below.heap_setCell _ _ _ _ (fun e => hk (by rw [e]))⟩ ?_
    obtain ⟨g2, cap2, e2, _⟩ := own_form hown2 (by omega)
    rw [e2] at hown2 ⊢
    have := row_blk_ne hown2 hp2 (by decide)
    right; simpa [Value.ownBlock] using this
  refine wp_region_chain (by kernel_rfl) ds15 hok [12, 13, 16] hcn
    (fun j => match j with | 0 => .pointer (some ⟨p, 0, none⟩) | 1 => .pointer (some ⟨p, 0, none⟩) | 2 => .pointer (some ⟨p, 0, none⟩) | 3 => .pointer (some ⟨p, 2, none⟩) | 4 => .slice (some ⟨g, 0, none⟩) n cap | 5 => .pointer (some ⟨p, 0, none⟩) | 6 => .pointer (some ⟨p, 0, none⟩) | 7 => .pointer (some ⟨p, 2, none⟩) | 8 => .slice (some ⟨g, 0, none⟩) n cap | 9 => .int .i64 k | 10 => .pointer (some ⟨g, k * 256, none⟩) | 11 => .agg cs | 12 => .slice (some ⟨W0.heap.size, 0, none⟩) 1 1 | 13 => .slice A2 (n + 1) c2 | 14 => .pointer (some ⟨p, 0, none⟩) | 15 => .pointer (some ⟨p, 2, none⟩) | _ => undef)
    (fun k => match k with | 0 => W0 | 1 => W1 | 2 => W2 | _ => W2.setCell ⟨p, 2, none⟩ (.slice A2 (n + 1) c2)) hW0 ?_ (hend _ _ _ hown3 hp3 ?_ ?_)
  · intro i o ho ρ hρ hold _ _ _
    have hi : i < 17 := by rw [← hlen]; exact (Array.getElem?_eq_some_iff.1 ho).1
    have hop : ∀ x, ops15[i]? = some x → o.op = x := by
      intro x hx
      rw [← hops, List.getElem?_map, Array.getElem?_toList, ho] at hx
      simpa using hx
    have e0 : ρ (.tmp 0) = .pointer (some ⟨p, 0, none⟩) := (hold 0 (by decide)).trans h0
    have hlt : ∀ t, t < 87 → t < a.tmps.size := fun t ht => by omega
    match i, hi with
    | 0, _ => intro k _ _ _; exact .inl (by rw [← e0]; exact r_move _ _ _ o _ (hop _ rfl))
    | 1, _ => intro k _ _ _; exact .inl (by rw [← e0]; exact r_move _ _ _ o _ (hop _ rfl))
    | 2, _ => intro k _ _ _; exact .inl (r_nilCheck _ _ o _ (hop _ rfl) _ (hρ 1 (needs_get hnd 2 1 (by decide)) 72 rfl (hlt _ (by decide))))
    | 3, _ => intro k _ _ _; exact .inl (r_fieldTrie2 _ _ o _ (hop _ rfl) p (hρ 2 (needs_get hnd 3 2 (by decide)) 73 rfl (hlt _ (by decide))))
    | 4, _ =>
      intro k _ _ hk
      have h2 := hk 13 1 (needs_get hnd 13 4 (by decide)) rfl
      match k, h2 with
      | 0, _ => exact .inl (r_loadCells _ _ o _ (hop _ rfl) ⟨p, 2, none⟩ (hρ 3 (needs_get hnd 4 3 (by decide)) 74 rfl (hlt _ (by decide))) _ _ _ (hp0.cell 2))
      | 1, _ => exact .inl (r_loadCells _ _ o _ (hop _ rfl) ⟨p, 2, none⟩ (hρ 3 (needs_get hnd 4 3 (by decide)) 74 rfl (hlt _ (by decide))) _ _ _ (hp1.cell 2))
    | 5, _ => intro k _ _ _; exact .inl (by rw [← e0]; exact r_move _ _ _ o _ (hop _ rfl))
    | 6, _ => intro k _ _ _; exact .inl (r_nilCheck _ _ o _ (hop _ rfl) _ (hρ 5 (needs_get hnd 6 5 (by decide)) 76 rfl (hlt _ (by decide))))
    | 7, _ => intro k _ _ _; exact .inl (r_fieldTrie2 _ _ o _ (hop _ rfl) p (hρ 6 (needs_get hnd 7 6 (by decide)) 77 rfl (hlt _ (by decide))))
    | 8, _ =>
      intro k _ _ hk
      have h2 := hk 16 2 (needs_get hnd 16 8 (by decide)) rfl
      match k, h2 with
      | 0, _ => exact .inl (r_loadCells _ _ o _ (hop _ rfl) ⟨p, 2, none⟩ (hρ 7 (needs_get hnd 8 7 (by decide)) 78 rfl (hlt _ (by decide))) _ _ _ (hp0.cell 2))
      | 1, _ => exact .inl (r_loadCells _ _ o _ (hop _ rfl) ⟨p, 2, none⟩ (hρ 7 (needs_get hnd 8 7 (by decide)) 78 rfl (hlt _ (by decide))) _ _ _ (hp1.cell 2))
      | 2, _ => exact .inl (r_loadCells _ _ o _ (hop _ rfl) ⟨p, 2, none⟩ (hρ 7 (needs_get hnd 8 7 (by decide)) 78 rfl (hlt _ (by decide))) _ _ _ (hp2.cell 2))
    | 9, _ =>
      intro k' _ _ _
      have e16 : ρ (.tmp 16) = .int .i64 k := (hold 16 (by decide)).trans h16
      exact .inl (by rw [← e16]; exact r_move _ _ _ o _ (hop _ rfl))
    | 10, _ => intro k' _ _ _; exact .inl (r_indexCells _ _ o _ _ (hop _ rfl) g n cap k (hρ 8 (needs_get hnd 10 8 (by decide)) 79 rfl (hlt _ (by decide))) (hρ 9 (needs_get hnd 10 9 (by decide)) 80 rfl (hlt _ (by decide))) hk hnm)
    | 11, _ =>
      intro k' _ _ hk'
      have h2 := hk' 12 0 (needs_get hnd 12 11 (by decide)) rfl
      obtain rfl : k' = 0 := by omega
      exact .inl (r_load_at _ _ o _ _ (hop _ rfl) _ (hρ 10 (needs_get hnd 11 10 (by decide)) 81 rfl (hlt _ (by decide))) cs hc0 _ Tryd.underlying102 rfl (by rw [hcs]; kernel_rfl))
    | 12, _ =>
      refine .inl ?_
      show _ = Result.ok _ W1
      rw [hW1]
      exact r_bs1 _ _ o _ (hop _ rfl) cs (hρ 11 (needs_get hnd 12 11 (by decide)) 82 rfl (hlt _ (by decide))) hcs
    | 13, _ =>
      refine .inl ?_
      have e1 := hρ 4 (needs_get hnd 13 4 (by decide)) 75 rfl (hlt _ (by decide))
      have e2 := hρ 12 (needs_get hnd 13 12 (by decide)) 83 rfl (hlt _ (by decide))
      have e3 : o = ops[13]'(by omega) := by
        rw [Array.getElem?_eq_getElem (by omega)] at ho
        exact (Option.some.inj ho).symm
      show (execOp ρ o).run Tryd.prog W1 = .ok (.value (.slice A2 (n + 1) c2)) W2
      rw [← hrun, e3]
      congr 1
      unfold execOp
      rw [hop7]
      simp only [resolve, List.map_toArray, List.map_cons, List.map_nil, e1, e2]
    | 14, _ => intro k _ _ _; exact .inl (r_nilCheck _ _ o _ (hop _ rfl) _ (hρ 0 (needs_get hnd 14 0 (by decide)) 71 rfl (hlt _ (by decide))))
    | 15, _ => intro k _ _ _; exact .inl (r_fieldTrie2 _ _ o _ (hop _ rfl) p (hρ 14 (needs_get hnd 15 14 (by decide)) 85 rfl (hlt _ (by decide))))
    | i' + 17, hi' => exact absurd hi' (by omega)
    | 16, _ => exact .inr ⟨r_storeCells _ _ o _ _ (hop _ rfl) ⟨p, 2, none⟩ (hρ 15 (needs_get hnd 16 15 (by decide)) 86 rfl (hlt _ (by decide))) A2 (n + 1) c2 (hρ 13 (needs_get hnd 16 13 (by decide)) 84 rfl (hlt _ (by decide))) _ (hp2.cell 2) (hp2.free 2), rfl⟩
  · intro B h1 h2 h3
    have b1 : Below B w W1 := (hb0.mono h3).trans (hb1.mono (by rw [hs0]; exact h3))
    have b2 : Below B w W2 := b1.grown hg2 (by rw [hW1, size_new, hs0]; omega) (fun k hk => by simp [Value.ownBlock] at hk; omega)
    exact b2.setCell h1 _
  · intro i hi h1 h2
    show (W2.setCell ⟨p, 2, none⟩ (.slice A2 (n + 1) c2)).heap[i]? = _
    rw [Below.heap_setCell _ _ _ _ h2, hg2.block i (by rw [hW1, size_new, hs0]; omega) (by simpa [Value.ownBlock] using h1), hb1.block i (by rw [hs0]; exact hi), hs0]
end Go.Proofs.YtmdkjljcnegmeaaDoor
