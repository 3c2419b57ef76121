/- props.Load: the region that notes a code point's parts; what stands between the calls. -/
import Derived.Test.YtmdkjljcnegmeaaDoorTab
namespace Go.Proofs.YtmdkjljcnegmeaaDoor
open Go.RowKit
set_option linter.unusedVariables false
set_option linter.unusedSimpArgs false

theorem r_fieldTab (ρ : Operand → Value) (W : World) (o : Oper) (x : Operand) (ho : o.op = .fieldAddr 39 x 7) (p : Nat) (hx : ρ x = .pointer (some ⟨p, 0, none⟩)) : (execOp ρ o).run Tryd.prog W = .ok (.value (.pointer (some ⟨p, 7, none⟩))) W := by
  unfold execOp
  rw [ho]
  go_simp
theorem r_fieldRec (ρ : Operand → Value) (W : World) (o : Oper) (x : Operand) (ho : o.op = .fieldAddr 58 x 2) (p : Nat) (hx : ρ x = .pointer (some ⟨p, 0, none⟩)) : (execOp ρ o).run Tryd.prog W = .ok (.value (.pointer (some ⟨p, 2, none⟩))) W := by
  unfold execOp
  rw [ho]
  go_simp
theorem r_loadMap (ρ : Operand → Value) (W : World) (o : Oper) (x : Operand) (ho : o.op = .load 36 x) (ad : Addr) (hx : ρ x = .pointer (some ad)) (m : Option Nat) (hc : W.cell? ad = some (.map m)) : (execOp ρ o).run Tryd.prog W = .ok (.value (.map m)) W := by
  unfold execOp
  rw [ho]
  go_simp
theorem r_loadStrs (ρ : Operand → Value) (W : World) (o : Oper) (x : Operand) (ho : o.op = .load 34 x) (ad : Addr) (hx : ρ x = .pointer (some ad)) (A : Option Addr) (n c : Nat) (hc : W.cell? ad = some (.slice A n c)) : (execOp ρ o).run Tryd.prog W = .ok (.value (.slice A n c)) W := by
  unfold execOp
  rw [ho]
  go_simp
theorem r_loadStr (ρ : Operand → Value) (W : World) (o : Oper) (x : Operand) (ho : o.op = .load 9 x) (ad : Addr) (hx : ρ x = .pointer (some ad)) (s : ByteArray) (hc : W.cell? ad = some (.string s)) : (execOp ρ o).run Tryd.prog W = .ok (.value (.string s)) W := by
  unfold execOp
  rw [ho]
  go_simp
theorem r_index0 (ρ : Operand → Value) (W : World) (o : Oper) (x y : Operand) (ho : o.op = .indexAddr 34 x y) (g n c : Nat) (hx : ρ x = .slice (some ⟨g, 0, none⟩) n c) (hy : ρ y = .int .i64 0) (hk : 0 < n) (hn : n ≤ 9223372036854775807) : (execOp ρ o).run Tryd.prog W = .ok (.value (.pointer (some ⟨g, 0, none⟩))) W := by
  unfold execOp
  rw [ho]
  go_simp
theorem r_mapUpd (ρ : Operand → Value) (W W' : World) (o : Oper) (x y z : Operand) (ho : o.op = .mapUpdate 36 x y z) (h : (Instr.mapUpdate 36 (ρ x) (ρ y) (ρ z)).run Tryd.prog W = .ok () W') : (execOp ρ o).run Tryd.prog W = .ok .skip W' := by
  unfold execOp
  rw [ho]
  simp [h, Result.andThen, go_sem]
def needsOk2 (ops : Array Oper) (l : List (Nat × Nat)) : Bool := l.all fun p => (waits ops p.1).contains p.2
theorem needs2_get {ops : Array Oper} {l : List (Nat × Nat)} (h : needsOk2 ops l = true) (i j : Nat) (hm : (i, j) ∈ l) : j ∈ waits ops i := by
  have := List.all_eq_true.1 h _ hm
  simpa using this
abbrev dsL : List (Option Tmp) := [some 87, some 88, some 89, some 90, some 91, some 92, some 93, some 94, some 95, some 96, none]
abbrev needsL : List (Nat × Nat) := [(1, 0), (2, 1), (3, 2), (6, 5), (7, 6), (8, 7), (9, 8)]
abbrev opsL : List Op := [.move (.tmp 1), .nilCheck (.tmp 87), .fieldAddr 39 (.tmp 88) 7, .load 36 (.tmp 89), .move (.tmp 7), .fieldAddr 58 (.tmp 6) 2, .load 34 (.tmp 92), .indexAddr 34 (.tmp 93) (.const (.int .i64 0)), .load 9 (.tmp 94),
  .call { callee := .value (.func 28), args := #[.tmp 95], argTypes := #[9] }, .mapUpdate 36 (.tmp 90) (.tmp 91) (.tmp 96)]
set_option maxHeartbeats 800000 in
theorem load_region (a : Act) (ops : Array Oper) (rid : Nat) (Q : Exit → Act → World → Prop) (w : World) (T rb gf n cf m c B : Nat) (r : Int) (s : ByteArray) (l : List Nat) (F : Int → Option (List Nat))
    (hops : ops.toList.map (·.op) = opsL) (hok : dagOk ops dsL = true) (hl : lastOk ops 9 10 = true) (hnd : needsOk2 ops needsL = true) (hsz : 97 ≤ a.tmps.size)
    (h1 : a.tmps.getD 1 undef = .pointer (some ⟨T, 0, none⟩)) (h6 : a.tmps.getD 6 undef = .pointer (some ⟨rb, 0, none⟩)) (h7 : a.tmps.getD 7 undef = .int .i64 r)
    (cT : w.cell? ⟨T, 7, none⟩ = some (.map (some m))) (c2 : w.cell? ⟨rb, 2, none⟩ = some (.slice (some ⟨gf, 0, none⟩) n cf)) (cs : w.cell? ⟨gf, 0, none⟩ = some (.string s)) (hn : 0 < n) (hn2 : n ≤ 9223372036854775807)
    (hp : ∀ W, Below w.heap.size w W → Calls Tryd.prog 28 #[.string s] W (PointsSaid l W))
    (hm : PtsAt w B m c F) (hB : B ≤ w.heap.size) (hr : (Lit.int .i64 r).wf = true) (hc : c < maxLen)
    (hend : ∀ vc W1 w', PtsAt w' B m (c + 1) (setP F r l) → Below w.heap.size w W1 → W1.grownBy w' (some m) → Q .normal { a with tmps := frS (fun j => decide (j < 11)) vc 0 dsL a.tmps } w') :
    (Code.region rid ops true).wp Tryd.prog Q a w := by
  have hlen : ops.size = 11 := by have := congrArg List.length hops; simpa using this
  obtain ⟨W0, hW0⟩ : ∃ W0 : World, W0 = { w with drawn := w.drawn + 1 } := ⟨_, rfl⟩
  have hb0 : Below w.heap.size w W0 := by subst hW0; exact ⟨rfl, rfl, rfl, Nat.le_refl _, fun _ _ => rfl⟩
  have hs0 : W0.heap.size = w.heap.size := by subst hW0; rfl
  have hop : ∀ (i : Nat) (o : Oper), ops[i]? = some o → ∀ x, opsL[i]? = some x → o.op = x := by
    intro i o ho x hx
    rw [← hops, List.getElem?_map, Array.getElem?_toList, ho] at hx
    simpa using hx
  have hlt : ∀ t, t < 97 → t < a.tmps.size := fun t ht => by omega
  rw [← hlen] at hend
  refine wp_region_call (by kernel_rfl) dsL hok 9 10 hl
    (fun j => match j with | 0 => .pointer (some ⟨T, 0, none⟩) | 1 => .pointer (some ⟨T, 0, none⟩) | 2 => .pointer (some ⟨T, 7, none⟩) | 3 => .map (some m) | 4 => .int .i64 r | 5 => .pointer (some ⟨rb, 2, none⟩) | 6 => .slice (some ⟨gf, 0, none⟩) n cf | 7 => .pointer (some ⟨gf, 0, none⟩) | 8 => .string s | _ => undef) rfl
    (fun v W => W.ownsRow w.heap.size 3 1 v l.length (ints l) ∧ Below w.heap.size w W)
    (fun w' => ∃ W1, PtsAt w' B m (c + 1) (setP F r l) ∧ Below w.heap.size w W1 ∧ W1.grownBy w' (some m)) ?_ ?_ ?_ ?_
  · intro i o ho hi9 hi10 ρ hρ hold hcon _ _ W hW
    have hbW : Below w.heap.size w W := by
      rcases hW with rfl | ⟨v, _, h⟩
      · rw [← hW0]; exact hb0
      · exact h
    have kT : W.cell? ⟨T, 7, none⟩ = some (.map (some m)) := cell_later hbW cT
    have k2 : W.cell? ⟨rb, 2, none⟩ = some (.slice (some ⟨gf, 0, none⟩) n cf) := cell_later hbW c2
    have ks : W.cell? ⟨gf, 0, none⟩ = some (.string s) := cell_later hbW cs
    have hi : i < 11 := by rw [← hlen]; exact (Array.getElem?_eq_some_iff.1 ho).1
    have e1 : ρ (.tmp 1) = .pointer (some ⟨T, 0, none⟩) := (hold 1 (by decide)).trans h1
    have e6 : ρ (.tmp 6) = .pointer (some ⟨rb, 0, none⟩) := (hold 6 (by decide)).trans h6
    have e7 : ρ (.tmp 7) = .int .i64 r := (hold 7 (by decide)).trans h7
    match i, hi with
    | 0, _ => exact .inl (by rw [← e1]; exact r_move _ _ _ o _ (hop _ _ ho _ rfl))
    | 1, _ => exact .inl (r_nilCheck _ _ o _ (hop _ _ ho _ rfl) _ (hρ 0 (needs2_get hnd 1 0 (by decide)) (by decide) 87 rfl (hlt _ (by decide))))
    | 2, _ => exact .inl (r_fieldTab _ _ o _ (hop _ _ ho _ rfl) T (hρ 1 (needs2_get hnd 2 1 (by decide)) (by decide) 88 rfl (hlt _ (by decide))))
    | 3, _ => exact .inl (r_loadMap _ _ o _ (hop _ _ ho _ rfl) ⟨T, 7, none⟩ (hρ 2 (needs2_get hnd 3 2 (by decide)) (by decide) 89 rfl (hlt _ (by decide))) _ kT)
    | 4, _ => exact .inl (by have := r_move Tryd.prog ρ W o _ (hop _ _ ho _ rfl); rw [e7] at this; exact this)
    | 5, _ => exact .inl (r_fieldRec _ _ o _ (hop _ _ ho _ rfl) rb e6)
    | 6, _ => exact .inl (r_loadStrs _ _ o _ (hop _ _ ho _ rfl) ⟨rb, 2, none⟩ (hρ 5 (needs2_get hnd 6 5 (by decide)) (by decide) 92 rfl (hlt _ (by decide))) _ _ _ k2)
    | 7, _ => exact .inl (r_index0 _ _ o _ _ (hop _ _ ho _ rfl) gf n cf (hρ 6 (needs2_get hnd 7 6 (by decide)) (by decide) 93 rfl (hlt _ (by decide))) (hcon _) hn hn2)
    | 8, _ => exact .inl (r_loadStr _ _ o _ (hop _ _ ho _ rfl) ⟨gf, 0, none⟩ (hρ 7 (needs2_get hnd 8 7 (by decide)) (by decide) 94 rfl (hlt _ (by decide))) _ ks)
    | 9, _ => exact absurd rfl hi9
    | 10, _ => exact absurd rfl hi10
  · intro o ho ρ hρ _ _ hfun _
    refine ⟨28, #[.string s], ?_, ?_⟩
    · have e := hρ 8 (needs2_get hnd 9 8 (by decide)) 95 rfl (hlt _ (by decide))
      unfold execOp
      rw [hop _ _ ho _ rfl]
      simp [go_sem, hfun, e, resolve, Act.eval]
    · rw [← hW0]
      refine (hp W0 hb0).mono ?_
      rintro e W ⟨v, rfl, ho, hb⟩
      rw [hs0] at ho hb
      exact ⟨v, rfl, ho, hb0.trans hb⟩
  · intro o ho ρ vc W hρ hvc hold hcon ⟨hv, hbW⟩
    have e3 := hρ 3 (by decide) (by decide) 90 rfl (hlt _ (by decide))
    have e4 := hρ 4 (by decide) (by decide) 91 rfl (hlt _ (by decide))
    have e9 := hvc 96 rfl (hlt _ (by decide))
    obtain ⟨w', hrun, hq, hg⟩ := (hm.below hbW).put (own_base hv hB) r hr hc
    refine ⟨w', ⟨W, hq, hbW, hg⟩, .inr ⟨r_mapUpd _ _ _ o _ _ _ (hop _ _ ho _ rfl) ?_, rfl⟩⟩
    rw [e3, e4, e9]
    exact hrun
  · rintro vc w' ⟨W1, hq, hb1, hg⟩
    exact hend _ W1 w' hq hb1 hg

/-- What stands between the calls of Load: w0 the world at the call. -/
structure Stg (w0 w : World) (cs : Array Value) : Prop where
  B : Below w0.heap.size w0 w
  tab : Blk w (w0.heap.size + 3) 39 cs
  m0 : MapF w (kInt : KK Tryd.prog 3 Int) w0.heap.size 0 (fun _ => none)
  m1 : MapF w (kInt : KK Tryd.prog 3 Int) (w0.heap.size + 1) 0 (fun _ => none)
  m2 : MapF w (kInt : KK Tryd.prog 3 Int) (w0.heap.size + 2) 0 (fun _ => none)
section
variable {w0 w w' : World} {cs : Array Value}
theorem Stg.lt (h : Stg w0 w cs) : w0.heap.size + 4 ≤ w.heap.size := heap_lt h.tab
theorem Stg.below (h : Stg w0 w cs) (hb : Below w.heap.size w w') : Stg w0 w' cs :=
  ⟨h.B.trans (hb.mono h.B.size), h.tab.below hb, h.m0.below hb h.m0.lt, h.m1.below hb h.m1.lt, h.m2.below hb h.m2.lt⟩
theorem Stg.set (h : Stg w0 w cs) (j : Nat) (u : Value) : Stg w0 (w.setCell ⟨w0.heap.size + 3, j, none⟩ u) (cs.setIfInBounds j u) := by
  have e : ∀ k, k ≠ w0.heap.size + 3 → (w.setCell ⟨w0.heap.size + 3, j, none⟩ u).heap[k]? = w.heap[k]? := fun k hk => Below.heap_setCell w ⟨w0.heap.size + 3, j, none⟩ u k hk
  exact ⟨h.B.setCell (p := ⟨_, _, _⟩) (by show w0.heap.size ≤ w0.heap.size + 3; omega) _, h.tab.set j u, h.m0.block (e _ (by omega)), h.m1.block (e _ (by omega)), h.m2.block (e _ (by omega))⟩
theorem stg_start (w : World) (cs : Array Value) : Stg w ((((w.alloc (.map #[] 0)).alloc (.map #[] 0)).alloc (.map #[] 0)).alloc (.cells cs 39)) cs := by
  have s1 := size_new w (.map #[] 0)
  have s2 := size_new (w.alloc (.map #[] 0)) (.map #[] 0)
  have s3 := size_new ((w.alloc (.map #[] 0)).alloc (.map #[] 0)) (.map #[] 0)
  have b1 := alloc_below w (.map #[] 0)
  have b2 := alloc_below (w.alloc (.map #[] 0)) (.map #[] 0)
  have b3 := alloc_below ((w.alloc (.map #[] 0)).alloc (.map #[] 0)) (.map #[] 0)
  have b4 := alloc_below (((w.alloc (.map #[] 0)).alloc (.map #[] 0)).alloc (.map #[] 0)) (.cells cs 39)
  have m0 := MapF.made w (kInt : KK Tryd.prog 3 Int)
  have m1 := MapF.made (w.alloc (.map #[] 0)) (kInt : KK Tryd.prog 3 Int)
  have m2 := MapF.made ((w.alloc (.map #[] 0)).alloc (.map #[] 0)) (kInt : KK Tryd.prog 3 Int)
  have hn := row_new (((w.alloc (.map #[] 0)).alloc (.map #[] 0)).alloc (.map #[] 0)) (.cells cs 39)
  rw [s3, s2, s1] at hn
  rw [s1] at m1
  rw [s2, s1] at m2
  refine ⟨?_, hn, ?_, ?_, ?_⟩
  · exact ((b1.trans (b2.mono (by omega))).trans (b3.mono (by omega))).trans (b4.mono (by omega))
  · exact ((m0.below b2 m0.lt).below b3 (by omega)).below b4 (by omega)
  · exact (m1.below b3 (by omega)).below b4 (by omega)
  · exact m2.below b4 (by omega)
theorem load_text {f : FuncId} {rs : List Rec} (hT : TextIs f rs) (hL : ListOk rs) : ∃ t, (∀ w, Calls Tryd.prog f #[] w fun e w' => e = .returned (.string t) ∧ w = w') ∧ ∀ w, Env w → Calls Tryd.prog 20 #[.string t] w (LoadSaid rs w) := by
  obtain ⟨t, h1, h2⟩ := hT
  exact ⟨t, h1, fun w hE => load_walk t rs w hE h2 hL.ok hL.pos (Nat.le_trans hL.le (by decide))⟩
/-- The records' rows stand when what lies below them turns. -/
theorem RecsAt.above {base : Nat} {v : Value} {rs : List Rec} {fv : List Value} (h : RecsAt w base v rs fv) (ha : ∀ k, base ≤ k → k < w.heap.size → w'.heap[k]? = w.heap[k]?) : RecsAt w' base v rs fv :=
  ⟨h.len, own_above h.row ha, fun i r u h1 h2 => own_above (h.fld i r u h1 h2) ha⟩
end

theorem own_at {w w' : World} {base n : Nat} {e : TypeId} {size : Nat} {v : Value} {xs : List Value} (h : w.ownsRow base e size v n xs) (ha : ∀ g, v.ownBlock = some g → w'.heap[g]? = w.heap[g]?) : w'.ownsRow base e size v n xs := by
  refine ⟨h.1, ?_⟩
  rcases h.2 with h1 | ⟨g, cap, cur, rfl, hb, hg, h2⟩
  · exact .inl h1
  · exact .inr ⟨g, cap, cur, rfl, hb, (ha g rfl).trans hg, h2⟩
theorem PtsAt.keep2 {w w' : World} {B m m0 m1 c c0 c1 : Nat} {F F0 F1 : Int → Option (List Nat)} (h : PtsAt w B m c F) (h0 : PtsAt w B m0 c0 F0) (h1 : PtsAt w B m1 c1 F1) (e0 : m ≠ m0) (e1 : m ≠ m1) (hk : Kept2 m0 m1 w w') : PtsAt w' B m c F := by
  obtain ⟨f0, g0, _⟩ := h0
  obtain ⟨f1, g1, _⟩ := h1
  obtain ⟨f, q1, q2, q3⟩ := h
  refine ⟨f, q1.block (hk.block m q1.lt e0 e1), q2, fun r => ?_⟩
  have := q3 r
  cases hF : F r with
  | none => rw [hF] at this; exact this
  | some l =>
    rw [hF] at this
    obtain ⟨v, e, ho⟩ := this
    refine ⟨v, e, own_at ho fun g hg => hk.block g (own_lt ho g hg).2 ?_ ?_⟩
    · rintro rfl
      rcases own_map_ne ho g0 with h | h
      · rw [hg] at h; cases h
      · exact h hg
    · rintro rfl
      rcases own_map_ne ho g1 with h | h
      · rw [hg] at h; cases h
      · exact h hg
/-- The tries that are made so far, the categories and what is known. -/
structure Mid (Φ : Files) (w0 w : World) (cs : Array Value) (l : List (Nat × List Rec)) (vv kv : Value) : Prop where
  s : Stg w0 w cs
  t : ∀ x ∈ l, TxAt w (w0.heap.size + 4) x.1 x.2
  kinds : w.ownsRow (w0.heap.size + 4) 9 1 vv (valsOf Φ.cat).length (strVs (valsOf Φ.cat))
  known : KnownAt w (w0.heap.size + 4) kv Φ.cat
section
variable {Φ : Files} {w0 w w' w1 : World} {cs : Array Value} {l : List (Nat × List Rec)} {vv kv : Value}
theorem Mid.below (h : Mid Φ w0 w cs l vv kv) (hb : Below w.heap.size w w') : Mid Φ w0 w' cs l vv kv :=
  ⟨h.s.below hb, fun x hx => (h.t x hx).above fun k _ hk => hb.block k hk, own_below h.kinds hb, h.known.above fun k _ hk => hb.block k hk⟩
theorem Mid.set (h : Mid Φ w0 w cs l vv kv) (j : Nat) (u : Value) : Mid Φ w0 (w.setCell ⟨w0.heap.size + 3, j, none⟩ u) (cs.setIfInBounds j u) l vv kv := by
  have ha := set_above w (w0.heap.size + 3) j u (base := w0.heap.size + 4) (by omega)
  exact ⟨h.s.set j u, fun x hx => (h.t x hx).above ha, own_above h.kinds ha, h.known.above ha⟩
theorem Mid.add (h : Mid Φ w0 w cs l vv kv) {p : Nat} {rs : List Rec} (ht : TxAt w (w0.heap.size + 4) p rs) : Mid Φ w0 w cs (l ++ [(p, rs)]) vv kv :=
  ⟨h.s, fun x hx => by
    rcases List.mem_append.1 hx with hx | hx
    · exact h.t x hx
    · obtain rfl : x = (p, rs) := by simpa using hx
      exact ht, h.kinds, h.known⟩
/-- The first file: categories. -/
theorem Stg.first (h : Stg w0 w cs) {e : Ending} (hs : LoadSaid Φ.cat w e w1) : ∃ p A5 n5 c5 A6 n6 c6, e = .returned (.tuple #[.agg #[.pointer (some ⟨p, 0, none⟩)], .slice A5 n5 c5, .slice A6 n6 c6]) ∧ Stg w0 w1 cs ∧
    Mid Φ w0 w1 cs [(p, Φ.cat)] (.slice A5 n5 c5) (.slice A6 n6 c6) := by
  obtain ⟨p, vv, kv, he, ht, hv, hk, hb⟩ := hs.tx (B := w0.heap.size + 4) h.lt
  obtain ⟨A5, c5, rfl⟩ := own_slice hv
  obtain ⟨A6, n6, c6, rfl⟩ : ∃ A n c, kv = .slice A n c := by
    obtain ⟨s, _, _, h3⟩ := hk
    obtain ⟨A, c, rfl⟩ := own_slice h3
    exact ⟨_, _, _, rfl⟩
  refine ⟨p, A5, _, c5, A6, n6, c6, he, h.below hb, h.below hb, fun x hx => ?_, hv, hk⟩
  obtain rfl : x = (p, Φ.cat) := by simpa using hx
  exact ht
/-- One more file. -/
theorem Mid.step (h : Mid Φ w0 w cs l vv kv) {rs : List Rec} {e : Ending} (hs : LoadSaid rs w e w1) : ∃ p vv' kv', e = .returned (.tuple #[.agg #[.pointer (some ⟨p, 0, none⟩)], vv', kv']) ∧ Mid Φ w0 w1 cs (l ++ [(p, rs)]) vv kv := by
  obtain ⟨p, vv', kv', he, ht, _, _, hb⟩ := hs.tx (B := w0.heap.size + 4) h.s.lt
  exact ⟨p, vv', kv', he, (h.below hb).add ht⟩
end
/-- The tables while the maps are filled; the records of the file that is read. -/
structure Run (Φ : Files) (w0 w : World) (cs : Array Value) (l : List (Nat × List Rec)) (vv kv : Value) (rs : List Rec) (v : Value) (fv : List Value) (cP : Nat) (FP : Int → Option (List Nat)) (c0 : Nat) (F0 : Int → Option (List Nat)) (c1 : Nat) (F1 : Int → Option (List Nat)) : Prop where
  B : Below w0.heap.size w0 w
  tab : Blk w (w0.heap.size + 3) 39 cs
  t : ∀ x ∈ l, TxAt w (w0.heap.size + 4) x.1 x.2
  kinds : w.ownsRow (w0.heap.size + 4) 9 1 vv (valsOf Φ.cat).length (strVs (valsOf Φ.cat))
  known : KnownAt w (w0.heap.size + 4) kv Φ.cat
  recs : RecsAt w (w0.heap.size + 4) v rs fv
  p : PtsAt w w0.heap.size w0.heap.size cP FP
  s : PtsAt w w0.heap.size (w0.heap.size + 1) c0 F0
  f : PtsAt w w0.heap.size (w0.heap.size + 2) c1 F1
section
variable {Φ : Files} {w0 w w' w1 : World} {cs : Array Value} {l : List (Nat × List Rec)} {vv kv v : Value} {rs : List Rec} {fv : List Value} {cP c0 c1 : Nat} {FP F0 F1 : Int → Option (List Nat)}
theorem RecsAt.base {b b' : Nat} (h : RecsAt w b v rs fv) (hb : b' ≤ b) : RecsAt w b' v rs fv := ⟨h.len, own_base h.row hb, fun i r u h1 h2 => own_base (h.fld i r u h1 h2) hb⟩
theorem Mid.run (h : Mid Φ w0 w cs l vv kv) {e : Ending} (hs : ParseSaid rs w e w1) : ∃ v fv, e = .returned (.tuple #[v, .int .i64 0, .int .i64 0]) ∧ Run Φ w0 w1 cs l vv kv rs v fv 0 (fun _ => none) 0 (fun _ => none) 0 (fun _ => none) := by
  obtain ⟨v, fv, he, hr, hb⟩ := hs
  have h1 := h.below hb
  exact ⟨v, fv, he, h1.s.B, h1.s.tab, h1.t, h1.kinds, h1.known, hr.base h.s.lt, ⟨_, h1.s.m0, Nat.le_refl _, fun _ => rfl⟩, ⟨_, h1.s.m1, by omega, fun _ => rfl⟩, ⟨_, h1.s.m2, by omega, fun _ => rfl⟩⟩
theorem Run.lt (h : Run Φ w0 w cs l vv kv rs v fv cP FP c0 F0 c1 F1) : w0.heap.size + 4 ≤ w.heap.size := heap_lt h.tab
theorem Run.below (h : Run Φ w0 w cs l vv kv rs v fv cP FP c0 F0 c1 F1) (hb : Below w.heap.size w w') : Run Φ w0 w' cs l vv kv rs v fv cP FP c0 F0 c1 F1 :=
  ⟨h.B.trans (hb.mono h.B.size), h.tab.below hb, fun x hx => (h.t x hx).above fun k _ hk => hb.block k hk, own_below h.kinds hb, h.known.above fun k _ hk => hb.block k hk, h.recs.below hb, h.p.below hb, h.s.below hb, h.f.below hb⟩
theorem Run.again (h : Run Φ w0 w cs l vv kv rs v fv cP FP c0 F0 c1 F1) {rs' : List Rec} {e : Ending} (hs : ParseSaid rs' w e w1) : ∃ v' fv', e = .returned (.tuple #[v', .int .i64 0, .int .i64 0]) ∧ Run Φ w0 w1 cs l vv kv rs' v' fv' cP FP c0 F0 c1 F1 := by
  obtain ⟨v', fv', he, hr, hb⟩ := hs
  have h1 := h.below hb
  exact ⟨v', fv', he, h1.B, h1.tab, h1.t, h1.kinds, h1.known, hr.base h.lt, h1.p, h1.s, h1.f⟩
/-- One more code point's parts. -/
theorem Run.put (h : Run Φ w0 w cs l vv kv rs v fv cP FP c0 F0 c1 F1) (hb : Below w.heap.size w w1) (hg : w1.grownBy w' (some w0.heap.size)) {cP' : Nat} {FP' : Int → Option (List Nat)} (hp : PtsAt w' w0.heap.size w0.heap.size cP' FP') : Run Φ w0 w' cs l vv kv rs v fv cP' FP' c0 F0 c1 F1 := by
  have h1 := h.below hb
  have hl := h1.lt
  have ha : ∀ k, w0.heap.size + 4 ≤ k → k < w1.heap.size → w'.heap[k]? = w1.heap[k]? := fun k hk hk2 => hg.block k hk2 (by simp; omega)
  exact ⟨h1.B.grown hg (by omega) (fun k hk => by cases hk; exact Nat.le_refl _), h1.tab.grown hg (by simp), fun x hx => (h1.t x hx).above ha, own_above h1.kinds ha, h1.known.above ha, h1.recs.above ha, hp, h1.s.other h1.p (by omega) hg, h1.f.other h1.p (by omega) hg⟩
/-- One more record of foldings. -/
theorem Run.fold (h : Run Φ w0 w cs l vv kv rs v fv cP FP c0 F0 c1 F1) (hk : Kept2 (w0.heap.size + 1) (w0.heap.size + 2) w w') {c0' c1' : Nat} {F0' F1' : Int → Option (List Nat)} (hs : PtsAt w' w0.heap.size (w0.heap.size + 1) c0' F0') (hf : PtsAt w' w0.heap.size (w0.heap.size + 2) c1' F1') : Run Φ w0 w' cs l vv kv rs v fv cP FP c0' F0' c1' F1' := by
  have hl := h.lt
  have ha : ∀ k, w0.heap.size + 4 ≤ k → k < w.heap.size → w'.heap[k]? = w.heap[k]? := fun k h1 h2 => hk.block k h2 (by omega) (by omega)
  exact ⟨h.B.trans (hk.below (by omega) (by omega) (by omega)), hk.blk h.tab (by omega) (by omega), fun x hx => (h.t x hx).above ha, own_above h.kinds ha, h.known.above ha, h.recs.above ha, h.p.keep2 h.s h.f (by omega) (by omega) hk, hs, hf⟩
theorem Run.tabs {p0 p1 p2 p3 p4 : Nat} (h : Run Φ w0 w (tabCells p0 p1 p2 p3 p4 vv kv w0.heap.size) [(p0, Φ.cat), (p1, Φ.comb), (p2, Φ.scr), (p3, Φ.clu), (p4, Φ.word)] vv kv rs v fv cP (partsOf Φ.dec) c0 (foldsOf false Φ.fol) c1 (foldsOf true Φ.fol)) (e0 : cP ≤ 1000000000000) (e1 : c0 ≤ 1000000000000) (e2 : c1 ≤ 1000000000000) : TabAt w w0.heap.size Φ :=
  ⟨⟨p0, p1, p2, p3, p4, vv, kv, h.tab, h.t (p0, Φ.cat) (by simp), h.t (p1, Φ.comb) (by simp), h.t (p2, Φ.scr) (by simp), h.t (p3, Φ.clu) (by simp), h.t (p4, Φ.word) (by simp), h.kinds, h.known⟩, ⟨cP, e0, h.p⟩, ⟨c0, e1, h.s⟩, ⟨c1, e2, h.f⟩⟩
end
end Go.Proofs.YtmdkjljcnegmeaaDoor
