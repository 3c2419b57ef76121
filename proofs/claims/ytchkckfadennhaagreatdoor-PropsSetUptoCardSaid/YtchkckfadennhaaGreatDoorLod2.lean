/- props.Load: the region that notes a code point's parts; what stands between the calls. props.Load. What holds of the files' records, by the kernel. props.Load: what it comes to at the files. -/
import Derived.Test.YtchkckfadennhaaGreatDoorLod
import Derived.Test.YtchkckfadennhaaGreatDoorLin
namespace Go.Proofs.YtchkckfadennhaaGreatDoor
open Go.RowKit
set_option linter.unusedVariables false
set_option linter.unusedSimpArgs false

theorem r_fieldTab (ρ : Operand → Value) (W : World) (o : Oper) (x : Operand) (ho : o.op = .fieldAddr 48 x 7) (p : Nat) (hx : ρ x = .pointer (some ⟨p, 0, none⟩)) : (execOp ρ o).run Tryz.prog W = .ok (.value (.pointer (some ⟨p, 7, none⟩))) W := by
  unfold execOp
  rw [ho]
  go_simp
theorem r_fieldRec (ρ : Operand → Value) (W : World) (o : Oper) (x : Operand) (ho : o.op = .fieldAddr 56 x 2) (p : Nat) (hx : ρ x = .pointer (some ⟨p, 0, none⟩)) : (execOp ρ o).run Tryz.prog W = .ok (.value (.pointer (some ⟨p, 2, none⟩))) W := by
  unfold execOp
  rw [ho]
  go_simp
theorem r_loadMap (ρ : Operand → Value) (W : World) (o : Oper) (x : Operand) (ho : o.op = .load 42 x) (ad : Addr) (hx : ρ x = .pointer (some ad)) (m : Option Nat) (hc : W.cell? ad = some (.map m)) : (execOp ρ o).run Tryz.prog W = .ok (.value (.map m)) W := by
  unfold execOp
  rw [ho]
  go_simp
theorem r_loadStrs (ρ : Operand → Value) (W : World) (o : Oper) (x : Operand) (ho : o.op = .load 25 x) (ad : Addr) (hx : ρ x = .pointer (some ad)) (A : Option Addr) (n c : Nat) (hc : W.cell? ad = some (.slice A n c)) : (execOp ρ o).run Tryz.prog W = .ok (.value (.slice A n c)) W := by
  unfold execOp
  rw [ho]
  go_simp
theorem r_loadStr (ρ : Operand → Value) (W : World) (o : Oper) (x : Operand) (ho : o.op = .load 9 x) (ad : Addr) (hx : ρ x = .pointer (some ad)) (s : ByteArray) (hc : W.cell? ad = some (.string s)) : (execOp ρ o).run Tryz.prog W = .ok (.value (.string s)) W := by
  unfold execOp
  rw [ho]
  go_simp
theorem r_index0 (ρ : Operand → Value) (W : World) (o : Oper) (x y : Operand) (ho : o.op = .indexAddr 25 x y) (g n c : Nat) (hx : ρ x = .slice (some ⟨g, 0, none⟩) n c) (hy : ρ y = .int .i64 0) (hk : 0 < n) (hn : n ≤ 9223372036854775807) : (execOp ρ o).run Tryz.prog W = .ok (.value (.pointer (some ⟨g, 0, none⟩))) W := by
  unfold execOp
  rw [ho]
  go_simp
theorem r_mapUpd (ρ : Operand → Value) (W W' : World) (o : Oper) (x y z : Operand) (ho : o.op = .mapUpdate 42 x y z) (h : (Instr.mapUpdate 42 (ρ x) (ρ y) (ρ z)).run Tryz.prog W = .ok () W') : (execOp ρ o).run Tryz.prog W = .ok .skip W' := by
  unfold execOp
  rw [ho]
  simp [h, Result.andThen, go_sem]
def needsOk2 (ops : Array Oper) (l : List (Nat × Nat)) : Bool := l.all fun p => (waits ops p.1).contains p.2
theorem needs2_get {ops : Array Oper} {l : List (Nat × Nat)} (h : needsOk2 ops l = true) (i j : Nat) (hm : (i, j) ∈ l) : j ∈ waits ops i := by
  have := List.all_eq_true.1 h _ hm
  simpa using this
abbrev dsL : List (Option Tmp) := [some 87, some 88, some 89, some 90, some 91, some 92, some 93, some 94, some 95, some 96, none]
abbrev needsL : List (Nat × Nat) := [(1, 0), (2, 1), (3, 2), (6, 5), (7, 6), (8, 7), (9, 8)]
abbrev opsL : List Op := [.move (.tmp 1), .nilCheck (.tmp 87), .fieldAddr 48 (.tmp 88) 7, .load 42 (.tmp 89), .move (.tmp 7), .fieldAddr 56 (.tmp 6) 2, .load 25 (.tmp 92), .indexAddr 25 (.tmp 93) (.const (.int .i64 0)), .load 9 (.tmp 94),
  .call { callee := .value (.func 25), args := #[.tmp 95], argTypes := #[9] }, .mapUpdate 42 (.tmp 90) (.tmp 91) (.tmp 96)]
set_option maxHeartbeats 800000 in
theorem load_region (a : Act) (ops : Array Oper) (rid : Nat) (Q : Exit → Act → World → Prop) (w : World) (T rb gf n cf m c B : Nat) (r : Int) (s : ByteArray) (l : List Nat) (F : Int → Option (List Nat))
    (hops : ops.toList.map (·.op) = opsL) (hok : dagOk ops dsL = true) (hl : lastOk ops 9 10 = true) (hnd : needsOk2 ops needsL = true) (hsz : 97 ≤ a.tmps.size)
    (h1 : a.tmps.getD 1 undef = .pointer (some ⟨T, 0, none⟩)) (h6 : a.tmps.getD 6 undef = .pointer (some ⟨rb, 0, none⟩)) (h7 : a.tmps.getD 7 undef = .int .i64 r)
    (cT : w.cell? ⟨T, 7, none⟩ = some (.map (some m))) (c2 : w.cell? ⟨rb, 2, none⟩ = some (.slice (some ⟨gf, 0, none⟩) n cf)) (cs : w.cell? ⟨gf, 0, none⟩ = some (.string s)) (hn : 0 < n) (hn2 : n ≤ 9223372036854775807)
    (hp : ∀ W, Below w.heap.size w W → Calls Tryz.prog 25 #[.string s] W (PointsSaid l W))
    (hm : PtsAt w B m c F) (hB : B ≤ w.heap.size) (hr : (Lit.int .i64 r).wf = true) (hc : c < maxLen)
    (hend : ∀ vc W1 w', PtsAt w' B m (c + 1) (setP F r l) → Below w.heap.size w W1 → W1.grownBy w' (some m) → Q .normal { a with tmps := frS (fun j => decide (j < 11)) vc 0 dsL a.tmps } w') :
    (Code.region rid ops true).wp Tryz.prog Q a w := by
  have hlen : ops.size = 11 := by have := congrArg List.length hops; simpa using this
  obtain ⟨W0, hW0⟩ : ∃ W0 : World, W0 = { w with drawn := w.drawn + 1 } := ⟨_, rfl⟩
  have hb0 : Below w.heap.size w W0 := by subst hW0; exact ⟨rfl, rfl, rfl, Nat.le_refl _, fun _ _ => rfl⟩
  have hs0 : W0.heap.size = w.heap.size := by subst hW0; rfl
  have hop : ∀ (i : Nat) (o : Oper), ops[i]? = some o → ∀ x, opsL[i]? = some x → o.op = x := by
    intro i o ho x hx
    rw [← hops, List.getElem?_map, Array.getElem?_toList, ho] at hx
    simpa using hx
  have hlt : ∀ t, t < 97 → t < a.tmps.size := fun t ht => by omega
  rw [← hlen] at hend
  refine wp_region_call (by kernel_rfl) dsL hok 9 10 hl
    (fun j => match j with | 0 => .pointer (some ⟨T, 0, none⟩) | 1 => .pointer (some ⟨T, 0, none⟩) | 2 => .pointer (some ⟨T, 7, none⟩) | 3 => .map (some m) | 4 => .int .i64 r | 5 => .pointer (some ⟨rb, 2, none⟩) | 6 => .slice (some ⟨gf, 0, none⟩) n cf | 7 => .pointer (some ⟨gf, 0, none⟩) | 8 => .string s | _ => undef) rfl
    (fun v W => W.ownsRow w.heap.size 3 1 v l.length (ints l) ∧ Below w.heap.size w W)
    (fun w' => ∃ W1, PtsAt w' B m (c + 1) (setP F r l) ∧ Below w.heap.size w W1 ∧ W1.grownBy w' (some m)) ?_ ?_ ?_ ?_
  · intro i o ho hi9 hi10 ρ hρ hold hcon _ _ W hW
    have hbW : Below w.heap.size w W := by
      rcases hW with rfl | ⟨v, _, h⟩
      · rw [← hW0]; exact hb0
      · exact h
    have kT : W.cell? ⟨T, 7, none⟩ = some (.map (some m)) := cell_later hbW cT
    have k2 : W.cell? ⟨rb, 2, none⟩ = some (.slice (some ⟨gf, 0, none⟩) n cf) := cell_later hbW c2
    have ks : W.cell? ⟨gf, 0, none⟩ = some (.string s) := cell_later hbW cs
    have hi : i < 11 := by rw [← hlen]; exact (Array.getElem?_eq_some_iff.1 ho).1
    have e1 : ρ (.tmp 1) = .pointer (some ⟨T, 0, none⟩) := (hold 1 (by decide)).trans h1
    have e6 : ρ (.tmp 6) = .pointer (some ⟨rb, 0, none⟩) := (hold 6 (by decide)).trans h6
    have e7 : ρ (.tmp 7) = .int .i64 r := (hold 7 (by decide)).trans h7
    match i, hi with
    | 0, _ => exact .inl (by rw [← e1]; exact r_move _ _ _ o _ (hop _ _ ho _ rfl))
    | 1, _ => exact .inl (r_nilCheck _ _ o _ (hop _ _ ho _ rfl) _ (hρ 0 (needs2_get hnd 1 0 (by decide)) (by decide) 87 rfl (hlt _ (by decide))))
    | 2, _ => exact .inl (r_fieldTab _ _ o _ (hop _ _ ho _ rfl) T (hρ 1 (needs2_get hnd 2 1 (by decide)) (by decide) 88 rfl (hlt _ (by decide))))
    | 3, _ => exact .inl (r_loadMap _ _ o _ (hop _ _ ho _ rfl) ⟨T, 7, none⟩ (hρ 2 (needs2_get hnd 3 2 (by decide)) (by decide) 89 rfl (hlt _ (by decide))) _ kT)
    | 4, _ => exact .inl (by have := r_move Tryz.prog ρ W o _ (hop _ _ ho _ rfl); rw [e7] at this; exact this)
    | 5, _ => exact .inl (r_fieldRec _ _ o _ (hop _ _ ho _ rfl) rb e6)
    | 6, _ => exact .inl (r_loadStrs _ _ o _ (hop _ _ ho _ rfl) ⟨rb, 2, none⟩ (hρ 5 (needs2_get hnd 6 5 (by decide)) (by decide) 92 rfl (hlt _ (by decide))) _ _ _ k2)
    | 7, _ => exact .inl (r_index0 _ _ o _ _ (hop _ _ ho _ rfl) gf n cf (hρ 6 (needs2_get hnd 7 6 (by decide)) (by decide) 93 rfl (hlt _ (by decide))) (hcon _) hn hn2)
    | 8, _ => exact .inl (r_loadStr _ _ o _ (hop _ _ ho _ rfl) ⟨gf, 0, none⟩ (hρ 7 (needs2_get hnd 8 7 (by decide)) (by decide) 94 rfl (hlt _ (by decide))) _ ks)
    | 9, _ => exact absurd rfl hi9
    | 10, _ => exact absurd rfl hi10
  · intro o ho ρ hρ _ _ hfun _
    refine ⟨25, #[.string s], ?_, ?_⟩
    · have e := hρ 8 (needs2_get hnd 9 8 (by decide)) 95 rfl (hlt _ (by decide))
      unfold execOp
      rw [hop _ _ ho _ rfl]
      simp [go_sem, hfun, e, resolve, Act.eval]
    · rw [← hW0]
      refine (hp W0 hb0).mono ?_
      rintro e W ⟨v, rfl, ho, hb⟩
      rw [hs0] at ho hb
      exact ⟨v, rfl, ho, hb0.trans hb⟩
  · intro o ho ρ vc W hρ hvc hold hcon ⟨hv, hbW⟩
    have e3 := hρ 3 (by decide) (by decide) 90 rfl (hlt _ (by decide))
    have e4 := hρ 4 (by decide) (by decide) 91 rfl (hlt _ (by decide))
    have e9 := hvc 96 rfl (hlt _ (by decide))
    obtain ⟨w', hrun, hq, hg⟩ := (hm.below hbW).put (own_base hv hB) r hr hc
    refine ⟨w', ⟨W, hq, hbW, hg⟩, .inr ⟨r_mapUpd _ _ _ o _ _ _ (hop _ _ ho _ rfl) ?_, rfl⟩⟩
    rw [e3, e4, e9]
    exact hrun
  · rintro vc w' ⟨W1, hq, hb1, hg⟩
    exact hend _ W1 w' hq hb1 hg

/-- What stands between the calls of Load: w0 the world at the call. -/
structure Stg (w0 w : World) (cs : Array Value) : Prop where
  B : Below w0.heap.size w0 w
  tab : Blk w (w0.heap.size + 3) 48 cs
  m0 : MapF w (kInt : KK Tryz.prog 3 Int) w0.heap.size 0 (fun _ => none)
  m1 : MapF w (kInt : KK Tryz.prog 3 Int) (w0.heap.size + 1) 0 (fun _ => none)
  m2 : MapF w (kInt : KK Tryz.prog 3 Int) (w0.heap.size + 2) 0 (fun _ => none)
section
variable {w0 w w' : World} {cs : Array Value}
theorem Stg.lt (h : Stg w0 w cs) : w0.heap.size + 4 ≤ w.heap.size := heap_lt h.tab
theorem Stg.below (h : Stg w0 w cs) (hb : Below w.heap.size w w') : Stg w0 w' cs :=
  ⟨h.B.trans (hb.mono h.B.size), h.tab.below hb, h.m0.below hb h.m0.lt, h.m1.below hb h.m1.lt, h.m2.below hb h.m2.lt⟩
theorem Stg.set (h : Stg w0 w cs) (j : Nat) (u : Value) : Stg w0 (w.setCell ⟨w0.heap.size + 3, j, none⟩ u) (cs.setIfInBounds j u) := by
  have e : ∀ k, k ≠ w0.heap.size + 3 → (w.setCell ⟨w0.heap.size + 3, j, none⟩ u).heap[k]? = w.heap[k]? := fun k hk => Below.heap_setCell w ⟨w0.heap.size + 3, j, none⟩ u k hk
  exact ⟨h.B.setCell (p := ⟨_, _, _⟩) (by show w0.heap.size ≤ w0.heap.size + 3; omega) _, h.tab.set j u, h.m0.block (e _ (by omega)), h.m1.block (e _ (by omega)), h.m2.block (e _ (by omega))⟩
theorem stg_start (w : World) (cs : Array Value) : Stg w ((((w.alloc (.map #[] 0)).alloc (.map #[] 0)).alloc (.map #[] 0)).alloc (.cells cs 48)) cs := by
  have s1 := size_new w (.map #[] 0)
  have s2 := size_new (w.alloc (.map #[] 0)) (.map #[] 0)
  have s3 := size_new ((w.alloc (.map #[] 0)).alloc (.map #[] 0)) (.map #[] 0)
  have b1 := alloc_below w (.map #[] 0)
  have b2 := alloc_below (w.alloc (.map #[] 0)) (.map #[] 0)
  have b3 := alloc_below ((w.alloc (.map #[] 0)).alloc (.map #[] 0)) (.map #[] 0)
  have b4 := alloc_below (((w.alloc (.map #[] 0)).alloc (.map #[] 0)).alloc (.map #[] 0)) (.cells cs 48)
  have m0 := MapF.made w (kInt : KK Tryz.prog 3 Int)
  have m1 := MapF.made (w.alloc (.map #[] 0)) (kInt : KK Tryz.prog 3 Int)
  have m2 := MapF.made ((w.alloc (.map #[] 0)).alloc (.map #[] 0)) (kInt : KK Tryz.prog 3 Int)
  have hn := row_new (((w.alloc (.map #[] 0)).alloc (.map #[] 0)).alloc (.map #[] 0)) (.cells cs 48)
  rw [s3, s2, s1] at hn
  rw [s1] at m1
  rw [s2, s1] at m2
  refine ⟨?_, hn, ?_, ?_, ?_⟩
  · exact ((b1.trans (b2.mono (by omega))).trans (b3.mono (by omega))).trans (b4.mono (by omega))
  · exact ((m0.below b2 m0.lt).below b3 (by omega)).below b4 (by omega)
  · exact (m1.below b3 (by omega)).below b4 (by omega)
  · exact m2.below b4 (by omega)
theorem load_text {f : FuncId} {rs : List Rec} (hT : TextIs f rs) (hL : ListOk rs) : ∃ t, (∀ w, Calls Tryz.prog f #[] w fun e w' => e = .returned (.string t) ∧ w = w') ∧ ∀ w, Env w → Calls Tryz.prog 17 #[.string t] w (LoadSaid rs w) := by
  obtain ⟨t, h1, h2⟩ := hT
  exact ⟨t, h1, fun w hE => load_walk t rs w hE h2 hL.ok hL.pos (Nat.le_trans hL.le (by decide))⟩
/-- The records' rows stand when what lies below them turns. -/
theorem RecsAt.above {base : Nat} {v : Value} {rs : List Rec} {fv : List Value} (h : RecsAt w base v rs fv) (ha : ∀ k, base ≤ k → k < w.heap.size → w'.heap[k]? = w.heap[k]?) : RecsAt w' base v rs fv :=
  ⟨h.len, own_above h.row ha, fun i r u h1 h2 => own_above (h.fld i r u h1 h2) ha⟩
end

theorem own_at {w w' : World} {base n : Nat} {e : TypeId} {size : Nat} {v : Value} {xs : List Value} (h : w.ownsRow base e size v n xs) (ha : ∀ g, v.ownBlock = some g → w'.heap[g]? = w.heap[g]?) : w'.ownsRow base e size v n xs := by
  refine ⟨h.1, ?_⟩
  rcases h.2 with h1 | ⟨g, cap, cur, rfl, hb, hg, h2⟩
  · exact .inl h1
  · exact .inr ⟨g, cap, cur, rfl, hb, (ha g rfl).trans hg, h2⟩
theorem PtsAt.keep2 {w w' : World} {B m m0 m1 c c0 c1 : Nat} {F F0 F1 : Int → Option (List Nat)} (h : PtsAt w B m c F) (h0 : PtsAt w B m0 c0 F0) (h1 : PtsAt w B m1 c1 F1) (e0 : m ≠ m0) (e1 : m ≠ m1) (hk : Kept2 m0 m1 w w') : PtsAt w' B m c F := by
  obtain ⟨f0, g0, _⟩ := h0
  obtain ⟨f1, g1, _⟩ := h1
  obtain ⟨f, q1, q2, q3⟩ := h
  refine ⟨f, q1.block (hk.block m q1.lt e0 e1), q2, fun r => ?_⟩
  have := q3 r
  cases hF : F r with
  | none => rw [hF] at this; exact this
  | some l =>
    rw [hF] at this
    obtain ⟨v, e, ho⟩ := this
    refine ⟨v, e, own_at ho fun g hg => hk.block g (own_lt ho g hg).2 ?_ ?_⟩
    · rintro rfl
      rcases own_map_ne ho g0 with h | h
      · rw [hg] at h; cases h
      · exact h hg
    · rintro rfl
      rcases own_map_ne ho g1 with h | h
      · rw [hg] at h; cases h
      · exact h hg
/-- The tries that are made so far, the categories and what is known. -/
structure Mid (Φ : Files) (w0 w : World) (cs : Array Value) (l : List (Nat × List Rec)) (vv kv : Value) : Prop where
  s : Stg w0 w cs
  t : ∀ x ∈ l, TxAt w (w0.heap.size + 4) x.1 x.2
  kinds : w.ownsRow (w0.heap.size + 4) 9 1 vv (valsOf Φ.cat).length (strVs (valsOf Φ.cat))
  known : KnownAt w (w0.heap.size + 4) kv Φ.cat
section
variable {Φ : Files} {w0 w w' w1 : World} {cs : Array Value} {l : List (Nat × List Rec)} {vv kv : Value}
theorem Mid.below (h : Mid Φ w0 w cs l vv kv) (hb : Below w.heap.size w w') : Mid Φ w0 w' cs l vv kv :=
  ⟨h.s.below hb, fun x hx => (h.t x hx).above fun k _ hk => hb.block k hk, own_below h.kinds hb, h.known.above fun k _ hk => hb.block k hk⟩
theorem Mid.set (h : Mid Φ w0 w cs l vv kv) (j : Nat) (u : Value) : Mid Φ w0 (w.setCell ⟨w0.heap.size + 3, j, none⟩ u) (cs.setIfInBounds j u) l vv kv := by
  have ha := set_above w (w0.heap.size + 3) j u (base := w0.heap.size + 4) (by omega)
  exact ⟨h.s.set j u, fun x hx => (h.t x hx).above ha, own_above h.kinds ha, h.known.above ha⟩
theorem Mid.add (h : Mid Φ w0 w cs l vv kv) {p : Nat} {rs : List Rec} (ht : TxAt w (w0.heap.size + 4) p rs) : Mid Φ w0 w cs (l ++ [(p, rs)]) vv kv :=
  ⟨h.s, fun x hx => by
    rcases List.mem_append.1 hx with hx | hx
    · exact h.t x hx
    · obtain rfl : x = (p, rs) := by simpa using hx
      exact ht, h.kinds, h.known⟩
/-- The first file: categories. -/
theorem Stg.first (h : Stg w0 w cs) {e : Ending} (hs : LoadSaid Φ.cat w e w1) : ∃ p A5 n5 c5 A6 n6 c6, e = .returned (.tuple #[.agg #[.pointer (some ⟨p, 0, none⟩)], .slice A5 n5 c5, .slice A6 n6 c6]) ∧ Stg w0 w1 cs ∧
    Mid Φ w0 w1 cs [(p, Φ.cat)] (.slice A5 n5 c5) (.slice A6 n6 c6) := by
  obtain ⟨p, vv, kv, he, ht, hv, hk, hb⟩ := hs.tx (B := w0.heap.size + 4) h.lt
  obtain ⟨A5, c5, rfl⟩ := own_slice hv
  obtain ⟨A6, n6, c6, rfl⟩ : ∃ A n c, kv = .slice A n c := by
    obtain ⟨s, _, _, h3⟩ := hk
    obtain ⟨A, c, rfl⟩ := own_slice h3
    exact ⟨_, _, _, rfl⟩
  refine ⟨p, A5, _, c5, A6, n6, c6, he, h.below hb, h.below hb, fun x hx => ?_, hv, hk⟩
  obtain rfl : x = (p, Φ.cat) := by simpa using hx
  exact ht
/-- One more file. -/
theorem Mid.step (h : Mid Φ w0 w cs l vv kv) {rs : List Rec} {e : Ending} (hs : LoadSaid rs w e w1) : ∃ p vv' kv', e = .returned (.tuple #[.agg #[.pointer (some ⟨p, 0, none⟩)], vv', kv']) ∧ Mid Φ w0 w1 cs (l ++ [(p, rs)]) vv kv := by
  obtain ⟨p, vv', kv', he, ht, _, _, hb⟩ := hs.tx (B := w0.heap.size + 4) h.s.lt
  exact ⟨p, vv', kv', he, (h.below hb).add ht⟩
end
/-- The tables while the maps are filled; the records of the file that is read. -/
structure Run (Φ : Files) (w0 w : World) (cs : Array Value) (l : List (Nat × List Rec)) (vv kv : Value) (rs : List Rec) (v : Value) (fv : List Value) (cP : Nat) (FP : Int → Option (List Nat)) (c0 : Nat) (F0 : Int → Option (List Nat)) (c1 : Nat) (F1 : Int → Option (List Nat)) : Prop where
  B : Below w0.heap.size w0 w
  tab : Blk w (w0.heap.size + 3) 48 cs
  t : ∀ x ∈ l, TxAt w (w0.heap.size + 4) x.1 x.2
  kinds : w.ownsRow (w0.heap.size + 4) 9 1 vv (valsOf Φ.cat).length (strVs (valsOf Φ.cat))
  known : KnownAt w (w0.heap.size + 4) kv Φ.cat
  recs : RecsAt w (w0.heap.size + 4) v rs fv
  p : PtsAt w w0.heap.size w0.heap.size cP FP
  s : PtsAt w w0.heap.size (w0.heap.size + 1) c0 F0
  f : PtsAt w w0.heap.size (w0.heap.size + 2) c1 F1
section
variable {Φ : Files} {w0 w w' w1 : World} {cs : Array Value} {l : List (Nat × List Rec)} {vv kv v : Value} {rs : List Rec} {fv : List Value} {cP c0 c1 : Nat} {FP F0 F1 : Int → Option (List Nat)}
theorem RecsAt.base {b b' : Nat} (h : RecsAt w b v rs fv) (hb : b' ≤ b) : RecsAt w b' v rs fv := ⟨h.len, own_base h.row hb, fun i r u h1 h2 => own_base (h.fld i r u h1 h2) hb⟩
theorem Mid.run (h : Mid Φ w0 w cs l vv kv) {e : Ending} (hs : ParseSaid rs w e w1) : ∃ v fv, e = .returned (.tuple #[v, .int .i64 0, .int .i64 0]) ∧ Run Φ w0 w1 cs l vv kv rs v fv 0 (fun _ => none) 0 (fun _ => none) 0 (fun _ => none) := by
  obtain ⟨v, fv, he, hr, hb⟩ := hs
  have h1 := h.below hb
  exact ⟨v, fv, he, h1.s.B, h1.s.tab, h1.t, h1.kinds, h1.known, hr.base h.s.lt, ⟨_, h1.s.m0, Nat.le_refl _, fun _ => rfl⟩, ⟨_, h1.s.m1, by omega, fun _ => rfl⟩, ⟨_, h1.s.m2, by omega, fun _ => rfl⟩⟩
theorem Run.lt (h : Run Φ w0 w cs l vv kv rs v fv cP FP c0 F0 c1 F1) : w0.heap.size + 4 ≤ w.heap.size := heap_lt h.tab
theorem Run.below (h : Run Φ w0 w cs l vv kv rs v fv cP FP c0 F0 c1 F1) (hb : Below w.heap.size w w') : Run Φ w0 w' cs l vv kv rs v fv cP FP c0 F0 c1 F1 :=
  ⟨h.B.trans (hb.mono h.B.size), h.tab.below hb, fun x hx => (h.t x hx).above fun k _ hk => hb.block k hk, own_below h.kinds hb, h.known.above fun k _ hk => hb.block k hk, h.recs.below hb, h.p.below hb, h.s.below hb, h.f.below hb⟩
theorem Run.again (h : Run Φ w0 w cs l vv kv rs v fv cP FP c0 F0 c1 F1) {rs' : List Rec} {e : Ending} (hs : ParseSaid rs' w e w1) : ∃ v' fv', e = .returned (.tuple #[v', .int .i64 0, .int .i64 0]) ∧ Run Φ w0 w1 cs l vv kv rs' v' fv' cP FP c0 F0 c1 F1 := by
  obtain ⟨v', fv', he, hr, hb⟩ := hs
  have h1 := h.below hb
  exact ⟨v', fv', he, h1.B, h1.tab, h1.t, h1.kinds, h1.known, hr.base h.lt, h1.p, h1.s, h1.f⟩
/-- One more code point's parts. -/
theorem Run.put (h : Run Φ w0 w cs l vv kv rs v fv cP FP c0 F0 c1 F1) (hb : Below w.heap.size w w1) (hg : w1.grownBy w' (some w0.heap.size)) {cP' : Nat} {FP' : Int → Option (List Nat)} (hp : PtsAt w' w0.heap.size w0.heap.size cP' FP') : Run Φ w0 w' cs l vv kv rs v fv cP' FP' c0 F0 c1 F1 := by
  have h1 := h.below hb
  have hl := h1.lt
  have ha : ∀ k, w0.heap.size + 4 ≤ k → k < w1.heap.size → w'.heap[k]? = w1.heap[k]? := fun k hk hk2 => hg.block k hk2 (by simp; omega)
  exact ⟨h1.B.grown hg (by omega) (fun k hk => by cases hk; exact Nat.le_refl _), h1.tab.grown hg (by simp), fun x hx => (h1.t x hx).above ha, own_above h1.kinds ha, h1.known.above ha, h1.recs.above ha, hp, h1.s.other h1.p (by omega) hg, h1.f.other h1.p (by omega) hg⟩
/-- One more record of foldings. -/
theorem Run.fold (h : Run Φ w0 w cs l vv kv rs v fv cP FP c0 F0 c1 F1) (hk : Kept2 (w0.heap.size + 1) (w0.heap.size + 2) w w') {c0' c1' : Nat} {F0' F1' : Int → Option (List Nat)} (hs : PtsAt w' w0.heap.size (w0.heap.size + 1) c0' F0') (hf : PtsAt w' w0.heap.size (w0.heap.size + 2) c1' F1') : Run Φ w0 w' cs l vv kv rs v fv cP FP c0' F0' c1' F1' := by
  have hl := h.lt
  have ha : ∀ k, w0.heap.size + 4 ≤ k → k < w.heap.size → w'.heap[k]? = w.heap[k]? := fun k h1 h2 => hk.block k h2 (by omega) (by omega)
  exact ⟨h.B.trans (hk.below (by omega) (by omega) (by omega)), hk.blk h.tab (by omega) (by omega), fun x hx => (h.t x hx).above ha, own_above h.kinds ha, h.known.above ha, h.recs.above ha, h.p.keep2 h.s h.f (by omega) (by omega) hk, hs, hf⟩
theorem Run.tabs {p0 p1 p2 p3 p4 : Nat} (h : Run Φ w0 w (tabCells p0 p1 p2 p3 p4 vv kv w0.heap.size) [(p0, Φ.cat), (p1, Φ.comb), (p2, Φ.scr), (p3, Φ.clu), (p4, Φ.word)] vv kv rs v fv cP (partsOf Φ.dec) c0 (foldsOf false Φ.fol) c1 (foldsOf true Φ.fol)) (e0 : cP ≤ 1000000000000) (e1 : c0 ≤ 1000000000000) (e2 : c1 ≤ 1000000000000) : TabAt w w0.heap.size Φ :=
  ⟨⟨p0, p1, p2, p3, p4, vv, kv, h.tab, h.t (p0, Φ.cat) (by simp), h.t (p1, Φ.comb) (by simp), h.t (p2, Φ.scr) (by simp), h.t (p3, Φ.clu) (by simp), h.t (p4, Φ.word) (by simp), h.kinds, h.known⟩, ⟨cP, e0, h.p⟩, ⟨c0, e1, h.s⟩, ⟨c1, e2, h.f⟩⟩
end
end Go.Proofs.YtchkckfadennhaaGreatDoor
namespace Go.Proofs.YtchkckfadennhaaGreatDoor
open Go.RowKit
set_option linter.unusedVariables false
set_option linter.unusedSimpArgs false

def LoadedSaid (Φ : Files) (w : World) (e : Ending) (w' : World) : Prop := e = .returned (.pointer (some ⟨w.heap.size + 3, 0, none⟩)) ∧ TabAt w' w.heap.size Φ ∧ Below w.heap.size w w'
set_option maxRecDepth 100000 in
set_option maxHeartbeats 3200000 in
theorem loaded_walk (Φ : Files) (hok : FilesOk Φ) (htx : TextsOk Φ) (w : World) (hE : Env w) (hT : EnvT w) (hgl : 0 < w.heap.size) :
    Calls Tryz.prog 7 #[] w (LoadedSaid Φ w) := by
  obtain ⟨x0, hx0, hl0⟩ := load_text htx.cat hok.cat
  obtain ⟨x1, hx1, hl1⟩ := load_text htx.comb hok.comb
  obtain ⟨x2, hx2, hl2⟩ := load_text htx.scr hok.scr
  obtain ⟨x3, hx3, hl3⟩ := load_text htx.clu hok.clu
  obtain ⟨x4, hx4, hl4⟩ := load_text htx.word hok.word
  obtain ⟨x5, hx5, hl5⟩ := htx.dec
  obtain ⟨x6, hx6, hl6⟩ := htx.fol
  have X0 := Lib.hid hx0
  have X1 := Lib.hid hx1
  have X2 := Lib.hid hx2
  have X3 := Lib.hid hx3
  have X4 := Lib.hid hx4
  have X5 := Lib.hid hx5
  have X6 := Lib.hid hx6
  have L0 := Lib.hid hl0
  have L1 := Lib.hid hl1
  have L2 := Lib.hid hl2
  have L3 := Lib.hid hl3
  have L4 := Lib.hid hl4
  have L5 := Lib.hid hl5
  have L6 := Lib.hid hl6
  have HE := Lib.hid hE
  have HT := Lib.hid hT
  have Hok := Lib.hid hok
  clear hx0 hx1 hx2 hx3 hx4 hx5 hx6 hl0 hl1 hl2 hl3 hl4 hl5 hl6 hE hT hok htx
  have hmm := @run_makeMap Tryz.prog
  go_enter Tryz.func7, Tryz.ntmps7
  go_wp2_with fail
  have e3 : w.heap.size + 1 + 1 + 1 = w.heap.size + 3 := rfl
  have e2 : w.heap.size + 1 + 1 = w.heap.size + 2 := rfl
  rw [e3, e2]
  have hS := stg_start w #[Value.pointer none, Value.pointer none, Value.pointer none, Value.pointer none, Value.pointer none, Value.slice none 0 0, Value.slice none 0 0, Value.map (some w.heap.size), Value.map (some (w.heap.size + 1)), Value.map (some (w.heap.size + 2))]
  generalize (((w.alloc (Obj.map #[] 0)).alloc (Obj.map #[] 0)).alloc (Obj.map #[] 0)).alloc (Obj.cells #[Value.pointer none, Value.pointer none, Value.pointer none, Value.pointer none, Value.pointer none, Value.slice none 0 0, Value.slice none 0 0, Value.map (some w.heap.size), Value.map (some (w.heap.size + 1)), Value.map (some (w.heap.size + 2))] 48) = W0 at hS ⊢
  have HS := Lib.hid hS
  clear hS hmm e3 e2
  refine (X0.out _).mono ?_
  rintro e w' ⟨rfl, rfl⟩
  go_wp2_with fail
  refine (L0.out _ (HE.out.below HS.out.B)).mono ?_
  intro e w1 hs
  obtain ⟨p0, A5, n5, c5, A6, n6, c6, rfl, hS1, hM1⟩ := HS.out.first hs
  have hM2 := hM1.set 0 (Value.pointer (some ⟨p0, 0, none⟩))
  have hM3 := hM2.set 5 (Value.slice A5 n5 c5)
  have hM4 := hM3.set 6 (Value.slice A6 n6 c6)
  have s0 : w1.cell? ⟨w.heap.size + 3, 0, none⟩ = some (.pointer none) := hM1.s.tab.cell 0
  have t0 := hM1.s.tab.free 0
  have s5 := hM2.s.tab.cell 5
  have t5 := hM2.s.tab.free 5
  have s6 := hM3.s.tab.cell 6
  have t6 := hM3.s.tab.free 6
  have HM := Lib.hid (show Mid Φ w _ #[Value.pointer (some ⟨p0, 0, none⟩), Value.pointer none, Value.pointer none, Value.pointer none, Value.pointer none, Value.slice A5 n5 c5, Value.slice A6 n6 c6, Value.map (some w.heap.size), Value.map (some (w.heap.size + 1)), Value.map (some (w.heap.size + 2))] [(p0, Φ.cat)] (Value.slice A5 n5 c5) (Value.slice A6 n6 c6) from hM4)
  clear hM1 hM2 hM3 hM4 hS1 HS hs
  go_wp2_with fail
  clear s0 t0 s5 t5 s6 t6
  generalize ((w1.setCell ⟨w.heap.size + 3, 0, none⟩ (Value.pointer (some ⟨p0, 0, none⟩))).setCell ⟨w.heap.size + 3, 5, none⟩ (Value.slice A5 n5 c5)).setCell ⟨w.heap.size + 3, 6, none⟩ (Value.slice A6 n6 c6) = V1 at *
  refine (X1.out _).mono ?_
  rintro e w' ⟨rfl, rfl⟩
  go_wp2_with fail
  refine (L1.out _ (HE.out.below HM.out.s.B)).mono ?_
  intro e w2 hs
  obtain ⟨p1, vv1, kv1, rfl, hM1⟩ := HM.out.step hs
  have hM2 := hM1.set 1 (Value.pointer (some ⟨p1, 0, none⟩))
  have s0 := hM1.s.tab.cell 1
  have t0 := hM1.s.tab.free 1
  replace HM := Lib.hid (show Mid Φ w _ #[Value.pointer (some ⟨p0, 0, none⟩), Value.pointer (some ⟨p1, 0, none⟩), Value.pointer none, Value.pointer none, Value.pointer none, Value.slice A5 n5 c5, Value.slice A6 n6 c6, Value.map (some w.heap.size), Value.map (some (w.heap.size + 1)), Value.map (some (w.heap.size + 2))] [(p0, Φ.cat), (p1, Φ.comb)] (Value.slice A5 n5 c5) (Value.slice A6 n6 c6) from hM2)
  clear hM1 hM2 hs
  go_wp2_with fail
  clear s0 t0
  generalize w2.setCell ⟨w.heap.size + 3, 1, none⟩ (Value.pointer (some ⟨p1, 0, none⟩)) = V2 at *
  refine (X2.out _).mono ?_
  rintro e w' ⟨rfl, rfl⟩
  go_wp2_with fail
  refine (L2.out _ (HE.out.below HM.out.s.B)).mono ?_
  intro e w3 hs
  obtain ⟨p2, vv2, kv2, rfl, hM1⟩ := HM.out.step hs
  have hM2 := hM1.set 2 (Value.pointer (some ⟨p2, 0, none⟩))
  have s0 := hM1.s.tab.cell 2
  have t0 := hM1.s.tab.free 2
  replace HM := Lib.hid (show Mid Φ w _ #[Value.pointer (some ⟨p0, 0, none⟩), Value.pointer (some ⟨p1, 0, none⟩), Value.pointer (some ⟨p2, 0, none⟩), Value.pointer none, Value.pointer none, Value.slice A5 n5 c5, Value.slice A6 n6 c6, Value.map (some w.heap.size), Value.map (some (w.heap.size + 1)), Value.map (some (w.heap.size + 2))] [(p0, Φ.cat), (p1, Φ.comb), (p2, Φ.scr)] (Value.slice A5 n5 c5) (Value.slice A6 n6 c6) from hM2)
  clear hM1 hM2 hs
  go_wp2_with fail
  clear s0 t0
  generalize w3.setCell ⟨w.heap.size + 3, 2, none⟩ (Value.pointer (some ⟨p2, 0, none⟩)) = V3 at *
  refine (X3.out _).mono ?_
  rintro e w' ⟨rfl, rfl⟩
  go_wp2_with fail
  refine (L3.out _ (HE.out.below HM.out.s.B)).mono ?_
  intro e w4 hs
  obtain ⟨p3, vv3, kv3, rfl, hM1⟩ := HM.out.step hs
  have hM2 := hM1.set 3 (Value.pointer (some ⟨p3, 0, none⟩))
  have s0 := hM1.s.tab.cell 3
  have t0 := hM1.s.tab.free 3
  replace HM := Lib.hid (show Mid Φ w _ #[Value.pointer (some ⟨p0, 0, none⟩), Value.pointer (some ⟨p1, 0, none⟩), Value.pointer (some ⟨p2, 0, none⟩), Value.pointer (some ⟨p3, 0, none⟩), Value.pointer none, Value.slice A5 n5 c5, Value.slice A6 n6 c6, Value.map (some w.heap.size), Value.map (some (w.heap.size + 1)), Value.map (some (w.heap.size + 2))] [(p0, Φ.cat), (p1, Φ.comb), (p2, Φ.scr), (p3, Φ.clu)] (Value.slice A5 n5 c5) (Value.slice A6 n6 c6) from hM2)
  clear hM1 hM2 hs
  go_wp2_with fail
  clear s0 t0
  generalize w4.setCell ⟨w.heap.size + 3, 3, none⟩ (Value.pointer (some ⟨p3, 0, none⟩)) = V4 at *
  refine (X4.out _).mono ?_
  rintro e w' ⟨rfl, rfl⟩
  go_wp2_with fail
  refine (L4.out _ (HE.out.below HM.out.s.B)).mono ?_
  intro e w5 hs
  obtain ⟨p4, vv4, kv4, rfl, hM1⟩ := HM.out.step hs
  have hM2 := hM1.set 4 (Value.pointer (some ⟨p4, 0, none⟩))
  have s0 := hM1.s.tab.cell 4
  have t0 := hM1.s.tab.free 4
  replace HM := Lib.hid (show Mid Φ w _ #[Value.pointer (some ⟨p0, 0, none⟩), Value.pointer (some ⟨p1, 0, none⟩), Value.pointer (some ⟨p2, 0, none⟩), Value.pointer (some ⟨p3, 0, none⟩), Value.pointer (some ⟨p4, 0, none⟩), Value.slice A5 n5 c5, Value.slice A6 n6 c6, Value.map (some w.heap.size), Value.map (some (w.heap.size + 1)), Value.map (some (w.heap.size + 2))] [(p0, Φ.cat), (p1, Φ.comb), (p2, Φ.scr), (p3, Φ.clu), (p4, Φ.word)] (Value.slice A5 n5 c5) (Value.slice A6 n6 c6) from hM2)
  clear hM1 hM2 hs
  go_wp2_with fail
  clear s0 t0
  generalize w5.setCell ⟨w.heap.size + 3, 4, none⟩ (Value.pointer (some ⟨p4, 0, none⟩)) = V5 at *
  clear X0 X1 X2 X3 X4 L0 L1 L2 L3 L4
  refine (X5.out _).mono ?_
  rintro e w' ⟨rfl, rfl⟩
  go_wp2_with fail
  refine (L5.out _ (HE.out.below HM.out.s.B)).mono ?_
  intro e w6 hs
  obtain ⟨vD, fvD, rfl, hR⟩ := HM.out.run hs
  obtain ⟨gd, cd, rfl, hgd1, hgd2, hgd3, hgd4⟩ := own_form hR.recs.row Hok.out.decl.pos
  obtain ⟨CS, hCS⟩ : ∃ CS, CS = #[Value.pointer (some ⟨p0, 0, none⟩), Value.pointer (some ⟨p1, 0, none⟩), Value.pointer (some ⟨p2, 0, none⟩), Value.pointer (some ⟨p3, 0, none⟩), Value.pointer (some ⟨p4, 0, none⟩), Value.slice A5 n5 c5, Value.slice A6 n6 c6, Value.map (some w.heap.size), Value.map (some (w.heap.size + 1)), Value.map (some (w.heap.size + 2))] := ⟨_, rfl⟩
  obtain ⟨LS, hLS⟩ : ∃ LS, LS = [(p0, Φ.cat), (p1, Φ.comb), (p2, Φ.scr), (p3, Φ.clu), (p4, Φ.word)] := ⟨_, rfl⟩
  rw [← hCS, ← hLS] at hR
  have hlen := hR.recs.len
  have cT7 : CS[7]? = some (Value.map (some w.heap.size)) := by rw [hCS]; rfl
  have HR := Lib.hid hR
  have HCS := Lib.hid hCS
  have HLS := Lib.hid hLS
  have HcT := Lib.hid cT7
  have hdl := Hok.out.decl.le
  clear hR hs X5 L5 HM hCS hLS cT7
  go_wp2_with fail
  go_loopw [75] (fun i wr => ∃ k : Nat, k ≤ Φ.dec.length ∧ i = .int .i64 k ∧ Hid (∃ c, c ≤ k * 1114112 ∧ Run Φ w wr CS LS (Value.slice A5 n5 c5) (Value.slice A6 n6 c6) Φ.dec (.slice (some ⟨gd, 0, none⟩) Φ.dec.length cd) fvD c (partsOf (Φ.dec.take k)) 0 (fun _ => none) 0 (fun _ => none))) (fun i _ => Φ.dec.length - (intOf i).toNat)
  case atStart => exact ⟨0, by omega, rfl, ⟨0, by omega, by show Run _ _ _ _ _ _ _ _ _ _ _ (partsOf (Φ.dec.take 0)) _ _ _ _; rw [List.take_zero]; exact HR.out⟩⟩
  case round =>
    obtain ⟨k, hk, rfl, HRk⟩ := hrel
    clear HR
    by_cases hlt : k < Φ.dec.length
    · obtain ⟨c, hc, hRr⟩ := HRk.out
      obtain ⟨u, hu⟩ : ∃ u, u = fvD[k]'(by rw [← hlen]; exact hlt) := ⟨_, rfl⟩
      obtain ⟨r, hr⟩ : ∃ r, r = Φ.dec[k] := ⟨_, rfl⟩
      obtain ⟨g0, g1, g2⟩ := recCells_get Φ.dec fvD k hlen hlt
      rw [← hr] at g0 g1
      rw [← hu] at g2
      have c0 := own_cell hRr.recs.row _ _ g0
      have c1 := own_cell hRr.recs.row _ _ g1
      have c2 := own_cell hRr.recs.row _ _ g2
      have hfld := hRr.recs.fld k r u (by rw [hr]; exact List.getElem?_eq_getElem hlt) (by rw [hu]; exact List.getElem?_eq_getElem _)
      have hdok : DecOk r := by rw [hr]; exact Hok.out.dec _ (List.getElem_mem _)
      obtain ⟨f0, fs, hfs⟩ : ∃ f0 fs, r.fields = f0 :: fs := by
        obtain ⟨_, _, h3⟩ := hdok.ok
        cases hf : r.fields with
        | nil => exact absurd hf h3
        | cons a b => exact ⟨a, b, rfl⟩
      have hf0 : fld0 r = f0 := by unfold fld0; rw [hfs]; rfl
      rw [hfs] at hfld
      obtain ⟨gf, cf, rfl, hgf1, hgf2, hgf3, hgf4⟩ := own_form hfld (by simp)
      have cf0 : wr.cell? ⟨gf, 0, none⟩ = some (.string (toB f0)) := own_cell hfld 0 _ rfl
      have htk : partsOf (Φ.dec.take (k + 1)) = partsRec r (partsOf (Φ.dec.take k)) := by rw [List.take_succ_eq_append_getElem hlt, ← hr, partsOf_snoc]
      have Htk := Lib.hid htk
      have hlo := hdok.ok.1
      have hhi := hdok.ok.2.1
      have hasc := hdok.ascii
      have hln := hdok.len
      rw [hf0] at hasc hln
      have hpw := fun W (hE : EnvT W) => points_walk (toB f0) W (by show f0.toArray.size < _; simp; omega) (by intro b hb; exact hasc b (by simpa [toB] using hb)) hE
      rw [show (toB f0).data.toList = f0 from rfl] at hpw
      have HPW := Lib.hid hpw
      have HRr := Lib.hid hRr
      have Hf0 := Lib.hid hf0
      generalize partsOf (Φ.dec.take k) = FP at *
      obtain ⟨nf, hnf⟩ : ∃ nf, nf = (f0 :: fs).length := ⟨_, rfl⟩
      rw [← hnf] at c2 hgf3
      have hnf0 : 0 < nf := by rw [hnf]; simp
      unfold maxLen at hgf4
      clear HRk hRr htk hpw hasc hln hfld hdok hfs hf0 g0 g1 g2 hu hr hnf
      go_wp2_with fail
      obtain ⟨W2, hW2⟩ : ∃ W2, W2 = wr.alloc (Obj.cells #[Value.int IntKind.i64 r.lo, Value.int IntKind.i64 r.hi, Value.slice (some ⟨gf, 0, none⟩) nf cf] 56) := ⟨_, rfl⟩
      have hbw := alloc_below wr (Obj.cells #[Value.int IntKind.i64 r.lo, Value.int IntKind.i64 r.hi, Value.slice (some ⟨gf, 0, none⟩) nf cf] 56)
      rw [← hW2] at hbw ⊢
      have hrb : Blk W2 wr.heap.size 56 #[Value.int IntKind.i64 r.lo, Value.int IntKind.i64 r.hi, Value.slice (some ⟨gf, 0, none⟩) nf cf] := by rw [hW2]; exact row_new _ _
      have HR2 := Lib.hid (HRr.out.below hbw)
      have Hrb := Lib.hid hrb
      have Hcf := Lib.hid ((hbw.cell (p := ⟨_, _, _⟩) hgf2).trans cf0)
      have Hg2 := Lib.hid (Nat.lt_of_lt_of_le hgf2 hbw.size)
      have hwr4 := HRr.out.lt
      clear hrb hW2 HRr c0 c1 c2 cf0 hbw hgf2
      generalize wr.heap.size = rb at *
      go_loopw [7] (fun i w7 => ∃ q : Nat, r.lo ≤ q ∧ q ≤ r.hi + 1 ∧ i = .int .i64 q ∧ Hid (∃ c', c' ≤ c + (q - r.lo) ∧ Run Φ w w7 CS LS (Value.slice A5 n5 c5) (Value.slice A6 n6 c6) Φ.dec (.slice (some ⟨gd, 0, none⟩) Φ.dec.length cd) fvD c' (partsTo r FP q) 0 (fun _ => none) 0 (fun _ => none)) ∧ Hid (Blk w7 rb 56 #[Value.int IntKind.i64 r.lo, Value.int IntKind.i64 r.hi, Value.slice (some ⟨gf, 0, none⟩) nf cf]) ∧ Hid (w7.cell? ⟨gf, 0, none⟩ = some (.string (toB f0)))  ∧ Hid (gf < w7.heap.size)) (fun i _ => r.hi + 1 - (intOf i).toNat)
      case atStart => exact ⟨r.lo, Nat.le_refl _, by omega, rfl, ⟨c, by omega, by rw [partsTo_zero]; exact HR2.out⟩, Hrb, Hcf, Hg2⟩
      case round =>
        obtain ⟨q, hq1, hq2, rfl, HRq, Hrq, Hcq, Hgq⟩ := hrel
        clear HR2 Hrb Hcf Hg2
        have y0 := Hrq.out.cell 0
        have y1 := Hrq.out.cell 1
        simp only [List.getElem?_toArray, List.getElem?_cons_zero, List.getElem?_cons_succ] at y0 y1
        by_cases hle : q ≤ r.hi
        · obtain ⟨c', hc', hRq⟩ := HRq.out
          have HRq2 := Lib.hid hRq
          have hlt4 := hRq.lt
          clear HRq hRq
          go_wp2_with fail
          refine load_region _ _ _ _ wr (w.heap.size + 3) rb gf nf cf w.heap.size c' w.heap.size (q : Int) (toB f0) (Sp.pts f0) (partsTo r FP q) rfl (by kernel_rfl) (by kernel_rfl) (by kernel_rfl) (by simp) rfl rfl rfl ((HRq2.out.tab.cell 7).trans HcT.out) (Hrq.out.cell 2) Hcq.out hnf0 (by omega) ?_ HRq2.out.p (by omega) (wf_i64 (by omega) (by omega)) (by unfold maxLen; omega) ?_
          · intro W hb
            exact HPW.out W (HT.out.below (HRq2.out.B.trans (hb.mono (by omega))))
          intro vc W1 w' hp' hb1 hg1
          have HR' := Lib.hid (HRq2.out.put hb1 hg1 hp')
          have Hrq' := Lib.hid ((Hrq.out.below hb1).grown hg1 (by simp; omega))
          have Hcq' := Lib.hid ((World.cell?_of_block (hg1.block gf (Nat.lt_of_lt_of_le Hgq.out hb1.size) (by simp; omega))).trans (cell_later hb1 Hcq.out))
          have Hgq' := Lib.hid (Nat.lt_of_lt_of_le Hgq.out (Nat.le_trans hb1.size hg1.size))
          clear hp' hb1 hg1 HRq2 Hrq Hcq Hgq y0 y1
          simp [frS, stepS, Exit.then]
          go_wp2_with fail
          go_roundw
          case rel => exact ⟨q + 1, by omega, by omega, by go_num, ⟨c' + 1, by omega, by rw [partsTo_next r FP q hq1, Hf0.out]; exact HR'.out⟩, Hrq', Hcq', Hgq'⟩
          case measure => simp [intOf]; omega
        · obtain rfl : q = r.hi + 1 := by omega
          obtain ⟨c', hc', hRq⟩ := HRq.out
          rw [partsTo_all, ← Htk.out] at hRq
          have HRq2 := Lib.hid hRq
          clear HRq hRq
          go_wp2_with fail
          go_roundw
          case rel => exact ⟨k + 1, by omega, by go_num, ⟨c', by omega, HRq2.out⟩⟩
          case measure => simp [intOf]; omega
    · obtain ⟨c, hc, hRr⟩ := HRk.out
      have hkl : k = Φ.dec.length := by omega
      rw [hkl, List.take_length] at hRr
      have hc9 : c ≤ 1000000000000 := by omega
      have HR := Lib.hid hRr
      clear HRk hRr
      subst hkl
      go_wp2_with fail
      refine (X6.out _).mono ?_
      rintro e w' ⟨rfl, rfl⟩
      go_wp2_with fail
      refine (L6.out _ (HE.out.below HR.out.B)).mono ?_
      intro e w7 hs
      obtain ⟨vF, fvF, rfl, hR⟩ := HR.out.again hs
      obtain ⟨gq, cq, rfl, hgq1, hgq2, hgq3, hgq4⟩ := own_form hR.recs.row Hok.out.foll.pos
      have Hlen2 := Lib.hid hR.recs.len
      have hfl := Hok.out.foll.le
      have HR2 := Lib.hid hR
      clear hR hs HR X6 L6 hlen
      go_wp2_with fail
      go_loopw [106] (fun i wr => ∃ k : Nat, k ≤ Φ.fol.length ∧ i = .int .i64 k ∧ Hid (∃ c0 c1, c0 ≤ k * 1114112 ∧ c1 ≤ k * 1114112 ∧ Run Φ w wr CS LS (Value.slice A5 n5 c5) (Value.slice A6 n6 c6) Φ.fol (.slice (some ⟨gq, 0, none⟩) Φ.fol.length cq) fvF c (partsOf Φ.dec) c0 (foldsOf false (Φ.fol.take k)) c1 (foldsOf true (Φ.fol.take k)))) (fun i _ => Φ.fol.length - (intOf i).toNat)
      case atStart => exact ⟨0, by omega, rfl, ⟨0, 0, by omega, by omega, by show Run _ _ _ _ _ _ _ _ _ _ _ _ _ (foldsOf false (Φ.fol.take 0)) _ (foldsOf true (Φ.fol.take 0)); rw [List.take_zero]; exact HR2.out⟩⟩
      case round =>
        obtain ⟨k, hk, rfl, HRk⟩ := hrel
        clear HR2
        by_cases hlt : k < Φ.fol.length
        · obtain ⟨c0, c1, hc0, hc1, hRr⟩ := HRk.out
          obtain ⟨u, hu⟩ : ∃ u, u = fvF[k]'(by rw [← Hlen2.out]; exact hlt) := ⟨_, rfl⟩
          obtain ⟨r, hr⟩ : ∃ r, r = Φ.fol[k] := ⟨_, rfl⟩
          obtain ⟨g0, g1, g2⟩ := recCells_get Φ.fol fvF k Hlen2.out hlt
          rw [← hr] at g0 g1
          rw [← hu] at g2
          have q0 := own_cell hRr.recs.row _ _ g0
          have q1 := own_cell hRr.recs.row _ _ g1
          have q2 := own_cell hRr.recs.row _ _ g2
          have hfld := hRr.recs.fld k r u (by rw [hr]; exact List.getElem?_eq_getElem hlt) (by rw [hu]; exact List.getElem?_eq_getElem _)
          have hfok : FoldOk r := by rw [hr]; exact Hok.out.fol _ (List.getElem_mem _)
          obtain ⟨A8, c8, rfl⟩ := own_slice hfld
          have ht0 : foldsOf false (Φ.fol.take (k + 1)) = foldRec r false (foldsOf false (Φ.fol.take k)) := by rw [List.take_succ_eq_append_getElem hlt, ← hr, foldsOf_snoc]
          have ht1 : foldsOf true (Φ.fol.take (k + 1)) = foldRec r true (foldsOf true (Φ.fol.take k)) := by rw [List.take_succ_eq_append_getElem hlt, ← hr, foldsOf_snoc]
          have Ht0 := Lib.hid ht0
          have Ht1 := Lib.hid ht1
          have Hfld := Lib.hid hfld
          have Hfok := Lib.hid hfok
          have HRr := Lib.hid hRr
          have hwr4 := hRr.lt
          generalize foldsOf false (Φ.fol.take k) = G0 at *
          generalize foldsOf true (Φ.fol.take k) = G1 at *
          obtain ⟨nf, hnf⟩ : ∃ nf, nf = r.fields.length := ⟨_, rfl⟩
          rw [← hnf] at q2 Hfld
          have Hnf := Lib.hid hnf
          clear HRk hRr ht0 ht1 hfld hfok g0 g1 g2 hu hr hnf
          go_wp2_with fail
          obtain rfl := Hnf.out
          have hbw := alloc_below wr (Obj.cells #[Value.int IntKind.i64 r.lo, Value.int IntKind.i64 r.hi, Value.slice A8 r.fields.length c8] 56)
          have hfw := own_below Hfld.out hbw
          have hR2 := HRr.out.below hbw
          refine (folding_walk hR2.tab (by rw [HCS.out]; rfl) (by rw [HCS.out]; rfl) hR2.s hR2.f (by omega) (by omega) (by omega) Hfok.out hfw (HT.out.below hR2.B) hgl).mono ?_
          rintro e w9 ⟨rfl, ⟨d0, hd0, hs9⟩, ⟨d1, hd1, hf9⟩, hk9⟩
          have HR9 := Lib.hid (hR2.fold hk9 hs9 hf9)
          clear hs9 hf9 hk9 hbw hfw hR2 HRr q0 q1 q2
          go_wp2_with fail
          go_roundw
          case rel => exact ⟨k + 1, by omega, by go_num, ⟨d0, d1, by omega, by omega, by rw [Ht0.out, Ht1.out]; exact HR9.out⟩⟩
          case measure => simp [intOf]; omega
        · obtain ⟨c0, c1, hc0, hc1, hRr⟩ := HRk.out
          have hkl : k = Φ.fol.length := by omega
          rw [hkl, List.take_length, HCS.out, HLS.out] at hRr
          have hta := hRr.tabs hc9 (by omega) (by omega)
          have HTA := Lib.hid hta
          have HB := Lib.hid hRr.B
          clear HRk hRr hta
          subst hkl
          go_wp2_with fail
          go_ret
          exact ⟨rfl, HTA.out, HB.out⟩
end Go.Proofs.YtchkckfadennhaaGreatDoor
namespace Go.Proofs.YtchkckfadennhaaGreatDoor
open Go.RowKit
set_option linter.unusedVariables false

def recOkB (r : Rec) : Bool := decide (r.lo ≤ r.hi) && decide (r.hi ≤ 1114111) && !r.fields.isEmpty
def goodRecs (f : Func) : Bool := decide (0 < (recsOf f).length) && decide ((recsOf f).length ≤ 100000) && (recsOf f).all recOkB
theorem recOk_of {r : Rec} (h : recOkB r = true) : RecOk r := by
  unfold recOkB at h
  simp only [Bool.and_eq_true, decide_eq_true_eq, Bool.not_eq_true', List.isEmpty_eq_false_iff] at h
  exact ⟨h.1.1, h.1.2, h.2⟩
theorem recs_of {f : Func} (h : goodRecs f = true) : ListOk (recsOf f) := by
  unfold goodRecs at h
  simp only [Bool.and_eq_true, decide_eq_true_eq, List.all_eq_true] at h
  exact ⟨h.1.1, h.1.2, fun r hr => recOk_of (h.2 r hr)⟩
def asciiB (s : Sp.Str) : Bool := s.all fun b => decide (b.toNat < 128)
def decOkB (r : Rec) : Bool := asciiB (fld0 r) && decide ((fld0 r).length < 1000)
def foldOkB (r : Rec) : Bool := decide (2 ≤ r.fields.length) && asciiB (fld1 r) && decide ((fld1 r).length < 1000) && !(Sp.pts (fld1 r)).isEmpty
def goodDec (f : Func) : Bool := goodRecs f && (recsOf f).all decOkB
def goodFold (f : Func) : Bool := goodRecs f && (recsOf f).all foldOkB
theorem dec_of {f : Func} (h : goodDec f = true) : goodRecs f = true ∧ ∀ r ∈ recsOf f, DecOk r := by
  unfold goodDec at h
  simp only [Bool.and_eq_true, List.all_eq_true] at h
  refine ⟨h.1, fun r hr => ?_⟩
  have h2 := h.2 r hr
  unfold decOkB asciiB at h2
  simp only [Bool.and_eq_true, List.all_eq_true, decide_eq_true_eq] at h2
  exact ⟨(recs_of h.1).ok r hr, h2.1, h2.2⟩
theorem fold_of {f : Func} (h : goodFold f = true) : goodRecs f = true ∧ ∀ r ∈ recsOf f, FoldOk r := by
  unfold goodFold at h
  simp only [Bool.and_eq_true, List.all_eq_true] at h
  refine ⟨h.1, fun r hr => ?_⟩
  have h2 := h.2 r hr
  unfold foldOkB asciiB at h2
  simp only [Bool.and_eq_true, List.all_eq_true, decide_eq_true_eq, Bool.not_eq_true', List.isEmpty_eq_false_iff] at h2
  obtain ⟨⟨⟨h3, h4⟩, h5⟩, h6⟩ := h2
  obtain ⟨h7, h8, _⟩ := (recs_of h.1).ok r hr
  refine ⟨h7, h8, ?_, h4, h5, h6⟩
  match hf : r.fields, h3 with
  | a :: b :: l, _ => exact ⟨a, b, l, rfl⟩
theorem recs_categories : goodRecs Tryz.f18 = true := by kernel_rfl
theorem recs_combining : goodRecs Tryz.f19 = true := by kernel_rfl
theorem recs_scripts : goodRecs Tryz.f20 = true := by kernel_rfl
theorem recs_clusters : goodRecs Tryz.f21 = true := by kernel_rfl
theorem recs_words : goodRecs Tryz.f22 = true := by kernel_rfl
theorem recs_decompositions : goodDec Tryz.f24 = true := by kernel_rfl
theorem recs_folding : goodFold Tryz.f26 = true := by kernel_rfl
noncomputable def files : Files := ⟨recsOf Tryz.f18, recsOf Tryz.f19, recsOf Tryz.f20, recsOf Tryz.f21, recsOf Tryz.f22, recsOf Tryz.f24, recsOf Tryz.f26⟩
set_option maxRecDepth 100000 in
theorem files_ok : FilesOk files where
  cat := recs_of recs_categories
  comb := recs_of recs_combining
  scr := recs_of recs_scripts
  clu := recs_of recs_clusters
  word := recs_of recs_words
  decl := recs_of (dec_of recs_decompositions).1
  dec := (dec_of recs_decompositions).2
  foll := recs_of (fold_of recs_folding).1
  fol := (fold_of recs_folding).2
set_option maxRecDepth 100000 in
theorem texts_ok : TextsOk files where
  cat := ⟨_, categories_calls, fun w hE => parse_of_good good_categories w hE⟩
  comb := ⟨_, combining_calls, fun w hE => parse_of_good good_combining w hE⟩
  scr := ⟨_, scripts_calls, fun w hE => parse_of_good good_scripts w hE⟩
  clu := ⟨_, clusters_calls, fun w hE => parse_of_good good_clusters w hE⟩
  word := ⟨_, words_calls, fun w hE => parse_of_good good_words w hE⟩
  dec := ⟨_, decompositions_calls, fun w hE => parse_of_good good_decompositions w hE⟩
  fol := ⟨_, folding_calls, fun w hE => parse_of_good good_folding w hE⟩
end Go.Proofs.YtchkckfadennhaaGreatDoor
namespace Go.Proofs.YtchkckfadennhaaGreatDoor
open Go.RowKit
set_option linter.unusedVariables false
set_option linter.unusedSimpArgs false

theorem EnvT.lt {w : World} (h : EnvT w) : 0 < w.heap.size := by
  unfold EnvT Lib.TabIs World.var? at h
  have hg : Tryz.prog.globalNamed "strings.asciiSpace" = some 0 := by kernel_rfl
  rw [hg] at h
  simp only [Option.bind_some] at h
  rcases Nat.lt_or_ge 0 w.heap.size with h1 | h1
  · exact h1
  · rw [Array.getElem?_eq_none h1] at h
    cases h
theorem load_calls (w : World) (hE : Env w) (hT : EnvT w) : Calls Tryz.prog 7 #[] w (LoadedSaid files w) := loaded_walk files files_ok texts_ok w hE hT hT.lt
end Go.Proofs.YtchkckfadennhaaGreatDoor
