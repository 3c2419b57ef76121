import Derived.Test.YtmdkjljcnegmeaaDoorParseW
import Derived.Test.YtmdkjljcnegmeaaDoorDag
import Derived.Great.BuildSlice
namespace Go.Proofs.YtmdkjljcnegmeaaDoor
open Go.RowKit
set_option linter.unusedVariables false
set_option linter.unusedSimpArgs false
theorem r_bs0 (ρ : Operand → Value) (W : World) (o : Oper) (ho : o.op = .buildSlice 34 0 #[]) : (execOp ρ o).run Tryd.prog W = .ok (.value (.slice (some ⟨W.heap.size, 0, none⟩) 0 0)) (W.alloc (.cells #[] 9)) := by
  unfold execOp
  rw [ho]
  go_simp
theorem r_move (P : Program) (ρ : Operand → Value) (W : World) (o : Oper) (x : Operand) (ho : o.op = .move x) : (execOp ρ o).run P W = .ok (.value (ρ x)) W := by
  unfold execOp
  rw [ho]
  go_simp
theorem r_assign (P : Program) (ρ : Operand → Value) (W : World) (o : Oper) (x : Operand) (ho : o.op = .assign x) : (execOp ρ o).run P W = .ok (.value (ρ x)) W := by
  unfold execOp
  rw [ho]
  go_simp
theorem r_makeMap (ρ : Operand → Value) (W : World) (o : Oper) (ho : o.op = .makeMap 103 none) : (execOp ρ o).run Tryd.prog W = .ok (.value (.map (some W.heap.size))) (W.alloc (.map #[] 0)) := by
  have hmm := @run_makeMap Tryd.prog
  unfold execOp
  rw [ho]
  go_simp
theorem foldl_set : ∀ (l : List Value) (k : Nat) (acc : Array Value) (i : Nat), ((l.zipIdx k).foldl (fun (acc : Array Value) (x : Value × Nat) => acc.setIfInBounds (0 + x.2) x.1) acc)[i]? = if k ≤ i ∧ i < k + l.length ∧ i < acc.size then l[i - k]? else acc[i]?
  | [], k, acc, i => by
    simp only [List.zipIdx_nil, List.foldl_nil, List.length_nil, Nat.add_zero]
    rw [if_neg (by omega)]
  | v :: l, k, acc, i => by
    rw [List.zipIdx_cons, List.foldl_cons, foldl_set l (k + 1)]
    simp only [Array.size_setIfInBounds, List.length_cons, Nat.zero_add, Array.getElem?_setIfInBounds]
    by_cases h1 : k + 1 ≤ i ∧ i < k + 1 + l.length ∧ i < acc.size
    · rw [if_pos h1, if_pos (by omega)]
      obtain ⟨m, hm⟩ : ∃ m, i - k = m + 1 := ⟨i - (k + 1), by omega⟩
      rw [hm, List.getElem?_cons_succ]
      congr 1
      omega
    · rw [if_neg h1]
      by_cases h2 : k = i
      · subst h2
        by_cases h3 : k < acc.size
        · rw [if_pos rfl, if_pos h3, if_pos (by omega), Nat.sub_self, List.getElem?_cons_zero]
        · rw [if_pos rfl, if_neg h3, if_neg (by omega)]
          simp; omega
      · rw [if_neg h2, if_neg (by omega)]
theorem fill_one (n : Nat) (init cs : Array Value) (h1 : cs.size = n) (h2 : init.size = n) : Instr.fill (fun i => some (i * n, n)) init [(0, .agg cs)] = some cs := by
  simp only [Instr.fill, Value.cells, h1, h2, Nat.zero_mul, Nat.zero_add, ne_eq, not_true_eq_false, gt_iff_lt, Nat.lt_irrefl, or_self, if_false, decide_false, Bool.or_self, Bool.false_eq_true]
  congr 1
  apply Array.ext_getElem?
  intro i
  have := foldl_set cs.toList 0 init i
  simp only [Nat.zero_add] at this
  rw [← Array.foldl_toList, Array.toList_zipIdx, this]
  simp only [Nat.zero_le, true_and, Array.length_toList, h1, h2, Nat.sub_zero, and_self, Array.getElem?_toList]
  split
  · rfl
  · rw [Array.getElem?_eq_none (by omega), Array.getElem?_eq_none (by omega)]
theorem cells_info : ∃ ie z, Tryd.prog.info? 102 = some ie ∧ ie.zero = some z ∧ ie.size = 256 := by
  have h : (Tryd.prog.info? 102).map (fun i => (i.zero.isSome, i.size)) = some (true, 256) := by kernel_rfl
  obtain ⟨ie, h1, h2⟩ := Option.map_eq_some_iff.1 h
  simp only [Prod.mk.injEq, Option.isSome_iff_exists] at h2
  obtain ⟨⟨z, hz⟩, h3⟩ := h2
  exact ⟨ie, z, h1, hz, h3⟩
theorem r_bs1 (ρ : Operand → Value) (W : World) (o : Oper) (x : Operand) (ho : o.op = .buildSlice 104 1 #[(0, x)]) (cs : Array Value) (h26 : ρ x = .agg cs) (hs : cs.size = 256) : (execOp ρ o).run Tryd.prog W = .ok (.value (.slice (some ⟨W.heap.size, 0, none⟩) 1 1)) (W.alloc (.cells cs 102)) := by
  obtain ⟨ie, z, h1, h2, h3⟩ := cells_info
  have hf : Instr.fill (fun i => some (i * ie.size, ie.size)) ((Array.range (1 * ie.size)).map (z.cells[· % z.cells.size]!)) #[(0, Value.agg cs)].toList = some cs := by
    rw [h3]
    exact fill_one 256 _ cs hs (by simp)
  have := run_buildSlice (P := Tryd.prog) W 104 102 1 #[(0, .agg cs)] cs ie z Tryd.underlying104 h1 h2 (by rw [h3]; decide) (by rw [h3]; decide) hf
  unfold execOp
  rw [ho]
  simp only [List.map_toArray, List.map_cons, List.map_nil, h26, this, Sem.run_bind, Sem.run_pure, Result.andThen_ok]
theorem r_build (ρ : Operand → Value) (W : World) (o : Oper) (ho : o.op = .build 106 #[(0, .tmp 24), (1, .tmp 25), (2, .tmp 27)]) (A B : Option Addr) (n c n' c' : Nat) (m : Option Nat) (h1 : ρ (.tmp 24) = .slice A n c) (h2 : ρ (.tmp 25) = .map m) (h3 : ρ (.tmp 27) = .slice B n' c') : (execOp ρ o).run Tryd.prog W = .ok (.value (.agg #[.slice A n c, .map m, .slice B n' c'])) W := by
  unfold execOp
  rw [ho]
  go_simp
theorem r_box (ρ : Operand → Value) (W : World) (o : Oper) (ho : o.op = .box 106 (.tmp 28)) (A B : Option Addr) (n c n' c' : Nat) (m : Option Nat) (h1 : ρ (.tmp 28) = .agg #[.slice A n c, .map m, .slice B n' c']) : (execOp ρ o).run Tryd.prog W = .ok (.value (.pointer (some ⟨W.heap.size, 0, none⟩))) (W.alloc (.cells #[.slice A n c, .map m, .slice B n' c'] 106)) := by
  unfold execOp
  rw [ho]
  go_simp

/-- Block b is these cells, of element type t, none frozen. -/
def Blk (w : World) (b : Nat) (t : TypeId) (cs : Array Value) : Prop := w.heap[b]? = some (.cells cs t)
theorem Blk.cell {w : World} {b : Nat} {t : TypeId} {cs : Array Value} (h : Blk w b t cs) (j : Nat) : w.cell? ⟨b, j, none⟩ = cs[j]? := (cells_of_row h).1 j
theorem Blk.free {w : World} {b : Nat} {t : TypeId} {cs : Array Value} (h : Blk w b t cs) (j : Nat) : w.frozen? ⟨b, j, none⟩ = false := (cells_of_row h).2 j
theorem Blk.set {w : World} {b : Nat} {t : TypeId} {cs : Array Value} (h : Blk w b t cs) (j : Nat) (u : Value) : Blk (w.setCell ⟨b, j, none⟩ u) b t (cs.setIfInBounds j u) := by
  unfold Blk World.setCell at *
  simp [Array.getElem?_modify, h]
theorem Blk.below {w w' : World} {b : Nat} {t : TypeId} {cs : Array Value} (h : Blk w b t cs) (hb : Below w.heap.size w w') : Blk w' b t cs := below_row hb h
theorem Blk.grown {w w' : World} {b : Nat} {t : TypeId} {cs : Array Value} {row : Option Nat} (h : Blk w b t cs) (hg : w.grownBy w' row) (hne : some b ≠ row) : Blk w' b t cs := grown_row hg h hne
def kInt : KK Tryd.prog 3 Int := KK.int Tryd.underlying3
/-- Which operations of Build's first great statement are done, and what they came to. -/
structure RJ (B : Nat) (w0 : World) (cs : Array Value) (vals : List Sp.Str) (v1 : Value) (S : Nat → Bool) (vs : Nat → Value) (W : World) : Prop where
  bel : Below B w0 W
  emp : Blk W B 102 cs
  f0 : S 0 = true → S 2 = false → ∃ k, vs 0 = .slice (some ⟨k, 0, none⟩) 0 0 ∧ W.ownsRow (B + 1) 9 1 (.slice (some ⟨k, 0, none⟩) 0 0) 0 []
  f1 : S 1 = true → vs 1 = v1
  f2 : S 2 = true → W.ownsRow (B + 1) 9 1 (vs 2) vals.length (strVs vals)
  f3 : S 3 = true → ∃ m, vs 3 = .map (some m) ∧ MapF W kInt m 0 (fun _ => none) ∧ B < m
  f4 : S 4 = true → vs 4 = .agg cs
  f5 : S 5 = true → W.ownsRow (B + 1) 102 256 (vs 5) 1 cs.toList
  f6 : S 6 = true → S 2 = true ∧ S 3 = true ∧ S 5 = true ∧ vs 6 = .agg #[vs 2, vs 3, vs 5]
  f7 : S 7 = true → S 6 = true ∧ ∃ p, vs 7 = .pointer (some ⟨p, 0, none⟩) ∧ B < p ∧ Blk W p 106 #[vs 2, vs 3, vs 5]
  f8 : S 8 = true → S 7 = true ∧ vs 8 = vs 7
theorem RJ.move {B : Nat} {w0 : World} {cs : Array Value} {vals : List Sp.Str} {v1 : Value} {S : Nat → Bool} {vs vs' : Nat → Value} {W W' : World} (h : RJ B w0 cs vals v1 S vs W) (hv : ∀ j, S j = true → vs' j = vs j) (hb : Below W.heap.size W W') :
    RJ B w0 cs vals v1 S vs' W' := by
  refine ⟨h.bel.trans (hb.mono (Nat.le_trans (Nat.le_of_lt (heap_lt h.emp)) (Nat.le_refl _))), h.emp.below hb, fun a b => ?_, fun a => ?_, fun a => ?_, fun a => ?_, fun a => ?_, fun a => ?_, fun a => ?_, fun a => ?_, fun a => ?_⟩
  · obtain ⟨k, e, ho⟩ := h.f0 a b
    exact ⟨k, by rw [hv 0 a]; exact e, own_below ho hb⟩
  · rw [hv 1 a]; exact h.f1 a
  · rw [hv 2 a]; exact own_below (h.f2 a) hb
  · obtain ⟨m, e, hm, hl⟩ := h.f3 a
    exact ⟨m, by rw [hv 3 a]; exact e, hm.below hb hm.lt, hl⟩
  · rw [hv 4 a]; exact h.f4 a
  · rw [hv 5 a]; exact own_below (h.f5 a) hb
  · obtain ⟨a2, a3, a5, e⟩ := h.f6 a
    exact ⟨a2, a3, a5, by rw [hv 6 a, hv 2 a2, hv 3 a3, hv 5 a5]; exact e⟩
  · obtain ⟨a6, p, e, hl, hp⟩ := h.f7 a
    obtain ⟨a2, a3, a5, _⟩ := h.f6 a6
    exact ⟨a6, p, by rw [hv 7 a]; exact e, hl, by rw [hv 2 a2, hv 3 a3, hv 5 a5]; exact hp.below hb⟩
  · obtain ⟨a7, e⟩ := h.f8 a
    exact ⟨a7, by rw [hv 8 a, hv 7 a7]; exact e⟩
theorem agree (S : Nat → Bool) (vs : Nat → Value) (i : Nat) (v : Value) (hS : S i = false) : ∀ j, S j = true → (fun j => if j = i then v else vs j) j = vs j := fun j hj => if_neg (fun e => by rw [e, hS] at hj; cases hj)
theorem alloc_below (W : World) (o : Obj) : Below W.heap.size W (W.alloc o) := (Below.refl _ _).alloc (Nat.le_refl _) _
theorem r_append {P : Program} (w : World) {t e : TypeId} {size bytes : Nat} (T : SlT P t e size bytes) (ρ : Operand → Value) (o : Oper) (s x : Operand)
    (ho : o.op = .call { callee := .builtin .append, args := #[s, x], argTypes := #[t, t] })
    (base : Nat) (v : Value) (n : Nat) (xs : List Value) (hs : ρ s = v) (hown : w.ownsRow base e size v n xs)
    (ad : Addr) (m c : Nat) (news : List Value) (hx : ρ x = .slice (some ad) m c) (hl : news.length = m * size) (hnews : ∀ j u, news[j]? = some u → w.cell? (ad.add j) = some u) (h1 : ∀ u ∈ news, u.oneCell' = true)
    (hbytes : (n + m) * bytes ≤ 140737488355328) (hbase : base ≤ w.heap.size) :
    ∃ v' w', (execOp ρ o).run P w = .ok (.value v') w' ∧ w'.ownsRow base e size v' (n + m) (xs ++ news) ∧ w.grownBy w' v.ownBlock ∧ (v'.ownBlock = v.ownBlock ∨ v'.ownBlock = some w.heap.size) := by
  obtain ⟨i, hi, hz⟩ := Option.map_eq_some_iff.1 T.hi
  simp only [Prod.mk.injEq] at hz
  obtain ⟨hz0, hz1, hz2⟩ := hz
  obtain ⟨z, hz, hzc⟩ := Option.map_eq_some_iff.1 hz0
  have hlen : n + m ≤ (n + m) * bytes := Nat.le_mul_of_pos_right _ T.posb
  obtain ⟨v', w', hr, h2, h3, h4, h5⟩ := run_append_own_at (P := P) w base t o.type e i z size bytes T.ht hi hz hz1 hz2 hzc T.pos v n xs hown ad m c news hl hnews h1 (by unfold maxLen; omega) hbytes hbase
  refine ⟨v', w', ?_, h2, h3, h5⟩
  unfold execOp
  simp only [ho, resolve, invoke, builtin, Sem.run_bind, Sem.run_pure, Result.andThen_ok, List.map_toArray, List.map_cons, List.map_nil, hs, hx, hr]
theorem run_loadVar_at {P : Program} (w : World) (ad : Addr) (ty : TypeId) (cs : Array Value) (hc : ∀ j u, cs.toList[j]? = some u → w.cell? (ad.add j) = some u) (d : TypeDesc)
    (hu : P.underlying ty = some d) (hd : (match d with | .struct _ | .array _ _ => true | _ => false) = true) (hi : (P.info? ty).map (·.size) = some cs.size) : (loadVar ty ad).run P w = .ok (.agg cs) w := by
  have hl : (loadCells ad cs.toList.length).run P w = .ok cs.toList.toArray w := run_loadCells_list (P := P) w ad cs.toList hc
  cases hq : P.info? ty with
  | none => simp [hq] at hi
  | some i =>
    have hs : i.size = cs.size := by simpa [hq] using hi
    have hagg : (isAgg ty).run P w = .ok true w := by
      unfold isAgg
      rw [Sem.run_bind, run_underlying hu w]
      cases d <;> simp_all
    simp only [Array.length_toList, Array.toArray_toList] at hl
    simp [loadVar, Sem.run_bind, hagg, sizeOf, typeInfo, hq, hs, hl]
theorem r_load_at {P : Program} (w : World) (ρ : Operand → Value) (o : Oper) (ty : TypeId) (x : Operand) (ho : o.op = .load ty x) (ad : Addr) (hx : ρ x = .pointer (some ad)) (cs : Array Value) (hc : ∀ j u, cs.toList[j]? = some u → w.cell? (ad.add j) = some u) (d : TypeDesc)
    (hu : P.underlying ty = some d) (hd : (match d with | .struct _ | .array _ _ => true | _ => false) = true) (hi : (P.info? ty).map (·.size) = some cs.size) : (execOp ρ o).run P w = .ok (.value (.agg cs)) w := by
  unfold execOp
  simp only [ho, hx, Instr.loadAt, Instr.sureAddr, Sem.run_bind, Sem.run_pure, Result.andThen_ok, run_loadVar_at w ad ty cs hc d hu hd hi]
theorem Blk.at_ {w : World} {b : Nat} {t : TypeId} {cs : Array Value} (h : Blk w b t cs) : ∀ j u, cs.toList[j]? = some u → w.cell? ((⟨b, 0, none⟩ : Addr).add j) = some u := fun j u hu => by
  rw [add_plain, Nat.zero_add, h.cell]
  simpa using hu

abbrev buildDs : List (Option Tmp) := [some 22, some 23, some 24, some 25, some 26, some 27, some 28, some 29, some 7]
/-- Build's first great statement. -/
theorem build_great (a : Act) (ops : Array Oper) (rid : Nat) (Q : Exit → Act → World → Prop) (w0 w : World) (cs : Array Value) (vals : List Sp.Str) (bv gv cv : Nat)
    (hops : ops.toList.map (·.op) = [.buildSlice 34 0 #[], .move (.tmp 1), .call { callee := .builtin .append, args := #[.tmp 22, .tmp 23], argTypes := #[34, 34] }, .makeMap 103 none, .load 102 (.tmp 5), .buildSlice 104 1 #[(0, .tmp 26)],
      .build 106 #[(0, .tmp 24), (1, .tmp 25), (2, .tmp 27)], .box 106 (.tmp 28), .assign (.tmp 29)])
    (hok : dagOk ops [some 22, some 23, some 24, some 25, some 26, some 27, some 28, some 29, some 7] = true)
    (hw : (List.range 9).map (waits ops) = [[], [], [0, 1], [], [], [4], [2, 3, 5], [6], [7, 2, 0, 1, 2, 3, 4, 5, 6, 7]])
    (hsz : 87 ≤ a.tmps.size) (h1 : a.tmps.getD 1 undef = .slice (some ⟨gv, 0, none⟩) vals.length cv) (h5 : a.tmps.getD 5 undef = .pointer (some ⟨w0.heap.size, 0, none⟩)) (hcs : cs.size = 256)
    (hB : Below w0.heap.size w0 w) (hE : Blk w w0.heap.size 102 cs) (hv : w0.ownsRow bv 9 1 (.slice (some ⟨gv, 0, none⟩) vals.length cv) vals.length (strVs vals)) (hvb : vals.length * 16 ≤ 140737488355328)
    (hend : ∀ vs W, RJ w0.heap.size w0 cs vals (.slice (some ⟨gv, 0, none⟩) vals.length cv) (fun j => decide (j < 9)) vs W → Q .normal { a with tmps := frS (fun j => decide (j < 9)) vs 0 [some 22, some 23, some 24, some 25, some 26, some 27, some 28, some 29, some 7] a.tmps } W) :
    (Code.region rid ops true).wp Tryd.prog Q a w := by
  have hn : ([some 22, some 23, some 24, some 25, some 26, some 27, some 28, some 29, some 7].filterMap (id : Option Nat → Option Nat)).Nodup := by decide
  have hlen9 : ops.size = 9 := by have := congrArg List.length hops; simpa using this
  rw [← hlen9] at hend
  refine wp_region_dag (by kernel_rfl) _ hok (RJ w0.heap.size w0 cs vals (.slice (some ⟨gv, 0, none⟩) vals.length cv)) ?_ ?_ hend
  · intro vs
    have hb : Below w.heap.size w { w with drawn := w.drawn + 1 } := ⟨rfl, rfl, rfl, Nat.le_refl _, fun _ _ => rfl⟩
    exact ⟨hB.trans (hb.mono hB.size), hE.below hb, (fun h => by cases h), (fun h => by cases h), (fun h => by cases h), (fun h => by cases h), (fun h => by cases h), (fun h => by cases h), (fun h => by cases h), (fun h => by cases h), (fun h => by cases h)⟩
  · intro i o ho S vs W hS hpre hJ
    have hlen : ops.size = 9 := by have := congrArg List.length hops; simpa using this
    have hi : i < 9 := by rw [← hlen]; exact (Array.getElem?_eq_some_iff.1 ho).1
    have hop : ∀ x, ([.buildSlice 34 0 #[], .move (.tmp 1), .call { callee := .builtin .append, args := #[.tmp 22, .tmp 23], argTypes := #[34, 34] }, .makeMap 103 none, .load 102 (.tmp 5), .buildSlice 104 1 #[(0, .tmp 26)],
      .build 106 #[(0, .tmp 24), (1, .tmp 25), (2, .tmp 27)], .box 106 (.tmp 28), .assign (.tmp 29)] : List Op)[i]? = some x → o.op = x := by
      intro x hx
      rw [← hops, List.getElem?_map, Array.getElem?_toList, ho] at hx
      simpa using hx
    have hwi : ∀ l, ([[], [], [0, 1], [], [], [4], [2, 3, 5], [6], [7, 2, 0, 1, 2, 3, 4, 5, 6, 7]] : List (List Nat))[i]? = some l → waits ops i = l := by
      intro l hl
      rw [← hw, List.getElem?_map, List.getElem?_range hi] at hl
      simpa using hl
    have hbs : w0.heap.size < W.heap.size := heap_lt hJ.emp
    match i, hi with
    | 0, _ =>
      refine dag_value _ (r_bs0 _ W o (hop _ rfl)) ?_
      have h := hJ.move (agree S vs 0 (.slice (some ⟨W.heap.size, 0, none⟩) 0 0) hS) (alloc_below W (.cells #[] 9))
      exact ⟨h.bel, h.emp, fun a b => ⟨_, rfl, World.ownsRow_lit (size := 1) W #[] 0 hbs (by decide) rfl⟩, fun a => h.f1 (by simpa using a), fun a => h.f2 (by simpa using a), fun a => h.f3 (by simpa using a), fun a => h.f4 (by simpa using a), fun a => h.f5 (by simpa using a), fun a => have x := h.f6 (by simpa using a); ⟨by simp [x.1], by simp [x.2.1], by simp [x.2.2.1], x.2.2.2⟩, fun a => have x := h.f7 (by simpa using a); ⟨by simp [x.1], x.2⟩, fun a => have x := h.f8 (by simpa using a); ⟨by simp [x.1], x.2⟩⟩
    | 1, _ =>
      have e : Act.eval { a with tmps := frS S vs 0 buildDs a.tmps } (.tmp 1) = .slice (some ⟨gv, 0, none⟩) vals.length cv := (ev_old (ds := buildDs) 1 (by decide)).trans h1
      refine dag_value (.slice (some ⟨gv, 0, none⟩) vals.length cv) (by rw [← e]; exact r_move _ _ W o _ (hop _ rfl)) ?_
      have h := hJ.move (agree S vs 1 (.slice (some ⟨gv, 0, none⟩) vals.length cv) hS) (Below.refl _ W)
      exact ⟨h.bel, h.emp, fun a b => h.f0 (by simpa using a) (by simpa using b), fun _ => rfl, fun a => h.f2 (by simpa using a), fun a => h.f3 (by simpa using a), fun a => h.f4 (by simpa using a), fun a => h.f5 (by simpa using a), fun a => have x := h.f6 (by simpa using a); ⟨by simp [x.1], by simp [x.2.1], by simp [x.2.2.1], x.2.2.2⟩, fun a => have x := h.f7 (by simpa using a); ⟨by simp [x.1], x.2⟩, fun a => have x := h.f8 (by simpa using a); ⟨by simp [x.1], x.2⟩⟩
    | 2, _ =>
      have hp0 : S 0 = true := hpre 0 (by rw [hwi _ rfl]; decide)
      have hp1 : S 1 = true := hpre 1 (by rw [hwi _ rfl]; decide)
      obtain ⟨k0, e0, ho0⟩ := hJ.f0 hp0 hS
      have e22 : Act.eval { a with tmps := frS S vs 0 buildDs a.tmps } (.tmp 22) = .slice (some ⟨k0, 0, none⟩) 0 0 := (ev_done hn 0 22 rfl hp0 (Nat.lt_of_lt_of_le (by decide) hsz)).trans e0
      have e23 : Act.eval { a with tmps := frS S vs 0 buildDs a.tmps } (.tmp 23) = .slice (some ⟨gv, 0, none⟩) vals.length cv := (ev_done hn 1 23 rfl hp1 (Nat.lt_of_lt_of_le (by decide) hsz)).trans (hJ.f1 hp1)
      have hvW := own_below hv hJ.bel
      obtain ⟨v', W', hr, hown', hg, hat⟩ := r_append W slStr _ o (.tmp 22) (.tmp 23) (hop _ rfl) (w0.heap.size + 1) _ 0 [] e22 ho0 ⟨gv, 0, none⟩ vals.length cv (strVs vals) e23 (by simp [strVs]) (fun j u hu => by rw [add_plain, Nat.zero_add]; exact own_cell hvW j u hu) (fun u hu => by obtain ⟨x, _, rfl⟩ := List.mem_map.1 hu; rfl) (by omega) hbs
      have hk0 := own_lt ho0 k0 rfl
      have hb' : Below w0.heap.size w0 W' := hJ.bel.grown hg hJ.bel.size (fun k hk => by simp [Value.ownBlock] at hk; omega)
      refine dag_value v' hr ?_
      have hv := agree S vs 2 v' hS
      refine ⟨hb', hJ.emp.grown hg (by simp [Value.ownBlock]; omega), fun a b => by simp at b, fun a => ?_, fun a => ?_, fun a => ?_, fun a => ?_, fun a => ?_, fun a => ?_, fun a => ?_, fun a => ?_⟩
      · exact hJ.f1 (by simpa using a)
      · simpa using hown'
      · obtain ⟨m, e, hm, hl⟩ := hJ.f3 (by simpa using a)
        refine ⟨m, e, hm.kept hg ?_, hl⟩
        intro e2
        obtain ⟨es, clock, h1⟩ := hm.isMap
        rcases ho0.2 with ⟨h2, _⟩ | ⟨g', cap', cur, he, _, hh, _⟩
        · simp at h2
        · simp [Value.ownBlock] at e2
          simp at he
          rw [← he.1, ← e2, h1] at hh
          cases hh
      · exact hJ.f4 (by simpa using a)
      · have h5 := hJ.f5 (by simpa using a)
        exact h5.kept hg (own_types h5 ho0 (by decide))
      · have := (hJ.f6 (by simpa using a)).1
        rw [hS] at this; cases this
      · have := (hJ.f6 (hJ.f7 (by simpa using a)).1).1
        rw [hS] at this; cases this
      · have := (hJ.f6 (hJ.f7 (hJ.f8 (by simpa using a)).1).1).1
        rw [hS] at this; cases this
    | 3, _ =>
      refine dag_value _ (r_makeMap _ W o (hop _ rfl)) ?_
      have h := hJ.move (agree S vs 3 (.map (some W.heap.size)) hS) (alloc_below W (.map #[] 0))
      exact ⟨h.bel, h.emp, fun a b => h.f0 (by simpa using a) (by simpa using b), fun a => h.f1 (by simpa using a), fun a => h.f2 (by simpa using a), fun _ => ⟨_, rfl, MapF.made W kInt, hbs⟩, fun a => h.f4 (by simpa using a), fun a => h.f5 (by simpa using a), fun a => have x := h.f6 (by simpa using a); ⟨by simp [x.1], by simp [x.2.1], by simp [x.2.2.1], x.2.2.2⟩, fun a => have x := h.f7 (by simpa using a); ⟨by simp [x.1], x.2⟩, fun a => have x := h.f8 (by simpa using a); ⟨by simp [x.1], x.2⟩⟩
    | 4, _ =>
      have e5 : Act.eval { a with tmps := frS S vs 0 buildDs a.tmps } (.tmp 5) = .pointer (some ⟨w0.heap.size, 0, none⟩) := (ev_old (ds := buildDs) 5 (by decide)).trans h5
      refine dag_value _ (r_load_at W _ o _ _ (hop _ rfl) _ e5 cs hJ.emp.at_ _ Tryd.underlying102 rfl (by rw [hcs]; kernel_rfl)) ?_
      have h := hJ.move (agree S vs 4 (.agg cs) hS) (Below.refl _ W)
      exact ⟨h.bel, h.emp, fun a b => h.f0 (by simpa using a) (by simpa using b), fun a => h.f1 (by simpa using a), fun a => h.f2 (by simpa using a), fun a => h.f3 (by simpa using a), fun _ => rfl, fun a => h.f5 (by simpa using a), fun a => have x := h.f6 (by simpa using a); ⟨by simp [x.1], by simp [x.2.1], by simp [x.2.2.1], x.2.2.2⟩, fun a => have x := h.f7 (by simpa using a); ⟨by simp [x.1], x.2⟩, fun a => have x := h.f8 (by simpa using a); ⟨by simp [x.1], x.2⟩⟩
    | 5, _ =>
      have hp : S 4 = true := hpre 4 (by rw [hwi _ rfl]; decide)
      have e26 : Act.eval { a with tmps := frS S vs 0 buildDs a.tmps } (.tmp 26) = .agg cs := (ev_done hn 4 26 rfl hp (Nat.lt_of_lt_of_le (by decide) hsz)).trans (hJ.f4 hp)
      refine dag_value _ (r_bs1 _ W o _ (hop _ rfl) cs e26 hcs) ?_
      have h := hJ.move (agree S vs 5 (.slice (some ⟨W.heap.size, 0, none⟩) 1 1) hS) (alloc_below W (.cells cs 102))
      exact ⟨h.bel, h.emp, fun a b => h.f0 (by simpa using a) (by simpa using b), fun a => h.f1 (by simpa using a), fun a => h.f2 (by simpa using a), fun a => h.f3 (by simpa using a), fun a => h.f4 (by simpa using a), fun _ => World.ownsRow_lit (size := 256) W cs 1 hbs (by decide) (by omega), fun a => have x := h.f6 (by simpa using a); ⟨by simp [x.1], by simp [x.2.1], by simp [x.2.2.1], x.2.2.2⟩, fun a => have x := h.f7 (by simpa using a); ⟨by simp [x.1], x.2⟩, fun a => have x := h.f8 (by simpa using a); ⟨by simp [x.1], x.2⟩⟩
    | 6, _ =>
      have hp2 : S 2 = true := hpre 2 (by rw [hwi _ rfl]; decide)
      have hp3 : S 3 = true := hpre 3 (by rw [hwi _ rfl]; decide)
      have hp5 : S 5 = true := hpre 5 (by rw [hwi _ rfl]; decide)
      have e24 : Act.eval { a with tmps := frS S vs 0 buildDs a.tmps } (.tmp 24) = vs 2 := ev_done hn 2 24 rfl hp2 (Nat.lt_of_lt_of_le (by decide) hsz)
      have e25 : Act.eval { a with tmps := frS S vs 0 buildDs a.tmps } (.tmp 25) = vs 3 := ev_done hn 3 25 rfl hp3 (Nat.lt_of_lt_of_le (by decide) hsz)
      have e27 : Act.eval { a with tmps := frS S vs 0 buildDs a.tmps } (.tmp 27) = vs 5 := ev_done hn 5 27 rfl hp5 (Nat.lt_of_lt_of_le (by decide) hsz)
      obtain ⟨A1, c1, g2⟩ := own_slice (hJ.f2 hp2)
      obtain ⟨m, g3, _, _⟩ := hJ.f3 hp3
      obtain ⟨A5, c5, g5⟩ := own_slice (hJ.f5 hp5)
      refine dag_value _ (r_build _ W o (hop _ rfl) A1 A5 _ c1 _ c5 (some m) (e24.trans g2) (e25.trans g3) (e27.trans g5)) ?_
      have h := hJ.move (agree S vs 6 (.agg #[.slice A1 vals.length c1, .map (some m), .slice A5 1 c5]) hS) (Below.refl _ W)
      exact ⟨h.bel, h.emp, fun a b => h.f0 (by simpa using a) (by simpa using b), fun a => h.f1 (by simpa using a), fun a => h.f2 (by simpa using a), fun a => h.f3 (by simpa using a), fun a => h.f4 (by simpa using a), fun a => h.f5 (by simpa using a), fun _ => ⟨by simpa using hp2, by simpa using hp3, by simpa using hp5, by simp [g2, g3, g5]⟩, fun a => have x := h.f7 (by simpa using a); ⟨by simp [x.1], x.2⟩, fun a => have x := h.f8 (by simpa using a); ⟨by simp [x.1], x.2⟩⟩
    | 7, _ =>
      have hp6 : S 6 = true := hpre 6 (by rw [hwi _ rfl]; decide)
      obtain ⟨hp2, hp3, hp5, g6⟩ := hJ.f6 hp6
      obtain ⟨A1, c1, g2⟩ := own_slice (hJ.f2 hp2)
      obtain ⟨m, g3, _, _⟩ := hJ.f3 hp3
      obtain ⟨A5, c5, g5⟩ := own_slice (hJ.f5 hp5)
      have e28 : Act.eval { a with tmps := frS S vs 0 buildDs a.tmps } (.tmp 28) = .agg #[.slice A1 vals.length c1, .map (some m), .slice A5 1 c5] := (ev_done hn 6 28 rfl hp6 (Nat.lt_of_lt_of_le (by decide) hsz)).trans (by rw [g6, g2, g3, g5])
      refine dag_value _ (r_box _ W o (hop _ rfl) A1 A5 _ c1 _ c5 (some m) e28) ?_
      have h := hJ.move (agree S vs 7 (.pointer (some ⟨W.heap.size, 0, none⟩)) hS) (alloc_below W (.cells #[.slice A1 vals.length c1, .map (some m), .slice A5 1 c5] 106))
      exact ⟨h.bel, h.emp, fun a b => h.f0 (by simpa using a) (by simpa using b), fun a => h.f1 (by simpa using a), fun a => h.f2 (by simpa using a), fun a => h.f3 (by simpa using a), fun a => h.f4 (by simpa using a), fun a => h.f5 (by simpa using a), fun a => have x := h.f6 (by simpa using a); ⟨by simp [x.1], by simp [x.2.1], by simp [x.2.2.1], x.2.2.2⟩, fun _ => ⟨by simpa using hp6, W.heap.size, rfl, hbs, by simp only [g2, g3, g5]; exact row_new W _⟩, fun a => have x := h.f8 (by simpa using a); ⟨by simp [x.1], x.2⟩⟩
    | 8, _ =>
      have hp7 : S 7 = true := hpre 7 (by rw [hwi _ rfl]; decide)
      have e29 : Act.eval { a with tmps := frS S vs 0 buildDs a.tmps } (.tmp 29) = vs 7 := ev_done hn 7 29 rfl hp7 (Nat.lt_of_lt_of_le (by decide) hsz)
      refine dag_value (vs 7) (by rw [← e29]; exact r_assign _ _ W o _ (hop _ rfl)) ?_
      have h := hJ.move (agree S vs 8 (vs 7) hS) (Below.refl _ W)
      exact ⟨h.bel, h.emp, fun a b => h.f0 (by simpa using a) (by simpa using b), fun a => h.f1 (by simpa using a), fun a => h.f2 (by simpa using a), fun a => h.f3 (by simpa using a), fun a => h.f4 (by simpa using a), fun a => h.f5 (by simpa using a), fun a => have x := h.f6 (by simpa using a); ⟨by simp [x.1], by simp [x.2.1], by simp [x.2.2.1], x.2.2.2⟩, fun a => have x := h.f7 (by simpa using a); ⟨by simp [x.1], x.2⟩, fun _ => ⟨by simpa using hp7, by simp⟩⟩
end Go.Proofs.YtmdkjljcnegmeaaDoor
