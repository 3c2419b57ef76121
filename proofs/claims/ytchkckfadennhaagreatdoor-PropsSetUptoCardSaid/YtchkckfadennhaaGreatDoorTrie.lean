/- A trie in two stages, in plain words: what filling a block's code points leaves. No program stands here. trie: shared, fill. trie: fill. trie: fill, a whole block that is new. trie: fill, a part of a block. trie: fill, a part of a block that others share. trie.Build. trie: at, Get; props: texts.or. -/
import Derived.Test.YtchkckfadennhaaGreatDoorLin
import Derived.Test.YtchkckfadennhaaGreatDoorDagM
import Derived.Great.BuildSlice
import Derived.Test.YtchkckfadennhaaGreatDoorBase
namespace Go.Proofs.YtchkckfadennhaaGreatDoor
open Go.RowKit
set_option linter.unusedVariables false
set_option linter.unusedSimpArgs false
theorem r_bs0 (ρ : Operand → Value) (W : World) (o : Oper) (ho : o.op = .buildSlice 25 0 #[]) : (execOp ρ o).run Tryz.prog W = .ok (.value (.slice (some ⟨W.heap.size, 0, none⟩) 0 0)) (W.alloc (.cells #[] 9)) := by
  unfold execOp
  rw [ho]
  go_simp
theorem r_move (P : Program) (ρ : Operand → Value) (W : World) (o : Oper) (x : Operand) (ho : o.op = .move x) : (execOp ρ o).run P W = .ok (.value (ρ x)) W := by
  unfold execOp
  rw [ho]
  go_simp
theorem r_assign (P : Program) (ρ : Operand → Value) (W : World) (o : Oper) (x : Operand) (ho : o.op = .assign x) : (execOp ρ o).run P W = .ok (.value (ρ x)) W := by
  unfold execOp
  rw [ho]
  go_simp
theorem r_makeMap (ρ : Operand → Value) (W : World) (o : Oper) (ho : o.op = .makeMap 92 none) : (execOp ρ o).run Tryz.prog W = .ok (.value (.map (some W.heap.size))) (W.alloc (.map #[] 0)) := by
  have hmm := @run_makeMap Tryz.prog
  unfold execOp
  rw [ho]
  go_simp
theorem foldl_set : ∀ (l : List Value) (k : Nat) (acc : Array Value) (i : Nat), ((l.zipIdx k).foldl (fun (acc : Array Value) (x : Value × Nat) => acc.setIfInBounds (0 + x.2) x.1) acc)[i]? = if k ≤ i ∧ i < k + l.length ∧ i < acc.size then l[i - k]? else acc[i]?
  | [], k, acc, i => by
    simp only [List.zipIdx_nil, List.foldl_nil, List.length_nil, Nat.add_zero]
    rw [if_neg (by omega)]
  | v :: l, k, acc, i => by
    rw [List.zipIdx_cons, List.foldl_cons, foldl_set l (k + 1)]
    simp only [Array.size_setIfInBounds, List.length_cons, Nat.zero_add, Array.getElem?_setIfInBounds]
    by_cases h1 : k + 1 ≤ i ∧ i < k + 1 + l.length ∧ i < acc.size
    · rw [if_pos h1, if_pos (by omega)]
      obtain ⟨m, hm⟩ : ∃ m, i - k = m + 1 := ⟨i - (k + 1), by omega⟩
      rw [hm, List.getElem?_cons_succ]
      congr 1
      omega
    · rw [if_neg h1]
      by_cases h2 : k = i
      · subst h2
        by_cases h3 : k < acc.size
        · rw [if_pos rfl, if_pos h3, if_pos (by omega), Nat.sub_self, List.getElem?_cons_zero]
        · rw [if_pos rfl, if_neg h3, if_neg (by omega)]
          simp; omega
      · rw [if_neg h2, if_neg (by omega)]
theorem fill_one (n : Nat) (init cs : Array Value) (h1 : cs.size = n) (h2 : init.size = n) : Instr.fill (fun i => some (i * n, n)) init [(0, .agg cs)] = some cs := by
  simp only [Instr.fill, Value.cells, h1, h2, Nat.zero_mul, Nat.zero_add, ne_eq, not_true_eq_false, gt_iff_lt, Nat.lt_irrefl, or_self, if_false, decide_false, Bool.or_self, Bool.false_eq_true]
  congr 1
  apply Array.ext_getElem?
  intro i
  have := foldl_set cs.toList 0 init i
  simp only [Nat.zero_add] at this
  rw [← Array.foldl_toList, Array.toList_zipIdx, this]
  simp only [Nat.zero_le, true_and, Array.length_toList, h1, h2, Nat.sub_zero, and_self, Array.getElem?_toList]
  split
  · rfl
  · rw [Array.getElem?_eq_none (by omega), Array.getElem?_eq_none (by omega)]
theorem cells_info : ∃ ie z, Tryz.prog.info? 98 = some ie ∧ ie.zero = some z ∧ ie.size = 256 := by
  have h : (Tryz.prog.info? 98).map (fun i => (i.zero.isSome, i.size)) = some (true, 256) := by kernel_rfl
  obtain ⟨ie, h1, h2⟩ := Option.map_eq_some_iff.1 h
  simp only [Prod.mk.injEq, Option.isSome_iff_exists] at h2
  obtain ⟨⟨z, hz⟩, h3⟩ := h2
  exact ⟨ie, z, h1, hz, h3⟩
theorem r_bs1 (ρ : Operand → Value) (W : World) (o : Oper) (x : Operand) (ho : o.op = .buildSlice 93 1 #[(0, x)]) (cs : Array Value) (h26 : ρ x = .agg cs) (hs : cs.size = 256) : (execOp ρ o).run Tryz.prog W = .ok (.value (.slice (some ⟨W.heap.size, 0, none⟩) 1 1)) (W.alloc (.cells cs 98)) := by
  obtain ⟨ie, z, h1, h2, h3⟩ := cells_info
  have hf : Instr.fill (fun i => some (i * ie.size, ie.size)) ((Array.range (1 * ie.size)).map (z.cells[· % z.cells.size]!)) #[(0, Value.agg cs)].toList = some cs := by
    rw [h3]
    exact fill_one 256 _ cs hs (by simp)
  have := run_buildSlice (P := Tryz.prog) W 93 98 1 #[(0, .agg cs)] cs ie z Tryz.underlying93 h1 h2 (by rw [h3]; decide) (by rw [h3]; decide) hf
  unfold execOp
  rw [ho]
  simp only [List.map_toArray, List.map_cons, List.map_nil, h26, this, Sem.run_bind, Sem.run_pure, Result.andThen_ok]
theorem r_build (ρ : Operand → Value) (W : World) (o : Oper) (ho : o.op = .build 95 #[(0, .tmp 24), (1, .tmp 25), (2, .tmp 27)]) (A B : Option Addr) (n c n' c' : Nat) (m : Option Nat) (h1 : ρ (.tmp 24) = .slice A n c) (h2 : ρ (.tmp 25) = .map m) (h3 : ρ (.tmp 27) = .slice B n' c') : (execOp ρ o).run Tryz.prog W = .ok (.value (.agg #[.slice A n c, .map m, .slice B n' c'])) W := by
  unfold execOp
  rw [ho]
  go_simp
theorem r_box (ρ : Operand → Value) (W : World) (o : Oper) (ho : o.op = .box 95 (.tmp 28)) (A B : Option Addr) (n c n' c' : Nat) (m : Option Nat) (h1 : ρ (.tmp 28) = .agg #[.slice A n c, .map m, .slice B n' c']) : (execOp ρ o).run Tryz.prog W = .ok (.value (.pointer (some ⟨W.heap.size, 0, none⟩))) (W.alloc (.cells #[.slice A n c, .map m, .slice B n' c'] 95)) := by
  unfold execOp
  rw [ho]
  go_simp

/-- Block b is these cells, of element type t, none frozen. -/
def Blk (w : World) (b : Nat) (t : TypeId) (cs : Array Value) : Prop := w.heap[b]? = some (.cells cs t)
theorem Blk.cell {w : World} {b : Nat} {t : TypeId} {cs : Array Value} (h : Blk w b t cs) (j : Nat) : w.cell? ⟨b, j, none⟩ = cs[j]? := (cells_of_row h).1 j
theorem Blk.free {w : World} {b : Nat} {t : TypeId} {cs : Array Value} (h : Blk w b t cs) (j : Nat) : w.frozen? ⟨b, j, none⟩ = false := (cells_of_row h).2 j
theorem Blk.set {w : World} {b : Nat} {t : TypeId} {cs : Array Value} (h : Blk w b t cs) (j : Nat) (u : Value) : Blk (w.setCell ⟨b, j, none⟩ u) b t (cs.setIfInBounds j u) := by
  unfold Blk World.setCell at *
  simp [Array.getElem?_modify, h]
theorem Blk.below {w w' : World} {b : Nat} {t : TypeId} {cs : Array Value} (h : Blk w b t cs) (hb : Below w.heap.size w w') : Blk w' b t cs := below_row hb h
theorem Blk.grown {w w' : World} {b : Nat} {t : TypeId} {cs : Array Value} {row : Option Nat} (h : Blk w b t cs) (hg : w.grownBy w' row) (hne : some b ≠ row) : Blk w' b t cs := grown_row hg h hne
def kInt : KK Tryz.prog 3 Int := KK.int Tryz.underlying3
/-- Which operations of Build's first great statement are done, and what they came to. -/
structure RJ (B : Nat) (w0 : World) (cs : Array Value) (vals : List Sp.Str) (v1 : Value) (S : Nat → Bool) (vs : Nat → Value) (W : World) : Prop where
  bel : Below B w0 W
  emp : Blk W B 98 cs
  f0 : S 0 = true → S 2 = false → ∃ k, vs 0 = .slice (some ⟨k, 0, none⟩) 0 0 ∧ W.ownsRow (B + 1) 9 1 (.slice (some ⟨k, 0, none⟩) 0 0) 0 []
  f1 : S 1 = true → vs 1 = v1
  f2 : S 2 = true → W.ownsRow (B + 1) 9 1 (vs 2) vals.length (strVs vals)
  f3 : S 3 = true → ∃ m, vs 3 = .map (some m) ∧ MapF W kInt m 0 (fun _ => none) ∧ B < m
  f4 : S 4 = true → vs 4 = .agg cs
  f5 : S 5 = true → W.ownsRow (B + 1) 98 256 (vs 5) 1 cs.toList
  f6 : S 6 = true → S 2 = true ∧ S 3 = true ∧ S 5 = true ∧ vs 6 = .agg #[vs 2, vs 3, vs 5]
  f7 : S 7 = true → S 6 = true ∧ ∃ p, vs 7 = .pointer (some ⟨p, 0, none⟩) ∧ B < p ∧ Blk W p 95 #[vs 2, vs 3, vs 5]
  f8 : S 8 = true → S 7 = true ∧ vs 8 = vs 7
theorem RJ.move {B : Nat} {w0 : World} {cs : Array Value} {vals : List Sp.Str} {v1 : Value} {S : Nat → Bool} {vs vs' : Nat → Value} {W W' : World} (h : RJ B w0 cs vals v1 S vs W) (hv : ∀ j, S j = true → vs' j = vs j) (hb : Below W.heap.size W W') :
    RJ B w0 cs vals v1 S vs' W' := by
  refine ⟨h.bel.trans (hb.mono (Nat.le_trans (Nat.le_of_lt (heap_lt h.emp)) (Nat.le_refl _))), h.emp.below hb, fun a b => ?_, fun a => ?_, fun a => ?_, fun a => ?_, fun a => ?_, fun a => ?_, fun a => ?_, fun a => ?_, fun a => ?_⟩
  · obtain ⟨k, e, ho⟩ := h.f0 a b
    exact ⟨k, by rw [hv 0 a]; exact e, own_below ho hb⟩
  · rw [hv 1 a]; exact h.f1 a
  · rw [hv 2 a]; exact own_below (h.f2 a) hb
  · obtain ⟨m, e, hm, hl⟩ := h.f3 a
    exact ⟨m, by rw [hv 3 a]; exact e, hm.below hb hm.lt, hl⟩
  · rw [hv 4 a]; exact h.f4 a
  · rw [hv 5 a]; exact own_below (h.f5 a) hb
  · obtain ⟨a2, a3, a5, e⟩ := h.f6 a
    exact ⟨a2, a3, a5, by rw [hv 6 a, hv 2 a2, hv 3 a3, hv 5 a5]; exact e⟩
  · obtain ⟨a6, p, e, hl, hp⟩ := h.f7 a
    obtain ⟨a2, a3, a5, _⟩ := h.f6 a6
    exact ⟨a6, p, by rw [hv 7 a]; exact e, hl, by rw [hv 2 a2, hv 3 a3, hv 5 a5]; exact hp.below hb⟩
  · obtain ⟨a7, e⟩ := h.f8 a
    exact ⟨a7, by rw [hv 8 a, hv 7 a7]; exact e⟩
theorem agree (S : Nat → Bool) (vs : Nat → Value) (i : Nat) (v : Value) (hS : S i = false) : ∀ j, S j = true → (fun j => if j = i then v else vs j) j = vs j := fun j hj => if_neg (fun e => by rw [e, hS] at hj; cases hj)
theorem alloc_below (W : World) (o : Obj) : Below W.heap.size W (W.alloc o) := (Below.refl _ _).alloc (Nat.le_refl _) _
theorem r_append {P : Program} (w : World) {t e : TypeId} {size bytes : Nat} (T : SlT P t e size bytes) (ρ : Operand → Value) (o : Oper) (s x : Operand)
    (ho : o.op = .call { callee := .builtin .append, args := #[s, x], argTypes := #[t, t] })
    (base : Nat) (v : Value) (n : Nat) (xs : List Value) (hs : ρ s = v) (hown : w.ownsRow base e size v n xs)
    (ad : Addr) (m c : Nat) (news : List Value) (hx : ρ x = .slice (some ad) m c) (hl : news.length = m * size) (hnews : ∀ j u, news[j]? = some u → w.cell? (ad.add j) = some u) (h1 : ∀ u ∈ news, u.oneCell' = true)
    (hbytes : (n + m) * bytes ≤ 140737488355328) (hbase : base ≤ w.heap.size) :
    ∃ v' w', (execOp ρ o).run P w = .ok (.value v') w' ∧ w'.ownsRow base e size v' (n + m) (xs ++ news) ∧ w.grownBy w' v.ownBlock ∧ (v'.ownBlock = v.ownBlock ∨ v'.ownBlock = some w.heap.size) := by
  obtain ⟨i, hi, hz⟩ := Option.map_eq_some_iff.1 T.hi
  simp only [Prod.mk.injEq] at hz
  obtain ⟨hz0, hz1, hz2⟩ := hz
  obtain ⟨z, hz, hzc⟩ := Option.map_eq_some_iff.1 hz0
  have hlen : n + m ≤ (n + m) * bytes := Nat.le_mul_of_pos_right _ T.posb
  obtain ⟨v', w', hr, h2, h3, h4, h5⟩ := run_append_own_at (P := P) w base t o.type e i z size bytes T.ht hi hz hz1 hz2 hzc T.pos v n xs hown ad m c news hl hnews h1 (by unfold maxLen; omega) hbytes hbase
  refine ⟨v', w', ?_, h2, h3, h5⟩
  unfold execOp
  simp only [ho, resolve, invoke, builtin, Sem.run_bind, Sem.run_pure, Result.andThen_ok, List.map_toArray, List.map_cons, List.map_nil, hs, hx, hr]
theorem run_loadVar_at {P : Program} (w : World) (ad : Addr) (ty : TypeId) (cs : Array Value) (hc : ∀ j u, cs.toList[j]? = some u → w.cell? (ad.add j) = some u) (d : TypeDesc)
    (hu : P.underlying ty = some d) (hd : (match d with | .struct _ | .array _ _ => true | _ => false) = true) (hi : (P.info? ty).map (·.size) = some cs.size) : (loadVar ty ad).run P w = .ok (.agg cs) w := by
  have hl : (loadCells ad cs.toList.length).run P w = .ok cs.toList.toArray w := run_loadCells_list (P := P) w ad cs.toList hc
  cases hq : P.info? ty with
  | none => simp [hq] at hi
  | some i =>
    have hs : i.size = cs.size := by simpa [hq] using hi
    have hagg : (isAgg ty).run P w = .ok true w := by
      unfold isAgg
      rw [Sem.run_bind, run_underlying hu w]
      cases d <;> simp_all
    simp only [Array.length_toList, Array.toArray_toList] at hl
    simp [loadVar, Sem.run_bind, hagg, sizeOf, typeInfo, hq, hs, hl]
theorem r_load_at {P : Program} (w : World) (ρ : Operand → Value) (o : Oper) (ty : TypeId) (x : Operand) (ho : o.op = .load ty x) (ad : Addr) (hx : ρ x = .pointer (some ad)) (cs : Array Value) (hc : ∀ j u, cs.toList[j]? = some u → w.cell? (ad.add j) = some u) (d : TypeDesc)
    (hu : P.underlying ty = some d) (hd : (match d with | .struct _ | .array _ _ => true | _ => false) = true) (hi : (P.info? ty).map (·.size) = some cs.size) : (execOp ρ o).run P w = .ok (.value (.agg cs)) w := by
  unfold execOp
  simp only [ho, hx, Instr.loadAt, Instr.sureAddr, Sem.run_bind, Sem.run_pure, Result.andThen_ok, run_loadVar_at w ad ty cs hc d hu hd hi]
theorem Blk.at_ {w : World} {b : Nat} {t : TypeId} {cs : Array Value} (h : Blk w b t cs) : ∀ j u, cs.toList[j]? = some u → w.cell? ((⟨b, 0, none⟩ : Addr).add j) = some u := fun j u hu => by
  rw [add_plain, Nat.zero_add, h.cell]
  simpa using hu

abbrev buildDs : List (Option Tmp) := [some 22, some 23, some 24, some 25, some 26, some 27, some 28, some 29, some 7]
/-- Build's first great statement. -/
theorem build_great (a : Act) (ops : Array Oper) (rid : Nat) (Q : Exit → Act → World → Prop) (w0 w : World) (cs : Array Value) (vals : List Sp.Str) (bv gv cv : Nat)
    (hops : ops.toList.map (·.op) = [.buildSlice 25 0 #[], .move (.tmp 1), .call { callee := .builtin .append, args := #[.tmp 22, .tmp 23], argTypes := #[25, 25] }, .makeMap 92 none, .load 98 (.tmp 5), .buildSlice 93 1 #[(0, .tmp 26)],
      .build 95 #[(0, .tmp 24), (1, .tmp 25), (2, .tmp 27)], .box 95 (.tmp 28), .assign (.tmp 29)])
    (hok : dagOk ops [some 22, some 23, some 24, some 25, some 26, some 27, some 28, some 29, some 7] = true)
    (hw : (List.range 9).map (waits ops) = [[], [], [0, 1], [], [], [4], [2, 3, 5], [6], [7, 2, 0, 1, 2, 3, 4, 5, 6, 7]])
    (hsz : 87 ≤ a.tmps.size) (h1 : a.tmps.getD 1 undef = .slice (some ⟨gv, 0, none⟩) vals.length cv) (h5 : a.tmps.getD 5 undef = .pointer (some ⟨w0.heap.size, 0, none⟩)) (hcs : cs.size = 256)
    (hB : Below w0.heap.size w0 w) (hE : Blk w w0.heap.size 98 cs) (hv : w0.ownsRow bv 9 1 (.slice (some ⟨gv, 0, none⟩) vals.length cv) vals.length (strVs vals)) (hvb : vals.length * 16 ≤ 140737488355328)
    (hend : ∀ vs W, RJ w0.heap.size w0 cs vals (.slice (some ⟨gv, 0, none⟩) vals.length cv) (fun j => decide (j < 9)) vs W → Q .normal { a with tmps := frS (fun j => decide (j < 9)) vs 0 [some 22, some 23, some 24, some 25, some 26, some 27, some 28, some 29, some 7] a.tmps } W) :
    (Code.region rid ops true).wp Tryz.prog Q a w := by
  have hn : ([some 22, some 23, some 24, some 25, some 26, some 27, some 28, some 29, some 7].filterMap (id : Option Nat → Option Nat)).Nodup := by decide
  have hlen9 : ops.size = 9 := by have := congrArg List.length hops; simpa using this
  rw [← hlen9] at hend
  refine wp_region_dag (by kernel_rfl) _ hok (RJ w0.heap.size w0 cs vals (.slice (some ⟨gv, 0, none⟩) vals.length cv)) ?_ ?_ hend
  · intro vs
    have hb : Below w.heap.size w { w with drawn := w.drawn + 1 } := ⟨rfl, rfl, rfl, Nat.le_refl _, fun _ _ => rfl⟩
    exact ⟨hB.trans (hb.mono hB.size), hE.below hb, (fun h => by cases h), (fun h => by cases h), (fun h => by cases h), (fun h => by cases h), (fun h => by cases h), (fun h => by cases h), (fun h => by cases h), (fun h => by cases h), (fun h => by cases h)⟩
  · intro i o ho S vs W hS hpre hJ
    have hlen : ops.size = 9 := by have := congrArg List.length hops; simpa using this
    have hi : i < 9 := by rw [← hlen]; exact (Array.getElem?_eq_some_iff.1 ho).1
    have hop : ∀ x, ([.buildSlice 25 0 #[], .move (.tmp 1), .call { callee := .builtin .append, args := #[.tmp 22, .tmp 23], argTypes := #[25, 25] }, .makeMap 92 none, .load 98 (.tmp 5), .buildSlice 93 1 #[(0, .tmp 26)],
      .build 95 #[(0, .tmp 24), (1, .tmp 25), (2, .tmp 27)], .box 95 (.tmp 28), .assign (.tmp 29)] : List Op)[i]? = some x → o.op = x := by
      intro x hx
      rw [← hops, List.getElem?_map, Array.getElem?_toList, ho] at hx
      simpa using hx
    have hwi : ∀ l, ([[], [], [0, 1], [], [], [4], [2, 3, 5], [6], [7, 2, 0, 1, 2, 3, 4, 5, 6, 7]] : List (List Nat))[i]? = some l → waits ops i = l := by
      intro l hl
      rw [← hw, List.getElem?_map, List.getElem?_range hi] at hl
      simpa using hl
    have hbs : w0.heap.size < W.heap.size := heap_lt hJ.emp
    match i, hi with
    | 0, _ =>
      refine dag_value _ (r_bs0 _ W o (hop _ rfl)) ?_
      have h := hJ.move (agree S vs 0 (.slice (some ⟨W.heap.size, 0, none⟩) 0 0) hS) (alloc_below W (.cells #[] 9))
      exact ⟨h.bel, h.emp, fun a b => ⟨_, rfl, World.ownsRow_lit (size := 1) W #[] 0 hbs (by decide) rfl⟩, fun a => h.f1 (by simpa using a), fun a => h.f2 (by simpa using a), fun a => h.f3 (by simpa using a), fun a => h.f4 (by simpa using a), fun a => h.f5 (by simpa using a), fun a => have x := h.f6 (by simpa using a); ⟨by simp [x.1], by simp [x.2.1], by simp [x.2.2.1], x.2.2.2⟩, fun a => have x := h.f7 (by simpa using a); ⟨by simp [x.1], x.2⟩, fun a => have x := h.f8 (by simpa using a); ⟨by simp [x.1], x.2⟩⟩
    | 1, _ =>
      have e : Act.eval { a with tmps := frS S vs 0 buildDs a.tmps } (.tmp 1) = .slice (some ⟨gv, 0, none⟩) vals.length cv := (ev_old (ds := buildDs) 1 (by decide)).trans h1
      refine dag_value (.slice (some ⟨gv, 0, none⟩) vals.length cv) (by rw [← e]; exact r_move _ _ W o _ (hop _ rfl)) ?_
      have h := hJ.move (agree S vs 1 (.slice (some ⟨gv, 0, none⟩) vals.length cv) hS) (Below.refl _ W)
      exact ⟨h.bel, h.emp, fun a b => h.f0 (by simpa using a) (by simpa using b), fun _ => rfl, fun a => h.f2 (by simpa using a), fun a => h.f3 (by simpa using a), fun a => h.f4 (by simpa using a), fun a => h.f5 (by simpa using a), fun a => have x := h.f6 (by simpa using a); ⟨by simp [x.1], by simp [x.2.1], by simp [x.2.2.1], x.2.2.2⟩, fun a => have x := h.f7 (by simpa using a); ⟨by simp [x.1], x.2⟩, fun a => have x := h.f8 (by simpa using a); ⟨by simp [x.1], x.2⟩⟩
    | 2, _ =>
      have hp0 : S 0 = true := hpre 0 (by rw [hwi _ rfl]; decide)
      have hp1 : S 1 = true := hpre 1 (by rw [hwi _ rfl]; decide)
      obtain ⟨k0, e0, ho0⟩ := hJ.f0 hp0 hS
      have e22 : Act.eval { a with tmps := frS S vs 0 buildDs a.tmps } (.tmp 22) = .slice (some ⟨k0, 0, none⟩) 0 0 := (ev_done hn 0 22 rfl hp0 (Nat.lt_of_lt_of_le (by decide) hsz)).trans e0
      have e23 : Act.eval { a with tmps := frS S vs 0 buildDs a.tmps } (.tmp 23) = .slice (some ⟨gv, 0, none⟩) vals.length cv := (ev_done hn 1 23 rfl hp1 (Nat.lt_of_lt_of_le (by decide) hsz)).trans (hJ.f1 hp1)
      have hvW := own_below hv hJ.bel
      obtain ⟨v', W', hr, hown', hg, hat⟩ := r_append W slStr _ o (.tmp 22) (.tmp 23) (hop _ rfl) (w0.heap.size + 1) _ 0 [] e22 ho0 ⟨gv, 0, none⟩ vals.length cv (strVs vals) e23 (by simp [strVs]) (fun j u hu => by rw [add_plain, Nat.zero_add]; exact own_cell hvW j u hu) (fun u hu => by obtain ⟨x, _, rfl⟩ := List.mem_map.1 hu; rfl) (by omega) hbs
      have hk0 := own_lt ho0 k0 rfl
      have hb' : Below w0.heap.size w0 W' := hJ.bel.grown hg hJ.bel.size (fun k hk => by simp [Value.ownBlock] at hk; omega)
      refine dag_value v' hr ?_
      have hv := agree S vs 2 v' hS
      refine ⟨hb', hJ.emp.grown hg (by simp [Value.ownBlock]; omega), fun a b => by simp at b, fun a => ?_, fun a => ?_, fun a => ?_, fun a => ?_, fun a => ?_, fun a => ?_, fun a => ?_, fun a => ?_⟩
      · exact hJ.f1 (by simpa using a)
      · simpa using hown'
      · obtain ⟨m, e, hm, hl⟩ := hJ.f3 (by simpa using a)
        refine ⟨m, e, hm.kept hg ?_, hl⟩
        intro e2
        obtain ⟨es, clock, h1⟩ := hm.isMap
        rcases ho0.2 with ⟨h2, _⟩ | ⟨g', cap', cur, he, _, hh, _⟩
        · simp at h2
        · simp [Value.ownBlock] at e2
          simp at he
          rw [← he.1, ← e2, h1] at hh
          cases hh
      · exact hJ.f4 (by simpa using a)
      · have h5 := hJ.f5 (by simpa using a)
        exact h5.kept hg (own_types h5 ho0 (by decide))
      · have := (hJ.f6 (by simpa using a)).1
        rw [hS] at this; cases this
      · have := (hJ.f6 (hJ.f7 (by simpa using a)).1).1
        rw [hS] at this; cases this
      · have := (hJ.f6 (hJ.f7 (hJ.f8 (by simpa using a)).1).1).1
        rw [hS] at this; cases this
    | 3, _ =>
      refine dag_value _ (r_makeMap _ W o (hop _ rfl)) ?_
      have h := hJ.move (agree S vs 3 (.map (some W.heap.size)) hS) (alloc_below W (.map #[] 0))
      exact ⟨h.bel, h.emp, fun a b => h.f0 (by simpa using a) (by simpa using b), fun a => h.f1 (by simpa using a), fun a => h.f2 (by simpa using a), fun _ => ⟨_, rfl, MapF.made W kInt, hbs⟩, fun a => h.f4 (by simpa using a), fun a => h.f5 (by simpa using a), fun a => have x := h.f6 (by simpa using a); ⟨by simp [x.1], by simp [x.2.1], by simp [x.2.2.1], x.2.2.2⟩, fun a => have x := h.f7 (by simpa using a); ⟨by simp [x.1], x.2⟩, fun a => have x := h.f8 (by simpa using a); ⟨by simp [x.1], x.2⟩⟩
    | 4, _ =>
      have e5 : Act.eval { a with tmps := frS S vs 0 buildDs a.tmps } (.tmp 5) = .pointer (some ⟨w0.heap.size, 0, none⟩) := (ev_old (ds := buildDs) 5 (by decide)).trans h5
      refine dag_value _ (r_load_at W _ o _ _ (hop _ rfl) _ e5 cs hJ.emp.at_ _ Tryz.underlying98 rfl (by rw [hcs]; kernel_rfl)) ?_
      have h := hJ.move (agree S vs 4 (.agg cs) hS) (Below.refl _ W)
      exact ⟨h.bel, h.emp, fun a b => h.f0 (by simpa using a) (by simpa using b), fun a => h.f1 (by simpa using a), fun a => h.f2 (by simpa using a), fun a => h.f3 (by simpa using a), fun _ => rfl, fun a => h.f5 (by simpa using a), fun a => have x := h.f6 (by simpa using a); ⟨by simp [x.1], by simp [x.2.1], by simp [x.2.2.1], x.2.2.2⟩, fun a => have x := h.f7 (by simpa using a); ⟨by simp [x.1], x.2⟩, fun a => have x := h.f8 (by simpa using a); ⟨by simp [x.1], x.2⟩⟩
    | 5, _ =>
      have hp : S 4 = true := hpre 4 (by rw [hwi _ rfl]; decide)
      have e26 : Act.eval { a with tmps := frS S vs 0 buildDs a.tmps } (.tmp 26) = .agg cs := (ev_done hn 4 26 rfl hp (Nat.lt_of_lt_of_le (by decide) hsz)).trans (hJ.f4 hp)
      refine dag_value _ (r_bs1 _ W o _ (hop _ rfl) cs e26 hcs) ?_
      have h := hJ.move (agree S vs 5 (.slice (some ⟨W.heap.size, 0, none⟩) 1 1) hS) (alloc_below W (.cells cs 98))
      exact ⟨h.bel, h.emp, fun a b => h.f0 (by simpa using a) (by simpa using b), fun a => h.f1 (by simpa using a), fun a => h.f2 (by simpa using a), fun a => h.f3 (by simpa using a), fun a => h.f4 (by simpa using a), fun _ => World.ownsRow_lit (size := 256) W cs 1 hbs (by decide) (by omega), fun a => have x := h.f6 (by simpa using a); ⟨by simp [x.1], by simp [x.2.1], by simp [x.2.2.1], x.2.2.2⟩, fun a => have x := h.f7 (by simpa using a); ⟨by simp [x.1], x.2⟩, fun a => have x := h.f8 (by simpa using a); ⟨by simp [x.1], x.2⟩⟩
    | 6, _ =>
      have hp2 : S 2 = true := hpre 2 (by rw [hwi _ rfl]; decide)
      have hp3 : S 3 = true := hpre 3 (by rw [hwi _ rfl]; decide)
      have hp5 : S 5 = true := hpre 5 (by rw [hwi _ rfl]; decide)
      have e24 : Act.eval { a with tmps := frS S vs 0 buildDs a.tmps } (.tmp 24) = vs 2 := ev_done hn 2 24 rfl hp2 (Nat.lt_of_lt_of_le (by decide) hsz)
      have e25 : Act.eval { a with tmps := frS S vs 0 buildDs a.tmps } (.tmp 25) = vs 3 := ev_done hn 3 25 rfl hp3 (Nat.lt_of_lt_of_le (by decide) hsz)
      have e27 : Act.eval { a with tmps := frS S vs 0 buildDs a.tmps } (.tmp 27) = vs 5 := ev_done hn 5 27 rfl hp5 (Nat.lt_of_lt_of_le (by decide) hsz)
      obtain ⟨A1, c1, g2⟩ := own_slice (hJ.f2 hp2)
      obtain ⟨m, g3, _, _⟩ := hJ.f3 hp3
      obtain ⟨A5, c5, g5⟩ := own_slice (hJ.f5 hp5)
      refine dag_value _ (r_build _ W o (hop _ rfl) A1 A5 _ c1 _ c5 (some m) (e24.trans g2) (e25.trans g3) (e27.trans g5)) ?_
      have h := hJ.move (agree S vs 6 (.agg #[.slice A1 vals.length c1, .map (some m), .slice A5 1 c5]) hS) (Below.refl _ W)
      exact ⟨h.bel, h.emp, fun a b => h.f0 (by simpa using a) (by simpa using b), fun a => h.f1 (by simpa using a), fun a => h.f2 (by simpa using a), fun a => h.f3 (by simpa using a), fun a => h.f4 (by simpa using a), fun a => h.f5 (by simpa using a), fun _ => ⟨by simpa using hp2, by simpa using hp3, by simpa using hp5, by simp [g2, g3, g5]⟩, fun a => have x := h.f7 (by simpa using a); ⟨by simp [x.1], x.2⟩, fun a => have x := h.f8 (by simpa using a); ⟨by simp [x.1], x.2⟩⟩
    | 7, _ =>
      have hp6 : S 6 = true := hpre 6 (by rw [hwi _ rfl]; decide)
      obtain ⟨hp2, hp3, hp5, g6⟩ := hJ.f6 hp6
      obtain ⟨A1, c1, g2⟩ := own_slice (hJ.f2 hp2)
      obtain ⟨m, g3, _, _⟩ := hJ.f3 hp3
      obtain ⟨A5, c5, g5⟩ := own_slice (hJ.f5 hp5)
      have e28 : Act.eval { a with tmps := frS S vs 0 buildDs a.tmps } (.tmp 28) = .agg #[.slice A1 vals.length c1, .map (some m), .slice A5 1 c5] := (ev_done hn 6 28 rfl hp6 (Nat.lt_of_lt_of_le (by decide) hsz)).trans (by rw [g6, g2, g3, g5])
      refine dag_value _ (r_box _ W o (hop _ rfl) A1 A5 _ c1 _ c5 (some m) e28) ?_
      have h := hJ.move (agree S vs 7 (.pointer (some ⟨W.heap.size, 0, none⟩)) hS) (alloc_below W (.cells #[.slice A1 vals.length c1, .map (some m), .slice A5 1 c5] 95))
      exact ⟨h.bel, h.emp, fun a b => h.f0 (by simpa using a) (by simpa using b), fun a => h.f1 (by simpa using a), fun a => h.f2 (by simpa using a), fun a => h.f3 (by simpa using a), fun a => h.f4 (by simpa using a), fun a => h.f5 (by simpa using a), fun a => have x := h.f6 (by simpa using a); ⟨by simp [x.1], by simp [x.2.1], by simp [x.2.2.1], x.2.2.2⟩, fun _ => ⟨by simpa using hp6, W.heap.size, rfl, hbs, by simp only [g2, g3, g5]; exact row_new W _⟩, fun a => have x := h.f8 (by simpa using a); ⟨by simp [x.1], x.2⟩⟩
    | 8, _ =>
      have hp7 : S 7 = true := hpre 7 (by rw [hwi _ rfl]; decide)
      have e29 : Act.eval { a with tmps := frS S vs 0 buildDs a.tmps } (.tmp 29) = vs 7 := ev_done hn 7 29 rfl hp7 (Nat.lt_of_lt_of_le (by decide) hsz)
      refine dag_value (vs 7) (by rw [← e29]; exact r_assign _ _ W o _ (hop _ rfl)) ?_
      have h := hJ.move (agree S vs 8 (vs 7) hS) (Below.refl _ W)
      exact ⟨h.bel, h.emp, fun a b => h.f0 (by simpa using a) (by simpa using b), fun a => h.f1 (by simpa using a), fun a => h.f2 (by simpa using a), fun a => h.f3 (by simpa using a), fun a => h.f4 (by simpa using a), fun a => h.f5 (by simpa using a), fun a => have x := h.f6 (by simpa using a); ⟨by simp [x.1], by simp [x.2.1], by simp [x.2.2.1], x.2.2.2⟩, fun a => have x := h.f7 (by simpa using a); ⟨by simp [x.1], x.2⟩, fun _ => ⟨by simpa using hp7, by simp⟩⟩
end Go.Proofs.YtchkckfadennhaaGreatDoor
namespace Go.Proofs.YtchkckfadennhaaGreatDoor
set_option linter.unusedVariables false

def rep (v : Int) : List Int := List.replicate 256 v
theorem rep_len (v : Int) : (rep v).length = 256 := List.length_replicate
theorem rep_get (v : Int) (j : Nat) (hj : j < 256) : (rep v).getD j 0 = v := by
  unfold rep
  rw [List.getD_eq_getElem?_getD, List.getElem?_replicate, if_pos hj]
  rfl
theorem rep_mem {v x : Int} (h : x ∈ rep v) : x = v := (List.mem_replicate.1 h).2
structure TS where
  first : Int → Option Int
  whole : Int → Option Int
  blocks : List (List Int)
namespace TS
def idx (t : TS) (b : Int) : Int := (t.first b).getD 0
def blk (t : TS) (k : Int) : List Int := t.blocks.getD k.toNat []
def cell (t : TS) (k : Int) (j : Nat) : Int := (t.blk k).getD j 0
def cur (t : TS) (r : Int) : Int := t.cell (t.idx (r / 256)) (r % 256).toNat
def shared (t : TS) (k : Int) : Bool := t.whole (t.cell k 0) == some k
structure Inv (t : TS) (nv : Nat) : Prop where
  pos : 0 < t.blocks.length
  len : ∀ c ∈ t.blocks, c.length = 256
  fst : ∀ b k, t.first b = some k → 0 ≤ k ∧ k < t.blocks.length
  who : ∀ v k, t.whole v = some k → 0 ≤ k ∧ k < t.blocks.length ∧ ∀ j, j < 256 → t.cell k j = v
  none0 : t.whole (-1) = some 0
  excl : ∀ b b', b ≠ b' → t.idx b = t.idx b' → t.shared (t.idx b) = true
  vals : ∀ c ∈ t.blocks, ∀ x ∈ c, -1 ≤ x ∧ x < nv
theorem Inv.idx_lt {t : TS} {nv : Nat} (h : t.Inv nv) (b : Int) : 0 ≤ t.idx b ∧ t.idx b < t.blocks.length := by
  unfold idx
  cases hb : t.first b with
  | none => have := h.pos; simp; omega
  | some k => exact h.fst b k hb
/-- The new block for b. -/
def setFirst (t : TS) (b k : Int) : TS := { t with first := fun x => if x = b then some k else t.first x }
def push (t : TS) (c : List Int) : TS := { t with blocks := t.blocks ++ [c] }
def setWhole (t : TS) (v k : Int) : TS := { t with whole := fun x => if x = v then some k else t.whole x }
/-- Block k has v from place i to below place j. -/
def setRange (t : TS) (k : Nat) (i j : Nat) (v : Int) : TS := { t with blocks := t.blocks.modify k fun c => c.mapIdx fun n x => if i ≤ n ∧ n < j then v else x }

theorem idx_setFirst (t : TS) (b k x : Int) : (t.setFirst b k).idx x = if x = b then k else t.idx x := by
  unfold idx setFirst
  simp only
  split <;> rfl
theorem blk_push (t : TS) (c : List Int) (k : Int) (hk : 0 ≤ k) : (t.push c).blk k = if k < t.blocks.length then t.blk k else if k = t.blocks.length then c else [] := by
  unfold blk push
  simp only [List.getD_eq_getElem?_getD, List.getElem?_append]
  split
  · rw [if_pos (by omega)]
  · rename_i h
    rw [if_neg (by omega)]
    split
    · rename_i h2
      have : k.toNat - t.blocks.length = 0 := by omega
      rw [this]; rfl
    · have : ∃ m, k.toNat - t.blocks.length = m + 1 := ⟨k.toNat - t.blocks.length - 1, by omega⟩
      obtain ⟨m, hm⟩ := this
      rw [hm]; rfl

/-- The whole block is known: b takes it. -/
theorem fillA {t : TS} {nv : Nat} (h : t.Inv nv) {b v k : Int} (hk : t.whole v = some k) :
    (t.setFirst b k).Inv nv ∧ ∀ r, (t.setFirst b k).cur r = if r / 256 = b then v else t.cur r := by
  obtain ⟨h1, h2, h3⟩ := h.who v k hk
  have hsh : t.shared k = true := by unfold shared; rw [h3 0 (by omega), hk]; simp
  refine ⟨⟨h.pos, h.len, fun x y hxy => ?_, h.who, h.none0, fun x y hne he => ?_, h.vals⟩, fun r => ?_⟩
  · unfold setFirst at hxy
    simp only at hxy
    split at hxy
    · cases hxy; exact ⟨h1, h2⟩
    · exact h.fst x y hxy
  · show t.shared _ = true
    rw [idx_setFirst, idx_setFirst] at he
    rw [idx_setFirst]
    by_cases hx : x = b
    · rw [if_pos hx]; exact hsh
    · rw [if_neg hx] at he ⊢
      by_cases hy : y = b
      · rw [if_pos hy] at he; rw [he]; exact hsh
      · rw [if_neg hy] at he; exact h.excl x y hne he
  · unfold cur
    rw [idx_setFirst]
    split
    · exact h3 _ (by omega)
    · rfl
/-- The whole block is new. -/
theorem fillB {t : TS} {nv : Nat} (h : t.Inv nv) {b v : Int} (hk : t.whole v = none) (hv : -1 ≤ v ∧ v < nv) :
    (((t.push (rep v)).setWhole v t.blocks.length).setFirst b t.blocks.length).Inv nv ∧ ∀ r, (((t.push (rep v)).setWhole v t.blocks.length).setFirst b t.blocks.length).cur r = if r / 256 = b then v else t.cur r := by
  have hcell : ∀ k j, 0 ≤ k → (((t.push (rep v)).setWhole v t.blocks.length).setFirst b t.blocks.length).cell k j = if k < t.blocks.length then t.cell k j else if k = t.blocks.length then (rep v).getD j 0 else 0 := by
    intro k j hk
    show ((t.push (rep v)).blk k).getD j 0 = _
    rw [blk_push t _ k hk]
    unfold cell
    split
    · rfl
    · split
      · rfl
      · rfl
  have hidx : ∀ x, (((t.push (rep v)).setWhole v t.blocks.length).setFirst b t.blocks.length).idx x = if x = b then (t.blocks.length : Int) else t.idx x := fun x => idx_setFirst _ _ _ _
  have hnew : ∀ j, j < 256 → (rep v).getD j 0 = v := fun j hj => rep_get v j hj
  have hsh : ∀ k : Int, 0 ≤ k → k < t.blocks.length → t.shared k = true → (((t.push (rep v)).setWhole v t.blocks.length).setFirst b t.blocks.length).shared k = true := by
    intro k hk0 hk1 hs
    unfold shared at hs ⊢
    rw [hcell k 0 hk0, if_pos hk1]
    show (if t.cell k 0 = v then some (t.blocks.length : Int) else t.whole (t.cell k 0)) == some k
    split
    · rename_i e
      rw [e, hk] at hs
      simp at hs
    · exact hs
  refine ⟨⟨by show 0 < (t.blocks ++ [_]).length; simp, fun c hc => ?_, fun x y hxy => ?_, fun x y hxy => ?_, ?_, fun x y hne he => ?_, fun c hc => ?_⟩, fun r => ?_⟩
  · rcases List.mem_append.1 hc with hc | hc
    · exact h.len c hc
    · rw [List.mem_singleton] at hc; subst hc; exact rep_len v
  · have hl : (((t.push (rep v)).setWhole v t.blocks.length).setFirst b t.blocks.length).blocks.length = t.blocks.length + 1 := by show (t.blocks ++ [_]).length = _; simp
    rw [hl]
    have hxy' : (if x = b then some (t.blocks.length : Int) else t.first x) = some y := hxy
    split at hxy'
    · cases hxy'; omega
    · have := h.fst x y hxy'; omega
  · have hl : (((t.push (rep v)).setWhole v t.blocks.length).setFirst b t.blocks.length).blocks.length = t.blocks.length + 1 := by show (t.blocks ++ [_]).length = _; simp
    rw [hl]
    have hxy' : (if x = v then some (t.blocks.length : Int) else t.whole x) = some y := hxy
    split at hxy'
    · rename_i e
      cases hxy'
      refine ⟨by omega, by omega, fun j hj => ?_⟩
      rw [hcell _ j (by omega), if_neg (by omega), if_pos rfl, hnew j hj, e]
    · obtain ⟨h1, h2, h3⟩ := h.who x y hxy'
      exact ⟨h1, by omega, fun j hj => by rw [hcell y j h1, if_pos h2]; exact h3 j hj⟩
  · show (if (-1 : Int) = v then some (t.blocks.length : Int) else t.whole (-1)) = some 0
    rw [if_neg (fun e => by rw [← e, h.none0] at hk; cases hk)]
    exact h.none0
  · rw [hidx, hidx] at he
    rw [hidx]
    have hx := h.idx_lt x
    have hy := h.idx_lt y
    by_cases e1 : x = b
    · rw [if_pos e1] at he
      have e2 : ¬ y = b := fun e => hne (e1.trans e.symm)
      rw [if_neg e2] at he
      omega
    · rw [if_neg e1] at he ⊢
      by_cases e2 : y = b
      · rw [if_pos e2] at he; omega
      · rw [if_neg e2] at he
        exact hsh _ hx.1 hx.2 (h.excl x y hne he)
  · rcases List.mem_append.1 hc with hc | hc
    · exact h.vals c hc
    · rw [List.mem_singleton] at hc; subst hc
      intro x hx
      rw [rep_mem hx]; exact hv
  · unfold cur
    rw [hidx]
    split
    · rw [hcell _ _ (by omega), if_neg (by omega), if_pos rfl]
      exact hnew _ (by omega)
    · have hx := h.idx_lt (r / 256)
      rw [hcell _ _ hx.1, if_pos hx.2]
/-- b's block is shared: b takes a copy, alone. -/
theorem fillC {t : TS} {nv : Nat} (h : t.Inv nv) {b : Int} (hs : t.shared (t.idx b) = true) :
    ((t.push (t.blk (t.idx b))).setFirst b t.blocks.length).Inv nv ∧ (∀ r, ((t.push (t.blk (t.idx b))).setFirst b t.blocks.length).cur r = t.cur r) ∧ ((t.push (t.blk (t.idx b))).setFirst b t.blocks.length).shared t.blocks.length = false := by
  have hb := h.idx_lt b
  have hcell : ∀ k j, 0 ≤ k → ((t.push (t.blk (t.idx b))).setFirst b t.blocks.length).cell k j = if k < t.blocks.length then t.cell k j else if k = t.blocks.length then t.cell (t.idx b) j else 0 := by
    intro k j hk
    show ((t.push (t.blk (t.idx b))).blk k).getD j 0 = _
    rw [blk_push t _ k hk]
    unfold cell
    split
    · rfl
    · split
      · rfl
      · rfl
  have hidx : ∀ x, ((t.push (t.blk (t.idx b))).setFirst b t.blocks.length).idx x = if x = b then (t.blocks.length : Int) else t.idx x := fun x => idx_setFirst _ _ _ _
  have hmem : t.blk (t.idx b) ∈ t.blocks := by
    unfold blk
    rw [List.getD_eq_getElem?_getD, List.getElem?_eq_getElem (by omega)]
    exact List.getElem_mem _
  have hsh : ∀ k : Int, 0 ≤ k → k < t.blocks.length → ((t.push (t.blk (t.idx b))).setFirst b t.blocks.length).shared k = t.shared k := by
    intro k hk0 hk1
    unfold shared
    rw [hcell k 0 hk0, if_pos hk1]
    rfl
  refine ⟨⟨by show 0 < (t.blocks ++ [_]).length; simp, fun c hc => ?_, fun x y hxy => ?_, fun x y hxy => ?_, h.none0, fun x y hne he => ?_, fun c hc => ?_⟩, fun r => ?_, ?_⟩
  · rcases List.mem_append.1 hc with hc | hc
    · exact h.len c hc
    · simp at hc; subst hc; exact h.len _ hmem
  · have hl : ((t.push (t.blk (t.idx b))).setFirst b t.blocks.length).blocks.length = t.blocks.length + 1 := by show (t.blocks ++ [_]).length = _; simp
    rw [hl]
    have hxy' : (if x = b then some (t.blocks.length : Int) else t.first x) = some y := hxy
    split at hxy'
    · cases hxy'; omega
    · have := h.fst x y hxy'; omega
  · have hl : ((t.push (t.blk (t.idx b))).setFirst b t.blocks.length).blocks.length = t.blocks.length + 1 := by show (t.blocks ++ [_]).length = _; simp
    rw [hl]
    obtain ⟨h1, h2, h3⟩ := h.who x y hxy
    exact ⟨h1, by omega, fun j hj => by rw [hcell y j h1, if_pos h2]; exact h3 j hj⟩
  · rw [hidx, hidx] at he
    rw [hidx]
    have hx := h.idx_lt x
    have hy := h.idx_lt y
    by_cases e1 : x = b
    · rw [if_pos e1] at he
      have e2 : ¬ y = b := fun e => hne (e1.trans e.symm)
      rw [if_neg e2] at he
      omega
    · rw [if_neg e1] at he ⊢
      by_cases e2 : y = b
      · rw [if_pos e2] at he; omega
      · rw [if_neg e2] at he
        rw [hsh _ hx.1 hx.2]
        exact h.excl x y hne he
  · rcases List.mem_append.1 hc with hc | hc
    · exact h.vals c hc
    · simp at hc; subst hc; exact h.vals _ hmem
  · unfold cur
    rw [hidx]
    split
    · rename_i e
      rw [hcell _ _ (by omega), if_neg (by omega), if_pos rfl, e]
    · have hx := h.idx_lt (r / 256)
      rw [hcell _ _ hx.1, if_pos hx.2]
  · unfold shared at hs ⊢
    rw [hcell _ _ (by omega), if_neg (by omega), if_pos rfl]
    show (t.whole (t.cell (t.idx b) 0) == some (t.blocks.length : Int)) = false
    rw [beq_iff_eq.1 hs]
    simp; omega
/-- b's block is b's alone: its places from i to below j turn. -/
theorem fillD {t : TS} {nv : Nat} (h : t.Inv nv) {b v : Int} {i j : Nat} (hs : t.shared (t.idx b) = false) (hv : -1 ≤ v ∧ v < nv) :
    (t.setRange (t.idx b).toNat i j v).Inv nv ∧ ∀ r, (t.setRange (t.idx b).toNat i j v).cur r = if r / 256 = b ∧ i ≤ (r % 256).toNat ∧ (r % 256).toNat < j then v else t.cur r := by
  have hb := h.idx_lt b
  have hlen : (t.setRange (t.idx b).toNat i j v).blocks.length = t.blocks.length := by unfold setRange; simp
  have hcell : ∀ (k : Int) (n : Nat), 0 ≤ k → k < t.blocks.length → n < 256 → (t.setRange (t.idx b).toNat i j v).cell k n = if k = t.idx b ∧ i ≤ n ∧ n < j then v else t.cell k n := by
    intro k n hk0 hk1 hn
    unfold cell blk setRange
    simp only [List.getD_eq_getElem?_getD, List.getElem?_modify, Option.map_eq_map]
    have hkt : t.blocks[k.toNat]? = some t.blocks[k.toNat] := List.getElem?_eq_getElem (by omega)
    have hl := h.len t.blocks[k.toNat] (List.getElem_mem _)
    rw [hkt]
    by_cases e : (t.idx b).toNat = k.toNat
    · have e' : k = t.idx b := by omega
      simp only [e, if_true, Option.map_some, Option.getD_some, List.getElem?_mapIdx]
      rw [List.getElem?_eq_getElem (by omega)]
      simp only [Option.map_some, Option.getD_some]
      by_cases c : i ≤ n ∧ n < j
      · rw [if_pos c, if_pos ⟨e', c⟩]
      · rw [if_neg c, if_neg (fun c' => c c'.2)]
    · have e' : ¬ k = t.idx b := fun e2 => e (by rw [e2])
      rw [if_neg (fun c => e' c.1)]
      simp [e]
  have hwho : ∀ x y, t.whole x = some y → y ≠ t.idx b := by
    intro x y hxy e
    obtain ⟨h1, h2, h3⟩ := h.who x y hxy
    unfold shared at hs
    rw [← e, h3 0 (by omega), hxy] at hs
    simp at hs
  have halone : ∀ x, t.idx x = t.idx b → x = b := by
    intro x hx
    by_cases e : x = b
    · exact e
    · have := h.excl x b e hx
      rw [hx, hs] at this
      cases this
  refine ⟨⟨by rw [hlen]; exact h.pos, fun c hc => ?_, fun x y hxy => by rw [hlen]; exact h.fst x y hxy, fun x y hxy => ?_, h.none0, fun x y hne he => ?_, fun c hc => ?_⟩, fun r => ?_⟩
  · unfold setRange at hc
    obtain ⟨n, hn⟩ := List.mem_iff_getElem?.1 hc
    rw [List.getElem?_modify] at hn
    obtain ⟨c0, hc0, he⟩ := Option.map_eq_some_iff.1 hn
    have := h.len c0 (List.mem_iff_getElem?.2 ⟨n, hc0⟩)
    split at he
    · rw [← he]; simpa using this
    · rw [← he]; exact this
  · obtain ⟨h1, h2, h3⟩ := h.who x y hxy
    refine ⟨h1, by rw [hlen]; exact h2, fun n hn => ?_⟩
    rw [hcell y n h1 h2 hn, if_neg (fun c => hwho x y hxy c.1)]
    exact h3 n hn
  · have he' : t.idx x = t.idx y := he
    have hx := h.idx_lt x
    have hxb : t.idx x ≠ t.idx b := fun e => by
      have e1 := halone x e
      have e2 := halone y (he'.symm.trans e)
      exact hne (e1.trans e2.symm)
    have := h.excl x y hne he'
    unfold shared at this ⊢
    show (t.whole ((t.setRange (t.idx b).toNat i j v).cell (t.idx x) 0) == some (t.idx x)) = true
    rw [hcell _ 0 hx.1 hx.2 (by omega), if_neg (fun c => hxb c.1)]
    exact this
  · intro x hx
    unfold setRange at hc
    obtain ⟨n, hn⟩ := List.mem_iff_getElem?.1 hc
    rw [List.getElem?_modify] at hn
    obtain ⟨c0, hc0, he⟩ := Option.map_eq_some_iff.1 hn
    have hv0 := h.vals c0 (List.mem_iff_getElem?.2 ⟨n, hc0⟩)
    split at he
    · rw [← he] at hx
      obtain ⟨m, hm, hm2⟩ := List.mem_mapIdx.1 hx
      split at hm2
      · rw [← hm2]; exact hv
      · rw [← hm2]; exact hv0 _ (List.getElem_mem _)
    · rw [← he] at hx; exact hv0 x hx
  · unfold cur
    have hx := h.idx_lt (r / 256)
    show (t.setRange (t.idx b).toNat i j v).cell (t.idx (r / 256)) (r % 256).toNat = _
    rw [hcell _ _ hx.1 hx.2 (by omega)]
    by_cases e : r / 256 = b
    · rw [e]
      by_cases c : i ≤ (r % 256).toNat ∧ (r % 256).toNat < j
      · rw [if_pos ⟨rfl, c⟩, if_pos ⟨rfl, c⟩]
      · rw [if_neg (fun c' => c c'.2), if_neg (fun c' => c c'.2)]
    · have : t.idx (r / 256) ≠ t.idx b := fun c => e (halone _ c)
      rw [if_neg (fun c' => this c'.1), if_neg (fun c' => e c'.1)]
def flat (bs : List (List Int)) : List Value := bs.flatMap fun c => c.map (Value.int .i32)
theorem flat_length : ∀ (bs : List (List Int)), (∀ c ∈ bs, c.length = 256) → (flat bs).length = bs.length * 256
  | [], _ => rfl
  | c :: bs, h => by
    unfold flat
    rw [List.flatMap_cons, List.length_append, List.length_map, h c (by simp)]
    have := flat_length bs (fun x hx => h x (by simp [hx]))
    unfold flat at this
    rw [this, List.length_cons]
    omega
theorem flat_append (bs cs : List (List Int)) : flat (bs ++ cs) = flat bs ++ flat cs := List.flatMap_append
theorem flat_one (c : List Int) : flat [c] = c.map (Value.int .i32) := by simp [flat]
theorem flat_get : ∀ (bs : List (List Int)), (∀ c ∈ bs, c.length = 256) → ∀ (k n : Nat), n < 256 → (flat bs)[k * 256 + n]? = (bs[k]?).bind fun c => (c[n]?).map (Value.int .i32)
  | [], _, k, n, _ => by simp [flat]
  | c :: bs, h, 0, n, hn => by
    have hc := h c (by simp)
    unfold flat
    rw [List.flatMap_cons, List.getElem?_append_left (by rw [List.length_map, hc]; omega)]
    simp
  | c :: bs, h, k + 1, n, hn => by
    have hc := h c (by simp)
    have ih := flat_get bs (fun x hx => h x (by simp [hx])) k n hn
    unfold flat at ih ⊢
    rw [List.flatMap_cons, List.getElem?_append_right (by rw [List.length_map, hc]; omega), List.length_map, hc, show (k + 1) * 256 + n - 256 = k * 256 + n by omega, ih]
    simp
theorem setRange_len (t : TS) (k i j : Nat) (v : Int) (h : ∀ c ∈ t.blocks, c.length = 256) : ∀ c ∈ (t.setRange k i j v).blocks, c.length = 256 := by
  intro c hc
  unfold setRange at hc
  obtain ⟨n, hn⟩ := List.mem_iff_getElem?.1 hc
  rw [List.getElem?_modify] at hn
  obtain ⟨c0, hc0, he⟩ := Option.map_eq_some_iff.1 hn
  have := h c0 (List.mem_iff_getElem?.2 ⟨n, hc0⟩)
  split at he
  · rw [← he]; simpa using this
  · rw [← he]; exact this
theorem setRange_blocks (t : TS) (k i j : Nat) (v : Int) : (t.setRange k i j v).blocks.length = t.blocks.length := by unfold setRange; simp
theorem setRange_none (t : TS) (k i : Nat) (v : Int) : (t.setRange k i i v).blocks = t.blocks := by
  unfold setRange
  apply List.ext_getElem?
  intro n
  rw [List.getElem?_modify]
  split
  · cases t.blocks[n]? with
    | none => rfl
    | some c =>
      simp only [Option.map_eq_map, Option.map_some, Option.some.injEq]
      apply List.ext_getElem?
      intro x
      rw [List.getElem?_mapIdx]
      have : ¬ (i ≤ x ∧ x < i) := by omega
      simp [this]
  · cases t.blocks[n]? <;> rfl
theorem flat_set (t : TS) (h : ∀ c ∈ t.blocks, c.length = 256) (k i n : Nat) (v : Int) (hk : k < t.blocks.length) (hi : i ≤ n) (hn : n < 256) :
    (flat (t.setRange k i n v).blocks).set (k * 256 + n) (.int .i32 v) = flat (t.setRange k i (n + 1) v).blocks := by
  have l1 := setRange_len t k i n v h
  have l2 := setRange_len t k i (n + 1) v h
  have f1 := flat_length _ l1
  have f2 := flat_length _ l2
  rw [setRange_blocks] at f1 f2
  apply List.ext_getElem?
  intro x
  by_cases hx : x < t.blocks.length * 256
  · obtain ⟨q, r, hr, rfl⟩ : ∃ q r, r < 256 ∧ x = q * 256 + r := ⟨x / 256, x % 256, Nat.mod_lt _ (by omega), by omega⟩
    have hq : q < t.blocks.length := by omega
    rw [List.getElem?_set, flat_get _ l2 q r hr]
    have hc := h t.blocks[q] (List.getElem_mem _)
    have e2 : (t.setRange k i (n + 1) v).blocks[q]? = some (if k = q then t.blocks[q].mapIdx (fun n' x => if i ≤ n' ∧ n' < n + 1 then v else x) else t.blocks[q]) := by
      unfold setRange
      simp only [List.getElem?_modify, List.getElem?_eq_getElem hq]
      split <;> rfl
    have e1 : (t.setRange k i n v).blocks[q]? = some (if k = q then t.blocks[q].mapIdx (fun n' x => if i ≤ n' ∧ n' < n then v else x) else t.blocks[q]) := by
      unfold setRange
      simp only [List.getElem?_modify, List.getElem?_eq_getElem hq]
      split <;> rfl
    rw [e2]
    by_cases e : k * 256 + n = q * 256 + r
    · obtain ⟨rfl, rfl⟩ : k = q ∧ n = r := by omega
      rw [if_pos rfl, if_pos (by omega)]
      simp only [if_true, Option.bind_some, List.getElem?_mapIdx]
      rw [List.getElem?_eq_getElem (by omega)]
      have : i ≤ n ∧ n < n + 1 := by omega
      simp [this]
    · rw [if_neg e, flat_get _ l1 q r hr, e1]
      by_cases hkq : k = q
      · subst hkq
        simp only [if_true, Option.bind_some, List.getElem?_mapIdx]
        have : (i ≤ r ∧ r < n) ↔ (i ≤ r ∧ r < n + 1) := by omega
        simp [this]
      · simp [hkq]
  · rw [List.getElem?_eq_none (by rw [List.length_set]; omega), List.getElem?_eq_none (by omega)]
end TS
end Go.Proofs.YtchkckfadennhaaGreatDoor
namespace Go.Proofs.YtchkckfadennhaaGreatDoor
open Go.RowKit
set_option linter.unusedVariables false
set_option linter.unusedSimpArgs false

def kI32 : KK Tryz.prog 21 Int := KK.int Tryz.underlying21
def intO (o : Option Int) : Option Value := o.map (Value.int .i64)
/-- A trie in memory while it is built. -/
structure TrieSt (w : World) (B p wm : Nat) (v0 : Value) (m : Nat) (v2 : Value) (vals : List Sp.Str) (t : TS) (c : Nat) : Prop where
  ptr : Blk w p 95 #[v0, .map (some m), v2]
  bp : B ≤ p
  hv0 : w.ownsRow B 9 1 v0 vals.length (strVs vals)
  hm : MapF w kInt m c (fun i => intO (t.first i))
  hwm : MapF w kI32 wm (c + 1) (fun i => intO (t.whole i))
  h2 : w.ownsRow B 98 256 v2 t.blocks.length (TS.flat t.blocks)
  bm : B ≤ m
  bwm : B ≤ wm
  ne : m ≠ wm
  cnt : t.blocks.length ≤ c + 1
  inv : t.Inv vals.length
theorem slCells : SlT Tryz.prog 93 98 256 1024 := ⟨Tryz.underlying93, by kernel_rfl, by decide, by decide⟩
theorem blk_map_ne {w : World} {p m : Nat} {t : TypeId} {cs : Array Value} {κ : Type} {k : TypeId} {K : KK Tryz.prog k κ} {n : Nat} {f : κ → Option Value} (h : Blk w p t cs) (hm : MapF w K m n f) : p ≠ m := by
  rintro rfl
  obtain ⟨es, cl, h1⟩ := hm.isMap
  rw [h] at h1
  cases h1
theorem row_map_ne {w : World} {base g cap n n' : Nat} {e : TypeId} {size m : Nat} {xs : List Value} {κ : Type} {k : TypeId} {K : KK Tryz.prog k κ} {f : κ → Option Value} (h : w.ownsRow base e size (.slice (some ⟨g, 0, none⟩) n cap) n xs) (hm : MapF w K m n' f) : g ≠ m := by
  rintro rfl
  obtain ⟨es, cl, h1⟩ := hm.isMap
  rcases h.2 with ⟨h2, _⟩ | ⟨g', cap', cur, he, _, hh, _⟩
  · simp at h2
  · simp at he
    rw [← he.1, h1] at hh
    cases hh
theorem row_blk_ne {w : World} {base g cap n p : Nat} {e t : TypeId} {size : Nat} {xs : List Value} {cs : Array Value} (h : w.ownsRow base e size (.slice (some ⟨g, 0, none⟩) n cap) n xs) (hp : Blk w p t cs) (hne : e ≠ t) : g ≠ p := by
  rintro rfl
  rcases h.2 with ⟨h2, _⟩ | ⟨g', cap', cur, he, _, hh, _⟩
  · simp at h2
  · simp at he
    have hp' : w.heap[g]? = some (.cells cs t) := hp
    rw [← he.1, hp'] at hh
    injection hh with hh
    injection hh with _ ht
    exact hne ht.symm
namespace TrieSt
variable {w : World} {B p wm : Nat} {v0 : Value} {m : Nat} {v2 : Value} {vals : List Sp.Str} {t : TS} {c : Nat}
theorem below {w' : World} (h : TrieSt w B p wm v0 m v2 vals t c) (hb : Below w.heap.size w w') : TrieSt w' B p wm v0 m v2 vals t c :=
  ⟨h.ptr.below hb, h.bp, own_below h.hv0 hb, h.hm.below hb h.hm.lt, h.hwm.below hb h.hwm.lt, own_below h.h2 hb, h.bm, h.bwm, h.ne, h.cnt, h.inv⟩
theorem form (h : TrieSt w B p wm v0 m v2 vals t c) : ∃ g cap, v2 = .slice (some ⟨g, 0, none⟩) t.blocks.length cap ∧ B ≤ g ∧ g < w.heap.size ∧ t.blocks.length ≤ cap ∧ cap ≤ maxLen := own_form h.h2 h.inv.pos
theorem cell {g cap : Nat} (h : TrieSt w B p wm v0 m (.slice (some ⟨g, 0, none⟩) t.blocks.length cap) vals t c) (k n : Nat) (hk : k < t.blocks.length) (hn : n < 256) : w.cell? ⟨g, k * 256 + n, none⟩ = some (.int .i32 (t.cell k n)) := by
  refine own_cell h.h2 _ _ ?_
  rw [TS.flat_get _ h.inv.len k n hn]
  have hc := h.inv.len t.blocks[k] (List.getElem_mem _)
  unfold TS.cell TS.blk
  simp only [Int.toNat_natCast, List.getD_eq_getElem?_getD]
  rw [List.getElem?_eq_getElem hk]
  simp only [Option.bind_some, Option.getD_some]
  rw [List.getElem?_eq_getElem (by omega)]
  rfl
end TrieSt
theorem zInt (w : World) : (zeroValue 3).run Tryz.prog w = .ok (.int .i64 0) w := by kernel_rfl
theorem wf_i32 {x : Int} (h1 : -2147483648 ≤ x) (h2 : x ≤ 2147483647) : (Lit.int .i32 x).wf = true := by go_wf
theorem wf_i64 {x : Int} (h1 : -9223372036854775808 ≤ x) (h2 : x ≤ 9223372036854775807) : (Lit.int .i64 x).wf = true := by go_wf

theorem look_whole (co : Bool) {w : World} {b n : Nat} {f : Int → Option Value} (h : MapF w kI32 b n f) (x : Int) (hx : (Lit.int .i32 x).wf = true) :
    (Instr.lookup 116 (.map (some b)) (.int .i32 x) co).run Tryz.prog w = .ok (if co then .tuple #[(f x).getD (.int .i64 0), .bool (f x).isSome] else (f x).getD (.int .i64 0)) w :=
  h.look co Tryz.underlying116 (zInt w) x hx
theorem look_first (co : Bool) {w : World} {b n : Nat} {f : Int → Option Value} (h : MapF w kInt b n f) (x : Int) (hx : (Lit.int .i64 x).wf = true) :
    (Instr.lookup 92 (.map (some b)) (.int .i64 x) co).run Tryz.prog w = .ok (if co then .tuple #[(f x).getD (.int .i64 0), .bool (f x).isSome] else (f x).getD (.int .i64 0)) w :=
  h.look co Tryz.underlying92 (zInt w) x hx
set_option maxRecDepth 100000 in
theorem shared_walk {w : World} {B p wm : Nat} {v0 : Value} {m : Nat} {v2 : Value} {vals : List Sp.Str} {t : TS} {c : Nat} (h : TrieSt w B p wm v0 m v2 vals t c) (k : Nat) (hk : k < t.blocks.length) (hv : vals.length ≤ 1000000) :
    Calls Tryz.prog 102 #[.pointer (some ⟨p, 0, none⟩), .map (some wm), .int .i64 k] w fun e w' => e = .returned (.bool (t.shared k)) ∧ w = w' := by
  obtain ⟨g, cap, rfl, hg, hgl, hc1, hc2⟩ := h.form
  unfold maxLen at hc2
  have c2 : w.cell? ⟨p, 2, none⟩ = some (.slice (some ⟨g, 0, none⟩) t.blocks.length cap) := h.ptr.cell 2
  have ck : w.cell? ⟨g, k * 256, none⟩ = some (.int .i32 (t.cell k 0)) := h.cell k 0 hk (by omega)
  have hmem : t.cell k 0 ∈ t.blocks[k] := by
    have hl := h.inv.len t.blocks[k] (List.getElem_mem _)
    unfold TS.cell TS.blk
    simp only [Int.toNat_natCast, List.getD_eq_getElem?_getD]
    rw [List.getElem?_eq_getElem hk]
    simp only [Option.getD_some]
    rw [List.getElem?_eq_getElem (by omega)]
    exact List.getElem_mem _
  have hx := h.inv.vals _ (List.getElem_mem _) _ hmem
  have hl := look_whole true h.hwm (t.cell k 0) (wf_i32 (by omega) (by omega))
  have hsh : t.shared k = (t.whole (t.cell k 0) == some (k : Int)) := rfl
  obtain ⟨x, hxx⟩ : ∃ x, x = t.cell k 0 := ⟨_, rfl⟩
  rw [← hxx] at ck hl hsh hx
  clear hmem hxx
  have hclen : t.blocks.length ≤ 9223372036854775807 := by omega
  cases hw : t.whole x with
  | none =>
    simp only [hw, intO, Option.map_none, Option.getD_none, Option.isSome_none, if_true] at hl
    rw [hw] at hsh
    have hs2 : t.shared k = false := by rw [hsh]; rfl
    have hfin := Lib.hid hs2
    clear hw hsh hs2 h
    go_enter Tryz.func102, Tryz.ntmps102
    go_wp2_with fail
    go_ret
    exact ⟨by rw [hfin.out]; rfl, rfl⟩
  | some y =>
    simp only [hw, intO, Option.map_some, Option.getD_some, Option.isSome_some, if_true] at hl
    rw [hw] at hsh
    have hs2 : t.shared k = (y == (k : Int)) := by
      rw [hsh]
      by_cases e : y = k
      · subst e; simp
      · rw [beq_eq_false_iff_ne.2 e, beq_eq_false_iff_ne.2 (fun e2 => e (Option.some.inj e2))]
    have hfin := Lib.hid hs2
    clear hw hsh hs2 h
    go_enter Tryz.func102, Tryz.ntmps102
    go_wp2_with fail
    go_ret
    exact ⟨by rw [hfin.out]; simp, rfl⟩
end Go.Proofs.YtchkckfadennhaaGreatDoor
namespace Go.Proofs.YtchkckfadennhaaGreatDoor
open Go.RowKit
set_option linter.unusedVariables false
set_option linter.unusedSimpArgs false

def FillSaid (w : World) (B p wm : Nat) (v0 : Value) (m : Nat) (vals : List Sp.Str) (t : TS) (c : Nat) (fr tt v : Int) (e : Ending) (w' : World) : Prop :=
  e = .returned (.tuple #[]) ∧ Below B w w' ∧ (∀ eb cs, Blk w eb 80 cs → Blk w' eb 80 cs) ∧ ∃ v2' t', TrieSt w' B p wm v0 m v2' vals t' (c + 1) ∧ ∀ r, t'.cur r = if fr ≤ r ∧ r ≤ tt then v else t.cur r
theorem blk_blk_ne {w : World} {p q : Nat} {t t' : TypeId} {cs cs' : Array Value} (h : Blk w p t cs) (h' : Blk w q t' cs') (hne : t ≠ t') : p ≠ q := by
  rintro rfl
  unfold Blk at h h'
  rw [h] at h'
  injection h' with h'
  injection h' with _ ht
  exact hne ht
theorem setF_first (t : TS) (b k : Int) : setF (fun i => intO (t.first i)) b (.int .i64 k) = fun i => intO ((t.setFirst b k).first i) := by
  funext i
  unfold setF TS.setFirst
  simp only
  split <;> rfl
theorem setF_whole (t : TS) (b k : Int) : setF (fun i => intO (t.whole i)) b (.int .i64 k) = fun i => intO ((t.setWhole b k).whole i) := by
  funext i
  unfold setF TS.setWhole
  simp only
  split <;> rfl

set_option maxRecDepth 100000 in
theorem fill_a {w : World} {B p wm : Nat} {v0 : Value} {m : Nat} {v2 : Value} {vals : List Sp.Str} {t : TS} {c : Nat} (h : TrieSt w B p wm v0 m v2 vals t c) (hc : c ≤ 10000000000) (hvl : vals.length ≤ 1000000) (b fr tt v k : Int) (hf : 0 ≤ fr) (ht : tt ≤ 1114111)
    (h255 : tt - fr = 255) (hb1 : fr / 256 = b) (hb2 : tt / 256 = b) (hv0 : 0 ≤ v) (hv1 : v < vals.length) (hk : t.whole v = some k) :
    Calls Tryz.prog 78 #[.pointer (some ⟨p, 0, none⟩), .map (some wm), .int .i64 b, .int .i64 fr, .int .i64 tt, .int .i32 v] w (FillSaid w B p wm v0 m vals t c fr tt v) := by
  obtain ⟨hi, hcur⟩ := TS.fillA h.inv (b := b) hk
  have hl := look_whole true h.hwm v (wf_i32 (by omega) (by omega))
  rw [hk] at hl
  simp only [intO, Option.map_some, Option.getD_some, Option.isSome_some, if_true] at hl
  have c1 : w.cell? ⟨p, 1, none⟩ = some (.map (some m)) := h.ptr.cell 1
  have he : (tt - fr == 255) = true := by rw [beq_iff_eq]; exact h255
  have hend : ∀ w', MapF w' kInt m (c + 1) (setF (fun i => intO (t.first i)) b (.int .i64 k)) → w.grownBy w' (some m) → FillSaid w B p wm v0 m vals t c fr tt v (.returned (.tuple #[])) w' := by
    intro w' h1 hg
    rw [setF_first] at h1
    obtain ⟨g, cap, e2, _⟩ := h.form
    have hne := blk_map_ne h.ptr h.hm
    have hmb := h.bm
    refine ⟨rfl, (Below.refl _ _).grown hg ?_ (fun k hk => by cases hk; exact h.bm), fun eb cs hE => hE.grown hg (by have := blk_map_ne hE h.hm; simpa using this), v2, t.setFirst b k, ⟨h.ptr.grown hg (by simpa using hne), h.bp, h.hv0.kept hg ?_, h1, ?_, h.h2.kept hg ?_, h.bm, h.bwm, h.ne, ?_, hi⟩, fun r => ?_⟩
    · have := h.hm.lt; omega
    · by_cases hz : vals.length = 0
      · omega
      · obtain ⟨g', cap', e3, _⟩ := own_form h.hv0 (by omega)
        have h3 := h.hv0
        rw [e3] at h3 ⊢
        have := row_map_ne h3 h.hm
        right; simpa [Value.ownBlock] using this
    · exact (h.hwm.kept hg (by simpa using (Ne.symm h.ne))).mono (by omega)
    · have h3 := h.h2
      rw [e2] at h3 ⊢
      have := row_map_ne h3 h.hm
      right; simpa [Value.ownBlock] using this
    · have := h.cnt; show t.blocks.length ≤ _; omega
    · rw [hcur r]
      by_cases e : r / 256 = b
      · rw [if_pos e, if_pos (by omega)]
      · rw [if_neg e, if_neg (by omega)]
  have Hend := Lib.hid hend
  have Hm := Lib.hid h.hm
  have hcm : c < maxLen := by unfold maxLen; omega
  have hbw : Hid (kInt.ok b) := wf_i64 (by omega) (by omega)
  clear hend hk hcur h hi
  go_enter Tryz.func78, Tryz.ntmps78
  go_wp2_with (at_mapUpdate; refine wp_mapUpdateF _ rfl _ _ _ 92 rfl kInt Tryz.underlying92 m c _ rfl Hm.out hcm b (.int .i64 k) rfl rfl hbw.out ?_; intro w1 hm1 hg1; have HM1 := Lib.hid hm1; have HG1 := Lib.hid hg1; clear hm1 hg1)
  exact ⟨rfl, _, results_none rfl _ _ _, Hend.out _ HM1.out HG1.out⟩
end Go.Proofs.YtchkckfadennhaaGreatDoor
namespace Go.Proofs.YtchkckfadennhaaGreatDoor
open Go.RowKit
set_option linter.unusedVariables false
set_option linter.unusedSimpArgs false
theorem r_nilCheck {P : Program} (ρ : Operand → Value) (W : World) (o : Oper) (x : Operand) (ho : o.op = .nilCheck x) (ad : Addr) (hx : ρ x = .pointer (some ad)) : (execOp ρ o).run P W = .ok (.value (.pointer (some ad))) W := by
  unfold execOp
  rw [ho]
  go_simp
theorem r_fieldTrie2 (ρ : Operand → Value) (W : World) (o : Oper) (x : Operand) (ho : o.op = .fieldAddr 95 x 2) (p : Nat) (hx : ρ x = .pointer (some ⟨p, 0, none⟩)) : (execOp ρ o).run Tryz.prog W = .ok (.value (.pointer (some ⟨p, 2, none⟩))) W := by
  unfold execOp
  rw [ho]
  go_simp
theorem r_loadCells (ρ : Operand → Value) (W : World) (o : Oper) (x : Operand) (ho : o.op = .load 93 x) (ad : Addr) (hx : ρ x = .pointer (some ad)) (A : Option Addr) (n c : Nat) (hc : W.cell? ad = some (.slice A n c)) : (execOp ρ o).run Tryz.prog W = .ok (.value (.slice A n c)) W := by
  unfold execOp
  rw [ho]
  go_simp
theorem r_storeCells (ρ : Operand → Value) (W : World) (o : Oper) (x y : Operand) (ho : o.op = .store 93 x y) (ad : Addr) (hx : ρ x = .pointer (some ad)) (A : Option Addr) (n c : Nat) (hy : ρ y = .slice A n c) (u : Value) (hc : W.cell? ad = some u) (hf : W.frozen? ad = false) : (execOp ρ o).run Tryz.prog W = .ok .skip (W.setCell ad (.slice A n c)) := by
  unfold execOp
  rw [ho]
  go_simp
theorem r_indexCells (ρ : Operand → Value) (W : World) (o : Oper) (x y : Operand) (ho : o.op = .indexAddr 93 x y) (g n c k : Nat) (hx : ρ x = .slice (some ⟨g, 0, none⟩) n c) (hy : ρ y = .int .i64 k) (hk : k < n) (hn : n ≤ 9223372036854775807) : (execOp ρ o).run Tryz.prog W = .ok (.value (.pointer (some ⟨g, k * 256, none⟩))) W := by
  unfold execOp
  rw [ho]
  go_simp

def needsOk (ops : Array Oper) (l : List (Nat × Nat)) : Bool := l.all fun p => (waits ops p.1).contains p.2
theorem needs_get {ops : Array Oper} {l : List (Nat × Nat)} (h : needsOk ops l = true) (i j : Nat) (hm : (i, j) ∈ l) : j ∈ waits ops i := by
  have := List.all_eq_true.1 h _ hm
  simpa using this
abbrev ds10 : List (Option Tmp) := [some 42, some 43, some 44, some 45, some 46, some 47, some 48, some 49, some 50, some 51, none]
abbrev needs10 : List (Nat × Nat) := [(2, 1), (3, 2), (4, 3), (6, 5), (7, 4), (7, 6), (8, 0), (9, 8), (10, 9), (10, 7)]
abbrev ops10 : List Op := [.move (.tmp 0), .move (.tmp 0), .nilCheck (.tmp 43), .fieldAddr 95 (.tmp 44) 2, .load 93 (.tmp 45), .load 98 (.tmp 14), .buildSlice 93 1 #[(0, .tmp 47)],
  .call { callee := .builtin .append, args := #[.tmp 46, .tmp 48], argTypes := #[93, 93] }, .nilCheck (.tmp 42), .fieldAddr 95 (.tmp 50) 2, .store 93 (.tmp 51) (.tmp 49)]
/-- t.blocks = append(t.blocks, c), c a block of its own. -/
theorem fill_great10 (a : Act) (ops : Array Oper) (rid : Nat) (Q : Exit → Act → World → Prop) (w : World) (p bc base n : Nat) (cs : Array Value) (v0 : Value) (m : Nat) (g cap : Nat) (xs : List Value)
    (hops : ops.toList.map (·.op) = ops10) (hok : dagOk ops ds10 = true) (hcn : chainOk ops [6, 7, 10] = true) (hnd : needsOk ops needs10 = true) (hsz : 52 ≤ a.tmps.size)
    (h0 : a.tmps.getD 0 undef = .pointer (some ⟨p, 0, none⟩)) (h14 : a.tmps.getD 14 undef = .pointer (some ⟨bc, 0, none⟩)) (hcs : cs.size = 256) (h1 : ∀ u ∈ cs.toList, u.oneCell' = true)
    (hp : Blk w p 95 #[v0, .map (some m), .slice (some ⟨g, 0, none⟩) n cap]) (hc : Blk w bc 98 cs) (hr : w.ownsRow base 98 256 (.slice (some ⟨g, 0, none⟩) n cap) n xs) (hb : base ≤ w.heap.size) (hn : (n + 1) * 1024 ≤ 140737488355328)
    (hend : ∀ v' w' V, w'.ownsRow base 98 256 v' (n + 1) (xs ++ cs.toList) → Blk w' p 95 #[v0, .map (some m), v'] → (∀ B, B ≤ p → B ≤ g → B ≤ w.heap.size → Below B w w') → (∀ i, i < w.heap.size → i ≠ g → i ≠ p → w'.heap[i]? = w.heap[i]?) →
      Q .normal { a with tmps := frS (fun j => decide (j < 11)) V 0 ds10 a.tmps } w') :
    (Code.region rid ops true).wp Tryz.prog Q a w := by
  have hlen : ops.size = 11 := by have := congrArg List.length hops; simpa using this
  rw [← hlen] at hend
  have hgp : g ≠ p := row_blk_ne hr hp (by decide)
  have hgl := (own_lt hr g rfl).2
  have hpl := heap_lt hp
  obtain ⟨W0, hW0⟩ : ∃ W0 : World, W0 = { w with drawn := w.drawn + 1 } := ⟨_, rfl⟩
  have hb0 : Below w.heap.size w W0 := by subst hW0; exact ⟨rfl, rfl, rfl, Nat.le_refl _, fun _ _ => rfl⟩
  have hs0 : W0.heap = w.heap := by subst hW0; rfl
  obtain ⟨W1, hW1⟩ : ∃ W1, W1 = W0.alloc (.cells cs 98) := ⟨_, rfl⟩
  have hb1 : Below W0.heap.size W0 W1 := by subst hW1; exact alloc_below _ _
  have hp0 := hp.below hb0
  have hp1 := hp0.below hb1
  have hc0 := hc.below hb0
  have hr1 := own_below (own_below hr hb0) hb1
  have hnew : Blk W1 W0.heap.size 98 cs := by subst hW1; exact row_new _ _
  have hbs : base ≤ W1.heap.size := by rw [hW1, size_new, hs0]; omega
  have hop7 : (ops[7]'(by omega)).op = .call { callee := .builtin .append, args := #[.tmp 46, .tmp 48], argTypes := #[93, 93] } := by
    have := congrArg (fun l => l[7]?) hops
    simp only [List.getElem?_map, Array.getElem?_toList] at this
    rw [Array.getElem?_eq_getElem (by omega)] at this
    exact Option.some.inj this
  obtain ⟨v', W2, hrun, hown2, hg2, hat⟩ := r_append W1 slCells (fun x => match x with | .tmp 46 => .slice (some ⟨g, 0, none⟩) n cap | _ => .slice (some ⟨W0.heap.size, 0, none⟩) 1 1) (ops[7]'(by omega))
    (.tmp 46) (.tmp 48) hop7 base _ n xs rfl hr1 ⟨W0.heap.size, 0, none⟩ 1 1 cs.toList rfl (by simpa using hcs) hnew.at_ h1 hn hbs
  obtain ⟨A2, c2, rfl⟩ := own_slice hown2
  have hp2 : Blk W2 p 95 #[v0, .map (some m), .slice (some ⟨g, 0, none⟩) n cap] := hp1.grown hg2 (by simpa [Value.ownBlock] using Ne.symm hgp)
  have hp3 := hp2.set 2 (.slice A2 (n + 1) c2)
  have hown3 : (W2.setCell ⟨p, 2, none⟩ (.slice A2 (n + 1) c2)).ownsRow base 98 256 (.slice A2 (n + 1) c2) (n + 1) (xs ++ cs.toList) := by
    refine hown2.kept (row := some p) ⟨rfl, rfl, rfl, by simp [World.setCell], fun k _ hk => Below.heap_setCell _ _ _ _ (fun e => hk (by rw [e]))⟩ ?_
    obtain ⟨g2, cap2, e2, _⟩ := own_form hown2 (by omega)
    rw [e2] at hown2 ⊢
    have := row_blk_ne hown2 hp2 (by decide)
    right; simpa [Value.ownBlock] using this
  refine wp_region_chain (by kernel_rfl) ds10 hok [6, 7, 10] hcn
    (fun j => match j with | 0 => .pointer (some ⟨p, 0, none⟩) | 1 => .pointer (some ⟨p, 0, none⟩) | 2 => .pointer (some ⟨p, 0, none⟩) | 3 => .pointer (some ⟨p, 2, none⟩) | 4 => .slice (some ⟨g, 0, none⟩) n cap | 5 => .agg cs | 6 => .slice (some ⟨W0.heap.size, 0, none⟩) 1 1 | 7 => .slice A2 (n + 1) c2 | 8 => .pointer (some ⟨p, 0, none⟩) | 9 => .pointer (some ⟨p, 2, none⟩) | _ => undef)
    (fun k => match k with | 0 => W0 | 1 => W1 | 2 => W2 | _ => W2.setCell ⟨p, 2, none⟩ (.slice A2 (n + 1) c2)) hW0 ?_ (hend _ _ _ hown3 hp3 ?_ ?_)
  · intro i o ho ρ hρ hold _ _ _
    have hi : i < 11 := by rw [← hlen]; exact (Array.getElem?_eq_some_iff.1 ho).1
    have hop : ∀ x, ops10[i]? = some x → o.op = x := by
      intro x hx
      rw [← hops, List.getElem?_map, Array.getElem?_toList, ho] at hx
      simpa using hx
    have e0 : ρ (.tmp 0) = .pointer (some ⟨p, 0, none⟩) := (hold 0 (by decide)).trans h0
    have hlt : ∀ t, t < 52 → t < a.tmps.size := fun t ht => by omega
    match i, hi with
    | 0, _ => intro k _ _ _; exact .inl (by rw [← e0]; exact r_move _ _ _ o _ (hop _ rfl))
    | 1, _ => intro k _ _ _; exact .inl (by rw [← e0]; exact r_move _ _ _ o _ (hop _ rfl))
    | 2, _ => intro k _ _ _; exact .inl (r_nilCheck _ _ o _ (hop _ rfl) _ (hρ 1 (needs_get hnd 2 1 (by decide)) 43 rfl (hlt _ (by decide))))
    | 3, _ => intro k _ _ _; exact .inl (r_fieldTrie2 _ _ o _ (hop _ rfl) p (hρ 2 (needs_get hnd 3 2 (by decide)) 44 rfl (hlt _ (by decide))))
    | 4, _ =>
      intro k _ _ hk
      have h2 := hk 7 1 (needs_get hnd 7 4 (by decide)) rfl
      match k, h2 with
      | 0, _ => exact .inl (r_loadCells _ _ o _ (hop _ rfl) ⟨p, 2, none⟩ (hρ 3 (needs_get hnd 4 3 (by decide)) 45 rfl (hlt _ (by decide))) _ _ _ (hp0.cell 2))
      | 1, _ => exact .inl (r_loadCells _ _ o _ (hop _ rfl) ⟨p, 2, none⟩ (hρ 3 (needs_get hnd 4 3 (by decide)) 45 rfl (hlt _ (by decide))) _ _ _ (hp1.cell 2))
    | 5, _ =>
      intro k _ _ hk
      have h2 := hk 6 0 (needs_get hnd 6 5 (by decide)) rfl
      obtain rfl : k = 0 := by omega
      exact .inl (r_load_at _ _ o _ _ (hop _ rfl) _ ((hold 14 (by decide)).trans h14) cs hc0.at_ _ Tryz.underlying98 rfl (by rw [hcs]; kernel_rfl))
    | 6, _ =>
      refine .inl ?_
      show _ = Result.ok _ W1
      rw [hW1]
      exact r_bs1 _ _ o _ (hop _ rfl) cs (hρ 5 (needs_get hnd 6 5 (by decide)) 47 rfl (hlt _ (by decide))) hcs
    | 7, _ =>
      refine .inl ?_
      have e1 := hρ 4 (needs_get hnd 7 4 (by decide)) 46 rfl (hlt _ (by decide))
      have e2 := hρ 6 (needs_get hnd 7 6 (by decide)) 48 rfl (hlt _ (by decide))
      have e3 : o = ops[7]'(by omega) := by
        rw [Array.getElem?_eq_getElem (by omega)] at ho
        exact (Option.some.inj ho).symm
      show (execOp ρ o).run Tryz.prog W1 = .ok (.value (.slice A2 (n + 1) c2)) W2
      rw [← hrun, e3]
      congr 1
      unfold execOp
      rw [hop7]
      simp only [resolve, List.map_toArray, List.map_cons, List.map_nil, e1, e2]
    | 8, _ => intro k _ _ _; exact .inl (r_nilCheck _ _ o _ (hop _ rfl) _ (hρ 0 (needs_get hnd 8 0 (by decide)) 42 rfl (hlt _ (by decide))))
    | 9, _ => intro k _ _ _; exact .inl (r_fieldTrie2 _ _ o _ (hop _ rfl) p (hρ 8 (needs_get hnd 9 8 (by decide)) 50 rfl (hlt _ (by decide))))
    | 10, _ => exact .inr ⟨r_storeCells _ _ o _ _ (hop _ rfl) ⟨p, 2, none⟩ (hρ 9 (needs_get hnd 10 9 (by decide)) 51 rfl (hlt _ (by decide))) A2 (n + 1) c2 (hρ 7 (needs_get hnd 10 7 (by decide)) 49 rfl (hlt _ (by decide))) _ (hp2.cell 2) (hp2.free 2), rfl⟩
  · intro B h1 h2 h3
    have b1 : Below B w W1 := (hb0.mono h3).trans (hb1.mono (by rw [hs0]; exact h3))
    have b2 : Below B w W2 := b1.grown hg2 (by rw [hW1, size_new, hs0]; omega) (fun k hk => by simp [Value.ownBlock] at hk; omega)
    exact b2.setCell h1 _
  · intro i hi h1 h2
    show (W2.setCell ⟨p, 2, none⟩ (.slice A2 (n + 1) c2)).heap[i]? = _
    rw [Below.heap_setCell _ _ _ _ h2, hg2.block i (by rw [hW1, size_new, hs0]; omega) (by simpa [Value.ownBlock] using h1), hb1.block i (by rw [hs0]; exact hi), hs0]

abbrev ds15 : List (Option Tmp) := [some 71, some 72, some 73, some 74, some 75, some 76, some 77, some 78, some 79, some 80, some 81, some 82, some 83, some 84, some 85, some 86, none]
abbrev needs15 : List (Nat × Nat) := [(2, 1), (3, 2), (4, 3), (6, 5), (7, 6), (8, 7), (10, 8), (10, 9), (11, 10), (12, 11), (13, 4), (13, 12), (14, 0), (15, 14), (16, 15), (16, 13), (16, 8)]
abbrev ops15 : List Op := [.move (.tmp 0), .move (.tmp 0), .nilCheck (.tmp 72), .fieldAddr 95 (.tmp 73) 2, .load 93 (.tmp 74), .move (.tmp 0), .nilCheck (.tmp 76), .fieldAddr 95 (.tmp 77) 2, .load 93 (.tmp 78),
  .move (.tmp 16), .indexAddr 93 (.tmp 79) (.tmp 80), .load 98 (.tmp 81), .buildSlice 93 1 #[(0, .tmp 82)],
  .call { callee := .builtin .append, args := #[.tmp 75, .tmp 83], argTypes := #[93, 93] }, .nilCheck (.tmp 71), .fieldAddr 95 (.tmp 85) 2, .store 93 (.tmp 86) (.tmp 84)]
/-- t.blocks = append(t.blocks, c), c a block of t.blocks. -/
theorem fill_great15 (a : Act) (ops : Array Oper) (rid : Nat) (Q : Exit → Act → World → Prop) (w : World) (p k base n : Nat) (cs : Array Value) (v0 : Value) (m : Nat) (g cap : Nat) (xs : List Value)
    (hops : ops.toList.map (·.op) = ops15) (hok : dagOk ops ds15 = true) (hcn : chainOk ops [12, 13, 16] = true) (hnd : needsOk ops needs15 = true) (hsz : 87 ≤ a.tmps.size)
    (h0 : a.tmps.getD 0 undef = .pointer (some ⟨p, 0, none⟩)) (h16 : a.tmps.getD 16 undef = .int .i64 k) (hk : k < n) (hcs : cs.size = 256) (h1 : ∀ u ∈ cs.toList, u.oneCell' = true)
    (hp : Blk w p 95 #[v0, .map (some m), .slice (some ⟨g, 0, none⟩) n cap]) (hc : ∀ j u, cs.toList[j]? = some u → xs[k * 256 + j]? = some u) (hr : w.ownsRow base 98 256 (.slice (some ⟨g, 0, none⟩) n cap) n xs) (hb : base ≤ w.heap.size) (hn : (n + 1) * 1024 ≤ 140737488355328)
    (hend : ∀ v' w' V, w'.ownsRow base 98 256 v' (n + 1) (xs ++ cs.toList) → Blk w' p 95 #[v0, .map (some m), v'] → (∀ B, B ≤ p → B ≤ g → B ≤ w.heap.size → Below B w w') → (∀ i, i < w.heap.size → i ≠ g → i ≠ p → w'.heap[i]? = w.heap[i]?) →
      Q .normal { a with tmps := frS (fun j => decide (j < 17)) V 0 ds15 a.tmps } w') :
    (Code.region rid ops true).wp Tryz.prog Q a w := by
  have hlen : ops.size = 17 := by have := congrArg List.length hops; simpa using this
  rw [← hlen] at hend
  have hgp : g ≠ p := row_blk_ne hr hp (by decide)
  have hgl := (own_lt hr g rfl).2
  have hpl := heap_lt hp
  obtain ⟨W0, hW0⟩ : ∃ W0 : World, W0 = { w with drawn := w.drawn + 1 } := ⟨_, rfl⟩
  have hb0 : Below w.heap.size w W0 := by subst hW0; exact ⟨rfl, rfl, rfl, Nat.le_refl _, fun _ _ => rfl⟩
  have hs0 : W0.heap = w.heap := by subst hW0; rfl
  obtain ⟨W1, hW1⟩ : ∃ W1, W1 = W0.alloc (.cells cs 98) := ⟨_, rfl⟩
  have hb1 : Below W0.heap.size W0 W1 := by subst hW1; exact alloc_below _ _
  have hp0 := hp.below hb0
  have hp1 := hp0.below hb1
  have hr0 := own_below hr hb0
  have hc0 : ∀ j u, cs.toList[j]? = some u → W0.cell? ((⟨g, k * 256, none⟩ : Addr).add j) = some u := fun j u hu => by rw [add_plain]; exact own_cell hr0 _ u (hc j u hu)
  have hnm : n ≤ 9223372036854775807 := by omega
  have hr1 := own_below (own_below hr hb0) hb1
  have hnew : Blk W1 W0.heap.size 98 cs := by subst hW1; exact row_new _ _
  have hbs : base ≤ W1.heap.size := by rw [hW1, size_new, hs0]; omega
  have hop7 : (ops[13]'(by omega)).op = .call { callee := .builtin .append, args := #[.tmp 75, .tmp 83], argTypes := #[93, 93] } := by
    have := congrArg (fun l => l[13]?) hops
    simp only [List.getElem?_map, Array.getElem?_toList] at this
    rw [Array.getElem?_eq_getElem (by omega)] at this
    exact Option.some.inj this
  obtain ⟨v', W2, hrun, hown2, hg2, hat⟩ := r_append W1 slCells (fun x => match x with | .tmp 75 => .slice (some ⟨g, 0, none⟩) n cap | _ => .slice (some ⟨W0.heap.size, 0, none⟩) 1 1) (ops[13]'(by omega))
    (.tmp 75) (.tmp 83) hop7 base _ n xs rfl hr1 ⟨W0.heap.size, 0, none⟩ 1 1 cs.toList rfl (by simpa using hcs) hnew.at_ h1 hn hbs
  obtain ⟨A2, c2, rfl⟩ := own_slice hown2
  have hp2 : Blk W2 p 95 #[v0, .map (some m), .slice (some ⟨g, 0, none⟩) n cap] := hp1.grown hg2 (by simpa [Value.ownBlock] using Ne.symm hgp)
  have hp3 := hp2.set 2 (.slice A2 (n + 1) c2)
  have hown3 : (W2.setCell ⟨p, 2, none⟩ (.slice A2 (n + 1) c2)).ownsRow base 98 256 (.slice A2 (n + 1) c2) (n + 1) (xs ++ cs.toList) := by
    refine hown2.kept (row := some p) ⟨rfl, rfl, rfl, by simp [World.setCell], fun k _ hk => Below.heap_setCell _ _ _ _ (fun e => hk (by rw [e]))⟩ ?_
    obtain ⟨g2, cap2, e2, _⟩ := own_form hown2 (by omega)
    rw [e2] at hown2 ⊢
    have := row_blk_ne hown2 hp2 (by decide)
    right; simpa [Value.ownBlock] using this
  refine wp_region_chain (by kernel_rfl) ds15 hok [12, 13, 16] hcn
    (fun j => match j with | 0 => .pointer (some ⟨p, 0, none⟩) | 1 => .pointer (some ⟨p, 0, none⟩) | 2 => .pointer (some ⟨p, 0, none⟩) | 3 => .pointer (some ⟨p, 2, none⟩) | 4 => .slice (some ⟨g, 0, none⟩) n cap | 5 => .pointer (some ⟨p, 0, none⟩) | 6 => .pointer (some ⟨p, 0, none⟩) | 7 => .pointer (some ⟨p, 2, none⟩) | 8 => .slice (some ⟨g, 0, none⟩) n cap | 9 => .int .i64 k | 10 => .pointer (some ⟨g, k * 256, none⟩) | 11 => .agg cs | 12 => .slice (some ⟨W0.heap.size, 0, none⟩) 1 1 | 13 => .slice A2 (n + 1) c2 | 14 => .pointer (some ⟨p, 0, none⟩) | 15 => .pointer (some ⟨p, 2, none⟩) | _ => undef)
    (fun k => match k with | 0 => W0 | 1 => W1 | 2 => W2 | _ => W2.setCell ⟨p, 2, none⟩ (.slice A2 (n + 1) c2)) hW0 ?_ (hend _ _ _ hown3 hp3 ?_ ?_)
  · intro i o ho ρ hρ hold _ _ _
    have hi : i < 17 := by rw [← hlen]; exact (Array.getElem?_eq_some_iff.1 ho).1
    have hop : ∀ x, ops15[i]? = some x → o.op = x := by
      intro x hx
      rw [← hops, List.getElem?_map, Array.getElem?_toList, ho] at hx
      simpa using hx
    have e0 : ρ (.tmp 0) = .pointer (some ⟨p, 0, none⟩) := (hold 0 (by decide)).trans h0
    have hlt : ∀ t, t < 87 → t < a.tmps.size := fun t ht => by omega
    match i, hi with
    | 0, _ => intro k _ _ _; exact .inl (by rw [← e0]; exact r_move _ _ _ o _ (hop _ rfl))
    | 1, _ => intro k _ _ _; exact .inl (by rw [← e0]; exact r_move _ _ _ o _ (hop _ rfl))
    | 2, _ => intro k _ _ _; exact .inl (r_nilCheck _ _ o _ (hop _ rfl) _ (hρ 1 (needs_get hnd 2 1 (by decide)) 72 rfl (hlt _ (by decide))))
    | 3, _ => intro k _ _ _; exact .inl (r_fieldTrie2 _ _ o _ (hop _ rfl) p (hρ 2 (needs_get hnd 3 2 (by decide)) 73 rfl (hlt _ (by decide))))
    | 4, _ =>
      intro k _ _ hk
      have h2 := hk 13 1 (needs_get hnd 13 4 (by decide)) rfl
      match k, h2 with
      | 0, _ => exact .inl (r_loadCells _ _ o _ (hop _ rfl) ⟨p, 2, none⟩ (hρ 3 (needs_get hnd 4 3 (by decide)) 74 rfl (hlt _ (by decide))) _ _ _ (hp0.cell 2))
      | 1, _ => exact .inl (r_loadCells _ _ o _ (hop _ rfl) ⟨p, 2, none⟩ (hρ 3 (needs_get hnd 4 3 (by decide)) 74 rfl (hlt _ (by decide))) _ _ _ (hp1.cell 2))
    | 5, _ => intro k _ _ _; exact .inl (by rw [← e0]; exact r_move _ _ _ o _ (hop _ rfl))
    | 6, _ => intro k _ _ _; exact .inl (r_nilCheck _ _ o _ (hop _ rfl) _ (hρ 5 (needs_get hnd 6 5 (by decide)) 76 rfl (hlt _ (by decide))))
    | 7, _ => intro k _ _ _; exact .inl (r_fieldTrie2 _ _ o _ (hop _ rfl) p (hρ 6 (needs_get hnd 7 6 (by decide)) 77 rfl (hlt _ (by decide))))
    | 8, _ =>
      intro k _ _ hk
      have h2 := hk 16 2 (needs_get hnd 16 8 (by decide)) rfl
      match k, h2 with
      | 0, _ => exact .inl (r_loadCells _ _ o _ (hop _ rfl) ⟨p, 2, none⟩ (hρ 7 (needs_get hnd 8 7 (by decide)) 78 rfl (hlt _ (by decide))) _ _ _ (hp0.cell 2))
      | 1, _ => exact .inl (r_loadCells _ _ o _ (hop _ rfl) ⟨p, 2, none⟩ (hρ 7 (needs_get hnd 8 7 (by decide)) 78 rfl (hlt _ (by decide))) _ _ _ (hp1.cell 2))
      | 2, _ => exact .inl (r_loadCells _ _ o _ (hop _ rfl) ⟨p, 2, none⟩ (hρ 7 (needs_get hnd 8 7 (by decide)) 78 rfl (hlt _ (by decide))) _ _ _ (hp2.cell 2))
    | 9, _ =>
      intro k' _ _ _
      have e16 : ρ (.tmp 16) = .int .i64 k := (hold 16 (by decide)).trans h16
      exact .inl (by rw [← e16]; exact r_move _ _ _ o _ (hop _ rfl))
    | 10, _ => intro k' _ _ _; exact .inl (r_indexCells _ _ o _ _ (hop _ rfl) g n cap k (hρ 8 (needs_get hnd 10 8 (by decide)) 79 rfl (hlt _ (by decide))) (hρ 9 (needs_get hnd 10 9 (by decide)) 80 rfl (hlt _ (by decide))) hk hnm)
    | 11, _ =>
      intro k' _ _ hk'
      have h2 := hk' 12 0 (needs_get hnd 12 11 (by decide)) rfl
      obtain rfl : k' = 0 := by omega
      exact .inl (r_load_at _ _ o _ _ (hop _ rfl) _ (hρ 10 (needs_get hnd 11 10 (by decide)) 81 rfl (hlt _ (by decide))) cs hc0 _ Tryz.underlying98 rfl (by rw [hcs]; kernel_rfl))
    | 12, _ =>
      refine .inl ?_
      show _ = Result.ok _ W1
      rw [hW1]
      exact r_bs1 _ _ o _ (hop _ rfl) cs (hρ 11 (needs_get hnd 12 11 (by decide)) 82 rfl (hlt _ (by decide))) hcs
    | 13, _ =>
      refine .inl ?_
      have e1 := hρ 4 (needs_get hnd 13 4 (by decide)) 75 rfl (hlt _ (by decide))
      have e2 := hρ 12 (needs_get hnd 13 12 (by decide)) 83 rfl (hlt _ (by decide))
      have e3 : o = ops[13]'(by omega) := by
        rw [Array.getElem?_eq_getElem (by omega)] at ho
        exact (Option.some.inj ho).symm
      show (execOp ρ o).run Tryz.prog W1 = .ok (.value (.slice A2 (n + 1) c2)) W2
      rw [← hrun, e3]
      congr 1
      unfold execOp
      rw [hop7]
      simp only [resolve, List.map_toArray, List.map_cons, List.map_nil, e1, e2]
    | 14, _ => intro k _ _ _; exact .inl (r_nilCheck _ _ o _ (hop _ rfl) _ (hρ 0 (needs_get hnd 14 0 (by decide)) 71 rfl (hlt _ (by decide))))
    | 15, _ => intro k _ _ _; exact .inl (r_fieldTrie2 _ _ o _ (hop _ rfl) p (hρ 14 (needs_get hnd 15 14 (by decide)) 85 rfl (hlt _ (by decide))))
    | i' + 17, hi' => exact absurd hi' (by omega)
    | 16, _ => exact .inr ⟨r_storeCells _ _ o _ _ (hop _ rfl) ⟨p, 2, none⟩ (hρ 15 (needs_get hnd 16 15 (by decide)) 86 rfl (hlt _ (by decide))) A2 (n + 1) c2 (hρ 13 (needs_get hnd 16 13 (by decide)) 84 rfl (hlt _ (by decide))) _ (hp2.cell 2) (hp2.free 2), rfl⟩
  · intro B h1 h2 h3
    have b1 : Below B w W1 := (hb0.mono h3).trans (hb1.mono (by rw [hs0]; exact h3))
    have b2 : Below B w W2 := b1.grown hg2 (by rw [hW1, size_new, hs0]; omega) (fun k hk => by simp [Value.ownBlock] at hk; omega)
    exact b2.setCell h1 _
  · intro i hi h1 h2
    show (W2.setCell ⟨p, 2, none⟩ (.slice A2 (n + 1) c2)).heap[i]? = _
    rw [Below.heap_setCell _ _ _ _ h2, hg2.block i (by rw [hW1, size_new, hs0]; omega) (by simpa [Value.ownBlock] using h1), hb1.block i (by rw [hs0]; exact hi), hs0]
end Go.Proofs.YtchkckfadennhaaGreatDoor
namespace Go.Proofs.YtchkckfadennhaaGreatDoor
open Go.RowKit
set_option linter.unusedVariables false
set_option linter.unusedSimpArgs false

theorem own_map_ne {w : World} {base n n' : Nat} {v : Value} {e : TypeId} {size m : Nat} {xs : List Value} {κ : Type} {k : TypeId} {K : KK Tryz.prog k κ} {f : κ → Option Value} (h : w.ownsRow base e size v n xs) (hm : MapF w K m n' f) : v.ownBlock = none ∨ v.ownBlock ≠ some m := by
  rcases h.2 with ⟨rfl, _⟩ | ⟨g', cap', cur, rfl, _⟩
  · exact .inl rfl
  · right
    have := row_map_ne h hm
    simpa [Value.ownBlock] using this
theorem TrieSt.lt {w : World} {B p wm : Nat} {v0 : Value} {m : Nat} {v2 : Value} {vals : List Sp.Str} {t : TS} {c : Nat} (h : TrieSt w B p wm v0 m v2 vals t c) : B ≤ w.heap.size := Nat.le_trans h.bp (Nat.le_of_lt (heap_lt h.ptr))
/-- Another block of cells has come behind the others: what stands beside. -/
theorem TrieSt.other {w w' : World} {B p wm : Nat} {v0 : Value} {m : Nat} {vals : List Sp.Str} {t : TS} {c g cap : Nat} (h : TrieSt w B p wm v0 m (.slice (some ⟨g, 0, none⟩) t.blocks.length cap) vals t c)
    (ho : ∀ i, i < w.heap.size → i ≠ g → i ≠ p → w'.heap[i]? = w.heap[i]?) (hl : Below B w w') :
    w'.ownsRow B 9 1 v0 vals.length (strVs vals) ∧ MapF w' kInt m c (fun i => intO (t.first i)) ∧ MapF w' kI32 wm (c + 1) (fun i => intO (t.whole i)) := by
  have hgp := row_blk_ne h.h2 h.ptr (by decide)
  refine ⟨?_, h.hm.block (ho m h.hm.lt ?_ ?_), h.hwm.block (ho wm h.hwm.lt ?_ ?_)⟩
  · by_cases hz : vals.length = 0
    · rcases h.hv0.2 with ⟨rfl, _⟩ | ⟨g', cap', cur, rfl, hb', hh, h1, h2, h3⟩
      · exact ⟨h.hv0.1, .inl ⟨rfl, hz⟩⟩
      · have hh' : w'.heap[g']? = w.heap[g']? := ho g' (heap_lt hh) (fun e => by
          have := h.hv0
          have h5 := own_types h.h2 this (by decide)
          rcases h5 with h5 | h5
          · simp [Value.ownBlock] at h5
          · exact h5 (by simp [Value.ownBlock, e])) (fun e => row_blk_ne h.hv0 h.ptr (by decide) e)
        exact ⟨h.hv0.1, .inr ⟨g', cap', cur, rfl, hb', hh'.trans hh, h1, h2, h3⟩⟩
    · obtain ⟨g', cap', e3, _⟩ := own_form h.hv0 (by omega)
      have h3 := h.hv0
      rw [e3] at h3 ⊢
      rcases h3.2 with ⟨h4, _⟩ | ⟨g2, cap2, cur, he, hb', hh, h1, h2, h5⟩
      · simp at h4
      · have e4 : g' = g2 := by simp at he; exact he.1
        subst e4
        have hh' : w'.heap[g']? = w.heap[g']? := ho g' (heap_lt hh) (fun e => by
          have h5 := own_types h.h2 h3 (by decide)
          rcases h5 with h5 | h5
          · simp [Value.ownBlock] at h5
          · exact h5 (by simp [Value.ownBlock, e])) (fun e => row_blk_ne h3 h.ptr (by decide) e)
        exact ⟨h3.1, .inr ⟨g', cap2, cur, he, hb', hh'.trans hh, h1, h2, h5⟩⟩
  · exact fun e => row_map_ne h.h2 h.hm e.symm
  · exact fun e => blk_map_ne h.ptr h.hm e.symm
  · exact fun e => row_map_ne h.h2 h.hwm e.symm
  · exact fun e => blk_map_ne h.ptr h.hwm e.symm

set_option maxRecDepth 100000 in
set_option maxHeartbeats 400000 in
theorem fill_b {w : World} {B p wm : Nat} {v0 : Value} {m : Nat} {v2 : Value} {vals : List Sp.Str} {t : TS} {c : Nat} (h : TrieSt w B p wm v0 m v2 vals t c) (hc : c ≤ 10000000000) (hvl : vals.length ≤ 1000000) (b fr tt v : Int) (hf : 0 ≤ fr) (ht : tt ≤ 1114111)
    (h255 : tt - fr = 255) (hb1 : fr / 256 = b) (hb2 : tt / 256 = b) (hv0 : 0 ≤ v) (hv1 : v < vals.length) (hk : t.whole v = none) :
    Calls Tryz.prog 78 #[.pointer (some ⟨p, 0, none⟩), .map (some wm), .int .i64 b, .int .i64 fr, .int .i64 tt, .int .i32 v] w (FillSaid w B p wm v0 m vals t c fr tt v) := by
  obtain ⟨hi, hcur⟩ := TS.fillB h.inv (b := b) hk ⟨by omega, hv1⟩
  have hl := look_whole true h.hwm v (wf_i32 (by omega) (by omega))
  rw [hk] at hl
  simp only [intO, Option.map_none, Option.getD_none, Option.isSome_none, if_true] at hl
  obtain ⟨g, cap, rfl, hbg, hgl, hnc, hcm⟩ := h.form
  unfold maxLen at hcm
  have c1 : w.cell? ⟨p, 1, none⟩ = some (.map (some m)) := h.ptr.cell 1
  have c2 : w.cell? ⟨p, 2, none⟩ = some (.slice (some ⟨g, 0, none⟩) t.blocks.length cap) := h.ptr.cell 2
  have he : (tt - fr == 255) = true := by rw [beq_iff_eq]; exact h255
  have Hst := Lib.hid h
  have hn : t.blocks.length ≤ 9223372036854775807 := by omega
  have Hcur := Lib.hid hcur
  have Hi := Lib.hid hi
  have hbw : Hid (kInt.ok b) := wf_i64 (by omega) (by omega)
  clear h hk hcur hi h255
  go_enter Tryz.func78, Tryz.ntmps78
  go_wp2_with fail
  have hz : Blk (w.alloc (Obj.cells Tryz.zeroCells98 98)) w.heap.size 98 Tryz.zeroCells98 := row_new _ _
  have hzs : Tryz.zeroCells98.size = 256 := by kernel_rfl
  have hb0 : Below w.heap.size w (w.alloc (Obj.cells Tryz.zeroCells98 98)) := (Below.refl _ _).alloc (Nat.le_refl _) _
  have hw0 : (w.alloc (Obj.cells Tryz.zeroCells98 98)).heap.size = w.heap.size + 1 := size_new _ _
  obtain ⟨W0, hW0⟩ : ∃ W0, W0 = w.alloc (Obj.cells Tryz.zeroCells98 98) := ⟨_, rfl⟩
  rw [← hW0] at hz hb0 hw0 ⊢
  clear hW0
  go_loopw [15, 35] (fun _ i wr => ∃ (k : Nat) (cs : Array Value), k ≤ 256 ∧ i = .int .i64 k ∧ Blk wr w.heap.size 98 cs ∧ Hid (cs.size = 256) ∧ Hid (∀ j, j < k → cs[j]? = some (.int .i32 v)) ∧ Below w.heap.size w wr ∧ Hid (wr.heap.size = w.heap.size + 1)) (fun _ i _ => 256 - (intOf i).toNat)
  case atStart => exact ⟨0, _, by omega, rfl, hz, hzs, fun j hj => by omega, hb0, hw0⟩
  case round =>
    obtain ⟨k, cs, hk, rfl, hB, hs, hcc, hb, hwr⟩ := hrel
    clear hz hzs hb0 hw0
    by_cases hlt : k < 256
    · have hcell : ∃ u, wr.cell? ⟨w.heap.size, k, none⟩ = some u := ⟨cs[k]'(by rw [hs.out]; omega), by rw [hB.cell]; simp [hs.out, hlt]⟩
      obtain ⟨u, hu⟩ := hcell
      have hfr := hB.free k
      have hB2 := hB.set k (.int .i32 v)
      have hb2' := hb.setCell (p := ⟨w.heap.size, k, none⟩) (Nat.le_refl _) (.int .i32 v)
      have hs2 : Hid ((cs.setIfInBounds k (.int .i32 v)).size = 256) := by show _ = _; rw [Array.size_setIfInBounds]; exact hs.out
      have hc2 : Hid (∀ j, j < k + 1 → (cs.setIfInBounds k (.int .i32 v))[j]? = some (.int .i32 v)) := fun j hj => by
        rw [Array.getElem?_setIfInBounds]
        split
        · rw [if_pos (by rw [hs.out]; omega)]
        · exact hcc.out j (by omega)
      have hwr2 : Hid ((wr.setCell ⟨w.heap.size, k, none⟩ (.int .i32 v)).heap.size = w.heap.size + 1) := by show _ = _; rw [← hwr.out]; simp [World.setCell]
      clear hB hs hcc hb hwr c1 c2 hl
      go_wp2_with fail
      go_roundw
      case rel => exact ⟨k + 1, _, by omega, by go_num, hB2, hs2, hc2, hb2', hwr2⟩
      case measure => simp [intOf]; omega
    · have hst2 := Hst.out.below hb
      have hcs : Hid (cs.toList = (rep v).map (Value.int .i32)) := by
        show _ = _
        apply List.ext_getElem?
        intro j
        rw [Array.getElem?_toList, List.getElem?_map]
        unfold rep
        rw [List.getElem?_replicate]
        by_cases hj : j < 256
        · rw [hcc.out j (by omega), if_pos hj]; rfl
        · rw [if_neg hj, Array.getElem?_eq_none (by rw [hs.out]; omega)]; rfl
      go_wp2_with fail
      refine fill_great10 _ _ _ _ wr p w.heap.size B t.blocks.length cs v0 m g cap (TS.flat t.blocks) rfl (by kernel_rfl) (by kernel_rfl) (by kernel_rfl) (by simp) rfl rfl hs.out ?_ hst2.ptr hB hst2.h2 hst2.lt ?_ ?_
      · intro u hu; rw [hcs.out] at hu; obtain ⟨x, _, rfl⟩ := List.mem_map.1 hu; rfl
      · have := Hst.out.cnt; omega
      intro v' w' V hown' hp' hbel' hoth'
      simp [frS, stepS]
      simp only [Exit.then]
      have hst3 : TrieSt wr B p wm v0 m (.slice (some ⟨g, 0, none⟩) t.blocks.length cap) vals t c := hst2
      have hB' := hbel' B hst3.bp hbg hst3.lt
      obtain ⟨hv3, hm3, hwm3⟩ := hst3.other hoth' hB'
      have HOth := Lib.hid hoth'
      have hgk := row_blk_ne hst3.h2 hst3.ptr (by decide)
      have HPw := Lib.hid hst3.ptr
      have HRw := Lib.hid hst3.h2
      have HM := Lib.hid hm3
      have HWM := Lib.hid hwm3
      have HP := Lib.hid hp'
      have hcm1 : c < maxLen := by unfold maxLen; omega
      have hcm2 : c + 1 < maxLen := by unfold maxLen; omega
      have hok2 : Hid (kI32.ok v) := wf_i32 (by omega) (by omega)
      have hnm : wm ≠ m := Ne.symm hst3.ne
      clear hp' hm3 hwm3 hst3 hst2 hoth' hbel' hB hs hcc hwr c1 c2 hl
      go_wp2_with (first | (at_mapUpdate; refine wp_mapUpdateF _ rfl _ _ _ 116 rfl kI32 Tryz.underlying116 wm (c + 1) _ rfl HWM.out hcm2 v (.int .i64 t.blocks.length) rfl rfl hok2.out ?_; intro w4 hm4 hg4; have HM4 := Lib.hid hm4; have HG4 := Lib.hid hg4; have c1 : w4.cell? ⟨p, 1, none⟩ = some (.map (some m)) := (HP.out.grown hg4 (by have := blk_map_ne HP.out HWM.out; simpa using this)).cell 1; clear hm4 hg4) | (at_mapUpdate; refine wp_mapUpdateF _ rfl _ _ _ 92 rfl kInt Tryz.underlying92 m c _ rfl (HM.out.kept HG4.out (by simpa using (Ne.symm hnm))) hcm1 b (.int .i64 t.blocks.length) rfl rfl hbw.out ?_; intro w5 hm5 hg5; have HM5 := Lib.hid hm5; have HG5 := Lib.hid hg5; clear hm5 hg5))
      refine ⟨rfl, _, results_none rfl _ _ _, ?_⟩
      have h4 := HM4.out
      have h5 := HM5.out
      rw [setF_whole] at h4
      rw [setF_first] at h5
      have hBm := Hst.out.bm
      have hBwm := Hst.out.bwm
      have l1 : B ≤ w'.heap.size := Nat.le_trans hBm (Nat.le_of_lt HM.out.lt)
      have b4 : Below B wr w4 := hB'.grown HG4.out l1 (fun k hk => by cases hk; exact hBwm)
      have b5 : Below B wr w5 := b4.grown HG5.out (Nat.le_trans l1 HG4.out.size) (fun k hk => by cases hk; exact hBm)
      have m4 : MapF w4 kInt m c _ := HM.out.kept HG4.out (by simpa using (Ne.symm hnm))
      have p4 := HP.out.grown HG4.out (by have := blk_map_ne HP.out HWM.out; simpa using this)
      have p5 := p4.grown HG5.out (by have := blk_map_ne p4 m4; simpa using this)
      have v4 := hv3.kept HG4.out (own_map_ne hv3 HWM.out)
      have v5 := v4.kept HG5.out (own_map_ne v4 m4)
      have o4 := hown'.kept HG4.out (own_map_ne hown' HWM.out)
      have o5 := o4.kept HG5.out (own_map_ne o4 m4)
      have hcnt := Hst.out.cnt
      refine ⟨rfl, (hb.mono (Nat.le_trans Hst.out.lt (Nat.le_refl _))).trans b5, fun eb ecs hE => ?_, v', ((t.push (rep v)).setWhole v t.blocks.length).setFirst b t.blocks.length, ⟨p5, Hst.out.bp, v5, h5, ?_, ?_, hBm, hBwm, Hst.out.ne, ?_, Hi.out⟩, fun r => ?_⟩
      · have hE1 := hE.below hb
        have hE2 : Blk w' eb 80 ecs := (HOth.out eb (heap_lt hE1) (Ne.symm (row_blk_ne HRw.out hE1 (by decide))) (blk_blk_ne hE1 HPw.out (by decide))).trans hE1
        have hE3 := hE2.grown HG4.out (by have := blk_map_ne hE2 HWM.out; simpa using this)
        exact hE3.grown HG5.out (by have := blk_map_ne hE3 m4; simpa using this)
      · exact h4.kept HG5.out (by simpa using hnm)
      · have e1 : (((t.push (rep v)).setWhole v t.blocks.length).setFirst b t.blocks.length).blocks = t.blocks ++ [rep v] := rfl
        rw [e1, TS.flat_append, TS.flat_one, ← hcs.out, List.length_append]
        exact o5
      · show (t.blocks ++ [rep v]).length ≤ _
        rw [List.length_append, List.length_singleton]
        omega
      · rw [Hcur.out r]
        by_cases e : r / 256 = b
        · rw [if_pos e, if_pos (by rw [beq_iff_eq] at he; omega)]
        · rw [if_neg e, if_neg (by rw [beq_iff_eq] at he; omega)]
end Go.Proofs.YtchkckfadennhaaGreatDoor
namespace Go.Proofs.YtchkckfadennhaaGreatDoor
open Go.RowKit
set_option linter.unusedVariables false
set_option linter.unusedSimpArgs false

theorem and255 (q : Nat) (h : q < 2097152) : bits .and .i64 (q : Int) 255 = ((q % 256 : Nat) : Int) := by
  have := bits_mask .i64 63 (by decide) (fun n h₀ h₁ => by rw [IntKind.wrap_i64]; omega) 8 (by decide) (q : Int) (by omega) (by omega)
  have e : ((2 : Int) ^ 8 - 1) = 255 := by decide
  rw [e] at this
  rw [this]
  omega

set_option maxRecDepth 100000 in
set_option maxHeartbeats 400000 in
theorem fill_d {w : World} {B p wm : Nat} {v0 : Value} {m : Nat} {v2 : Value} {vals : List Sp.Str} {t : TS} {c : Nat} (h : TrieSt w B p wm v0 m v2 vals t c) (hc : c ≤ 10000000000) (hvl : vals.length ≤ 1000000) (b fr tt : Nat) (v : Int) (hft : fr ≤ tt) (ht : tt ≤ 1114111)
    (h255 : tt - fr ≠ 255) (hb1 : fr / 256 = b) (hb2 : tt / 256 = b) (hv0 : 0 ≤ v) (hv1 : v < vals.length) (hs : t.shared (t.idx b) = false) :
    Calls Tryz.prog 78 #[.pointer (some ⟨p, 0, none⟩), .map (some wm), .int .i64 b, .int .i64 fr, .int .i64 tt, .int .i32 v] w (FillSaid w B p wm v0 m vals t c fr tt v) := by
  obtain ⟨g, cap, rfl, hbg, hgl, hnc, hcm⟩ := h.form
  unfold maxLen at hcm
  obtain ⟨k, hk⟩ : ∃ k : Nat, t.idx b = k := ⟨(t.idx b).toNat, by have := (h.inv.idx_lt b).1; omega⟩
  have hkl : k < t.blocks.length := by have := (h.inv.idx_lt b).2; omega
  have hl := look_first false h.hm (b : Int) (wf_i64 (by omega) (by omega))
  have hl2 : (intO (t.first b)).getD (.int .i64 0) = .int .i64 k := by
    have : t.idx b = (t.first b).getD 0 := rfl
    rw [hk] at this
    unfold intO
    cases hfb : t.first b with
    | none => rw [hfb] at this; simp at this ⊢; omega
    | some x => rw [hfb] at this; simp at this ⊢; omega
  rw [hl2] at hl
  simp only [Bool.false_eq_true, if_false] at hl
  have c1 : w.cell? ⟨p, 1, none⟩ = some (.map (some m)) := h.ptr.cell 1
  have he : ((tt : Int) - fr == 255) = false := by rw [beq_eq_false_iff_ne]; omega
  have hsw := shared_walk h k hkl hvl
  rw [hk] at hs
  rw [hs] at hsw
  have Hsw := Lib.hid hsw
  have Hst := Lib.hid h
  have Hk := Lib.hid hk
  have Hs := Lib.hid hs
  have hn : t.blocks.length ≤ 9223372036854775807 := by omega
  clear h hl2 hk hs hsw
  go_enter Tryz.func78, Tryz.ntmps78
  go_wp2_with (go_at_call 102; refine Hsw.out.mono ?_; rintro e w' ⟨rfl, rfl⟩)
  clear hl c1
  have hr0 : w.ownsRow B 98 256 (.slice (some ⟨g, 0, none⟩) t.blocks.length cap) t.blocks.length (TS.flat (t.setRange k (fr % 256) (fr - 256 * b) v).blocks) := by
    have e : fr - 256 * b = fr % 256 := by omega
    rw [e, TS.setRange_none]
    exact Hst.out.h2
  have hlen := Hst.out.inv.len
  have HLen := Lib.hid hlen
  clear hlen
  go_loopw [17] (fun r wr => ∃ q : Nat, fr ≤ q ∧ q ≤ tt + 1 ∧ r = .int .i64 q ∧ Blk wr p 95 #[v0, .map (some m), .slice (some ⟨g, 0, none⟩) t.blocks.length cap] ∧
    wr.ownsRow B 98 256 (.slice (some ⟨g, 0, none⟩) t.blocks.length cap) t.blocks.length (TS.flat (t.setRange k (fr % 256) (q - 256 * b) v).blocks) ∧ Below B w wr ∧ Hid (∀ i, i ≠ g → wr.heap[i]? = w.heap[i]?)) (fun r _ => tt + 1 - (intOf r).toNat)
  case atStart => exact ⟨fr, by omega, by omega, rfl, Hst.out.ptr, hr0, Below.refl _ _, fun _ _ => rfl⟩
  case round =>
    obtain ⟨q, hq1, hq2, rfl, hP, hR, hB, hO⟩ := hrel
    clear hr0
    by_cases hlt : q ≤ tt
    · have hand := and255 q (by omega)
      have c2 : wr.cell? ⟨p, 2, none⟩ = some (.slice (some ⟨g, 0, none⟩) t.blocks.length cap) := hP.cell 2
      have hix : k * 256 + q % 256 < t.blocks.length * 256 := by omega
      have hrl := hR.1
      obtain ⟨u, hu⟩ : ∃ u, wr.cell? ⟨g, k * 256 + q % 256, none⟩ = some u := ⟨_, (hR.cellAt _ hix).trans (List.getElem?_eq_getElem (by rw [hrl]; exact hix))⟩
      have hfz : wr.frozen? ⟨g, k * 256 + q % 256, none⟩ = false := hR.frozenAt _
      obtain ⟨hR2, hg2⟩ := hR.stored (k * 256 + q % 256) (.int .i32 v)
      have e1 : q - 256 * b = q % 256 := by omega
      have e2 : q + 1 - 256 * b = q % 256 + 1 := by omega
      rw [e1, TS.flat_set t HLen.out k (fr % 256) (q % 256) v hkl (by omega) (by omega), ← e2] at hR2
      have hP2 := hP.grown hg2 (by have := row_blk_ne hR hP (by decide); simpa using Ne.symm this)
      have hB2 := hB.setCell (p := ⟨g, k * 256 + q % 256, none⟩) hbg (.int .i32 v)
      have hO2 : Hid (∀ i, i ≠ g → (wr.setCell ⟨g, k * 256 + q % 256, none⟩ (.int .i32 v)).heap[i]? = w.heap[i]?) := fun i hi => (Below.heap_setCell _ _ _ _ hi).trans (hO.out i hi)
      clear hP hR hB hO hg2 hrl e1 e2
      go_wp2_with fail
      go_roundw
      case rel => exact ⟨q + 1, by omega, by omega, by go_num, hP2, hR2, hB2, hO2⟩
      case measure => simp [intOf]; omega
    · have hqe : q - 256 * b = tt % 256 + 1 := by omega
      have hfin : FillSaid w B p wm v0 m vals t c fr tt v (.returned (.tuple #[])) wr := by
        have hD := TS.fillD Hst.out.inv (b := b) (v := v) (i := fr % 256) (j := tt % 256 + 1) (by rw [Hk.out]; exact Hs.out) ⟨by omega, hv1⟩
        have hkt : (t.idx b).toNat = k := by rw [Hk.out]; rfl
        rw [hkt] at hD
        rw [hqe] at hR
        have hO3 : ∀ i, i < w.heap.size → i ≠ g → i ≠ p → wr.heap[i]? = w.heap[i]? := fun i _ h2 _ => hO.out i h2
        obtain ⟨hv3, hm3, hwm3⟩ := Hst.out.other hO3 hB
        refine ⟨rfl, hB, fun eb ecs hE => (hO.out eb (Ne.symm (row_blk_ne Hst.out.h2 hE (by decide)))).trans hE, _, t.setRange k (fr % 256) (tt % 256 + 1) v, ⟨hP, Hst.out.bp, hv3, hm3.mono (by omega), hwm3.mono (by omega), ?_, Hst.out.bm, Hst.out.bwm, Hst.out.ne, ?_, hD.1⟩, fun r => ?_⟩
        · rw [TS.setRange_blocks]; exact hR
        · rw [TS.setRange_blocks]; have := Hst.out.cnt; omega
        · rw [hD.2 r]
          by_cases e : (fr : Int) ≤ r ∧ r ≤ tt
          · rw [if_pos e, if_pos (by omega)]
          · rw [if_neg e, if_neg (by omega)]
      clear hP hR hB hO
      go_wp2_with fail
      exact ⟨rfl, _, results_none rfl _ _ _, hfin⟩
end Go.Proofs.YtchkckfadennhaaGreatDoor
namespace Go.Proofs.YtchkckfadennhaaGreatDoor
open Go.RowKit
set_option linter.unusedVariables false
set_option linter.unusedSimpArgs false

set_option maxRecDepth 100000 in
set_option maxHeartbeats 600000 in
theorem fill_c {w : World} {B p wm : Nat} {v0 : Value} {m : Nat} {v2 : Value} {vals : List Sp.Str} {t : TS} {c : Nat} (h : TrieSt w B p wm v0 m v2 vals t c) (hc : c ≤ 10000000000) (hvl : vals.length ≤ 1000000) (b fr tt : Nat) (v : Int) (hft : fr ≤ tt) (ht : tt ≤ 1114111)
    (h255 : tt - fr ≠ 255) (hb1 : fr / 256 = b) (hb2 : tt / 256 = b) (hv0 : 0 ≤ v) (hv1 : v < vals.length) (hs : t.shared (t.idx b) = true) :
    Calls Tryz.prog 78 #[.pointer (some ⟨p, 0, none⟩), .map (some wm), .int .i64 b, .int .i64 fr, .int .i64 tt, .int .i32 v] w (FillSaid w B p wm v0 m vals t c fr tt v) := by
  obtain ⟨g, cap, rfl, hbg, hgl, hnc, hcm⟩ := h.form
  unfold maxLen at hcm
  obtain ⟨k0, hk0⟩ : ∃ k : Nat, t.idx b = k := ⟨(t.idx b).toNat, by have := (h.inv.idx_lt b).1; omega⟩
  have hkl : k0 < t.blocks.length := by have := (h.inv.idx_lt b).2; omega
  have hl := look_first false h.hm (b : Int) (wf_i64 (by omega) (by omega))
  have hl2 : (intO (t.first b)).getD (.int .i64 0) = .int .i64 k0 := by
    have : t.idx b = (t.first b).getD 0 := rfl
    rw [hk0] at this
    unfold intO
    cases hfb : t.first b with
    | none => rw [hfb] at this; simp at this ⊢; omega
    | some x => rw [hfb] at this; simp at this ⊢; omega
  rw [hl2] at hl
  simp only [Bool.false_eq_true, if_false] at hl
  have c1 : w.cell? ⟨p, 1, none⟩ = some (.map (some m)) := h.ptr.cell 1
  have he : ((tt : Int) - fr == 255) = false := by rw [beq_eq_false_iff_ne]; omega
  have hsw := shared_walk h k0 hkl hvl
  have hC := TS.fillC h.inv (b := b) hs
  rw [hk0] at hs hC
  rw [hs] at hsw
  have Hsw := Lib.hid hsw
  have Hst := Lib.hid h
  have hn : t.blocks.length ≤ 9223372036854775807 := by omega
  obtain ⟨t1, ht1⟩ : ∃ t1, t1 = (t.push (t.blk k0)).setFirst b t.blocks.length := ⟨_, rfl⟩
  rw [← ht1] at hC
  have Ht1 := Lib.hid ht1
  have Hinv1 := Lib.hid hC.1
  have HC := Lib.hid hC.2.1
  have Hs0 := Lib.hid hC.2.2
  have hlen1 : t1.blocks.length = t.blocks.length + 1 := by rw [ht1]; show (t.blocks ++ [_]).length = _; simp
  have hidx1 : t1.idx b = t.blocks.length := by rw [ht1, TS.idx_setFirst, if_pos rfl]
  have hblk : (t.blk k0).length = 256 := by
    refine h.inv.len _ ?_
    unfold TS.blk
    rw [Int.toNat_natCast, List.getD_eq_getElem?_getD, List.getElem?_eq_getElem hkl]
    exact List.getElem_mem _
  have HL1 := Lib.hid hlen1
  have HI1 := Lib.hid hidx1
  have Hblk := Lib.hid hblk
  clear h hl2 hk0 hs hsw hC ht1 hlen1 hidx1 hblk
  go_enter Tryz.func78, Tryz.ntmps78
  go_wp2_with (go_at_call 102; refine Hsw.out.mono ?_; rintro e w' ⟨rfl, rfl⟩)
  clear hl c1
  refine fill_great15 _ _ _ _ w p k0 B t.blocks.length ((t.blk k0).map (Value.int .i32)).toArray v0 m g cap (TS.flat t.blocks) rfl (by kernel_rfl) (by kernel_rfl) (by kernel_rfl) (by simp) rfl rfl hkl (by simpa using Hblk.out) ?_ Hst.out.ptr ?_ Hst.out.h2 Hst.out.lt ?_ ?_
  · intro u hu
    rw [List.toList_toArray] at hu
    obtain ⟨x, _, rfl⟩ := List.mem_map.1 hu; rfl
  · intro j u hu
    rw [List.toList_toArray] at hu
    have hj : j < 256 := by
      have := (List.getElem?_eq_some_iff.1 hu).1
      rw [List.length_map, Hblk.out] at this
      exact this
    rw [TS.flat_get _ Hst.out.inv.len k0 j hj]
    have e : t.blocks[k0]? = some (t.blk k0) := by
      unfold TS.blk
      rw [Int.toNat_natCast, List.getD_eq_getElem?_getD, List.getElem?_eq_getElem hkl]
      rfl
    rw [e, Option.bind_some, ← List.getElem?_map]
    exact hu
  · have := Hst.out.cnt; omega
  intro v2' w1 V hown' hp' hbel' hoth'
  simp [frS, stepS]
  simp only [Exit.then]
  have hB' := hbel' B Hst.out.bp hbg Hst.out.lt
  obtain ⟨hv3, hm3, hwm3⟩ := Hst.out.other hoth' hB'
  obtain ⟨g1, cap1, rfl, hbg1, hgl1, hnc1, hcm1⟩ := own_form hown' (by omega)
  unfold maxLen at hcm1
  have c1 : w1.cell? ⟨p, 1, none⟩ = some (.map (some m)) := hp'.cell 1
  have c2 : w1.cell? ⟨p, 2, none⟩ = some (.slice (some ⟨g1, 0, none⟩) (t.blocks.length + 1) cap1) := hp'.cell 2
  have HOth := Lib.hid hoth'
  have HM := Lib.hid hm3
  have HWM := Lib.hid hwm3
  have HP := Lib.hid hp'
  have HO := Lib.hid hown'
  have HV := Lib.hid hv3
  have hcm1 : c < maxLen := by unfold maxLen; omega
  have hbw : Hid (kInt.ok (b : Int)) := wf_i64 (by omega) (by omega)
  clear hp' hm3 hwm3 hoth' hbel' hown' hv3
  go_wp2_with (at_mapUpdate; refine wp_mapUpdateF _ rfl _ _ _ 92 rfl kInt Tryz.underlying92 m c _ rfl HM.out hcm1 (b : Int) (.int .i64 t.blocks.length) rfl rfl hbw.out ?_; intro w2 hm5 hg5; have HM5 := Lib.hid hm5; have HG5 := Lib.hid hg5; clear hm5 hg5 c1 c2)
  have hst1 : TrieSt w2 B p wm v0 m (.slice (some ⟨g1, 0, none⟩) (t.blocks.length + 1) cap1) vals t1 (c + 1) := by
    have h5 := HM5.out
    rw [setF_first] at h5
    have e5 : (fun i => intO ((t.setFirst b t.blocks.length).first i)) = fun i => intO (t1.first i) := by rw [Ht1.out]; rfl
    rw [e5] at h5
    have e6 : t1.whole = t.whole := by rw [Ht1.out]; rfl
    refine ⟨HP.out.grown HG5.out (by have := blk_map_ne HP.out HM.out; simpa using this), Hst.out.bp, HV.out.kept HG5.out (own_map_ne HV.out HM.out), h5, ?_, ?_, Hst.out.bm, Hst.out.bwm, Hst.out.ne, by rw [HL1.out]; have := Hst.out.cnt; omega, Hinv1.out⟩
    · rw [e6]
      exact (HWM.out.kept HG5.out (by simpa using (Ne.symm Hst.out.ne))).mono (by omega)
    · have h6 := HO.out.kept HG5.out (own_map_ne HO.out HM.out)
      have e7 : TS.flat t1.blocks = TS.flat t.blocks ++ ((t.blk k0).map (Value.int .i32)).toArray.toList := by
        rw [Ht1.out]
        show TS.flat (t.blocks ++ [t.blk k0]) = _
        rw [TS.flat_append, TS.flat_one]
      rw [e7, HL1.out]
      exact h6
  have hbw2 : Below B w w2 := hB'.grown HG5.out (Nat.le_trans Hst.out.bm (Nat.le_of_lt HM.out.lt)) (fun k hk => by cases hk; exact Hst.out.bm)
  have hkl1 : t.blocks.length < t1.blocks.length := by rw [HL1.out]; omega
  have hn1 : t.blocks.length + 1 ≤ 9223372036854775807 := by omega
  have Hst1 := Lib.hid hst1
  have Hkl1 := Lib.hid hkl1
  clear hst1 hkl1 hB'
  have hr0 : w2.ownsRow B 98 256 (.slice (some ⟨g1, 0, none⟩) (t.blocks.length + 1) cap1) (t.blocks.length + 1) (TS.flat (t1.setRange t.blocks.length (fr % 256) (fr - 256 * b) v).blocks) := by
    have e : fr - 256 * b = fr % 256 := by omega
    rw [e, TS.setRange_none]
    have h7 := Hst1.out.h2
    rw [HL1.out] at h7
    exact h7
  have hlen := Hinv1.out.len
  have HLen := Lib.hid hlen
  clear hlen
  go_loopw [17] (fun r wr => ∃ q : Nat, fr ≤ q ∧ q ≤ tt + 1 ∧ r = .int .i64 q ∧ Blk wr p 95 #[v0, .map (some m), .slice (some ⟨g1, 0, none⟩) (t.blocks.length + 1) cap1] ∧
    wr.ownsRow B 98 256 (.slice (some ⟨g1, 0, none⟩) (t.blocks.length + 1) cap1) (t.blocks.length + 1) (TS.flat (t1.setRange t.blocks.length (fr % 256) (q - 256 * b) v).blocks) ∧ Below B w2 wr ∧ Hid (∀ i, i ≠ g1 → wr.heap[i]? = w2.heap[i]?)) (fun r _ => tt + 1 - (intOf r).toNat)
  case atStart => exact ⟨fr, by omega, by omega, rfl, Hst1.out.ptr, hr0, Below.refl _ _, fun _ _ => rfl⟩
  case round =>
    obtain ⟨q, hq1, hq2, rfl, hP, hR, hB, hO⟩ := hrel
    clear hr0
    by_cases hlt : q ≤ tt
    · have hand := and255 q (by omega)
      have c2 : wr.cell? ⟨p, 2, none⟩ = some (.slice (some ⟨g1, 0, none⟩) (t.blocks.length + 1) cap1) := hP.cell 2
      have hix : t.blocks.length * 256 + q % 256 < (t.blocks.length + 1) * 256 := by omega
      have hrl := hR.1
      obtain ⟨u, hu⟩ : ∃ u, wr.cell? ⟨g1, t.blocks.length * 256 + q % 256, none⟩ = some u := ⟨_, (hR.cellAt _ hix).trans (List.getElem?_eq_getElem (by rw [hrl]; exact hix))⟩
      have hfz : wr.frozen? ⟨g1, t.blocks.length * 256 + q % 256, none⟩ = false := hR.frozenAt _
      obtain ⟨hR2, hg2⟩ := hR.stored (t.blocks.length * 256 + q % 256) (.int .i32 v)
      have e1 : q - 256 * b = q % 256 := by omega
      have e2 : q + 1 - 256 * b = q % 256 + 1 := by omega
      rw [e1, TS.flat_set t1 HLen.out t.blocks.length (fr % 256) (q % 256) v Hkl1.out (by omega) (by omega), ← e2] at hR2
      have hP2 := hP.grown hg2 (by have := row_blk_ne hR hP (by decide); simpa using Ne.symm this)
      have hB2 := hB.setCell (p := ⟨g1, t.blocks.length * 256 + q % 256, none⟩) hbg1 (.int .i32 v)
      have hO2 : Hid (∀ i, i ≠ g1 → (wr.setCell ⟨g1, t.blocks.length * 256 + q % 256, none⟩ (.int .i32 v)).heap[i]? = w2.heap[i]?) := fun i hi => (Below.heap_setCell _ _ _ _ hi).trans (hO.out i hi)
      clear hP hR hB hO hg2 hrl e1 e2
      go_wp2_with fail
      go_roundw
      case rel => exact ⟨q + 1, by omega, by omega, by go_num, hP2, hR2, hB2, hO2⟩
      case measure => simp [intOf]; omega
    · have hqe : q - 256 * b = tt % 256 + 1 := by omega
      have hfin : FillSaid w B p wm v0 m vals t c fr tt v (.returned (.tuple #[])) wr := by
        have hD := TS.fillD Hinv1.out (b := b) (v := v) (i := fr % 256) (j := tt % 256 + 1) (by rw [HI1.out]; exact Hs0.out) ⟨by omega, hv1⟩
        have hkt : (t1.idx b).toNat = t.blocks.length := by rw [HI1.out]; rfl
        rw [hkt] at hD
        rw [hqe] at hR
        have hO3 : ∀ i, i < w2.heap.size → i ≠ g1 → i ≠ p → wr.heap[i]? = w2.heap[i]? := fun i _ h2 _ => hO.out i h2
        have hst9 : TrieSt w2 B p wm v0 m (.slice (some ⟨g1, 0, none⟩) t1.blocks.length cap1) vals t1 (c + 1) := by rw [HL1.out]; exact Hst1.out
        obtain ⟨hv3, hm3, hwm3⟩ := hst9.other hO3 hB
        refine ⟨rfl, hbw2.trans hB, fun eb ecs hE => ?_, _, t1.setRange t.blocks.length (fr % 256) (tt % 256 + 1) v, ⟨hP, Hst1.out.bp, hv3, hm3, hwm3, ?_, Hst1.out.bm, Hst1.out.bwm, Hst1.out.ne, ?_, hD.1⟩, fun r => ?_⟩
        · have hE1 : Blk w1 eb 80 ecs := (HOth.out eb (heap_lt hE) (Ne.symm (row_blk_ne Hst.out.h2 hE (by decide))) (blk_blk_ne hE Hst.out.ptr (by decide))).trans hE
          have hE2 := hE1.grown HG5.out (by have := blk_map_ne hE1 HM.out; simpa using this)
          exact (hO.out eb (Ne.symm (row_blk_ne hst9.h2 hE2 (by decide)))).trans hE2
        · rw [TS.setRange_blocks, HL1.out]; exact hR
        · rw [TS.setRange_blocks, HL1.out]; have := Hst.out.cnt; omega
        · rw [hD.2 r]
          rw [HC.out r]
          by_cases e : (fr : Int) ≤ r ∧ r ≤ tt
          · rw [if_pos e, if_pos (by omega)]
          · rw [if_neg e, if_neg (by omega)]
      clear hP hR hB hO
      go_wp2_with fail
      exact ⟨rfl, _, results_none rfl _ _ _, hfin⟩
end Go.Proofs.YtchkckfadennhaaGreatDoor
namespace Go.Proofs.YtchkckfadennhaaGreatDoor
open Go.RowKit
set_option linter.unusedVariables false
set_option linter.unusedSimpArgs false

theorem fill_walk {w : World} {B p wm : Nat} {v0 : Value} {m : Nat} {v2 : Value} {vals : List Sp.Str} {t : TS} {c : Nat} (h : TrieSt w B p wm v0 m v2 vals t c) (hc : c ≤ 10000000000) (hvl : vals.length ≤ 1000000) (b fr tt : Nat) (v : Int) (hft : fr ≤ tt) (ht : tt ≤ 1114111)
    (hb1 : fr / 256 = b) (hb2 : tt / 256 = b) (hv0 : 0 ≤ v) (hv1 : v < vals.length) :
    Calls Tryz.prog 78 #[.pointer (some ⟨p, 0, none⟩), .map (some wm), .int .i64 b, .int .i64 fr, .int .i64 tt, .int .i32 v] w (FillSaid w B p wm v0 m vals t c fr tt v) := by
  by_cases h255 : tt - fr = 255
  · cases hk : t.whole v with
    | none => exact fill_b h hc hvl b fr tt v (by omega) (by omega) (by omega) (by omega) (by omega) hv0 hv1 hk
    | some k => exact fill_a h hc hvl b fr tt v k (by omega) (by omega) (by omega) (by omega) (by omega) hv0 hv1 hk
  · cases hs : t.shared (t.idx b) with
    | true => exact fill_c h hc hvl b fr tt v hft ht h255 hb1 hb2 hv0 hv1 hs
    | false => exact fill_d h hc hvl b fr tt v hft ht h255 hb1 hb2 hv0 hv1 hs

/-- An entry: from, to, value. -/
structure Ent where
  lo : Int
  hi : Int
  val : Int
def entCells (es : List Ent) : List Value := es.flatMap fun e => [.int .i64 e.lo, .int .i64 e.hi, .int .i64 e.val]
/-- What a code point has, the entries being gone through, the last one that has it speaking. -/
def entCur (es : List Ent) (r : Int) : Int := es.foldl (fun x e => if e.lo ≤ r ∧ r ≤ e.hi then e.val else x) (-1)
def t0 : TS := ⟨fun _ => none, fun v => if v = -1 then some 0 else none, [rep (-1)]⟩
theorem t0_cell (k : Int) (j : Nat) (hk : k = 0) (hj : j < 256) : t0.cell k j = -1 := by
  subst hk
  exact rep_get (-1) j hj
theorem t0_inv (n : Nat) : t0.Inv n := by
  refine ⟨by decide, fun c hc => ?_, (fun b k h => by cases h), fun v k h => ?_, rfl, fun b b' _ _ => ?_, fun c hc x hx => ?_⟩
  · have : c = rep (-1) := by simpa [t0] using hc
    rw [this]; exact rep_len _
  · have h' : (if v = -1 then some (0 : Int) else none) = some k := h
    split at h'
    · rename_i e
      cases h'
      exact ⟨by decide, by decide, fun j hj => by rw [t0_cell 0 j rfl hj, e]⟩
    · cases h'
  · show t0.shared 0 = true
    unfold TS.shared
    rw [t0_cell 0 0 rfl (by decide)]
    rfl
  · have : c = rep (-1) := by simpa [t0] using hc
    rw [this] at hx
    rw [rep_mem hx]
    omega
theorem t0_cur (r : Int) : t0.cur r = -1 := t0_cell _ _ rfl (by omega)
theorem entCells_get : ∀ (es : List Ent) (j : Nat) (hj : j < es.length), (entCells es)[j * 3]? = some (.int .i64 es[j].lo) ∧ (entCells es)[j * 3 + 1]? = some (.int .i64 es[j].hi) ∧ (entCells es)[j * 3 + 2]? = some (.int .i64 es[j].val)
  | e :: es, 0, _ => ⟨rfl, rfl, rfl⟩
  | e :: es, j + 1, hj => by
    have ih := entCells_get es j (by simpa using hj)
    have e1 : entCells (e :: es) = .int .i64 e.lo :: .int .i64 e.hi :: .int .i64 e.val :: entCells es := rfl
    rw [e1, show (j + 1) * 3 = j * 3 + 3 by omega]
    exact ih
theorem entCur_snoc (es : List Ent) (e : Ent) (r : Int) : entCur (es ++ [e]) r = if e.lo ≤ r ∧ r ≤ e.hi then e.val else entCur es r := by
  unfold entCur
  rw [List.foldl_append]
  rfl

/-- A trie in memory: p its block, f the place of each code point's value (-1: none). -/
def TrieAt (w : World) (B p : Nat) (vals : List Sp.Str) (f : Int → Int) : Prop := ∃ v0 m v2 t c wm, TrieSt w B p wm v0 m v2 vals t c ∧ c ≤ 10000000000 ∧ (∀ r, 0 ≤ r → r ≤ 1114111 → t.cur r = f r) ∧ ∀ r, r < 0 ∨ 1114111 < r → t.cur r = -1
theorem TrieAt.below {w w' : World} {B p : Nat} {vals : List Sp.Str} {f : Int → Int} (h : TrieAt w B p vals f) (hb : Below w.heap.size w w') : TrieAt w' B p vals f := by
  obtain ⟨v0, m, v2, t, c, wm, h1, h2, h3⟩ := h
  exact ⟨v0, m, v2, t, c, wm, h1.below hb, h2, h3⟩
theorem entCur_out (r : Int) : ∀ (es : List Ent) (x : Int), (∀ e ∈ es, ¬ (e.lo ≤ r ∧ r ≤ e.hi)) → es.foldl (fun x e => if e.lo ≤ r ∧ r ≤ e.hi then e.val else x) x = x
  | [], _, _ => rfl
  | e :: es, x, h => by
    rw [List.foldl_cons, if_neg (h e (by simp))]
    exact entCur_out r es x fun y hy => h y (List.mem_cons_of_mem _ hy)
def BuildSaid (es : List Ent) (vals : List Sp.Str) (w : World) (e : Ending) (w' : World) : Prop := ∃ p, e = .returned (.pointer (some ⟨p, 0, none⟩)) ∧ TrieAt w' w.heap.size p vals (entCur es) ∧ Below w.heap.size w w'
theorem or255 (q : Nat) (h : q < 2097152) : bits .or .i64 ((q : Int) * 256) 255 = (q : Int) * 256 + 255 :=
  bits_join .i64 63 (by decide) (fun n h₀ h₁ => by rw [IntKind.wrap_i64]; omega) 8 _ 255 (by omega) (by omega) (by omega) (by omega) (by omega) (by omega)
set_option maxRecDepth 100000 in
set_option maxHeartbeats 600000 in
theorem build_walk (es : List Ent) (vals : List Sp.Str) (be ge ce bv gv cv : Nat) (w : World) (hes : w.ownsRow be 80 3 (.slice (some ⟨ge, 0, none⟩) es.length ce) es.length (entCells es)) (hv : w.ownsRow bv 9 1 (.slice (some ⟨gv, 0, none⟩) vals.length cv) vals.length (strVs vals))
    (hel : es.length ≤ 1000000) (hvl : vals.length ≤ 1000000) (hv1 : 0 < vals.length) (hok : ∀ e ∈ es, 0 ≤ e.lo ∧ e.lo ≤ e.hi ∧ e.hi ≤ 1114111 ∧ 0 ≤ e.val ∧ e.val < vals.length) :
    Calls Tryz.prog 50 #[.slice (some ⟨ge, 0, none⟩) es.length ce, .slice (some ⟨gv, 0, none⟩) vals.length cv] w (BuildSaid es vals w) := by
  have Hes := Lib.hid hes
  have Hv := Lib.hid hv
  have Hok := Lib.hid hok
  clear hes hv hok
  go_enter Tryz.func50, Tryz.ntmps50
  go_wp2_with fail
  have hz : Blk (w.alloc (Obj.cells Tryz.zeroCells98 98)) w.heap.size 98 Tryz.zeroCells98 := row_new _ _
  have hzs : Tryz.zeroCells98.size = 256 := by kernel_rfl
  have hb0 : Below w.heap.size w (w.alloc (Obj.cells Tryz.zeroCells98 98)) := (Below.refl _ _).alloc (Nat.le_refl _) _
  have hw0 : (w.alloc (Obj.cells Tryz.zeroCells98 98)).heap.size = w.heap.size + 1 := size_new _ _
  obtain ⟨W0, hW0⟩ : ∃ W0, W0 = w.alloc (Obj.cells Tryz.zeroCells98 98) := ⟨_, rfl⟩
  rw [← hW0] at hz hb0 hw0 ⊢
  clear hW0
  go_loopw [6, 16] (fun _ i wr => ∃ (k : Nat) (cs : Array Value), k ≤ 256 ∧ i = .int .i64 k ∧ Blk wr w.heap.size 98 cs ∧ Hid (cs.size = 256) ∧ Hid (∀ j, j < k → cs[j]? = some (.int .i32 (-1))) ∧ Below w.heap.size w wr ∧ Hid (wr.heap.size = w.heap.size + 1)) (fun _ i _ => 256 - (intOf i).toNat)
  case atStart => exact ⟨0, _, by omega, rfl, hz, hzs, fun j hj => by omega, hb0, hw0⟩
  case round =>
    obtain ⟨k, cs, hk, rfl, hB, hs, hc, hb, hwr⟩ := hrel
    clear hz hzs hb0 hw0
    by_cases hlt : k < 256
    · have hcell : ∃ u, wr.cell? ⟨w.heap.size, k, none⟩ = some u := ⟨cs[k]'(by rw [hs.out]; omega), by rw [hB.cell]; simp [hs.out, hlt]⟩
      obtain ⟨u, hu⟩ := hcell
      have hfr := hB.free k
      have hB2 := hB.set k (.int .i32 (-1))
      have hb2 := hb.setCell (p := ⟨w.heap.size, k, none⟩) (Nat.le_refl _) (.int .i32 (-1))
      have hs2 : Hid ((cs.setIfInBounds k (.int .i32 (-1))).size = 256) := by show _ = _; rw [Array.size_setIfInBounds]; exact hs.out
      have hc2 : Hid (∀ j, j < k + 1 → (cs.setIfInBounds k (.int .i32 (-1)))[j]? = some (.int .i32 (-1))) := fun j hj => by
        rw [Array.getElem?_setIfInBounds]
        split
        · rw [if_pos (by rw [hs.out]; omega)]
        · exact hc.out j (by omega)
      have hwr2 : Hid ((wr.setCell ⟨w.heap.size, k, none⟩ (.int .i32 (-1))).heap.size = w.heap.size + 1) := by show _ = _; rw [← hwr.out]; simp [World.setCell]
      clear hB hs hc hb hwr
      go_wp2_with fail
      go_roundw
      case rel => exact ⟨k + 1, _, by omega, by go_num, hB2, hs2, hc2, hb2, hwr2⟩
      case measure => simp [intOf]; omega
    · have hcs : Hid (cs.toList = (rep (-1)).map (Value.int .i32)) := by
        show _ = _
        apply List.ext_getElem?
        intro j
        rw [Array.getElem?_toList, List.getElem?_map]
        unfold rep
        rw [List.getElem?_replicate]
        by_cases hj : j < 256
        · rw [hc.out j (by omega), if_pos hj]; rfl
        · rw [if_neg hj, Array.getElem?_eq_none (by rw [hs.out]; omega)]; rfl
      go_wp2_with fail
      refine build_great _ _ _ _ w wr cs vals bv gv cv rfl (by kernel_rfl) (by kernel_rfl) (by simp) rfl rfl hs.out hb hB Hv.out (by omega) ?_
      intro vs W hJ
      simp [frS, stepS]
      simp only [Exit.then]
      have hmm := @run_makeMap Tryz.prog
      obtain ⟨W1, hrun, hwm1, hg1⟩ := (MapF.made W kI32).update (t := 116) (e := 3) Tryz.underlying116 (by decide) (.int .i64 0) (-1 : Int) (show (Lit.int .i32 (-1)).wf = true by decide)
      have hrun' : (Instr.mapUpdate 116 (.map (some W.heap.size)) (.int .i32 (-1)) (.int .i64 0)).run Tryz.prog (W.alloc (.map #[] 0)) = .ok () W1 := hrun
      obtain ⟨_, p, e7, hbp, hp⟩ := hJ.f7 rfl
      obtain ⟨_, e8⟩ := hJ.f8 rfl
      obtain ⟨m, e3, hm, hbm⟩ := hJ.f3 rfl
      have hbW : w.heap.size ≤ W.heap.size := hJ.bel.size
      have hst : TrieSt W1 w.heap.size p W.heap.size (vs 2) m (vs 5) vals t0 0 := by
        have b1 := alloc_below W (.map #[] 0)
        have hp1 := hp.below b1
        have hm1 := hm.below b1 hm.lt
        have h21 := own_below (hJ.f2 rfl) b1
        have h51 := own_below (hJ.f5 rfl) b1
        have hmade := MapF.made W kI32
        have hflat : TS.flat t0.blocks = cs.toList := by
          show TS.flat [rep (-1)] = _
          rw [TS.flat_one, hcs.out]
        refine ⟨?_, by omega, own_base (h21.kept hg1 (own_map_ne h21 hmade)) (by omega), ?_, ?_, ?_, by omega, hbW, ?_, by decide, t0_inv _⟩
        · rw [e3] at hp1
          exact hp1.grown hg1 (by have := blk_map_ne hp1 hmade; simpa using this)
        · exact hm1.kept hg1 (by have := hm.lt; simp; omega)
        · refine hwm1.congr fun x _ => ?_
          unfold setF t0 intO
          simp only
          split <;> rfl
        · rw [hflat]
          exact own_base (h51.kept hg1 (own_map_ne h51 hmade)) (by omega)
        · have := hm.lt; omega
      have hBW1 : Below w.heap.size w W1 := (hJ.bel.alloc hbW _).grown hg1 (by rw [size_new]; omega) (fun k hk => by cases hk; exact hbW)
      rw [e8, e7]
      have Hst := Lib.hid hst
      clear hrun hwm1 hg1 hJ hp hm hst hB hs hc hb hwr e7 e8 e3
      go_wp2_with fail
      go_loopw [34] (fun j wr => ∃ (q : Nat) (v2 : Value) (t : TS) (c : Nat), q ≤ es.length ∧ j = .int .i64 q ∧ Hid (TrieSt wr w.heap.size p W.heap.size (vs 2) m v2 vals t c) ∧ Hid (c ≤ 4400 * q) ∧ Hid (∀ r, t.cur r = entCur (es.take q) r) ∧ Below w.heap.size w wr) (fun j _ => es.length - (intOf j).toNat)
      case atStart => exact ⟨0, _, t0, 0, by omega, rfl, Hst, Nat.zero_le _, fun r => t0_cur r, hBW1⟩
      case round =>
        obtain ⟨q, v2, t, c, hq, rfl, hT, hcq, hcur, hBr⟩ := hrel
        clear Hst hBW1
        by_cases hlt : q < es.length
        · obtain ⟨g0, g1, g2⟩ := entCells_get es q hlt
          have hesr := own_below Hes.out hBr
          obtain ⟨o1, o2, o3, o4, o5⟩ := Hok.out es[q] (List.getElem_mem _)
          obtain ⟨e, he⟩ : ∃ e, e = es[q] := ⟨_, rfl⟩
          rw [← he] at g0 g1 g2 o1 o2 o3 o4 o5
          have He := Lib.hid he
          have k0 := own_cell hesr _ _ g0
          have k1 := own_cell hesr _ _ g1
          have k2 := own_cell hesr _ _ g2
          clear g0 g1 g2 hesr he
          go_wp2_with fail
          obtain ⟨We, hWe⟩ : ∃ We, We = wr.alloc (Obj.cells #[Value.int IntKind.i64 e.lo, Value.int IntKind.i64 e.hi, Value.int IntKind.i64 e.val] 80) := ⟨_, rfl⟩
          have hEb : Blk We wr.heap.size 80 #[Value.int IntKind.i64 e.lo, Value.int IntKind.i64 e.hi, Value.int IntKind.i64 e.val] := by subst hWe; exact row_new _ _
          have hbe : Below wr.heap.size wr We := by subst hWe; exact alloc_below _ _
          have hT2 := Lib.hid (hT.out.below hbe)
          have hBe := hBr.trans (hbe.mono hBr.size)
          have f0 : We.cell? ⟨wr.heap.size, 0, none⟩ = some (.int .i64 e.lo) := hEb.cell 0
          have f1 : We.cell? ⟨wr.heap.size, 1, none⟩ = some (.int .i64 e.hi) := hEb.cell 1
          have f2 : We.cell? ⟨wr.heap.size, 2, none⟩ = some (.int .i64 e.val) := hEb.cell 2
          rw [← hWe]
          clear hWe hbe hT hBr k0 k1 k2
          go_quiet (fail)
          simp only [Exit.then]
          obtain ⟨Wd, hWd⟩ : ∃ Wd, Wd = We.drewN nq := ⟨_, rfl⟩
          have hbd : Below We.heap.size We Wd := by subst hWd; exact below_drewN _ _
          have hEb3 := hEb.below hbd
          have hT3 := Lib.hid (hT2.out.below hbd)
          have hBd := hBe.trans (hbd.mono hBe.size)
          rw [← hWd]
          clear hWd hbd hEb hT2 hBe f0 f1 f2
          obtain ⟨elo, ehi, ev⟩ := e
          simp only at o1 o2 o3 o4 o5 hEb3 ⊢
          obtain ⟨lo, rfl⟩ := Int.eq_ofNat_of_zero_le o1
          obtain ⟨hi, rfl⟩ := Int.eq_ofNat_of_zero_le (Int.le_trans o1 o2)
          have m0 : max (lo : Int) 0 = lo := by omega
          have m1 : min (hi : Int) 1114111 = hi := by omega
          rw [m0, m1]
          have f2 : Wd.cell? ⟨wr.heap.size, 2, none⟩ = some (.int .i64 ev) := hEb3.cell 2
          have d1 : decide (ev < 0) = false := by simp; omega
          have d2 : decide ((vals.length : Int) ≤ ev) = false := by simp; omega
          have d3 : decide (hi < lo) = false := by simp; omega
          clear m0 m1 hmm hrun'
          go_wp2_with fail
          go_loopw [13] (fun j wi => ∃ (bb : Nat) (v2 : Value) (t : TS) (c : Nat), lo / 256 ≤ bb ∧ bb ≤ hi / 256 + 1 ∧ j = .int .i64 bb ∧ Hid (TrieSt wi w.heap.size p W.heap.size (vs 2) m v2 vals t c) ∧ Hid (c ≤ 4400 * q + (bb - lo / 256)) ∧
            Hid (∀ r, t.cur r = if (lo : Int) ≤ r ∧ r ≤ hi ∧ r / 256 < bb then ev else entCur (es.take q) r) ∧ Below w.heap.size w wi ∧ Hid (Blk wi wr.heap.size 80 #[Value.int IntKind.i64 lo, Value.int IntKind.i64 hi, Value.int IntKind.i64 ev])) (fun j _ => hi / 256 + 1 - (intOf j).toNat)
          case atStart => exact ⟨lo / 256, v2, t, c, Nat.le_refl _, by omega, by congr 1, hT3, by have := hcq.out; show _ ≤ _; omega, (fun r => by rw [hcur.out r, if_neg (by omega)]), hBd, hEb3⟩
          case round =>
            obtain ⟨bb, v2, t, c, hbb1, hbb2, rfl, hT4, hcq4, hcur4, hB4, hE4⟩ := hrel
            clear hT3 hcq hcur hBd hEb3 f2
            by_cases hlt2 : bb ≤ hi / 256
            · have f2 := hE4.out.cell 2
              have hor := or255 bb (by omega)
              have hcb := hcq4.out
              have hlq : q ≤ 1000000 := by omega
              have hmx : max (lo : Int) ((bb : Int) * 256) = ((max lo (bb * 256) : Nat) : Int) := by omega
              have hmn : min (hi : Int) ((bb : Int) * 256 + 255) = ((min hi (bb * 256 + 255) : Nat) : Int) := by omega
              have hfw := fill_walk hT4.out (by omega) hvl bb (max lo (bb * 256)) (min hi (bb * 256 + 255)) ev (by omega) (by omega) (by omega) (by omega) o4 o5
              rw [← hmx, ← hmn] at hfw
              have HF := Lib.hid hfw
              clear hfw hmx hmn hcb
              go_wp2_with fail
              refine HF.out.mono ?_
              rintro e w5 ⟨rfl, hb5, hkeep, v2', t', hT5, hcur5⟩
              have hE5 := Lib.hid (hkeep _ _ hE4.out)
              have hT6 := Lib.hid hT5
              have hB5 := hB4.trans hb5
              have hcur6 : Hid (∀ r, t'.cur r = if (lo : Int) ≤ r ∧ r ≤ hi ∧ r / 256 < ((bb + 1 : Nat) : Int) then ev else entCur (es.take q) r) := fun r => by
                rw [hcur5 r, hcur4.out r]
                by_cases a1 : max (lo : Int) ((bb : Int) * 256) ≤ r ∧ r ≤ min (hi : Int) ((bb : Int) * 256 + 255)
                · rw [if_pos a1, if_pos (by omega)]
                · rw [if_neg a1]
                  by_cases a2 : (lo : Int) ≤ r ∧ r ≤ hi ∧ r / 256 < (bb : Int)
                  · rw [if_pos a2, if_pos (by omega)]
                  · rw [if_neg a2, if_neg (by omega)]
              clear HF hb5 hkeep hT5 hcur5 hcur4 hT4 hE4 hB4 f2 hor
              go_wp2_with fail
              go_roundw
              case rel => exact ⟨bb + 1, v2', t', c + 1, by omega, by omega, by go_num, hT6, by have := hcq4.out; show _ ≤ _; omega, hcur6, hB5, hE5⟩
              case measure => simp [intOf]; omega
            · have hcur7 : Hid (∀ r, t.cur r = entCur (es.take (q + 1)) r) := fun r => by
                rw [hcur4.out r, List.take_succ_eq_append_getElem hlt, entCur_snoc, ← He.out]
                simp only
                by_cases a1 : (lo : Int) ≤ r ∧ r ≤ hi
                · rw [if_pos a1, if_pos (by omega)]
                · rw [if_neg a1, if_neg (by omega)]
              have hcq7 : Hid (c ≤ 4400 * (q + 1)) := by have := hcq4.out; show _ ≤ _; omega
              clear hcur4 hcq4 hE4
              go_wp2_with fail
              go_roundw
              case rel => exact ⟨q + 1, v2, t, c, by omega, by go_num, hT4, hcq7, hcur7, hB4⟩
              case measure => simp [intOf]; omega
        · obtain rfl : q = es.length := by omega
          have hfin : BuildSaid es vals w (.returned (.pointer (some ⟨p, 0, none⟩))) wr := by
            refine ⟨p, rfl, ⟨_, _, _, t, c, _, hT.out, by have := hcq.out; omega, fun r h1 h2 => ?_, fun r h1 => ?_⟩, hBr⟩
            · rw [hcur.out r, List.take_length]
            · rw [hcur.out r, List.take_length]
              exact entCur_out r es _ fun e he => by have := Hok.out e he; omega
          go_wp2_with fail
          go_ret
          exact hfin
end Go.Proofs.YtchkckfadennhaaGreatDoor
namespace Go.Proofs.YtchkckfadennhaaGreatDoor
open Go.RowKit
set_option linter.unusedVariables false
set_option linter.unusedSimpArgs false

set_option maxRecDepth 100000 in
theorem at_walk {w : World} {B p : Nat} {vals : List Sp.Str} {f : Int → Int} (h : TrieAt w B p vals f) (r : Nat) (hr : r ≤ 1114111) :
    Calls Tryz.prog 89 #[.pointer (some ⟨p, 0, none⟩), .int .i64 r] w fun e w' => e = .returned (.int .i32 (f r)) ∧ Below w.heap.size w w' := by
  obtain ⟨v0, m, v2, t, c, wm, h, hc, hf, _⟩ := h
  obtain ⟨g, cap, rfl, hbg, hgl, hnc, hcm⟩ := h.form
  unfold maxLen at hcm
  have hfr := hf r (by omega) (by omega)
  obtain ⟨k, hk⟩ : ∃ k : Nat, t.idx ((r : Int) / 256) = k := ⟨(t.idx ((r : Int) / 256)).toNat, by have := (h.inv.idx_lt ((r : Int) / 256)).1; omega⟩
  have hkl : k < t.blocks.length := by have := (h.inv.idx_lt ((r : Int) / 256)).2; omega
  have hl2 : (intO (t.first ((r / 256 : Nat) : Int))).getD (.int .i64 0) = .int .i64 k := by
    have h0 : t.idx ((r : Int) / 256) = (t.first ((r : Int) / 256)).getD 0 := rfl
    have e : ((r / 256 : Nat) : Int) = (r : Int) / 256 := by omega
    rw [hk] at h0
    rw [e]
    unfold intO
    cases hfb : t.first ((r : Int) / 256) with
    | none => rw [hfb] at h0; simp at h0 ⊢; omega
    | some x => rw [hfb] at h0; simp at h0 ⊢; omega
  have hl : ∀ nq, (Instr.lookup 92 (.map (some m)) (.int .i64 ((r : Int) / 256)) false).run Tryz.prog (w.drewN nq) = .ok (.int .i64 k) (w.drewN nq) := fun nq => by
    have e : ((r / 256 : Nat) : Int) = (r : Int) / 256 := by omega
    have h1 := look_first false (h.hm.below (below_drewN w nq) h.hm.lt) ((r / 256 : Nat) : Int) (wf_i64 (by omega) (by omega))
    rw [hl2, e] at h1
    exact h1
  have c1 : w.cell? ⟨p, 1, none⟩ = some (.map (some m)) := h.ptr.cell 1
  have c2 : w.cell? ⟨p, 2, none⟩ = some (.slice (some ⟨g, 0, none⟩) t.blocks.length cap) := h.ptr.cell 2
  have cc : w.cell? ⟨g, k * 256 + r % 256, none⟩ = some (.int .i32 (f r)) := by
    rw [h.cell k (r % 256) hkl (by omega), ← hfr]
    unfold TS.cur
    rw [hk]
    congr 3
  have hand := and255 r (by omega)
  have hn : t.blocks.length ≤ 9223372036854775807 := by omega
  generalize f r = x at *
  clear h hf hl2 hk hfr
  go_enter Tryz.func89, Tryz.ntmps89
  go_wp2_with fail
  go_quiet (fail)
  simp only [Exit.then]
  go_wp2_with fail
  go_ret
  exact ⟨rfl, below_drewN _ _⟩

/-- What a trie tells of a code point. -/
def trieGet (vals : List Sp.Str) (f : Int → Int) (r : Int) : Option Sp.Str := if 0 ≤ r ∧ r ≤ 1114111 ∧ 0 ≤ f r then vals[(f r).toNat]? else none
def GetSaid (o : Option Sp.Str) (w : World) (e : Ending) (w' : World) : Prop := e = .returned (.tuple #[.string ⟨(o.getD []).toArray⟩, .bool o.isSome]) ∧ Below w.heap.size w w'
theorem TrieAt.range {w : World} {B p : Nat} {vals : List Sp.Str} {f : Int → Int} (h : TrieAt w B p vals f) (r : Nat) (hr : r ≤ 1114111) : -1 ≤ f r ∧ f r < vals.length := by
  obtain ⟨v0, m, v2, t, c, wm, h, hc, hf, _⟩ := h
  rw [← hf r (by omega) (by omega)]
  obtain ⟨h1, h2⟩ := h.inv.idx_lt ((r : Int) / 256)
  have hm : t.blk (t.idx ((r : Int) / 256)) ∈ t.blocks := by
    unfold TS.blk
    rw [List.getD_eq_getElem?_getD, List.getElem?_eq_getElem (by omega)]
    exact List.getElem_mem _
  have hl := h.inv.len _ hm
  have hx : t.cur r ∈ t.blk (t.idx ((r : Int) / 256)) := by
    unfold TS.cur TS.cell
    rw [List.getD_eq_getElem?_getD, List.getElem?_eq_getElem (by omega)]
    exact List.getElem_mem _
  exact h.inv.vals _ hm _ hx
set_option maxRecDepth 100000 in
theorem get_walk {w : World} {B p : Nat} {vals : List Sp.Str} {f : Int → Int} (h : TrieAt w B p vals f) (r : Int) (hvl : vals.length ≤ 1000000) :
    Calls Tryz.prog 63 #[.pointer (some ⟨p, 0, none⟩), .int .i64 r] w (GetSaid (trieGet vals f r) w) := by
  have h' := h
  obtain ⟨v0, m, v2, t, c, wm, hst, hc, hf, _⟩ := h'
  obtain ⟨g, cap, rfl, hbg, hgl, hnc, hcm⟩ := hst.form
  unfold maxLen at hcm
  have c2 : w.cell? ⟨p, 2, none⟩ = some (.slice (some ⟨g, 0, none⟩) t.blocks.length cap) := hst.ptr.cell 2
  have hpos := hst.inv.pos
  have d0 : ((t.blocks.length : Int) == 0) = false := by rw [beq_eq_false_iff_ne]; omega
  have hn : t.blocks.length ≤ 9223372036854775807 := by omega
  by_cases h0 : r < 0
  · have e : trieGet vals f r = none := by unfold trieGet; rw [if_neg (by omega)]
    have hfin : GetSaid (trieGet vals f r) w (.returned (.tuple #[.string ⟨#[]⟩, .bool false])) w := ⟨by rw [e]; rfl, Below.refl _ _⟩
    have d1 : decide (r < 0) = true := by simpa using h0
    clear h hst hf e
    go_enter Tryz.func63, Tryz.ntmps63
    go_wp2_with fail
    go_ret2
    exact hfin
  · by_cases h1 : 1114111 < r
    · have e : trieGet vals f r = none := by unfold trieGet; rw [if_neg (by omega)]
      have hfin : GetSaid (trieGet vals f r) w (.returned (.tuple #[.string ⟨#[]⟩, .bool false])) w := ⟨by rw [e]; rfl, Below.refl _ _⟩
      have d1 : decide (r < 0) = false := by simp; omega
      have d2 : decide (1114111 < r) = true := by simpa using h1
      clear h hst hf e
      go_enter Tryz.func63, Tryz.ntmps63
      go_wp2_with fail
      go_ret2
      exact hfin
    · obtain ⟨q, rfl⟩ := Int.eq_ofNat_of_zero_le (show 0 ≤ r by omega)
      have hrg := h.range q (by omega)
      have hat := at_walk h q (by omega)
      have d1 : decide ((q : Int) < 0) = false := by simp
      have d2 : decide (1114111 < (q : Int)) = false := by simp; omega
      have Hat := Lib.hid hat
      obtain ⟨x, hx⟩ : ∃ x, x = f q := ⟨_, rfl⟩
      rw [← hx] at hrg Hat
      by_cases hneg : x = -1
      · have e : trieGet vals f q = none := by unfold trieGet; rw [if_neg (by omega)]
        have hfin : ∀ w', Below w.heap.size w w' → GetSaid (trieGet vals f q) w (.returned (.tuple #[.string ⟨#[]⟩, .bool false])) w' := fun w' hb => ⟨by rw [e]; rfl, hb⟩
        have d3 : (x == -1) = true := by rw [beq_iff_eq]; exact hneg
        have Hfin := Lib.hid hfin
        clear h hst hf e hat hfin hneg hx
        go_enter Tryz.func63, Tryz.ntmps63
        go_wp2_with (go_at_call 89; refine Hat.out.mono ?_; rintro e w1 ⟨rfl, hb1⟩; have HB1 := Lib.hid hb1; clear hb1)
        go_ret2
        exact Hfin.out _ HB1.out
      · obtain ⟨y, rfl⟩ := Int.eq_ofNat_of_zero_le (show 0 ≤ x by omega)
        have hyl : y < vals.length := by omega
        have e : trieGet vals f q = some vals[y] := by
          unfold trieGet
          rw [if_pos (by omega), ← hx]
          exact List.getElem?_eq_getElem hyl
        have hfin : ∀ w', Below w.heap.size w w' → GetSaid (trieGet vals f q) w (.returned (.tuple #[.string ⟨vals[y].toArray⟩, .bool true])) w' := fun w' hb => ⟨by rw [e]; rfl, hb⟩
        have d3 : ((y : Int) == -1) = false := by rw [beq_eq_false_iff_ne]; omega
        obtain ⟨gv, cv, rfl, hbv, hgv, hnv, hcv⟩ := own_form hst.hv0 (by omega)
        unfold maxLen at hcv
        have c0 : w.cell? ⟨p, 0, none⟩ = some (.slice (some ⟨gv, 0, none⟩) vals.length cv) := hst.ptr.cell 0
        have cy : w.cell? ⟨gv, y, none⟩ = some (.string ⟨vals[y].toArray⟩) := own_cell hst.hv0 y _ (by unfold strVs; rw [List.getElem?_map, List.getElem?_eq_getElem hyl]; rfl)
        generalize vals[y] = s at *
        have Hfin := Lib.hid hfin
        clear h hst hf e hat hfin hneg hx
        go_enter Tryz.func63, Tryz.ntmps63
        go_wp2_with (go_at_call 89; refine Hat.out.mono ?_; rintro e w1 ⟨rfl, hb1⟩; have HB1 := Lib.hid hb1; have c0' := cell_later hb1 c0; have cy' := cell_later hb1 cy; clear hb1 c0 cy c2)
        go_ret2
        exact Hfin.out _ HB1.out
set_option maxRecDepth 100000 in
theorem or_walk {w : World} {B p : Nat} {vals : List Sp.Str} {f : Int → Int} (h : TrieAt w B p vals f) (r : Int) (hvl : vals.length ≤ 1000000) (other : Sp.Str) :
    Calls Tryz.prog 34 #[.agg #[.pointer (some ⟨p, 0, none⟩)], .int .i64 r, .string ⟨other.toArray⟩] w fun e w' => e = .returned (.string ⟨((trieGet vals f r).getD other).toArray⟩) ∧ Below w.heap.size w w' := by
  have hb0 := alloc_below w (.cells #[.pointer (some ⟨p, 0, none⟩)] 46)
  have hg := get_walk (h.below hb0) r hvl
  have HG := Lib.hid hg
  have HB0 := Lib.hid hb0
  clear hg hb0 h
  cases ho : trieGet vals f r with
  | none =>
    rw [ho] at HG
    go_enter Tryz.func34, Tryz.ntmps34
    go_wp2_with (go_at_call 63; refine HG.out.mono ?_; rintro e w1 ⟨rfl, hb1⟩; have HB1 := Lib.hid (HB0.out.trans (hb1.mono HB0.out.size)); clear hb1)
    go_ret
    exact ⟨rfl, HB1.out⟩
  | some s =>
    rw [ho] at HG
    go_enter Tryz.func34, Tryz.ntmps34
    go_wp2_with (go_at_call 63; refine HG.out.mono ?_; rintro e w1 ⟨rfl, hb1⟩; have HB1 := Lib.hid (HB0.out.trans (hb1.mono HB0.out.size)); clear hb1)
    go_ret
    exact ⟨rfl, HB1.out⟩
end Go.Proofs.YtchkckfadennhaaGreatDoor
