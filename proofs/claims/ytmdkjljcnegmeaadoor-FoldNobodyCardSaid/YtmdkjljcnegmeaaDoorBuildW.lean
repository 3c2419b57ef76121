/- trie.Build. -/
import Derived.Test.YtmdkjljcnegmeaaDoorFill5W
namespace Go.Proofs.YtmdkjljcnegmeaaDoor
open Go.RowKit
set_option linter.unusedVariables false
set_option linter.unusedSimpArgs false

theorem fill_walk {w : World} {B p wm : Nat} {v0 : Value} {m : Nat} {v2 : Value} {vals : List Sp.Str} {t : TS} {c : Nat} (h : TrieSt w B p wm v0 m v2 vals t c) (hc : c ≤ 10000000000) (hvl : vals.length ≤ 1000000) (b fr tt : Nat) (v : Int) (hft : fr ≤ tt) (ht : tt ≤ 1114111)
    (hb1 : fr / 256 = b) (hb2 : tt / 256 = b) (hv0 : 0 ≤ v) (hv1 : v < vals.length) :
    Calls Tryd.prog 61 #[.pointer (some ⟨p, 0, none⟩), .map (some wm), .int .i64 b, .int .i64 fr, .int .i64 tt, .int .i32 v] w (FillSaid w B p wm v0 m vals t c fr tt v) := by
  by_cases h255 : tt - fr = 255
  · cases hk : t.whole v with
    | none => exact fill_b h hc hvl b fr tt v (by omega) (by omega) (by omega) (by omega) (by omega) hv0 hv1 hk
    | some k => exact fill_a h hc hvl b fr tt v k (by omega) (by omega) (by omega) (by omega) (by omega) hv0 hv1 hk
  · cases hs : t.shared (t.idx b) with
    | true => exact fill_c h hc hvl b fr tt v hft ht h255 hb1 hb2 hv0 hv1 hs
    | false => exact fill_d h hc hvl b fr tt v hft ht h255 hb1 hb2 hv0 hv1 hs

/-- An entry: from, to, value. -/
structure Ent where
  lo : Int
  hi : Int
  val : Int
def entCells (es : List Ent) : List Value := es.flatMap fun e => [.int .i64 e.lo, .int .i64 e.hi, .int .i64 e.val]
/-- What a code point has, the entries being gone through, the last one that has it speaking. -/
def entCur (es : List Ent) (r : Int) : Int := es.foldl (fun x e => if e.lo ≤ r ∧ r ≤ e.hi then e.val else x) (-1)
def t0 : TS := ⟨fun _ => none, fun v => if v = -1 then some 0 else none, [rep (-1)]⟩
theorem t0_cell (k : Int) (j : Nat) (hk : k = 0) (hj : j < 256) : t0.cell k j = -1 := by
  subst hk
  exact rep_get (-1) j hj
theorem t0_inv (n : Nat) : t0.Inv n := by
  refine ⟨by decide, fun c hc => ?_, (fun b k h => by cases h), fun v k h => ?_, rfl, fun b b' _ _ => ?_, fun c hc x hx => ?_⟩
  · have : c = rep (-1) := by simpa [t0] using hc
    rw [this]; exact rep_len _
  · have h' : (if v = -1 then some (0 : Int) else none) = some k := h
    split at h'
    · rename_i e
      cases h'
      exact ⟨by decide, by decide, fun j hj => by rw [t0_cell 0 j rfl hj, e]⟩
    · cases h'
  · show t0.shared 0 = true
    unfold TS.shared
    rw [t0_cell 0 0 rfl (by decide)]
    rfl
  · have : c = rep (-1) := by simpa [t0] using hc
    rw [this] at hx
    rw [rep_mem hx]
    omega
theorem t0_cur (r : Int) : t0.cur r = -1 := t0_cell _ _ rfl (by omega)
theorem entCells_get : ∀ (es : List Ent) (j : Nat) (hj : j < es.length), (entCells es)[j * 3]? = some (.int .i64 es[j].lo) ∧ (entCells es)[j * 3 + 1]? = some (.int .i64 es[j].hi) ∧ (entCells es)[j * 3 + 2]? = some (.int .i64 es[j].val)
  | e :: es, 0, _ => ⟨rfl, rfl, rfl⟩
  | e :: es, j + 1, hj => by
    have ih := entCells_get es j (by simpa using hj)
    have e1 : entCells (e :: es) = .int .i64 e.lo :: .int .i64 e.hi :: .int .i64 e.val :: entCells es := rfl
    rw [e1, show (j + 1) * 3 = j * 3 + 3 by omega]
    exact ih
theorem entCur_snoc (es : List Ent) (e : Ent) (r : Int) : entCur (es ++ [e]) r = if e.lo ≤ r ∧ r ≤ e.hi then e.val else entCur es r := by
  unfold entCur
  rw [List.foldl_append]
  rfl

/-- A trie in memory: p its block, f the place of each code point's value (-1: none). -/
def TrieAt (w : World) (B p : Nat) (vals : List Sp.Str) (f : Int → Int) : Prop := ∃ v0 m v2 t c wm, TrieSt w B p wm v0 m v2 vals t c ∧ c ≤ 10000000000 ∧ ∀ r, 0 ≤ r → r ≤ 1114111 → t.cur r = f r
theorem TrieAt.below {w w' : World} {B p : Nat} {vals : List Sp.Str} {f : Int → Int} (h : TrieAt w B p vals f) (hb : Below w.heap.size w w') : TrieAt w' B p vals f := by
  obtain ⟨v0, m, v2, t, c, wm, h1, h2, h3⟩ := h
  exact ⟨v0, m, v2, t, c, wm, h1.below hb, h2, h3⟩
def BuildSaid (es : List Ent) (vals : List Sp.Str) (w : World) (e : Ending) (w' : World) : Prop := ∃ p, e = .returned (.pointer (some ⟨p, 0, none⟩)) ∧ TrieAt w' w.heap.size p vals (entCur es) ∧ Below w.heap.size w w'
theorem or255 (q : Nat) (h : q < 2097152) : bits .or .i64 ((q : Int) * 256) 255 = (q : Int) * 256 + 255 :=
  bits_join .i64 63 (by decide) (fun n h₀ h₁ => by rw [IntKind.wrap_i64]; omega) 8 _ 255 (by omega) (by omega) (by omega) (by omega) (by omega) (by omega)
set_option maxRecDepth 100000 in
set_option maxHeartbeats 600000 in
theorem build_walk (es : List Ent) (vals : List Sp.Str) (be ge ce bv gv cv : Nat) (w : World) (hes : w.ownsRow be 82 3 (.slice (some ⟨ge, 0, none⟩) es.length ce) es.length (entCells es)) (hv : w.ownsRow bv 9 1 (.slice (some ⟨gv, 0, none⟩) vals.length cv) vals.length (strVs vals))
    (hel : es.length ≤ 1000000) (hvl : vals.length ≤ 1000000) (hv1 : 0 < vals.length) (hok : ∀ e ∈ es, 0 ≤ e.lo ∧ e.lo ≤ e.hi ∧ e.hi ≤ 1114111 ∧ 0 ≤ e.val ∧ e.val < vals.length) :
    Calls Tryd.prog 46 #[.slice (some ⟨ge, 0, none⟩) es.length ce, .slice (some ⟨gv, 0, none⟩) vals.length cv] w (BuildSaid es vals w) := by
  have Hes := Lib.hid hes
  have Hv := Lib.hid hv
  have Hok := Lib.hid hok
  clear hes hv hok
  go_enter Tryd.func46, Tryd.ntmps46
  go_wp2_with fail
  have hz : Blk (w.alloc (Obj.cells Tryd.zeroCells102 102)) w.heap.size 102 Tryd.zeroCells102 := row_new _ _
  have hzs : Tryd.zeroCells102.size = 256 := by kernel_rfl
  have hb0 : Below w.heap.size w (w.alloc (Obj.cells Tryd.zeroCells102 102)) := (Below.refl _ _).alloc (Nat.le_refl _) _
  have hw0 : (w.alloc (Obj.cells Tryd.zeroCells102 102)).heap.size = w.heap.size + 1 := size_new _ _
  obtain ⟨W0, hW0⟩ : ∃ W0, W0 = w.alloc (Obj.cells Tryd.zeroCells102 102) := ⟨_, rfl⟩
  rw [← hW0] at hz hb0 hw0 ⊢
  clear hW0
  go_loopw [6, 16] (fun _ i wr => ∃ (k : Nat) (cs : Array Value), k ≤ 256 ∧ i = .int .i64 k ∧ Blk wr w.heap.size 102 cs ∧ Hid (cs.size = 256) ∧ Hid (∀ j, j < k → cs[j]? = some (.int .i32 (-1))) ∧ Below w.heap.size w wr ∧ Hid (wr.heap.size = w.heap.size + 1)) (fun _ i _ => 256 - (intOf i).toNat)
  case atStart => exact ⟨0, _, by omega, rfl, hz, hzs, fun j hj => by omega, hb0, hw0⟩
  case round =>
    obtain ⟨k, cs, hk, rfl, hB, hs, hc, hb, hwr⟩ := hrel
    clear hz hzs hb0 hw0
    by_cases hlt : k < 256
    · have hcell : ∃ u, wr.cell? ⟨w.heap.size, k, none⟩ = some u := ⟨cs[k]'(by rw [hs.out]; omega), by rw [hB.cell]; simp [hs.out, hlt]⟩
      obtain ⟨u, hu⟩ := hcell
      have hfr := hB.free k
      have hB2 := hB.set k (.int .i32 (-1))
      have hb2 := hb.setCell (p := ⟨w.heap.size, k, none⟩) (Nat.le_refl _) (.int .i32 (-1))
      have hs2 : Hid ((cs.setIfInBounds k (.int .i32 (-1))).size = 256) := by show _ = _; rw [Array.size_setIfInBounds]; exact hs.out
      have hc2 : Hid (∀ j, j < k + 1 → (cs.setIfInBounds k (.int .i32 (-1)))[j]? = some (.int .i32 (-1))) := fun j hj => by
        rw [Array.getElem?_setIfInBounds]
        split
        · rw [if_pos (by rw [hs.out]; omega)]
        · exact hc.out j (by omega)
      have hwr2 : Hid ((wr.setCell ⟨w.heap.size, k, none⟩ (.int .i32 (-1))).heap.size = w.heap.size + 1) := by show _ = _; rw [← hwr.out]; simp [World.setCell]
      clear hB hs hc hb hwr
      go_wp2_with fail
      go_roundw
      case rel => exact ⟨k + 1, _, by omega, by go_num, hB2, hs2, hc2, hb2, hwr2⟩
      case measure => simp [intOf]; omega
    · have hcs : Hid (cs.toList = (rep (-1)).map (Value.int .i32)) := by
        show _ = _
        apply List.ext_getElem?
        intro j
        rw [Array.getElem?_toList, List.getElem?_map]
        unfold rep
        rw [List.getElem?_replicate]
        by_cases hj : j < 256
        · rw [hc.out j (by omega), if_pos hj]; rfl
        · rw [if_neg hj, Array.getElem?_eq_none (by rw [hs.out]; omega)]; rfl
      go_wp2_with fail
      refine build_great _ _ _ _ w wr cs vals bv gv cv rfl (by kernel_rfl) (by kernel_rfl) (by simp) rfl rfl hs.out hb hB Hv.out (by omega) ?_
      intro vs W hJ
      simp [frS, stepS]
      simp only [Exit.then]
      have hmm := @run_makeMap Tryd.prog
      obtain ⟨W1, hrun, hwm1, hg1⟩ := (MapF.made W kI32).update (t := 107) (e := 3) Tryd.underlying107 (by decide) (.int .i64 0) (-1 : Int) (show (Lit.int .i32 (-1)).wf = true by decide)
      have hrun' : (Instr.mapUpdate 107 (.map (some W.heap.size)) (.int .i32 (-1)) (.int .i64 0)).run Tryd.prog (W.alloc (.map #[] 0)) = .ok () W1 := hrun
      obtain ⟨_, p, e7, hbp, hp⟩ := hJ.f7 rfl
      obtain ⟨_, e8⟩ := hJ.f8 rfl
      obtain ⟨m, e3, hm, hbm⟩ := hJ.f3 rfl
      have hbW : w.heap.size ≤ W.heap.size := hJ.bel.size
      have hst : TrieSt W1 w.heap.size p W.heap.size (vs 2) m (vs 5) vals t0 0 := by
        have b1 := alloc_below W (.map #[] 0)
        have hp1 := hp.below b1
        have hm1 := hm.below b1 hm.lt
        have h21 := own_below (hJ.f2 rfl) b1
        have h51 := own_below (hJ.f5 rfl) b1
        have hmade := MapF.made W kI32
        have hflat : TS.flat t0.blocks = cs.toList := by
          show TS.flat [rep (-1)] = _
          rw [TS.flat_one, hcs.out]
        refine ⟨?_, by omega, own_base (h21.kept hg1 (own_map_ne h21 hmade)) (by omega), ?_, ?_, ?_, by omega, hbW, ?_, by decide, t0_inv _⟩
        · rw [e3] at hp1
          exact hp1.grown hg1 (by have := blk_map_ne hp1 hmade; simpa using this)
        · exact hm1.kept hg1 (by have := hm.lt; simp; omega)
        · refine hwm1.congr fun x _ => ?_
          unfold setF t0 intO
          simp only
          split <;> rfl
        · rw [hflat]
          exact own_base (h51.kept hg1 (own_map_ne h51 hmade)) (by omega)
        · have := hm.lt; omega
      have hBW1 : Below w.heap.size w W1 := (hJ.bel.alloc hbW _).grown hg1 (by rw [size_new]; omega) (fun k hk => by cases hk; exact hbW)
      rw [e8, e7]
      have Hst := Lib.hid hst
      clear hrun hwm1 hg1 hJ hp hm hst hB hs hc hb hwr e7 e8 e3
      go_wp2_with fail
      go_loopw [34] (fun j wr => ∃ (q : Nat) (v2 : Value) (t : TS) (c : Nat), q ≤ es.length ∧ j = .int .i64 q ∧ Hid (TrieSt wr w.heap.size p W.heap.size (vs 2) m v2 vals t c) ∧ Hid (c ≤ 4400 * q) ∧ Hid (∀ r, 0 ≤ r → r ≤ 1114111 → t.cur r = entCur (es.take q) r) ∧ Below w.heap.size w wr) (fun j _ => es.length - (intOf j).toNat)
      case atStart => exact ⟨0, _, t0, 0, by omega, rfl, Hst, Nat.zero_le _, fun r _ _ => t0_cur r, hBW1⟩
      case round =>
        obtain ⟨q, v2, t, c, hq, rfl, hT, hcq, hcur, hBr⟩ := hrel
        clear Hst hBW1
        by_cases hlt : q < es.length
        · obtain ⟨g0, g1, g2⟩ := entCells_get es q hlt
          have hesr := own_below Hes.out hBr
          obtain ⟨o1, o2, o3, o4, o5⟩ := Hok.out es[q] (List.getElem_mem _)
          obtain ⟨e, he⟩ : ∃ e, e = es[q] := ⟨_, rfl⟩
          rw [← he] at g0 g1 g2 o1 o2 o3 o4 o5
          have He := Lib.hid he
          have k0 := own_cell hesr _ _ g0
          have k1 := own_cell hesr _ _ g1
          have k2 := own_cell hesr _ _ g2
          clear g0 g1 g2 hesr he
          go_wp2_with fail
          obtain ⟨We, hWe⟩ : ∃ We, We = wr.alloc (Obj.cells #[Value.int IntKind.i64 e.lo, Value.int IntKind.i64 e.hi, Value.int IntKind.i64 e.val] 82) := ⟨_, rfl⟩
          have hEb : Blk We wr.heap.size 82 #[Value.int IntKind.i64 e.lo, Value.int IntKind.i64 e.hi, Value.int IntKind.i64 e.val] := by subst hWe; exact row_new _ _
          have hbe : Below wr.heap.size wr We := by subst hWe; exact alloc_below _ _
          have hT2 := Lib.hid (hT.out.below hbe)
          have hBe := hBr.trans (hbe.mono hBr.size)
          have f0 : We.cell? ⟨wr.heap.size, 0, none⟩ = some (.int .i64 e.lo) := hEb.cell 0
          have f1 : We.cell? ⟨wr.heap.size, 1, none⟩ = some (.int .i64 e.hi) := hEb.cell 1
          have f2 : We.cell? ⟨wr.heap.size, 2, none⟩ = some (.int .i64 e.val) := hEb.cell 2
          rw [← hWe]
          clear hWe hbe hT hBr k0 k1 k2
          go_quiet (fail)
          simp only [Exit.then]
          obtain ⟨Wd, hWd⟩ : ∃ Wd, Wd = We.drewN nq := ⟨_, rfl⟩
          have hbd : Below We.heap.size We Wd := by subst hWd; exact below_drewN _ _
          have hEb3 := hEb.below hbd
          have hT3 := Lib.hid (hT2.out.below hbd)
          have hBd := hBe.trans (hbd.mono hBe.size)
          rw [← hWd]
          clear hWd hbd hEb hT2 hBe f0 f1 f2
          obtain ⟨elo, ehi, ev⟩ := e
          simp only at o1 o2 o3 o4 o5 hEb3 ⊢
          obtain ⟨lo, rfl⟩ := Int.eq_ofNat_of_zero_le o1
          obtain ⟨hi, rfl⟩ := Int.eq_ofNat_of_zero_le (Int.le_trans o1 o2)
          have m0 : max (lo : Int) 0 = lo := by omega
          have m1 : min (hi : Int) 1114111 = hi := by omega
          rw [m0, m1]
          have f2 : Wd.cell? ⟨wr.heap.size, 2, none⟩ = some (.int .i64 ev) := hEb3.cell 2
          have d1 : decide (ev < 0) = false := by simp; omega
          have d2 : decide ((vals.length : Int) ≤ ev) = false := by simp; omega
          have d3 : decide (hi < lo) = false := by simp; omega
          clear m0 m1 hmm hrun'
          go_wp2_with fail
          go_loopw [13] (fun j wi => ∃ (bb : Nat) (v2 : Value) (t : TS) (c : Nat), lo / 256 ≤ bb ∧ bb ≤ hi / 256 + 1 ∧ j = .int .i64 bb ∧ Hid (TrieSt wi w.heap.size p W.heap.size (vs 2) m v2 vals t c) ∧ Hid (c ≤ 4400 * q + (bb - lo / 256)) ∧
            Hid (∀ r, 0 ≤ r → r ≤ 1114111 → t.cur r = if (lo : Int) ≤ r ∧ r ≤ hi ∧ r / 256 < bb then ev else entCur (es.take q) r) ∧ Below w.heap.size w wi ∧ Hid (Blk wi wr.heap.size 82 #[Value.int IntKind.i64 lo, Value.int IntKind.i64 hi, Value.int IntKind.i64 ev])) (fun j _ => hi / 256 + 1 - (intOf j).toNat)
          case atStart => exact ⟨lo / 256, v2, t, c, Nat.le_refl _, by omega, by congr 1, hT3, by have := hcq.out; show _ ≤ _; omega, (fun r h1 h2 => by rw [hcur.out r h1 h2, if_neg (by omega)]), hBd, hEb3⟩
          case round =>
            obtain ⟨bb, v2, t, c, hbb1, hbb2, rfl, hT4, hcq4, hcur4, hB4, hE4⟩ := hrel
            clear hT3 hcq hcur hBd hEb3 f2
            by_cases hlt2 : bb ≤ hi / 256
            · have f2 := hE4.out.cell 2
              have hor := or255 bb (by omega)
              have hcb := hcq4.out
              have hlq : q ≤ 1000000 := by omega
              have hmx : max (lo : Int) ((bb : Int) * 256) = ((max lo (bb * 256) : Nat) : Int) := by omega
              have hmn : min (hi : Int) ((bb : Int) * 256 + 255) = ((min hi (bb * 256 + 255) : Nat) : Int) := by omega
              have hfw := fill_walk hT4.out (by omega) hvl bb (max lo (bb * 256)) (min hi (bb * 256 + 255)) ev (by omega) (by omega) (by omega) (by omega) o4 o5
              rw [← hmx, ← hmn] at hfw
              have HF := Lib.hid hfw
              clear hfw hmx hmn hcb
              go_wp2_with fail
              refine HF.out.mono ?_
              rintro e w5 ⟨rfl, hb5, hkeep, v2', t', hT5, hcur5⟩
              have hE5 := Lib.hid (hkeep _ _ hE4.out)
              have hT6 := Lib.hid hT5
              have hB5 := hB4.trans hb5
              have hcur6 : Hid (∀ r, 0 ≤ r → r ≤ 1114111 → t'.cur r = if (lo : Int) ≤ r ∧ r ≤ hi ∧ r / 256 < ((bb + 1 : Nat) : Int) then ev else entCur (es.take q) r) := fun r h1 h2 => by
                rw [hcur5 r, hcur4.out r h1 h2]
                by_cases a1 : max (lo : Int) ((bb : Int) * 256) ≤ r ∧ r ≤ min (hi : Int) ((bb : Int) * 256 + 255)
                · rw [if_pos a1, if_pos (by omega)]
                · rw [if_neg a1]
                  by_cases a2 : (lo : Int) ≤ r ∧ r ≤ hi ∧ r / 256 < (bb : Int)
                  · rw [if_pos a2, if_pos (by omega)]
                  · rw [if_neg a2, if_neg (by omega)]
              clear HF hb5 hkeep hT5 hcur5 hcur4 hT4 hE4 hB4 f2 hor
              go_wp2_with fail
              go_roundw
              case rel => exact ⟨bb + 1, v2', t', c + 1, by omega, by omega, by go_num, hT6, by have := hcq4.out; show _ ≤ _; omega, hcur6, hB5, hE5⟩
              case measure => simp [intOf]; omega
            · have hcur7 : Hid (∀ r, 0 ≤ r → r ≤ 1114111 → t.cur r = entCur (es.take (q + 1)) r) := fun r h1 h2 => by
                rw [hcur4.out r h1 h2, List.take_succ_eq_append_getElem hlt, entCur_snoc, ← He.out]
                simp only
                by_cases a1 : (lo : Int) ≤ r ∧ r ≤ hi
                · rw [if_pos a1, if_pos (by omega)]
                · rw [if_neg a1, if_neg (by omega)]
              have hcq7 : Hid (c ≤ 4400 * (q + 1)) := by have := hcq4.out; show _ ≤ _; omega
              clear hcur4 hcq4 hE4
              go_wp2_with fail
              go_roundw
              case rel => exact ⟨q + 1, v2, t, c, by omega, by go_num, hT4, hcq7, hcur7, hB4⟩
              case measure => simp [intOf]; omega
        · obtain rfl : q = es.length := by omega
          have hfin : BuildSaid es vals w (.returned (.pointer (some ⟨p, 0, none⟩))) wr := by
            refine ⟨p, rfl, ⟨_, _, _, t, c, _, hT.out, by have := hcq.out; omega, fun r h1 h2 => ?_⟩, hBr⟩
            rw [hcur.out r h1 h2, List.take_length]
          go_wp2_with fail
          go_ret
          exact hfin
end Go.Proofs.YtmdkjljcnegmeaaDoor
