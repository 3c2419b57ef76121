/- trie: fill, a whole block that is new. -/
import Derived.Test.YtmdkjljcnegmeaaDoorFill2W
import Derived.Test.YtmdkjljcnegmeaaDoorTrieR
namespace Go.Proofs.YtmdkjljcnegmeaaDoor
open Go.RowKit
set_option linter.unusedVariables false
set_option linter.unusedSimpArgs false

theorem own_map_ne {w : World} {base n n' : Nat} {v : Value} {e : TypeId} {size m : Nat} {xs : List Value} {κ : Type} {k : TypeId} {K : KK Tryd.prog k κ} {f : κ → Option Value} (h : w.ownsRow base e size v n xs) (hm : MapF w K m n' f) : v.ownBlock = none ∨ v.ownBlock ≠ some m := by
  rcases h.2 with ⟨rfl, _⟩ | ⟨g', cap', cur, rfl, _⟩
  · exact .inl rfl
  · right
    have := row_map_ne h hm
    simpa [Value.ownBlock] using this
theorem TrieSt.lt {w : World} {B p wm : Nat} {v0 : Value} {m : Nat} {v2 : Value} {vals : List Sp.Str} {t : TS} {c : Nat} (h : TrieSt w B p wm v0 m v2 vals t c) : B ≤ w.heap.size := Nat.le_trans h.bp (Nat.le_of_lt (heap_lt h.ptr))
/-- Another block of cells has come behind the others: what stands beside. -/
theorem TrieSt.other {w w' : World} {B p wm : Nat} {v0 : Value} {m : Nat} {vals : List Sp.Str} {t : TS} {c g cap : Nat} (h : TrieSt w B p wm v0 m (.slice (some ⟨g, 0, none⟩) t.blocks.length cap) vals t c)
    (ho : ∀ i, i < w.heap.size → i ≠ g → i ≠ p → w'.heap[i]? = w.heap[i]?) (hl : Below B w w') :
    w'.ownsRow B 9 1 v0 vals.length (strVs vals) ∧ MapF w' kInt m c (fun i => intO (t.first i)) ∧ MapF w' kI32 wm (c + 1) (fun i => intO (t.whole i)) := by
  have hgp := row_blk_ne h.h2 h.ptr (by decide)
  refine ⟨?_, h.hm.block (ho m h.hm.lt ?_ ?_), h.hwm.block (ho wm h.hwm.lt ?_ ?_)⟩
  · by_cases hz : vals.length = 0
    · rcases h.hv0.2 with ⟨rfl, _⟩ | ⟨g', cap', cur, rfl, hb', hh, h1, h2, h3⟩
      · exact ⟨h.hv0.1, .inl ⟨rfl, hz⟩⟩
      · have hh' : w'.heap[g']? = w.heap[g']? := ho g' (heap_lt hh) (fun e => by
          have := h.hv0
          have h5 := own_types h.h2 this (by decide)
          rcases h5 with h5 | h5
          · simp [Value.ownBlock] at h5
          · exact h5 (by simp [Value.ownBlock, e])) (fun e => row_blk_ne h.hv0 h.ptr (by decide) e)
        exact ⟨h.hv0.1, .inr ⟨g', cap', cur, rfl, hb', hh'.trans hh, h1, h2, h3⟩⟩
    · obtain ⟨g', cap', e3, _⟩ := own_form h.hv0 (by omega)
      have h3 := h.hv0
      rw [e3] at h3 ⊢
      rcases h3.2 with ⟨h4, _⟩ | ⟨g2, cap2, cur, he, hb', hh, h1, h2, h5⟩
      · simp at h4
      · have e4 : g' = g2 := by simp at he; exact he.1
        subst e4
        have hh' : w'.heap[g']? = w.heap[g']? := ho g' (heap_lt hh) (fun e => by
          have h5 := own_types h.h2 h3 (by decide)
          rcases h5 with h5 | h5
          · simp [Value.ownBlock] at h5
          · exact h5 (by simp [Value.ownBlock, e])) (fun e => row_blk_ne h3 h.ptr (by decide) e)
        exact ⟨h3.1, .inr ⟨g', cap2, cur, he, hb', hh'.trans hh, h1, h2, h5⟩⟩
  · exact fun e => row_map_ne h.h2 h.hm e.symm
  · exact fun e => blk_map_ne h.ptr h.hm e.symm
  · exact fun e => row_map_ne h.h2 h.hwm e.symm
  · exact fun e => blk_map_ne h.ptr h.hwm e.symm

set_option maxRecDepth 100000 in
set_option maxHeartbeats 400000 in
theorem fill_b {w : World} {B p wm : Nat} {v0 : Value} {m : Nat} {v2 : Value} {vals : List Sp.Str} {t : TS} {c : Nat} (h : TrieSt w B p wm v0 m v2 vals t c) (hc : c ≤ 10000000000) (hvl : vals.length ≤ 1000000) (b fr tt v : Int) (hf : 0 ≤ fr) (ht : tt ≤ 1114111)
    (h255 : tt - fr = 255) (hb1 : fr / 256 = b) (hb2 : tt / 256 = b) (hv0 : 0 ≤ v) (hv1 : v < vals.length) (hk : t.whole v = none) :
    Calls Tryd.prog 61 #[.pointer (some ⟨p, 0, none⟩), .map (some wm), .int .i64 b, .int .i64 fr, .int .i64 tt, .int .i32 v] w (FillSaid w B p wm v0 m vals t c fr tt v) := by
  obtain ⟨hi, hcur⟩ := TS.fillB h.inv (b := b) hk ⟨by omega, hv1⟩
  have hl := look_whole true h.hwm v (wf_i32 (by omega) (by omega))
  rw [hk] at hl
  simp only [intO, Option.map_none, Option.getD_none, Option.isSome_none, if_true] at hl
  obtain ⟨g, cap, rfl, hbg, hgl, hnc, hcm⟩ := h.form
  unfold maxLen at hcm
  have c1 : w.cell? ⟨p, 1, none⟩ = some (.map (some m)) := h.ptr.cell 1
  have c2 : w.cell? ⟨p, 2, none⟩ = some (.slice (some ⟨g, 0, none⟩) t.blocks.length cap) := h.ptr.cell 2
  have he : (tt - fr == 255) = true := by rw [beq_iff_eq]; exact h255
  have Hst := Lib.hid h
  have hn : t.blocks.length ≤ 9223372036854775807 := by omega
  have Hcur := Lib.hid hcur
  have Hi := Lib.hid hi
  have hbw : Hid (kInt.ok b) := wf_i64 (by omega) (by omega)
  clear h hk hcur hi h255
  go_enter Tryd.func61, Tryd.ntmps61
  go_wp2_with fail
  have hz : Blk (w.alloc (Obj.cells Tryd.zeroCells102 102)) w.heap.size 102 Tryd.zeroCells102 := row_new _ _
  have hzs : Tryd.zeroCells102.size = 256 := by kernel_rfl
  have hb0 : Below w.heap.size w (w.alloc (Obj.cells Tryd.zeroCells102 102)) := (Below.refl _ _).alloc (Nat.le_refl _) _
  have hw0 : (w.alloc (Obj.cells Tryd.zeroCells102 102)).heap.size = w.heap.size + 1 := size_new _ _
  obtain ⟨W0, hW0⟩ : ∃ W0, W0 = w.alloc (Obj.cells Tryd.zeroCells102 102) := ⟨_, rfl⟩
  rw [← hW0] at hz hb0 hw0 ⊢
  clear hW0
  go_loopw [15, 35] (fun _ i wr => ∃ (k : Nat) (cs : Array Value), k ≤ 256 ∧ i = .int .i64 k ∧ Blk wr w.heap.size 102 cs ∧ Hid (cs.size = 256) ∧ Hid (∀ j, j < k → cs[j]? = some (.int .i32 v)) ∧ Below w.heap.size w wr ∧ Hid (wr.heap.size = w.heap.size + 1)) (fun _ i _ => 256 - (intOf i).toNat)
  case atStart => exact ⟨0, _, by omega, rfl, hz, hzs, fun j hj => by omega, hb0, hw0⟩
  case round =>
    obtain ⟨k, cs, hk, rfl, hB, hs, hcc, hb, hwr⟩ := hrel
    clear hz hzs hb0 hw0
    by_cases hlt : k < 256
    · have hcell : ∃ u, wr.cell? ⟨w.heap.size, k, none⟩ = some u := ⟨cs[k]'(by rw [hs.out]; omega), by rw [hB.cell]; simp [hs.out, hlt]⟩
      obtain ⟨u, hu⟩ := hcell
      have hfr := hB.free k
      have hB2 := hB.set k (.int .i32 v)
      have hb2' := hb.setCell (p := ⟨w.heap.size, k, none⟩) (Nat.le_refl _) (.int .i32 v)
      have hs2 : Hid ((cs.setIfInBounds k (.int .i32 v)).size = 256) := by show _ = _; rw [Array.size_setIfInBounds]; exact hs.out
      have hc2 : Hid (∀ j, j < k + 1 → (cs.setIfInBounds k (.int .i32 v))[j]? = some (.int .i32 v)) := fun j hj => by
        rw [Array.getElem?_setIfInBounds]
        split
        · rw [if_pos (by rw [hs.out]; omega)]
        · exact hcc.out j (by omega)
      have hwr2 : Hid ((wr.setCell ⟨w.heap.size, k, none⟩ (.int .i32 v)).heap.size = w.heap.size + 1) := by show _ = _; rw [← hwr.out]; simp [World.setCell]
      clear hB hs hcc hb hwr c1 c2 hl
      go_wp2_with fail
      go_roundw
      case rel => exact ⟨k + 1, _, by omega, by go_num, hB2, hs2, hc2, hb2', hwr2⟩
      case measure => simp [intOf]; omega
    · have hst2 := Hst.out.below hb
      have hcs : Hid (cs.toList = (rep v).map (Value.int .i32)) := by
        show _ = _
        apply List.ext_getElem?
        intro j
        rw [Array.getElem?_toList, List.getElem?_map]
        unfold rep
        rw [List.getElem?_replicate]
        by_cases hj : j < 256
        · rw [hcc.out j (by omega), if_pos hj]; rfl
        · rw [if_neg hj, Array.getElem?_eq_none (by rw [hs.out]; omega)]; rfl
      go_wp2_with fail
      refine fill_great10 _ _ _ _ wr p w.heap.size B t.blocks.length cs v0 m g cap (TS.flat t.blocks) rfl (by kernel_rfl) (by kernel_rfl) (by kernel_rfl) (by simp) rfl rfl hs.out ?_ hst2.ptr hB hst2.h2 hst2.lt ?_ ?_
      · intro u hu; rw [hcs.out] at hu; obtain ⟨x, _, rfl⟩ := List.mem_map.1 hu; rfl
      · have := Hst.out.cnt; omega
      intro v' w' V hown' hp' hbel' hoth'
      simp [frS, stepS]
      simp only [Exit.then]
      have hst3 : TrieSt wr B p wm v0 m (.slice (some ⟨g, 0, none⟩) t.blocks.length cap) vals t c := hst2
      have hB' := hbel' B hst3.bp hbg hst3.lt
      obtain ⟨hv3, hm3, hwm3⟩ := hst3.other hoth' hB'
      have HOth := Lib.hid hoth'
      have hgk := row_blk_ne hst3.h2 hst3.ptr (by decide)
      have HPw := Lib.hid hst3.ptr
      have HRw := Lib.hid hst3.h2
      have HM := Lib.hid hm3
      have HWM := Lib.hid hwm3
      have HP := Lib.hid hp'
      have hcm1 : c < maxLen := by unfold maxLen; omega
      have hcm2 : c + 1 < maxLen := by unfold maxLen; omega
      have hok2 : Hid (kI32.ok v) := wf_i32 (by omega) (by omega)
      have hnm : wm ≠ m := Ne.symm hst3.ne
      clear hp' hm3 hwm3 hst3 hst2 hoth' hbel' hB hs hcc hwr c1 c2 hl
      go_wp2_with (first | (at_mapUpdate; refine wp_mapUpdateF _ rfl _ _ _ 107 rfl kI32 Tryd.underlying107 wm (c + 1) _ rfl HWM.out hcm2 v (.int .i64 t.blocks.length) rfl rfl hok2.out ?_; intro w4 hm4 hg4; have HM4 := Lib.hid hm4; have HG4 := Lib.hid hg4; have c1 : w4.cell? ⟨p, 1, none⟩ = some (.map (some m)) := (HP.out.grown hg4 (by have := blk_map_ne HP.out HWM.out; simpa using this)).cell 1; clear hm4 hg4) | (at_mapUpdate; refine wp_mapUpdateF _ rfl _ _ _ 103 rfl kInt Tryd.underlying103 m c _ rfl (HM.out.kept HG4.out (by simpa using (Ne.symm hnm))) hcm1 b (.int .i64 t.blocks.length) rfl rfl hbw.out ?_; intro w5 hm5 hg5; have HM5 := Lib.hid hm5; have HG5 := Lib.hid hg5; clear hm5 hg5))
      refine ⟨rfl, _, results_none rfl _ _ _, ?_⟩
      have h4 := HM4.out
      have h5 := HM5.out
      rw [setF_whole] at h4
      rw [setF_first] at h5
      have hBm := Hst.out.bm
      have hBwm := Hst.out.bwm
      have l1 : B ≤ w'.heap.size := Nat.le_trans hBm (Nat.le_of_lt HM.out.lt)
      have b4 : Below B wr w4 := hB'.grown HG4.out l1 (fun k hk => by cases hk; exact hBwm)
      have b5 : Below B wr w5 := b4.grown HG5.out (Nat.le_trans l1 HG4.out.size) (fun k hk => by cases hk; exact hBm)
      have m4 : MapF w4 kInt m c _ := HM.out.kept HG4.out (by simpa using (Ne.symm hnm))
      have p4 := HP.out.grown HG4.out (by have := blk_map_ne HP.out HWM.out; simpa using this)
      have p5 := p4.grown HG5.out (by have := blk_map_ne p4 m4; simpa using this)
      have v4 := hv3.kept HG4.out (own_map_ne hv3 HWM.out)
      have v5 := v4.kept HG5.out (own_map_ne v4 m4)
      have o4 := hown'.kept HG4.out (own_map_ne hown' HWM.out)
      have o5 := o4.kept HG5.out (own_map_ne o4 m4)
      have hcnt := Hst.out.cnt
      refine ⟨rfl, (hb.mono (Nat.le_trans Hst.out.lt (Nat.le_refl _))).trans b5, fun eb ecs hE => ?_, v', ((t.push (rep v)).setWhole v t.blocks.length).setFirst b t.blocks.length, ⟨p5, Hst.out.bp, v5, h5, ?_, ?_, hBm, hBwm, Hst.out.ne, ?_, Hi.out⟩, fun r => ?_⟩
      · have hE1 := hE.below hb
        have hE2 : Blk w' eb 82 ecs := (HOth.out eb (heap_lt hE1) (Ne.symm (row_blk_ne HRw.out hE1 (by decide))) (blk_blk_ne hE1 HPw.out (by decide))).trans hE1
        have hE3 := hE2.grown HG4.out (by have := blk_map_ne hE2 HWM.out; simpa using this)
        exact hE3.grown HG5.out (by have := blk_map_ne hE3 m4; simpa using this)
      · exact h4.kept HG5.out (by simpa using hnm)
      · have e1 : (((t.push (rep v)).setWhole v t.blocks.length).setFirst b t.blocks.length).blocks = t.blocks ++ [rep v] := rfl
        rw [e1, TS.flat_append, TS.flat_one, ← hcs.out, List.length_append]
        exact o5
      · show (t.blocks ++ [rep v]).length ≤ _
        rw [List.length_append, List.length_singleton]
        omega
      · rw [Hcur.out r]
        by_cases e : r / 256 = b
        · rw [if_pos e, if_pos (by rw [beq_iff_eq] at he; omega)]
        · rw [if_neg e, if_neg (by rw [beq_iff_eq] at he; omega)]
end Go.Proofs.YtmdkjljcnegmeaaDoor
