/- trie: fill, a part of a block that others share. -/
import Derived.Test.YtmdkjljcnegmeaaDoorFill4W
namespace Go.Proofs.YtmdkjljcnegmeaaDoor
open Go.RowKit
set_option linter.unusedVariables false
set_option linter.unusedSimpArgs false

set_option maxRecDepth 100000 in
set_option maxHeartbeats 600000 in
theorem fill_c {w : World} {B p wm : Nat} {v0 : Value} {m : Nat} {v2 : Value} {vals : List Sp.Str} {t : TS} {c : Nat} (h : TrieSt w B p wm v0 m v2 vals t c) (hc : c ≤ 10000000000) (hvl : vals.length ≤ 1000000) (b fr tt : Nat) (v : Int) (hft : fr ≤ tt) (ht : tt ≤ 1114111)
    (h255 : tt - fr ≠ 255) (hb1 : fr / 256 = b) (hb2 : tt / 256 = b) (hv0 : 0 ≤ v) (hv1 : v < vals.length) (hs : t.shared (t.idx b) = true) :
    Calls Tryd.prog 61 #[.pointer (some ⟨p, 0, none⟩), .map (some wm), .int .i64 b, .int .i64 fr, .int .i64 tt, .int .i32 v] w (FillSaid w B p wm v0 m vals t c fr tt v) := by
  obtain ⟨g, cap, rfl, hbg, hgl, hnc, hcm⟩ := h.form
  unfold maxLen at hcm
  obtain ⟨k0, hk0⟩ : ∃ k : Nat, t.idx b = k := ⟨(t.idx b).toNat, by have := (h.inv.idx_lt b).1; omega⟩
  have hkl : k0 < t.blocks.length := by have := (h.inv.idx_lt b).2; omega
  have hl := look_first false h.hm (b : Int) (wf_i64 (by omega) (by omega))
  have hl2 : (intO (t.first b)).getD (.int .i64 0) = .int .i64 k0 := by
    have : t.idx b = (t.first b).getD 0 := rfl
    rw [hk0] at this
    unfold intO
    cases hfb : t.first b with
    | none => rw [hfb] at this; simp at this ⊢; omega
    | some x => rw [hfb] at this; simp at this ⊢; omega
  rw [hl2] at hl
  simp only [Bool.false_eq_true, if_false] at hl
  have c1 : w.cell? ⟨p, 1, none⟩ = some (.map (some m)) := h.ptr.cell 1
  have he : ((tt : Int) - fr == 255) = false := by rw [beq_eq_false_iff_ne]; omega
  have hsw := shared_walk h k0 hkl hvl
  have hC := TS.fillC h.inv (b := b) hs
  rw [hk0] at hs hC
  rw [hs] at hsw
  have Hsw := Lib.hid hsw
  have Hst := Lib.hid h
  have hn : t.blocks.length ≤ 9223372036854775807 := by omega
  obtain ⟨t1, ht1⟩ : ∃ t1, t1 = (t.push (t.blk k0)).setFirst b t.blocks.length := ⟨_, rfl⟩
  rw [← ht1] at hC
  have Ht1 := Lib.hid ht1
  have Hinv1 := Lib.hid hC.1
  have HC := Lib.hid hC.2.1
  have Hs0 := Lib.hid hC.2.2
  have hlen1 : t1.blocks.length = t.blocks.length + 1 := by rw [ht1]; show (t.blocks ++ [_]).length = _; simp
  have hidx1 : t1.idx b = t.blocks.length := by rw [ht1, TS.idx_setFirst, if_pos rfl]
  have hblk : (t.blk k0).length = 256 := by
    refine h.inv.len _ ?_
    unfold TS.blk
    rw [Int.toNat_natCast, List.getD_eq_getElem?_getD, List.getElem?_eq_getElem hkl]
    exact List.getElem_mem _
  have HL1 := Lib.hid hlen1
  have HI1 := Lib.hid hidx1
  have Hblk := Lib.hid hblk
  clear h hl2 hk0 hs hsw hC ht1 hlen1 hidx1 hblk
  go_enter Tryd.func61, Tryd.ntmps61
  go_wp2_with (go_at_call 72; refine Hsw.out.mono ?_; rintro e w' ⟨rfl, rfl⟩)
  clear hl c1
  refine fill_great15 _ _ _ _ w p k0 B t.blocks.length ((t.blk k0).map (Value.int .i32)).toArray v0 m g cap (TS.flat t.blocks) rfl (by kernel_rfl) (by kernel_rfl) (by kernel_rfl) (by simp) rfl rfl hkl (by simpa using Hblk.out) ?_ Hst.out.ptr ?_ Hst.out.h2 Hst.out.lt ?_ ?_
  · intro u hu
    rw [List.toList_toArray] at hu
    obtain ⟨x, _, rfl⟩ := List.mem_map.1 hu; rfl
  · intro j u hu
    rw [List.toList_toArray] at hu
    have hj : j < 256 := by
      have := (List.getElem?_eq_some_iff.1 hu).1
      rw [List.length_map, Hblk.out] at this
      exact this
    rw [TS.flat_get _ Hst.out.inv.len k0 j hj]
    have e : t.blocks[k0]? = some (t.blk k0) := by
      unfold TS.blk
      rw [Int.toNat_natCast, List.getD_eq_getElem?_getD, List.getElem?_eq_getElem hkl]
      rfl
    rw [e, Option.bind_some, ← List.getElem?_map]
    exact hu
  · have := Hst.out.cnt; omega
  intro v2' w1 V hown' hp' hbel' hoth'
  simp [frS, stepS]
  simp only [Exit.then]
  have hB' := hbel' B Hst.out.bp hbg Hst.out.lt
  obtain ⟨hv3, hm3, hwm3⟩ := Hst.out.other hoth' hB'
  obtain ⟨g1, cap1, rfl, hbg1, hgl1, hnc1, hcm1⟩ := own_form hown' (by omega)
  unfold maxLen at hcm1
  have c1 : w1.cell? ⟨p, 1, none⟩ = some (.map (some m)) := hp'.cell 1
  have c2 : w1.cell? ⟨p, 2, none⟩ = some (.slice (some ⟨g1, 0, none⟩) (t.blocks.length + 1) cap1) := hp'.cell 2
  have HOth := Lib.hid hoth'
  have HM := Lib.hid hm3
  have HWM := Lib.hid hwm3
  have HP := Lib.hid hp'
  have HO := Lib.hid hown'
  have HV := Lib.hid hv3
  have hcm1 : c < maxLen := by unfold maxLen; omega
  have hbw : Hid (kInt.ok (b : Int)) := wf_i64 (by omega) (by omega)
  clear hp' hm3 hwm3 hoth' hbel' hown' hv3
  go_wp2_with (at_mapUpdate; refine wp_mapUpdateF _ rfl _ _ _ 103 rfl kInt Tryd.underlying103 m c _ rfl HM.out hcm1 (b : Int) (.int .i64 t.blocks.length) rfl rfl hbw.out ?_; intro w2 hm5 hg5; have HM5 := Lib.hid hm5; have HG5 := Lib.hid hg5; clear hm5 hg5 c1 c2)
  have hst1 : TrieSt w2 B p wm v0 m (.slice (some ⟨g1, 0, none⟩) (t.blocks.length + 1) cap1) vals t1 (c + 1) := by
    have h5 := HM5.out
    rw [setF_first] at h5
    have e5 : (fun i => intO ((t.setFirst b t.blocks.length).first i)) = fun i => intO (t1.first i) := by rw [Ht1.out]; rfl
    rw [e5] at h5
    have e6 : t1.whole = t.whole := by rw [Ht1.out]; rfl
    refine ⟨HP.out.grown HG5.out (by have := blk_map_ne HP.out HM.out; simpa using this), Hst.out.bp, HV.out.kept HG5.out (own_map_ne HV.out HM.out), h5, ?_, ?_, Hst.out.bm, Hst.out.bwm, Hst.out.ne, by rw [HL1.out]; have := Hst.out.cnt; omega, Hinv1.out⟩
    · rw [e6]
      exact (HWM.out.kept HG5.out (by simpa using (Ne.symm Hst.out.ne))).mono (by omega)
    · have h6 := HO.out.kept HG5.out (own_map_ne HO.out HM.out)
      have e7 : TS.flat t1.blocks = TS.flat t.blocks ++ ((t.blk k0).map (Value.int .i32)).toArray.toList := by
        rw [Ht1.out]
        show TS.flat (t.blocks ++ [t.blk k0]) = _
        rw [TS.flat_append, TS.flat_one]
      rw [e7, HL1.out]
      exact h6
  have hbw2 : Below B w w2 := hB'.grown HG5.out (Nat.le_trans Hst.out.bm (Nat.le_of_lt HM.out.lt)) (fun k hk => by cases hk; exact Hst.out.bm)
  have hkl1 : t.blocks.length < t1.blocks.length := by rw [HL1.out]; omega
  have hn1 : t.blocks.length + 1 ≤ 9223372036854775807 := by omega
  have Hst1 := Lib.hid hst1
  have Hkl1 := Lib.hid hkl1
  clear hst1 hkl1 hB'
  have hr0 : w2.ownsRow B 102 256 (.slice (some ⟨g1, 0, none⟩) (t.blocks.length + 1) cap1) (t.blocks.length + 1) (TS.flat (t1.setRange t.blocks.length (fr % 256) (fr - 256 * b) v).blocks) := by
    have e : fr - 256 * b = fr % 256 := by omega
    rw [e, TS.setRange_none]
    have h7 := Hst1.out.h2
    rw [HL1.out] at h7
    exact h7
  have hlen := Hinv1.out.len
  have HLen := Lib.hid hlen
  clear hlen
  go_loopw [17] (fun r wr => ∃ q : Nat, fr ≤ q ∧ q ≤ tt + 1 ∧ r = .int .i64 q ∧ Blk wr p 106 #[v0, .map (some m), .slice (some ⟨g1, 0, none⟩) (t.blocks.length + 1) cap1] ∧
    wr.ownsRow B 102 256 (.slice (some ⟨g1, 0, none⟩) (t.blocks.length + 1) cap1) (t.blocks.length + 1) (TS.flat (t1.setRange t.blocks.length (fr % 256) (q - 256 * b) v).blocks) ∧ Below B w2 wr ∧ Hid (∀ i, i ≠ g1 → wr.heap[i]? = w2.heap[i]?)) (fun r _ => tt + 1 - (intOf r).toNat)
  case atStart => exact ⟨fr, by omega, by omega, rfl, Hst1.out.ptr, hr0, Below.refl _ _, fun _ _ => rfl⟩
  case round =>
    obtain ⟨q, hq1, hq2, rfl, hP, hR, hB, hO⟩ := hrel
    clear hr0
    by_cases hlt : q ≤ tt
    · have hand := and255 q (by omega)
      have c2 : wr.cell? ⟨p, 2, none⟩ = some (.slice (some ⟨g1, 0, none⟩) (t.blocks.length + 1) cap1) := hP.cell 2
      have hix : t.blocks.length * 256 + q % 256 < (t.blocks.length + 1) * 256 := by omega
      have hrl := hR.1
      obtain ⟨u, hu⟩ : ∃ u, wr.cell? ⟨g1, t.blocks.length * 256 + q % 256, none⟩ = some u := ⟨_, (hR.cellAt _ hix).trans (List.getElem?_eq_getElem (by rw [hrl]; exact hix))⟩
      have hfz : wr.frozen? ⟨g1, t.blocks.length * 256 + q % 256, none⟩ = false := hR.frozenAt _
      obtain ⟨hR2, hg2⟩ := hR.stored (t.blocks.length * 256 + q % 256) (.int .i32 v)
      have e1 : q - 256 * b = q % 256 := by omega
      have e2 : q + 1 - 256 * b = q % 256 + 1 := by omega
      rw [e1, TS.flat_set t1 HLen.out t.blocks.length (fr % 256) (q % 256) v Hkl1.out (by omega) (by omega), ← e2] at hR2
      have hP2 := hP.grown hg2 (by have := row_blk_ne hR hP (by decide); simpa using Ne.symm this)
      have hB2 := hB.setCell (p := ⟨g1, t.blocks.length * 256 + q % 256, none⟩) hbg1 (.int .i32 v)
      have hO2 : Hid (∀ i, i ≠ g1 → (wr.setCell ⟨g1, t.blocks.length * 256 + q % 256, none⟩ (.int .i32 v)).heap[i]? = w2.heap[i]?) := fun i hi => (Below.heap_setCell _ _ _ _ hi).trans (hO.out i hi)
      clear hP hR hB hO hg2 hrl e1 e2
      go_wp2_with fail
      go_roundw
      case rel => exact ⟨q + 1, by omega, by omega, by go_num, hP2, hR2, hB2, hO2⟩
      case measure => simp [intOf]; omega
    · have hqe : q - 256 * b = tt % 256 + 1 := by omega
      have hfin : FillSaid w B p wm v0 m vals t c fr tt v (.returned (.tuple #[])) wr := by
        have hD := TS.fillD Hinv1.out (b := b) (v := v) (i := fr % 256) (j := tt % 256 + 1) (by rw [HI1.out]; exact Hs0.out) ⟨by omega, hv1⟩
        have hkt : (t1.idx b).toNat = t.blocks.length := by rw [HI1.out]; rfl
        rw [hkt] at hD
        rw [hqe] at hR
        have hO3 : ∀ i, i < w2.heap.size → i ≠ g1 → i ≠ p → wr.heap[i]? = w2.heap[i]? := fun i _ h2 _ => hO.out i h2
        have hst9 : TrieSt w2 B p wm v0 m (.slice (some ⟨g1, 0, none⟩) t1.blocks.length cap1) vals t1 (c + 1) := by rw [HL1.out]; exact Hst1.out
        obtain ⟨hv3, hm3, hwm3⟩ := hst9.other hO3 hB
        refine ⟨rfl, hbw2.trans hB, fun eb ecs hE => ?_, _, t1.setRange t.blocks.length (fr % 256) (tt % 256 + 1) v, ⟨hP, Hst1.out.bp, hv3, hm3, hwm3, ?_, Hst1.out.bm, Hst1.out.bwm, Hst1.out.ne, ?_, hD.1⟩, fun r => ?_⟩
        · have hE1 : Blk w1 eb 82 ecs := (HOth.out eb (heap_lt hE) (Ne.symm (row_blk_ne Hst.out.h2 hE (by decide))) (blk_blk_ne hE Hst.out.ptr (by decide))).trans hE
          have hE2 := hE1.grown HG5.out (by have := blk_map_ne hE1 HM.out; simpa using this)
          exact (hO.out eb (Ne.symm (row_blk_ne hst9.h2 hE2 (by decide)))).trans hE2
        · rw [TS.setRange_blocks, HL1.out]; exact hR
        · rw [TS.setRange_blocks, HL1.out]; have := Hst.out.cnt; omega
        · rw [hD.2 r]
          rw [HC.out r]
          by_cases e : (fr : Int) ≤ r ∧ r ≤ tt
          · rw [if_pos e, if_pos (by omega)]
          · rw [if_neg e, if_neg (by omega)]
      clear hP hR hB hO
      go_wp2_with fail
      exact ⟨rfl, _, results_none rfl _ _ _, hfin⟩
end Go.Proofs.YtmdkjljcnegmeaaDoor
