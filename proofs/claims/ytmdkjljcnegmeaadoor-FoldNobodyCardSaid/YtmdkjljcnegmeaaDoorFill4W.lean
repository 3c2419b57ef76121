/- trie: fill, a part of a block. -/
import Derived.Test.YtmdkjljcnegmeaaDoorFill3W
namespace Go.Proofs.YtmdkjljcnegmeaaDoor
open Go.RowKit
set_option linter.unusedVariables false
set_option linter.unusedSimpArgs false

theorem and255 (q : Nat) (h : q < 2097152) : bits .and .i64 (q : Int) 255 = ((q % 256 : Nat) : Int) := by
  have := bits_mask .i64 63 (by decide) (fun n h₀ h₁ => by rw [IntKind.wrap_i64]; omega) 8 (by decide) (q : Int) (by omega) (by omega)
  have e : ((2 : Int) ^ 8 - 1) = 255 := by decide
  rw [e] at this
  rw [this]
  omega

set_option maxRecDepth 100000 in
set_option maxHeartbeats 400000 in
theorem fill_d {w : World} {B p wm : Nat} {v0 : Value} {m : Nat} {v2 : Value} {vals : List Sp.Str} {t : TS} {c : Nat} (h : TrieSt w B p wm v0 m v2 vals t c) (hc : c ≤ 10000000000) (hvl : vals.length ≤ 1000000) (b fr tt : Nat) (v : Int) (hft : fr ≤ tt) (ht : tt ≤ 1114111)
    (h255 : tt - fr ≠ 255) (hb1 : fr / 256 = b) (hb2 : tt / 256 = b) (hv0 : 0 ≤ v) (hv1 : v < vals.length) (hs : t.shared (t.idx b) = false) :
    Calls Tryd.prog 61 #[.pointer (some ⟨p, 0, none⟩), .map (some wm), .int .i64 b, .int .i64 fr, .int .i64 tt, .int .i32 v] w (FillSaid w B p wm v0 m vals t c fr tt v) := by
  obtain ⟨g, cap, rfl, hbg, hgl, hnc, hcm⟩ := h.form
  unfold maxLen at hcm
  obtain ⟨k, hk⟩ : ∃ k : Nat, t.idx b = k := ⟨(t.idx b).toNat, by have := (h.inv.idx_lt b).1; omega⟩
  have hkl : k < t.blocks.length := by have := (h.inv.idx_lt b).2; omega
  have hl := look_first false h.hm (b : Int) (wf_i64 (by omega) (by omega))
  have hl2 : (intO (t.first b)).getD (.int .i64 0) = .int .i64 k := by
    have : t.idx b = (t.first b).getD 0 := rfl
    rw [hk] at this
    unfold intO
    cases hfb : t.first b with
    | none => rw [hfb] at this; simp at this ⊢; omega
    | some x => rw [hfb] at this; simp at this ⊢; omega
  rw [hl2] at hl
  simp only [Bool.false_eq_true, if_false] at hl
  have c1 : w.cell? ⟨p, 1, none⟩ = some (.map (some m)) := h.ptr.cell 1
  have he : ((tt : Int) - fr == 255) = false := by rw [beq_eq_false_iff_ne]; omega
  have hsw := shared_walk h k hkl hvl
  rw [hk] at hs
  rw [hs] at hsw
  have Hsw := Lib.hid hsw
  have Hst := Lib.hid h
  have Hk := Lib.hid hk
  have Hs := Lib.hid hs
  have hn : t.blocks.length ≤ 9223372036854775807 := by omega
  clear h hl2 hk hs hsw
  go_enter Tryd.func61, Tryd.ntmps61
  go_wp2_with (go_at_call 72; refine Hsw.out.mono ?_; rintro e w' ⟨rfl, rfl⟩)
  clear hl c1
  have hr0 : w.ownsRow B 102 256 (.slice (some ⟨g, 0, none⟩) t.blocks.length cap) t.blocks.length (TS.flat (t.setRange k (fr % 256) (fr - 256 * b) v).blocks) := by
    have e : fr - 256 * b = fr % 256 := by omega
    rw [e, TS.setRange_none]
    exact Hst.out.h2
  have hlen := Hst.out.inv.len
  have HLen := Lib.hid hlen
  clear hlen
  go_loopw [17] (fun r wr => ∃ q : Nat, fr ≤ q ∧ q ≤ tt + 1 ∧ r = .int .i64 q ∧ Blk wr p 106 #[v0, .map (some m), .slice (some ⟨g, 0, none⟩) t.blocks.length cap] ∧
    wr.ownsRow B 102 256 (.slice (some ⟨g, 0, none⟩) t.blocks.length cap) t.blocks.length (TS.flat (t.setRange k (fr % 256) (q - 256 * b) v).blocks) ∧ Below B w wr ∧ Hid (∀ i, i ≠ g → wr.heap[i]? = w.heap[i]?)) (fun r _ => tt + 1 - (intOf r).toNat)
  case atStart => exact ⟨fr, by omega, by omega, rfl, Hst.out.ptr, hr0, Below.refl _ _, fun _ _ => rfl⟩
  case round =>
    obtain ⟨q, hq1, hq2, rfl, hP, hR, hB, hO⟩ := hrel
    clear hr0
    by_cases hlt : q ≤ tt
    · have hand := and255 q (by omega)
      have c2 : wr.cell? ⟨p, 2, none⟩ = some (.slice (some ⟨g, 0, none⟩) t.blocks.length cap) := hP.cell 2
      have hix : k * 256 + q % 256 < t.blocks.length * 256 := by omega
      have hrl := hR.1
      obtain ⟨u, hu⟩ : ∃ u, wr.cell? ⟨g, k * 256 + q % 256, none⟩ = some u := ⟨_, (hR.cellAt _ hix).trans (List.getElem?_eq_getElem (by rw [hrl]; exact hix))⟩
      have hfz : wr.frozen? ⟨g, k * 256 + q % 256, none⟩ = false := hR.frozenAt _
      obtain ⟨hR2, hg2⟩ := hR.stored (k * 256 + q % 256) (.int .i32 v)
      have e1 : q - 256 * b = q % 256 := by omega
      have e2 : q + 1 - 256 * b = q % 256 + 1 := by omega
      rw [e1, TS.flat_set t HLen.out k (fr % 256) (q % 256) v hkl (by omega) (by omega), ← e2] at hR2
      have hP2 := hP.grown hg2 (by have := row_blk_ne hR hP (by decide); simpa using Ne.symm this)
      have hB2 := hB.setCell (p := ⟨g, k * 256 + q % 256, none⟩) hbg (.int .i32 v)
      have hO2 : Hid (∀ i, i ≠ g → (wr.setCell ⟨g, k * 256 + q % 256, none⟩ (.int .i32 v)).heap[i]? = w.heap[i]?) := fun i hi => (Below.heap_setCell _ _ _ _ hi).trans (hO.out i hi)
      clear hP hR hB hO hg2 hrl e1 e2
      go_wp2_with fail
      go_roundw
      case rel => exact ⟨q + 1, by omega, by omega, by go_num, hP2, hR2, hB2, hO2⟩
      case measure => simp [intOf]; omega
    · have hqe : q - 256 * b = tt % 256 + 1 := by omega
      have hfin : FillSaid w B p wm v0 m vals t c fr tt v (.returned (.tuple #[])) wr := by
        have hD := TS.fillD Hst.out.inv (b := b) (v := v) (i := fr % 256) (j := tt % 256 + 1) (by rw [Hk.out]; exact Hs.out) ⟨by omega, hv1⟩
        have hkt : (t.idx b).toNat = k := by rw [Hk.out]; rfl
        rw [hkt] at hD
        rw [hqe] at hR
        have hO3 : ∀ i, i < w.heap.size → i ≠ g → i ≠ p → wr.heap[i]? = w.heap[i]? := fun i _ h2 _ => hO.out i h2
        obtain ⟨hv3, hm3, hwm3⟩ := Hst.out.other hO3 hB
        refine ⟨rfl, hB, fun eb ecs hE => (hO.out eb (Ne.symm (row_blk_ne Hst.out.h2 hE (by decide)))).trans hE, _, t.setRange k (fr % 256) (tt % 256 + 1) v, ⟨hP, Hst.out.bp, hv3, hm3.mono (by omega), hwm3.mono (by omega), ?_, Hst.out.bm, Hst.out.bwm, Hst.out.ne, ?_, hD.1⟩, fun r => ?_⟩
        · rw [TS.setRange_blocks]; exact hR
        · rw [TS.setRange_blocks]; have := Hst.out.cnt; omega
        · rw [hD.2 r]
          by_cases e : (fr : Int) ≤ r ∧ r ≤ tt
          · rw [if_pos e, if_pos (by omega)]
          · rw [if_neg e, if_neg (by omega)]
      clear hP hR hB hO
      go_wp2_with fail
      exact ⟨rfl, _, results_none rfl _ _ _, hfin⟩
end Go.Proofs.YtmdkjljcnegmeaaDoor
