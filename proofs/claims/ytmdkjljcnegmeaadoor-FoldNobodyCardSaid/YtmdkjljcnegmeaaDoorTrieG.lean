/- trie: at, Get; props: texts.or. -/
import Derived.Test.YtmdkjljcnegmeaaDoorBuildW
namespace Go.Proofs.YtmdkjljcnegmeaaDoor
open Go.RowKit
set_option linter.unusedVariables false
set_option linter.unusedSimpArgs false

set_option maxRecDepth 100000 in
theorem at_walk {w : World} {B p : Nat} {vals : List Sp.Str} {f : Int → Int} (h : TrieAt w B p vals f) (r : Nat) (hr : r ≤ 1114111) :
    Calls Tryd.prog 85 #[.pointer (some ⟨p, 0, none⟩), .int .i64 r] w fun e w' => e = .returned (.int .i32 (f r)) ∧ Below w.heap.size w w' := by
  obtain ⟨v0, m, v2, t, c, wm, h, hc, hf⟩ := h
  obtain ⟨g, cap, rfl, hbg, hgl, hnc, hcm⟩ := h.form
  unfold maxLen at hcm
  have hfr := hf r (by omega) (by omega)
  obtain ⟨k, hk⟩ : ∃ k : Nat, t.idx ((r : Int) / 256) = k := ⟨(t.idx ((r : Int) / 256)).toNat, by have := (h.inv.idx_lt ((r : Int) / 256)).1; omega⟩
  have hkl : k < t.blocks.length := by have := (h.inv.idx_lt ((r : Int) / 256)).2; omega
  have hl2 : (intO (t.first ((r / 256 : Nat) : Int))).getD (.int .i64 0) = .int .i64 k := by
    have h0 : t.idx ((r : Int) / 256) = (t.first ((r : Int) / 256)).getD 0 := rfl
    have e : ((r / 256 : Nat) : Int) = (r : Int) / 256 := by omega
    rw [hk] at h0
    rw [e]
    unfold intO
    cases hfb : t.first ((r : Int) / 256) with
    | none => rw [hfb] at h0; simp at h0 ⊢; omega
    | some x => rw [hfb] at h0; simp at h0 ⊢; omega
  have hl : ∀ nq, (Instr.lookup 103 (.map (some m)) (.int .i64 ((r : Int) / 256)) false).run Tryd.prog (w.drewN nq) = .ok (.int .i64 k) (w.drewN nq) := fun nq => by
    have e : ((r / 256 : Nat) : Int) = (r : Int) / 256 := by omega
    have h1 := look_first false (h.hm.below (below_drewN w nq) h.hm.lt) ((r / 256 : Nat) : Int) (wf_i64 (by omega) (by omega))
    rw [hl2, e] at h1
    exact h1
  have c1 : w.cell? ⟨p, 1, none⟩ = some (.map (some m)) := h.ptr.cell 1
  have c2 : w.cell? ⟨p, 2, none⟩ = some (.slice (some ⟨g, 0, none⟩) t.blocks.length cap) := h.ptr.cell 2
  have cc : w.cell? ⟨g, k * 256 + r % 256, none⟩ = some (.int .i32 (f r)) := by
    rw [h.cell k (r % 256) hkl (by omega), ← hfr]
    unfold TS.cur
    rw [hk]
    congr 3
  have hand := and255 r (by omega)
  have hn : t.blocks.length ≤ 9223372036854775807 := by omega
  generalize f r = x at *
  clear h hf hl2 hk hfr
  go_enter Tryd.func85, Tryd.ntmps85
  go_wp2_with fail
  go_quiet (fail)
  simp only [Exit.then]
  go_wp2_with fail
  go_ret
  exact ⟨rfl, below_drewN _ _⟩

/-- What a trie tells of a code point. -/
def trieGet (vals : List Sp.Str) (f : Int → Int) (r : Int) : Option Sp.Str := if 0 ≤ r ∧ r ≤ 1114111 ∧ 0 ≤ f r then vals[(f r).toNat]? else none
def GetSaid (o : Option Sp.Str) (w : World) (e : Ending) (w' : World) : Prop := e = .returned (.tuple #[.string ⟨(o.getD []).toArray⟩, .bool o.isSome]) ∧ Below w.heap.size w w'
theorem TrieAt.range {w : World} {B p : Nat} {vals : List Sp.Str} {f : Int → Int} (h : TrieAt w B p vals f) (r : Nat) (hr : r ≤ 1114111) : -1 ≤ f r ∧ f r < vals.length := by
  obtain ⟨v0, m, v2, t, c, wm, h, hc, hf⟩ := h
  rw [← hf r (by omega) (by omega)]
  obtain ⟨h1, h2⟩ := h.inv.idx_lt ((r : Int) / 256)
  have hm : t.blk (t.idx ((r : Int) / 256)) ∈ t.blocks := by
    unfold TS.blk
    rw [List.getD_eq_getElem?_getD, List.getElem?_eq_getElem (by omega)]
    exact List.getElem_mem _
  have hl := h.inv.len _ hm
  have hx : t.cur r ∈ t.blk (t.idx ((r : Int) / 256)) := by
    unfold TS.cur TS.cell
    rw [List.getD_eq_getElem?_getD, List.getElem?_eq_getElem (by omega)]
    exact List.getElem_mem _
  exact h.inv.vals _ hm _ hx
set_option maxRecDepth 100000 in
theorem get_walk {w : World} {B p : Nat} {vals : List Sp.Str} {f : Int → Int} (h : TrieAt w B p vals f) (r : Int) (hvl : vals.length ≤ 1000000) :
    Calls Tryd.prog 67 #[.pointer (some ⟨p, 0, none⟩), .int .i64 r] w (GetSaid (trieGet vals f r) w) := by
  have h' := h
  obtain ⟨v0, m, v2, t, c, wm, hst, hc, hf⟩ := h'
  obtain ⟨g, cap, rfl, hbg, hgl, hnc, hcm⟩ := hst.form
  unfold maxLen at hcm
  have c2 : w.cell? ⟨p, 2, none⟩ = some (.slice (some ⟨g, 0, none⟩) t.blocks.length cap) := hst.ptr.cell 2
  have hpos := hst.inv.pos
  have d0 : ((t.blocks.length : Int) == 0) = false := by rw [beq_eq_false_iff_ne]; omega
  have hn : t.blocks.length ≤ 9223372036854775807 := by omega
  by_cases h0 : r < 0
  · have e : trieGet vals f r = none := by unfold trieGet; rw [if_neg (by omega)]
    have hfin : GetSaid (trieGet vals f r) w (.returned (.tuple #[.string ⟨#[]⟩, .bool false])) w := ⟨by rw [e]; rfl, Below.refl _ _⟩
    have d1 : decide (r < 0) = true := by simpa using h0
    clear h hst hf e
    go_enter Tryd.func67, Tryd.ntmps67
    go_wp2_with fail
    go_ret2
    exact hfin
  · by_cases h1 : 1114111 < r
    · have e : trieGet vals f r = none := by unfold trieGet; rw [if_neg (by omega)]
      have hfin : GetSaid (trieGet vals f r) w (.returned (.tuple #[.string ⟨#[]⟩, .bool false])) w := ⟨by rw [e]; rfl, Below.refl _ _⟩
      have d1 : decide (r < 0) = false := by simp; omega
      have d2 : decide (1114111 < r) = true := by simpa using h1
      clear h hst hf e
      go_enter Tryd.func67, Tryd.ntmps67
      go_wp2_with fail
      go_ret2
      exact hfin
    · obtain ⟨q, rfl⟩ := Int.eq_ofNat_of_zero_le (show 0 ≤ r by omega)
      have hrg := h.range q (by omega)
      have hat := at_walk h q (by omega)
      have d1 : decide ((q : Int) < 0) = false := by simp
      have d2 : decide (1114111 < (q : Int)) = false := by simp; omega
      have Hat := Lib.hid hat
      obtain ⟨x, hx⟩ : ∃ x, x = f q := ⟨_, rfl⟩
      rw [← hx] at hrg Hat
      by_cases hneg : x = -1
      · have e : trieGet vals f q = none := by unfold trieGet; rw [if_neg (by omega)]
        have hfin : ∀ w', Below w.heap.size w w' → GetSaid (trieGet vals f q) w (.returned (.tuple #[.string ⟨#[]⟩, .bool false])) w' := fun w' hb => ⟨by rw [e]; rfl, hb⟩
        have d3 : (x == -1) = true := by rw [beq_iff_eq]; exact hneg
        have Hfin := Lib.hid hfin
        clear h hst hf e hat hfin hneg hx
        go_enter Tryd.func67, Tryd.ntmps67
        go_wp2_with (go_at_call 85; refine Hat.out.mono ?_; rintro e w1 ⟨rfl, hb1⟩; have HB1 := Lib.hid hb1; clear hb1)
        go_ret2
        exact Hfin.out _ HB1.out
      · obtain ⟨y, rfl⟩ := Int.eq_ofNat_of_zero_le (show 0 ≤ x by omega)
        have hyl : y < vals.length := by omega
        have e : trieGet vals f q = some vals[y] := by
          unfold trieGet
          rw [if_pos (by omega), ← hx]
          exact List.getElem?_eq_getElem hyl
        have hfin : ∀ w', Below w.heap.size w w' → GetSaid (trieGet vals f q) w (.returned (.tuple #[.string ⟨vals[y].toArray⟩, .bool true])) w' := fun w' hb => ⟨by rw [e]; rfl, hb⟩
        have d3 : ((y : Int) == -1) = false := by rw [beq_eq_false_iff_ne]; omega
        obtain ⟨gv, cv, rfl, hbv, hgv, hnv, hcv⟩ := own_form hst.hv0 (by omega)
        unfold maxLen at hcv
        have c0 : w.cell? ⟨p, 0, none⟩ = some (.slice (some ⟨gv, 0, none⟩) vals.length cv) := hst.ptr.cell 0
        have cy : w.cell? ⟨gv, y, none⟩ = some (.string ⟨vals[y].toArray⟩) := own_cell hst.hv0 y _ (by unfold strVs; rw [List.getElem?_map, List.getElem?_eq_getElem hyl]; rfl)
        generalize vals[y] = s at *
        have Hfin := Lib.hid hfin
        clear h hst hf e hat hfin hneg hx
        go_enter Tryd.func67, Tryd.ntmps67
        go_wp2_with (go_at_call 85; refine Hat.out.mono ?_; rintro e w1 ⟨rfl, hb1⟩; have HB1 := Lib.hid hb1; have c0' := cell_later hb1 c0; have cy' := cell_later hb1 cy; clear hb1 c0 cy c2)
        go_ret2
        exact Hfin.out _ HB1.out
set_option maxRecDepth 100000 in
theorem or_walk {w : World} {B p : Nat} {vals : List Sp.Str} {f : Int → Int} (h : TrieAt w B p vals f) (r : Int) (hvl : vals.length ≤ 1000000) (other : Sp.Str) :
    Calls Tryd.prog 54 #[.agg #[.pointer (some ⟨p, 0, none⟩)], .int .i64 r, .string ⟨other.toArray⟩] w fun e w' => e = .returned (.string ⟨((trieGet vals f r).getD other).toArray⟩) ∧ Below w.heap.size w w' := by
  have hb0 := alloc_below w (.cells #[.pointer (some ⟨p, 0, none⟩)] 33)
  have hg := get_walk (h.below hb0) r hvl
  have HG := Lib.hid hg
  have HB0 := Lib.hid hb0
  clear hg hb0 h
  cases ho : trieGet vals f r with
  | none =>
    rw [ho] at HG
    go_enter Tryd.func54, Tryd.ntmps54
    go_wp2_with (go_at_call 67; refine HG.out.mono ?_; rintro e w1 ⟨rfl, hb1⟩; have HB1 := Lib.hid (HB0.out.trans (hb1.mono HB0.out.size)); clear hb1)
    go_ret
    exact ⟨rfl, HB1.out⟩
  | some s =>
    rw [ho] at HG
    go_enter Tryd.func54, Tryd.ntmps54
    go_wp2_with (go_at_call 67; refine HG.out.mono ?_; rintro e w1 ⟨rfl, hb1⟩; have HB1 := Lib.hid (HB0.out.trans (hb1.mono HB0.out.size)); clear hb1)
    go_ret
    exact ⟨rfl, HB1.out⟩
end Go.Proofs.YtmdkjljcnegmeaaDoor
