/- trie: fill. -/
import Derived.Test.YtmdkjljcnegmeaaDoorFillW
namespace Go.Proofs.YtmdkjljcnegmeaaDoor
open Go.RowKit
set_option linter.unusedVariables false
set_option linter.unusedSimpArgs false

def FillSaid (w : World) (B p wm : Nat) (v0 : Value) (m : Nat) (vals : List Sp.Str) (t : TS) (c : Nat) (fr tt v : Int) (e : Ending) (w' : World) : Prop :=
  e = .returned (.tuple #[]) ∧ Below B w w' ∧ (∀ eb cs, Blk w eb 82 cs → Blk w' eb 82 cs) ∧ ∃ v2' t', TrieSt w' B p wm v0 m v2' vals t' (c + 1) ∧ ∀ r, t'.cur r = if fr ≤ r ∧ r ≤ tt then v else t.cur r
theorem blk_blk_ne {w : World} {p q : Nat} {t t' : TypeId} {cs cs' : Array Value} (h : Blk w p t cs) (h' : Blk w q t' cs') (hne : t ≠ t') : p ≠ q := by
  rintro rfl
  unfold Blk at h h'
  rw [h] at h'
  injection h' with h'
  injection h' with _ ht
  exact hne ht
theorem setF_first (t : TS) (b k : Int) : setF (fun i => intO (t.first i)) b (.int .i64 k) = fun i => intO ((t.setFirst b k).first i) := by
  funext i
  unfold setF TS.setFirst
  simp only
  split <;> rfl
theorem setF_whole (t : TS) (b k : Int) : setF (fun i => intO (t.whole i)) b (.int .i64 k) = fun i => intO ((t.setWhole b k).whole i) := by
  funext i
  unfold setF TS.setWhole
  simp only
  split <;> rfl

set_option maxRecDepth 100000 in
theorem fill_a {w : World} {B p wm : Nat} {v0 : Value} {m : Nat} {v2 : Value} {vals : List Sp.Str} {t : TS} {c : Nat} (h : TrieSt w B p wm v0 m v2 vals t c) (hc : c ≤ 10000000000) (hvl : vals.length ≤ 1000000) (b fr tt v k : Int) (hf : 0 ≤ fr) (ht : tt ≤ 1114111)
    (h255 : tt - fr = 255) (hb1 : fr / 256 = b) (hb2 : tt / 256 = b) (hv0 : 0 ≤ v) (hv1 : v < vals.length) (hk : t.whole v = some k) :
    Calls Tryd.prog 61 #[.pointer (some ⟨p, 0, none⟩), .map (some wm), .int .i64 b, .int .i64 fr, .int .i64 tt, .int .i32 v] w (FillSaid w B p wm v0 m vals t c fr tt v) := by
  obtain ⟨hi, hcur⟩ := TS.fillA h.inv (b := b) hk
  have hl := look_whole true h.hwm v (wf_i32 (by omega) (by omega))
  rw [hk] at hl
  simp only [intO, Option.map_some, Option.getD_some, Option.isSome_some, if_true] at hl
  have c1 : w.cell? ⟨p, 1, none⟩ = some (.map (some m)) := h.ptr.cell 1
  have he : (tt - fr == 255) = true := by rw [beq_iff_eq]; exact h255
  have hend : ∀ w', MapF w' kInt m (c + 1) (setF (fun i => intO (t.first i)) b (.int .i64 k)) → w.grownBy w' (some m) → FillSaid w B p wm v0 m vals t c fr tt v (.returned (.tuple #[])) w' := by
    intro w' h1 hg
    rw [setF_first] at h1
    obtain ⟨g, cap, e2, _⟩ := h.form
    have hne := blk_map_ne h.ptr h.hm
    have hmb := h.bm
    refine ⟨rfl, (Below.refl _ _).grown hg ?_ (fun k hk => by cases hk; exact h.bm), fun eb cs hE => hE.grown hg (by have := blk_map_ne hE h.hm; simpa using this), v2, t.setFirst b k, ⟨h.ptr.grown hg (by simpa using hne), h.bp, h.hv0.kept hg ?_, h1, ?_, h.h2.kept hg ?_, h.bm, h.bwm, h.ne, ?_, hi⟩, fun r => ?_⟩
    · have := h.hm.lt; omega
    · by_cases hz : vals.length = 0
      · omega
      · obtain ⟨g', cap', e3, _⟩ := own_form h.hv0 (by omega)
        have h3 := h.hv0
        rw [e3] at h3 ⊢
        have := row_map_ne h3 h.hm
        right; simpa [Value.ownBlock] using this
    · exact (h.hwm.kept hg (by simpa using (Ne.symm h.ne))).mono (by omega)
    · have h3 := h.h2
      rw [e2] at h3 ⊢
      have := row_map_ne h3 h.hm
      right; simpa [Value.ownBlock] using this
    · have := h.cnt; show t.blocks.length ≤ _; omega
    · rw [hcur r]
      by_cases e : r / 256 = b
      · rw [if_pos e, if_pos (by omega)]
      · rw [if_neg e, if_neg (by omega)]
  have Hend := Lib.hid hend
  have Hm := Lib.hid h.hm
  have hcm : c < maxLen := by unfold maxLen; omega
  have hbw : Hid (kInt.ok b) := wf_i64 (by omega) (by omega)
  clear hend hk hcur h hi
  go_enter Tryd.func61, Tryd.ntmps61
  go_wp2_with (at_mapUpdate; refine wp_mapUpdateF _ rfl _ _ _ 103 rfl kInt Tryd.underlying103 m c _ rfl Hm.out hcm b (.int .i64 k) rfl rfl hbw.out ?_; intro w1 hm1 hg1; have HM1 := Lib.hid hm1; have HG1 := Lib.hid hg1; clear hm1 hg1)
  exact ⟨rfl, _, results_none rfl _ _ _, Hend.out _ HM1.out HG1.out⟩
end Go.Proofs.YtmdkjljcnegmeaaDoor
