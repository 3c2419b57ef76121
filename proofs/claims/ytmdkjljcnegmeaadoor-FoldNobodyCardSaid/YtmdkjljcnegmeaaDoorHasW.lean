/- ranges.Has. -/
import Derived.Test.YtmdkjljcnegmeaaDoorMakeW
import Derived.Test.YtmdkjljcnegmeaaDoorLoadA
namespace Go.Proofs.YtmdkjljcnegmeaaDoor
open Go.RowKit
set_option linter.unusedVariables false
set_option linter.unusedSimpArgs false

/-- A slice of ranges, wherever it lies. -/
def RListAt (w : World) (v : Value) (rs : List Rg) : Prop := ∃ A c, v = .slice A rs.length c ∧ rs.length ≤ 9223372036854775807 ∧ (0 < rs.length → ∃ ad, A = some ad ∧ ∀ j (h : j < rs.length), w.cell? (ad.add (j * 2)) = some (.int .i64 rs[j].lo) ∧ w.cell? ((ad.add (j * 2)).add 1) = some (.int .i64 rs[j].hi))
theorem RListAt.below {w w' : World} {v : Value} {rs : List Rg} (h : RListAt w v rs) (hb : Below w.heap.size w w') : RListAt w' v rs := by
  obtain ⟨A, c, h1, h2, h3⟩ := h
  exact ⟨A, c, h1, h2, fun hp => by
    obtain ⟨ad, h4, h5⟩ := h3 hp
    exact ⟨ad, h4, fun j hj => ⟨cell_later hb (h5 j hj).1, cell_later hb (h5 j hj).2⟩⟩⟩
theorem rg_get : ∀ (rs : List Rg) (j : Nat) (h : j < rs.length), (rs.flatMap rgCells)[j * 2]? = some (.int .i64 rs[j].lo) ∧ (rs.flatMap rgCells)[j * 2 + 1]? = some (.int .i64 rs[j].hi)
  | r :: rs, 0, _ => ⟨rfl, rfl⟩
  | r :: rs, j + 1, h => by
    have ih := rg_get rs j (by simpa using h)
    have e : (r :: rs).flatMap rgCells = .int .i64 r.lo :: .int .i64 r.hi :: rs.flatMap rgCells := rfl
    rw [e, show (j + 1) * 2 = j * 2 + 2 by omega]
    exact ih
theorem RListAt.of_own {w : World} {B : Nat} {v : Value} {rs : List Rg} (h : RgsAt w B v rs) : RListAt w v rs := by
  unfold RgsAt at h
  have hl := own_len h
  unfold maxLen at hl
  obtain ⟨A, c, rfl⟩ := own_slice h
  refine ⟨A, c, rfl, by omega, fun hp => ?_⟩
  obtain ⟨g, k, e, _⟩ := own_form h hp
  injection e with e1
  subst e1
  refine ⟨⟨g, 0, none⟩, rfl, fun j hj => ?_⟩
  obtain ⟨g1, g2⟩ := rg_get rs j hj
  rw [add_plain, add_plain, Nat.zero_add]
  exact ⟨own_cell h _ _ g1, own_cell h _ _ g2⟩
def inRg (r : Int) (x : Rg) : Bool := decide (x.lo ≤ r) && decide (r ≤ x.hi)
def hasB (rs : List Rg) (r : Int) : Bool := (decide (0 ≤ r) && decide (r ≤ 1114111)) && rs.any (inRg r)
theorem has1_walk (w : World) (b : Nat) (x : Rg) (r : Int) (hc : w.cell? ⟨b, 0, none⟩ = some (.int .i64 r)) : Calls Tryd.prog 57 #[.agg #[.int .i64 x.lo, .int .i64 x.hi], .pointer (some ⟨b, 0, none⟩)] w fun e w' => e = .returned (.bool (inRg r x)) ∧ Below w.heap.size w w' := by
  have hb := alloc_below w (.cells #[.int .i64 x.lo, .int .i64 x.hi] 43)
  have hc' := cell_later hb hc
  have HB := Lib.hid hb
  unfold inRg
  clear hb
  by_cases h1 : x.lo ≤ r
  · by_cases h2 : r ≤ x.hi
    · have d1 : decide (x.lo ≤ r) = true := decide_eq_true h1
      have d2 : decide (r ≤ x.hi) = true := decide_eq_true h2
      rw [d1, d2]
      clear h1 h2
      go_enter Tryd.func57, Tryd.ntmps57
      go_wp2_with fail
      go_ret
      exact ⟨rfl, HB.out⟩
    · have d1 : decide (x.lo ≤ r) = true := decide_eq_true h1
      have d2 : decide (r ≤ x.hi) = false := decide_eq_false h2
      rw [d1, d2]
      clear h1 h2
      go_enter Tryd.func57, Tryd.ntmps57
      go_wp2_with fail
      go_ret
      exact ⟨rfl, HB.out⟩
  · have d1 : decide (x.lo ≤ r) = false := decide_eq_false h1
    rw [d1]
    clear h1
    go_enter Tryd.func57, Tryd.ntmps57
    go_wp2_with fail
    go_ret
    exact ⟨rfl, HB.out⟩
def idxRg (r : Int) : List Rg → Int → Int
  | [], _ => -1
  | x :: rs, i => if inRg r x then i else idxRg r rs (i + 1)
theorem idx_any (r : Int) : ∀ (rs : List Rg) (i : Int), 0 ≤ i → decide (idxRg r rs i ≥ 0) = rs.any (inRg r)
  | [], i, h => rfl
  | x :: rs, i, h => by
    unfold idxRg
    rw [List.any_cons]
    cases hx : inRg r x with
    | true => simp; omega
    | false => simp only [Bool.false_eq_true, if_false, Bool.false_or]; exact idx_any r rs (i + 1) (by omega)
set_option maxRecDepth 100000 in
theorem indexf_walk (w : World) (b : Nat) (v : Value) (rs : List Rg) (r : Int) (hl : RListAt w v rs) (hc : w.cell? ⟨b, 0, none⟩ = some (.int .i64 r)) : Calls Tryd.prog 68 #[v, .func (.func 57) #[] #[.pointer (some ⟨b, 0, none⟩)]] w fun e w' => e = .returned (.int .i64 (idxRg r rs 0)) ∧ Below w.heap.size w w' := by
  obtain ⟨A, c, rfl, hn, hz⟩ := hl
  have HZ := Lib.hid hz
  have HC := Lib.hid hc
  clear hz hc
  go_enter Tryd.func68, Tryd.ntmps68
  go_wp2_with fail
  go_loopw [8] (fun i wr => ∃ k : Nat, k ≤ rs.length ∧ i = .int .i64 k ∧ Hid (idxRg r rs 0 = idxRg r (rs.drop k) k) ∧ Hid (Below w.heap.size w wr)) (fun i _ => rs.length - (intOf i).toNat)
  case atStart => exact ⟨0, by omega, rfl, by show idxRg r rs 0 = idxRg r (rs.drop 0) ((0 : Nat) : Int); rw [List.drop_zero]; rfl, Below.refl _ _⟩
  case round =>
    obtain ⟨k, hk, rfl, HI, HB⟩ := hrel
    by_cases hlt : k < rs.length
    · obtain ⟨ad, rfl, had⟩ := HZ.out (by omega)
      obtain ⟨e0, e1⟩ := had k hlt
      have c0 := cell_later HB.out e0
      have c1 := cell_later HB.out e1
      have hd : rs.drop k = rs[k] :: rs.drop (k + 1) := List.drop_eq_getElem_cons hlt
      have HI2 := Lib.hid (show idxRg r rs 0 = if inRg r rs[k] then (k : Int) else idxRg r (rs.drop (k + 1)) ((k + 1 : Nat) : Int) by rw [HI.out, hd, idxRg]; rfl)
      obtain ⟨x, hx⟩ : ∃ x, x = rs[k] := ⟨_, rfl⟩
      rw [← hx] at c0 c1 HI2
      have c2 : wr.cell? ⟨(ad.add (k * 2)).block, (ad.add (k * 2)).off + 1, none⟩ = some (.int .i64 x.hi) := c1
      clear hd HI e0 e1 had hx c1
      go_wp2_with fail
      refine (has1_walk _ b x r (cell_later HB.out HC.out)).mono ?_
      rintro e w2 ⟨rfl, hb2⟩
      have HB2 := Lib.hid (HB.out.trans (hb2.mono HB.out.size))
      clear hb2 HB c0 c2
      cases hi : inRg r x with
      | true =>
        have hfin : idxRg r rs 0 = k := by rw [HI2.out, hi, if_pos rfl]
        have Hfin := Lib.hid hfin
        clear hi hfin HI2
        go_wp2_with fail
        go_ret
        refine ⟨?_, HB2.out⟩
        rw [Hfin.out]
        rfl
      | false =>
        have hfin : idxRg r rs 0 = idxRg r (rs.drop (k + 1)) ((k + 1 : Nat) : Int) := by rw [HI2.out, hi, if_neg (by decide)]
        have Hfin := Lib.hid hfin
        clear hi hfin HI2
        go_wp2_with fail
        go_roundw
        case rel => exact ⟨k + 1, by omega, by go_num, Hfin, HB2⟩
        case measure => simp [intOf]; omega
    · have hkl : k = rs.length := by omega
      have hfin : idxRg r rs 0 = -1 := by rw [HI.out, hkl, List.drop_length]; rfl
      have Hfin := Lib.hid hfin
      subst hkl
      clear hfin HI
      go_wp2_with fail
      go_ret
      refine ⟨?_, HB.out⟩
      rw [Hfin.out]
      rfl
theorem containsf_walk (w : World) (b : Nat) (v : Value) (rs : List Rg) (r : Int) (hl : RListAt w v rs) (hc : w.cell? ⟨b, 0, none⟩ = some (.int .i64 r)) : Calls Tryd.prog 56 #[v, .func (.func 57) #[] #[.pointer (some ⟨b, 0, none⟩)]] w fun e w' => e = .returned (.bool (rs.any (inRg r))) ∧ Below w.heap.size w w' := by
  have HI := Lib.hid (indexf_walk w b v rs r hl hc)
  rw [← idx_any r rs 0 (Int.le_refl _)]
  clear hl hc
  go_enter Tryd.func56, Tryd.ntmps56
  go_wp2_with fail
  refine HI.out.mono ?_
  rintro e w1 ⟨rfl, hb1⟩
  have HB := Lib.hid hb1
  clear hb1 HI
  go_wp2_with fail
  go_ret
  exact ⟨rfl, HB.out⟩
set_option maxRecDepth 100000 in
theorem has_walk (w : World) (v : Value) (rs : List Rg) (r : Int) (hl : RListAt w v rs) : Calls Tryd.prog 37 #[v, .int .i64 r] w fun e w' => e = .returned (.bool (hasB rs r)) ∧ Below w.heap.size w w' := by
  have hb := alloc_below w (.cells #[.int .i64 r] 3)
  have hcell := (cells_of_row (row_new w (.cells #[.int .i64 r] 3))).1 0
  have HC := Lib.hid (containsf_walk _ w.heap.size v rs r (hl.below hb) hcell)
  have HB := Lib.hid hb
  obtain ⟨A, c, rfl, hn, _⟩ := hl
  unfold hasB
  clear hb hcell
  by_cases h1 : 0 ≤ r
  · by_cases h2 : r ≤ 1114111
    · have d1 : decide (0 ≤ r) = true := decide_eq_true h1
      have d2 : decide (r ≤ 1114111) = true := decide_eq_true h2
      have d3 : decide (r ≥ 0) = true := decide_eq_true h1
      rw [d1, d2, Bool.true_and, Bool.true_and]
      clear h1 h2 d1
      go_enter Tryd.func37, Tryd.ntmps37
      go_wp2_with fail
      refine HC.out.mono ?_
      rintro e w1 ⟨rfl, hb1⟩
      have HB1 := Lib.hid (HB.out.trans (hb1.mono HB.out.size))
      clear hb1 HC HB
      go_wp2_with fail
      go_ret
      exact ⟨rfl, HB1.out⟩
    · have d1 : decide (0 ≤ r) = true := decide_eq_true h1
      have d2 : decide (r ≤ 1114111) = false := decide_eq_false h2
      have d3 : decide (r ≥ 0) = true := decide_eq_true h1
      rw [d1, d2, Bool.true_and, Bool.false_and]
      clear h1 h2 d1
      go_enter Tryd.func37, Tryd.ntmps37
      go_wp2_with fail
      go_ret
      exact ⟨rfl, HB.out⟩
  · have d1 : decide (0 ≤ r) = false := decide_eq_false h1
    have d3 : decide (r ≥ 0) = false := decide_eq_false h1
    rw [d1, Bool.false_and, Bool.false_and]
    clear h1 d1
    go_enter Tryd.func37, Tryd.ntmps37
    go_wp2_with fail
    go_ret
    exact ⟨rfl, HB.out⟩
end Go.Proofs.YtmdkjljcnegmeaaDoor
