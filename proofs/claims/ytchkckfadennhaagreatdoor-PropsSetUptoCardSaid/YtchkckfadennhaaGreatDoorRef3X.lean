/- rubricatorref03: edges, in, both, Make, Minus, Can. The leaves of edges are printed by a program of mine. -/
import Derived.Test.YtchkckfadennhaaGreatDoorRef3W
import Derived.Test.YtchkckfadennhaaGreatDoorHas3
import Derived.Test.YtchkckfadennhaaGreatDoorClo
import Derived.Test.YtchkckfadennhaaGreatDoorAppM
import Derived.Test.YtchkckfadennhaaGreatDoorRefP
import Derived.Deep.DeepCutAuto
namespace Go.Proofs.YtchkckfadennhaaGreatDoor
open Go.RowKit
set_option linter.unusedVariables false
set_option linter.unusedSimpArgs false

/-- A slice of ranges that is nil or has a place. -/
structure RVal (w : World) (v : Value) (rs : List Rg) : Prop where
  list : RListAt w v rs
  form : v = .slice none 0 0 ∨ ∃ ad n c, v = .slice (some ad) n c
theorem RVal.below {w w' : World} {v : Value} {rs : List Rg} (h : RVal w v rs) (hb : Below w.heap.size w w') : RVal w' v rs := ⟨h.list.below hb, h.form⟩
theorem RVal.nil (w : World) : RVal w (.slice none 0 0) [] := ⟨⟨none, 0, rfl, by decide, fun h => absurd h (by decide)⟩, .inl rfl⟩
theorem RVal.of_own {w : World} {B : Nat} {v : Value} {rs : List Rg} (h : RgsAt w B v rs) : RVal w v rs := by
  refine ⟨RListAt.of_own h, ?_⟩
  rcases h.2 with ⟨h0, _⟩ | ⟨g', cap', cur, hv, _⟩
  · exact .inl h0
  · exact .inr ⟨_, _, _, hv⟩
theorem rgs_one (rs : List Rg) : ∀ u ∈ rs.flatMap rgCells, u.oneCell' = true := by
  intro u hu
  obtain ⟨r, _, hr⟩ := List.mem_flatMap.1 hu
  simp [rgCells] at hr
  rcases hr with rfl | rfl <;> rfl
def EdgesSaid (rs : List Rg) (w : World) (e : Ending) (w' : World) : Prop :=
  ∃ v l, e = .returned v ∧ IntsAt w' w.heap.size v l ∧ l.Pairwise (· < ·) ∧ (∀ x, x ∈ l ↔ x = 0 ∨ x ∈ edgePts rs) ∧ l.length ≤ 2 * rs.length + 1 ∧ Below w.heap.size w w'
set_option maxRecDepth 100000 in
set_option maxHeartbeats 3200000 in
theorem edges_walk (w : World) (va vb : Value) (a b : List Rg) (ha : RVal w va a) (hb : RVal w vb b) (hal : a.length ≤ 240000) (hbl : b.length ≤ 240000) : Calls Tryz.prog 95 #[va, vb] w (EdgesSaid (a ++ b) w) := by
  obtain ⟨⟨A, c, rfl, hn, _⟩, hfa⟩ := id ha
  obtain ⟨⟨B, d, rfl, hm, _⟩, hfb⟩ := id hb
  have hA : A = none → a.length = 0 ∧ c = 0 := by
    rintro rfl
    rcases hfa with h | ⟨_, _, _, h⟩
    · injection h with h1 h2 h3
      exact ⟨h2, h3⟩
    · cases h
  have hB : B = none → b.length = 0 ∧ d = 0 := by
    rintro rfl
    rcases hfb with h | ⟨_, _, _, h⟩
    · injection h with h1 h2 h3
      exact ⟨h2, h3⟩
    · cases h
  have hb1 := alloc_below w (Obj.cells #[Value.int IntKind.i64 0] 3)
  have hs1 := size_new w (Obj.cells #[Value.int IntKind.i64 0] 3)
  have hz := own_fresh1 w 3 (.int .i64 0)
  have hb2 := alloc_below (w.alloc (Obj.cells #[Value.int IntKind.i64 0] 3)) (Obj.cells #[] 37)
  have hown0 := own_fresh0 (w.alloc (Obj.cells #[Value.int IntKind.i64 0] 3)) 37 2
  have hs2 := size_new (w.alloc (Obj.cells #[Value.int IntKind.i64 0] 3)) (Obj.cells #[] 37)
  have hbw2 := hb1.trans (hb2.mono hb1.size)
  replace hz := own_below hz hb2
  rw [hs1] at hown0 hs2
  have HA2 := Lib.hid (fun ad (h : A = some ad) => RListAt.cells (by have := ha.list.below hbw2; rw [h] at this; exact this))
  have Hown0 := Lib.hid hown0
  have Hz := Lib.hid hz
  have HbW := Lib.hid hbw2
  have Hfl1 := Lib.hid (flat_len rgCells 2 (fun _ => rfl) a)
  have Hfl2 := Lib.hid (flat_len rgCells 2 (fun _ => rfl) b)
  have hby1 : (0 + a.length) * 16 ≤ 140737488355328 := by omega
  have hby2 : (0 + a.length + b.length) * 16 ≤ 140737488355328 := by omega
  have HAf := Lib.hid hA
  have HBf := Lib.hid hB
  have HLb := Lib.hid hb.list
  clear hb1 hb2 hz hown0 hbw2 ha hb hA hB hfa hfb
  go_enter Tryz.func95, Tryz.ntmps95
  go_wp2_with (first | (at_builtin; refine wp_append_any _ slRange rfl (.tmp 9) (.tmp 10) rfl (w.heap.size + 1) (w.heap.size + 1) rfl (by exact Hown0.out) A a.length c (a.flatMap rgCells) rfl (by exact HAf.out) (by exact Hfl1.out) (by exact HA2.out) (rgs_one a) (by exact hby1) (by rw [hs2]; omega) ?_; intro v8 w8 hown8 hg8; have hb8 : Below w.heap.size w w8 := HbW.out.grown hg8 (by rw [hs2]; omega) (fun k hk => by cases hk; omega); have hz8 := hg8; have HB8 := Lib.hid hb8; have HO8 := Lib.hid hown8; have HL8 := Lib.hid (fun ad (h : B = some ad) => RListAt.cells (by have := HLb.out.below hb8; rw [h] at this; exact this)); have HZ8 := Lib.hid (World.ownsRow.kept Hz.out hg8 (by simp [Value.ownBlock])); have hs8 : w.heap.size + 1 + 1 ≤ w8.heap.size := by have := hg8.size; omega) | (at_builtin; refine wp_append_more w8 slRange rfl (.tmp 11) (.tmp 12) rfl (w.heap.size + 1) v8 _ _ rfl (by exact HO8.out) B b.length d (b.flatMap rgCells) rfl (by exact HBf.out) (by exact Hfl2.out) (by exact HL8.out) (rgs_one b) (by exact hby2) (by omega) ?_; intro v9 w9 hown9 hg9; have HB9 := Lib.hid (HB8.out.grown hg9 HB8.out.size (fun k hk => by have := (own_lt HO8.out k hk).1; omega)); have HZ9 := Lib.hid (World.ownsRow.kept HZ8.out hg9 (own_types HZ8.out HO8.out (by decide))); have hs9 : w.heap.size + 1 < w9.heap.size := (by have := hg9.size; omega); obtain ⟨A9, c9, rfl⟩ := own_slice hown9; have HO9 := Lib.hid hown9; clear hown9 hg9))
  obtain ⟨rs, hrs⟩ : ∃ rs, rs = a ++ b := ⟨_, rfl⟩
  have hrl : rs.length = a.length + b.length := by rw [hrs, List.length_append]
  have hel := edgePts_len rs
  have Hrs := Lib.hid hrs
  have HRow := Lib.hid (show w9.ownsRow (w.heap.size + 1) 37 2 (.slice A9 rs.length c9) rs.length (rs.flatMap rgCells) by
    have := HO9.out
    rw [Nat.zero_add, List.nil_append, ← List.flatMap_append, ← hrs] at this
    rw [hrl]
    exact this)
  have HI0 := Lib.hid (show IntsAt w9 w.heap.size (.slice (some ⟨w.heap.size, 0, none⟩) 1 1) [0] from HZ9.out)
  rw [← hrs]
  rw [show a.length + b.length = rs.length from hrl.symm, show ((a.length : Int) + (b.length : Int)) = (rs.length : Int) by omega]
  clear HO9 HZ9 hrs HA2 Hown0 Hz HbW Hfl1 Hfl2 hby1 hby2 HAf HBf HLb HB8 HO8 HL8 HZ8 hs8 hs1 hs2
  have hrl2 : rs.length ≤ 480000 := by omega
  clear hrl
  go_loopw [5, 15] (fun u i wr => ∃ k : Nat, k ≤ rs.length ∧ i = .int .i64 k ∧ Hid (IntsAt wr w.heap.size u (0 :: edgePts (rs.take k))) ∧ Hid (wr.ownsRow (w.heap.size + 1) 37 2 (.slice A9 rs.length c9) rs.length (rs.flatMap rgCells)) ∧ Hid (Below w.heap.size w wr)) (fun _ i _ => rs.length - (intOf i).toNat)
  case atStart => exact ⟨0, by omega, rfl, HI0, HRow, HB9⟩
  case round =>
    obtain ⟨k, hk, rfl, HU, HR, HB⟩ := hrel
    clear HI0 HRow HB9
    by_cases hlt : k < rs.length
    · obtain ⟨g, cap, e, _, _, _, _⟩ := own_form HR.out (by omega)
      injection e with e1 e2 e3
      subst e1 e3
      obtain ⟨x, hx⟩ : ∃ x, x = rs[k] := ⟨_, rfl⟩
      obtain ⟨g0, g1⟩ := rgs_get rs k hlt
      rw [← hx] at g0 g1
      have c0 := own_cell HR.out _ _ g0
      have c1 := own_cell HR.out _ _ g1
      have Htk := Lib.hid (show (0 :: edgePts (rs.take (k + 1)) : List Int) = (0 :: edgePts (rs.take k)) ++ ((if 0 < x.lo ∧ x.lo ≤ 1114111 then [x.lo] else []) ++ (if 0 ≤ x.hi ∧ x.hi < 1114111 then [x.hi + 1] else [])) by
        rw [List.take_succ_eq_append_getElem hlt, edgePts_snoc, hx]
        rfl)
      have hbt : ((0 :: edgePts (rs.take k)).length + 3) * 8 ≤ 140737488355328 := by
        have h1 := edgePts_len (rs.take k)
        rw [List.length_take] at h1
        rw [List.length_cons]
        omega
      have hbx := alloc_below wr (Obj.cells #[Value.int IntKind.i64 x.lo, Value.int IntKind.i64 x.hi] 37)
      have hXb : Blk (wr.alloc (Obj.cells #[Value.int IntKind.i64 x.lo, Value.int IntKind.i64 x.hi] 37)) wr.heap.size 37 #[Value.int IntKind.i64 x.lo, Value.int IntKind.i64 x.hi] := row_new _ _
      have HX := Lib.hid hXb
      have hul := fun q (hq : u5.ownBlock = some q) => own_lt HU.out q hq
      have HU1 := Lib.hid (own_below HU.out hbx)
      have HR1 := Lib.hid (own_below HR.out hbx)
      have HB1 := Lib.hid (HB.out.trans (hbx.mono HB.out.size))
      have hsz : wr.heap.size < (wr.alloc (Obj.cells #[Value.int IntKind.i64 x.lo, Value.int IntKind.i64 x.hi] 37)).heap.size := by rw [size_new]; omega
      generalize edgePts (rs.take k) = pts at *
      have w1 : x.hi < 1114111 → 0 ≤ x.hi → IntKind.i64.wrap (x.hi + 1) = x.hi + 1 := fun h1 h2 => by rw [IntKind.wrap_i64]; omega
      have w2 : x.hi < 1114111 → 0 ≤ x.hi → wrap64 (x.hi + 1) = x.hi + 1 := fun h1 h2 => by unfold wrap64; omega
      clear hx g0 g1 HU HR HB hXb hbx
      go_upto_region 5 with fail
      have x0 := HX.out.cell 0
      have x1 := HX.out.cell 1
      clear c0 c1
      generalize wr.alloc _ = W1 at *
      generalize wr.heap.size = xb at *
      by_cases p1 : x.lo > 0
      · have d1 := decide_eq_true p1
        by_cases p2 : x.lo ≤ 1114111
        · have d2 := decide_eq_true p2
          have hlo : 0 < x.lo ∧ x.lo ≤ 1114111 := ⟨p1, p2⟩
          by_cases p3 : x.hi ≥ 0
          · have d3 := decide_eq_true p3
            by_cases p4 : x.hi < 1114111
            · have d4 := decide_eq_true p4
              have hhi : 0 ≤ x.hi ∧ x.hi < 1114111 := ⟨p3, p4⟩
              have w3 := w1 p4 p3
              have w4 := w2 p4 p3
              go_wp2_with (first | (at_builtin; refine wp_append_lit slInt rfl (.tmp 27) (.tmp 30) rfl w.heap.size u5 _ _ rfl (by exact HU1.out) #[.int .i64 x.lo] rfl rfl (by simp [Value.oneCell']) (by omega) (by exact HB1.out.size) ?_; intro v6 w6 hown6 hg6; have hne6 : some xb ≠ u5.ownBlock := (fun e => by have := (hul xb e.symm).2; omega); have y0 := (HX.out.grown hg6 hne6).cell 0; have y1 := (HX.out.grown hg6 hne6).cell 1; have HU6 := Lib.hid hown6; have HR6 := Lib.hid (World.ownsRow.kept HR1.out hg6 (own_types HR1.out HU1.out (by decide))); have HB6 := Lib.hid (HB1.out.grown hg6 HB1.out.size (fun k hk => (own_lt HU1.out k hk).1)); clear hown6 hg6 hne6) | (at_builtin; refine wp_append_lit slInt rfl (.tmp 40) (.tmp 44) rfl w.heap.size v6 _ _ rfl (by exact HU6.out) #[.int .i64 (x.hi + 1)] rfl rfl (by simp [Value.oneCell']) (by first | omega | (simp only [List.length_cons] at *; omega)) (by exact HB6.out.size) ?_; intro v7 w7 hown7 hg7; have HU7 := Lib.hid hown7; have HR7 := Lib.hid (World.ownsRow.kept HR6.out hg7 (own_types HR6.out HU6.out (by decide))); have HB7 := Lib.hid (HB6.out.grown hg7 HB6.out.size (fun k hk => (own_lt HU6.out k hk).1)); clear hown7 hg7))
              go_roundw
              case rel =>
                refine ⟨k + 1, by omega, by go_num, ?_, HR7, HB7⟩
                show IntsAt _ _ _ _
                rw [Htk.out, if_pos hlo, if_pos hhi]
                have hu := HU7.out
                unfold IntsAt at hu ⊢
                simpa [intz, List.length_append] using hu
              case measure => first | (simp [intOf]; done) | (simp [intOf]; omega)
            · have d4 := decide_eq_false p4
              have hhi : ¬ (0 ≤ x.hi ∧ x.hi < 1114111) := fun h => p4 h.2
              go_wp2_with (at_builtin; refine wp_append_lit slInt rfl (.tmp 27) (.tmp 30) rfl w.heap.size u5 _ _ rfl (by exact HU1.out) #[.int .i64 x.lo] rfl rfl (by simp [Value.oneCell']) (by omega) (by exact HB1.out.size) ?_; intro v6 w6 hown6 hg6; have hne6 : some xb ≠ u5.ownBlock := (fun e => by have := (hul xb e.symm).2; omega); have y0 := (HX.out.grown hg6 hne6).cell 0; have y1 := (HX.out.grown hg6 hne6).cell 1; have HU6 := Lib.hid hown6; have HR6 := Lib.hid (World.ownsRow.kept HR1.out hg6 (own_types HR1.out HU1.out (by decide))); have HB6 := Lib.hid (HB1.out.grown hg6 HB1.out.size (fun k hk => (own_lt HU1.out k hk).1)); clear hown6 hg6 hne6)
              go_roundw
              case rel =>
                refine ⟨k + 1, by omega, by go_num, ?_, HR6, HB6⟩
                show IntsAt _ _ _ _
                rw [Htk.out, if_pos hlo, if_neg hhi]
                have hu := HU6.out
                unfold IntsAt at hu ⊢
                simpa [intz, List.length_append] using hu
              case measure => first | (simp [intOf]; done) | (simp [intOf]; omega)
          · have d3 := decide_eq_false p3
            have hhi : ¬ (0 ≤ x.hi ∧ x.hi < 1114111) := fun h => p3 h.1
            go_wp2_with (at_builtin; refine wp_append_lit slInt rfl (.tmp 27) (.tmp 30) rfl w.heap.size u5 _ _ rfl (by exact HU1.out) #[.int .i64 x.lo] rfl rfl (by simp [Value.oneCell']) (by omega) (by exact HB1.out.size) ?_; intro v6 w6 hown6 hg6; have hne6 : some xb ≠ u5.ownBlock := (fun e => by have := (hul xb e.symm).2; omega); have y0 := (HX.out.grown hg6 hne6).cell 0; have y1 := (HX.out.grown hg6 hne6).cell 1; have HU6 := Lib.hid hown6; have HR6 := Lib.hid (World.ownsRow.kept HR1.out hg6 (own_types HR1.out HU1.out (by decide))); have HB6 := Lib.hid (HB1.out.grown hg6 HB1.out.size (fun k hk => (own_lt HU1.out k hk).1)); clear hown6 hg6 hne6)
            go_roundw
            case rel =>
              refine ⟨k + 1, by omega, by go_num, ?_, HR6, HB6⟩
              show IntsAt _ _ _ _
              rw [Htk.out, if_pos hlo, if_neg hhi]
              have hu := HU6.out
              unfold IntsAt at hu ⊢
              simpa [intz, List.length_append] using hu
            case measure => first | (simp [intOf]; done) | (simp [intOf]; omega)
        · have d2 := decide_eq_false p2
          have hlo : ¬ (0 < x.lo ∧ x.lo ≤ 1114111) := fun h => p2 h.2
          by_cases p3 : x.hi ≥ 0
          · have d3 := decide_eq_true p3
            by_cases p4 : x.hi < 1114111
            · have d4 := decide_eq_true p4
              have hhi : 0 ≤ x.hi ∧ x.hi < 1114111 := ⟨p3, p4⟩
              have w3 := w1 p4 p3
              have w4 := w2 p4 p3
              go_wp2_with (at_builtin; refine wp_append_lit slInt rfl (.tmp 40) (.tmp 44) rfl w.heap.size u5 _ _ rfl (by exact HU1.out) #[.int .i64 (x.hi + 1)] rfl rfl (by simp [Value.oneCell']) (by first | omega | (simp only [List.length_cons] at *; omega)) (by exact HB1.out.size) ?_; intro v7 w7 hown7 hg7; have HU7 := Lib.hid hown7; have HR7 := Lib.hid (World.ownsRow.kept HR1.out hg7 (own_types HR1.out HU1.out (by decide))); have HB7 := Lib.hid (HB1.out.grown hg7 HB1.out.size (fun k hk => (own_lt HU1.out k hk).1)); clear hown7 hg7)
              go_roundw
              case rel =>
                refine ⟨k + 1, by omega, by go_num, ?_, HR7, HB7⟩
                show IntsAt _ _ _ _
                rw [Htk.out, if_neg hlo, if_pos hhi]
                have hu := HU7.out
                unfold IntsAt at hu ⊢
                simpa [intz, List.length_append] using hu
              case measure => first | (simp [intOf]; done) | (simp [intOf]; omega)
            · have d4 := decide_eq_false p4
              have hhi : ¬ (0 ≤ x.hi ∧ x.hi < 1114111) := fun h => p4 h.2
              go_wp2_with fail
              go_roundw
              case rel =>
                refine ⟨k + 1, by omega, by go_num, ?_, HR1, HB1⟩
                show IntsAt _ _ _ _
                rw [Htk.out, if_neg hlo, if_neg hhi]
                have hu := HU1.out
                unfold IntsAt at hu ⊢
                simpa [intz, List.length_append] using hu
              case measure => first | (simp [intOf]; done) | (simp [intOf]; omega)
          · have d3 := decide_eq_false p3
            have hhi : ¬ (0 ≤ x.hi ∧ x.hi < 1114111) := fun h => p3 h.1
            go_wp2_with fail
            go_roundw
            case rel =>
              refine ⟨k + 1, by omega, by go_num, ?_, HR1, HB1⟩
              show IntsAt _ _ _ _
              rw [Htk.out, if_neg hlo, if_neg hhi]
              have hu := HU1.out
              unfold IntsAt at hu ⊢
              simpa [intz, List.length_append] using hu
            case measure => first | (simp [intOf]; done) | (simp [intOf]; omega)
      · have d1 := decide_eq_false p1
        have hlo : ¬ (0 < x.lo ∧ x.lo ≤ 1114111) := fun h => p1 h.1
        by_cases p3 : x.hi ≥ 0
        · have d3 := decide_eq_true p3
          by_cases p4 : x.hi < 1114111
          · have d4 := decide_eq_true p4
            have hhi : 0 ≤ x.hi ∧ x.hi < 1114111 := ⟨p3, p4⟩
            have w3 := w1 p4 p3
            have w4 := w2 p4 p3
            go_wp2_with (at_builtin; refine wp_append_lit slInt rfl (.tmp 40) (.tmp 44) rfl w.heap.size u5 _ _ rfl (by exact HU1.out) #[.int .i64 (x.hi + 1)] rfl rfl (by simp [Value.oneCell']) (by first | omega | (simp only [List.length_cons] at *; omega)) (by exact HB1.out.size) ?_; intro v7 w7 hown7 hg7; have HU7 := Lib.hid hown7; have HR7 := Lib.hid (World.ownsRow.kept HR1.out hg7 (own_types HR1.out HU1.out (by decide))); have HB7 := Lib.hid (HB1.out.grown hg7 HB1.out.size (fun k hk => (own_lt HU1.out k hk).1)); clear hown7 hg7)
            go_roundw
            case rel =>
              refine ⟨k + 1, by omega, by go_num, ?_, HR7, HB7⟩
              show IntsAt _ _ _ _
              rw [Htk.out, if_neg hlo, if_pos hhi]
              have hu := HU7.out
              unfold IntsAt at hu ⊢
              simpa [intz, List.length_append] using hu
            case measure => first | (simp [intOf]; done) | (simp [intOf]; omega)
          · have d4 := decide_eq_false p4
            have hhi : ¬ (0 ≤ x.hi ∧ x.hi < 1114111) := fun h => p4 h.2
            go_wp2_with fail
            go_roundw
            case rel =>
              refine ⟨k + 1, by omega, by go_num, ?_, HR1, HB1⟩
              show IntsAt _ _ _ _
              rw [Htk.out, if_neg hlo, if_neg hhi]
              have hu := HU1.out
              unfold IntsAt at hu ⊢
              simpa [intz, List.length_append] using hu
            case measure => first | (simp [intOf]; done) | (simp [intOf]; omega)
        · have d3 := decide_eq_false p3
          have hhi : ¬ (0 ≤ x.hi ∧ x.hi < 1114111) := fun h => p3 h.1
          go_wp2_with fail
          go_roundw
          case rel =>
            refine ⟨k + 1, by omega, by go_num, ?_, HR1, HB1⟩
            show IntsAt _ _ _ _
            rw [Htk.out, if_neg hlo, if_neg hhi]
            have hu := HU1.out
            unfold IntsAt at hu ⊢
            simpa [intz, List.length_append] using hu
          case measure => first | (simp [intOf]; done) | (simp [intOf]; omega)
    · have hkl : k = rs.length := by omega
      have HU2 := Lib.hid (show IntsAt wr w.heap.size u5 (0 :: edgePts rs) by have := HU.out; rw [hkl, List.take_length] at this; exact this)
      subst hkl
      obtain ⟨A5, c5, rfl⟩ := own_slice HU2.out
      clear HU HR
      go_wp2_with fail
      refine (sorted_walk (0 :: edgePts rs) w.heap.size _ wr HU2.out (by simp) (by rw [List.length_cons]; omega) HB.out.size).mono ?_
      rintro e w5 ⟨v5, l, rfl, hl5, hs5, hm5, hn5, hb5⟩
      have Hfin := Lib.hid (show EdgesSaid rs w (.returned v5) w5 from ⟨v5, l, rfl, hl5, hs5, fun x => by rw [hm5, List.mem_cons], by rw [List.length_cons] at hn5; omega, HB.out.trans hb5⟩)
      clear hl5 hs5 hm5 hn5 hb5
      go_wp2_with fail
      go_ret
      rw [← Hrs.out]
      exact Hfin.out
end Go.Proofs.YtchkckfadennhaaGreatDoor
