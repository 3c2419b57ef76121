/- items.Text.Span. -/
import Derived.Test.YthoegenipbohmaaGreatDoorItmS
namespace Go.Proofs.YthoegenipbohmaaGreatDoor
open Go.RowKit Utf Itm
set_option linter.unusedVariables false
set_option linter.unusedSimpArgs false
theorem it_field1 (a b c : Int) (W : World) : (Instr.field 25 (.agg #[.int .i64 a, .int .i64 b, .int .i64 c]) 1).run Tryz.prog W = .ok (.int .i64 b) W := by kernel_rfl
theorem it_field2 (a b c : Int) (W : World) : (Instr.field 25 (.agg #[.int .i64 a, .int .i64 b, .int .i64 c]) 2).run Tryz.prog W = .ok (.int .i64 c) W := by kernel_rfl
abbrev spv (x : Int × Int) : Value := .agg #[.int .i64 x.1, .int .i64 x.2]
theorem intz_get? (zs : List Int) (j : Nat) (x : Int) (h : zs[j]? = some x) : (intz zs)[j]? = some (.int .i64 x) := by
  unfold intz
  rw [List.getElem?_map, h]
  rfl
theorem ItsAt.piece {w : World} {B : Nat} {g cap i j : Nat} {L : List It} (h : ItemsAt w B (.slice (some ⟨g, 0, none⟩) L.length cap) L) (hij : i ≤ j) (hj : j ≤ L.length) : ItsAt w (.slice (some ⟨g, i * 3, none⟩) (j - i) (cap - i)) ((L.take j).drop i) := by
  have hn := own_len h
  unfold maxLen at hn
  have hl : ((L.take j).drop i).length = j - i := by rw [List.length_drop, List.length_take]; omega
  refine ⟨_, _, by rw [hl], by omega, fun _ => ⟨_, rfl, fun k hk => ?_⟩⟩
  rw [hl] at hk
  obtain ⟨g0, g1, g2⟩ := items_get L (i + k) (by omega)
  have e : ((L.take j).drop i)[k]'(by rw [hl]; exact hk) = L[i + k]'(by omega) := by rw [List.getElem_drop, List.getElem_take]
  rw [e, add_plain, add_plain, add_plain]
  rw [Nat.add_mul] at g0 g1 g2
  exact ⟨own_cell h _ _ g0, own_cell h _ _ g1, own_cell h _ _ g2⟩
section
variable {w : World} {B p : Nat} {bs : List Nat} {L : List It}
set_option maxRecDepth 100000 in
theorem tspan_bad (h : TextAt w B p bs L) (hl : L.length ≤ 100000) (f t : Int) (hbad : f < 0 ∨ t < f ∨ (L.length : Int) < t) : Calls Tryz.prog 35 #[.pointer (some ⟨p, 0, none⟩), .int .i64 f, .int .i64 t] w fun e w' => e = .returned (spv (spanL bs.length L f t)) ∧ Below w.heap.size w w' := by
  have hba := alloc_below w (Obj.cells #[Value.int IntKind.i64 0, Value.int IntKind.i64 0] 68)
  have HN := Lib.hid (tnone_walk (h.below hba))
  have hsp : spanL bs.length L f t = (-1, -1) := by unfold spanL; rw [if_pos hbad]
  rw [hsp]
  obtain ⟨_, _, vb, vl, vn, h2, _, h4, _⟩ := h
  obtain ⟨Al, cl, rfl⟩ := own_slice h4
  have c2 := (h2.below hba).cell 2
  clear h2 h4 hsp hba
  by_cases a1 : f < 0
  · have d1 : decide (f < 0) = true := decide_eq_true a1
    clear hbad a1
    go_enter Tryz.func35, Tryz.ntmps35
    go_wp2_with fail
    refine HN.out.mono ?_
    rintro e w1 ⟨rfl, rfl⟩
    clear HN
    go_wp2_with fail
    refine bodyPost_ret (v := spv (-1, -1)) (by simp [results, Tryz.results35, go_sem]) rfl ⟨rfl, (Below.refl _ _).alloc (Nat.le_refl _) _⟩
  · have d1 : decide (f < 0) = false := decide_eq_false a1
    by_cases a2 : f > t
    · have d2 : decide (f > t) = true := decide_eq_true a2
      have d2' : decide (t < f) = true := decide_eq_true a2
      clear hbad a1 a2
      go_enter Tryz.func35, Tryz.ntmps35
      go_wp2_with fail
      refine HN.out.mono ?_
      rintro e w1 ⟨rfl, rfl⟩
      clear HN
      go_wp2_with fail
      refine bodyPost_ret (v := spv (-1, -1)) (by simp [results, Tryz.results35, go_sem]) rfl ⟨rfl, (Below.refl _ _).alloc (Nat.le_refl _) _⟩
    · have d2 : decide (f > t) = false := decide_eq_false a2
      have d2' : decide (t < f) = false := decide_eq_false a2
      have d3 : decide (t > (L.length : Int)) = true := by rw [decide_eq_true_eq]; omega
      have d3' : decide ((L.length : Int) < t) = true := by rw [decide_eq_true_eq]; omega
      clear hbad a1 a2
      go_enter Tryz.func35, Tryz.ntmps35
      go_wp2_with fail
      refine HN.out.mono ?_
      rintro e w1 ⟨rfl, rfl⟩
      clear HN
      go_wp2_with fail
      refine bodyPost_ret (v := spv (-1, -1)) (by simp [results, Tryz.results35, go_sem]) rfl ⟨rfl, (Below.refl _ _).alloc (Nat.le_refl _) _⟩
set_option maxRecDepth 100000 in
set_option maxHeartbeats 1600000 in
theorem tspan_none (h : TextAt w B p bs L) (hl : L.length ≤ 100000) (i : Nat) (hi : i ≤ L.length) : Calls Tryz.prog 35 #[.pointer (some ⟨p, 0, none⟩), .int .i64 i, .int .i64 i] w fun e w' => e = .returned (spv (spanL bs.length L i i)) ∧ Below w.heap.size w w' := by
  have hba := alloc_below w (Obj.cells #[Value.int IntKind.i64 0, Value.int IntKind.i64 0] 68)
  have HN := Lib.hid (tnone_walk (h.below hba))
  have hsp : spanL bs.length L i i = (minS bs.length (L.drop i), minS bs.length (L.drop i)) := by unfold spanL; rw [if_neg (by omega), if_pos rfl]; rfl
  rw [hsp]
  obtain ⟨_, _, vb, vl, vn, h2, _, h4, h5⟩ := h
  obtain ⟨Al, cl, rfl⟩ := own_slice h4
  obtain ⟨gn, cn, hv, _⟩ := own_form h5 (by rw [least_len]; omega)
  subst hv
  have c2 := (h2.below hba).cell 2
  have c3 := (h2.below hba).cell 3
  have hg := intz_get? _ _ _ (least_get bs.length L i hi)
  have cn := cell_later hba (own_cell h5 i _ hg)
  rw [least_len] at c2 c3
  generalize minS bs.length (L.drop i) = M at *
  have hiI : (i : Int) < (L.length : Int) + 1 := by omega
  have hiN : i < L.length + 1 := by omega
  obtain ⟨n1, hn1⟩ : ∃ n, n = L.length + 1 := ⟨_, rfl⟩
  rw [← hn1] at hiN c2 c3
  have d1 : decide ((i : Int) < 0) = false := by rw [decide_eq_false_iff_not]; omega
  have d2 : decide ((i : Int) > (i : Int)) = false := by rw [decide_eq_false_iff_not]; omega
  have d3 : decide ((i : Int) > (L.length : Int)) = false := by rw [decide_eq_false_iff_not]; omega
  have d3' : decide (L.length < i) = false := by rw [decide_eq_false_iff_not]; omega
  have d3'' : decide (i > L.length) = false := by rw [decide_eq_false_iff_not]; omega
  clear h2 h4 h5 hsp hba hg hn1 hiI
  go_enter Tryz.func35, Tryz.ntmps35
  go_wp2_with fail
  refine HN.out.mono ?_
  rintro e w1 ⟨rfl, rfl⟩
  clear HN
  go_wp2_with fail
  go_region
  simp only [Exit.then]
  go_wp2_with fail
  refine bodyPost_ret (v := spv (M, M)) (by simp [results, Tryz.results35, go_sem]) rfl ⟨rfl, ?_⟩
  exact ((Below.refl _ _).alloc (Nat.le_refl _) _).drew
set_option maxRecDepth 100000 in
set_option maxHeartbeats 1600000 in
theorem tspan_part (h : TextAt w B p bs L) (hl : L.length ≤ 100000) (hbl : bs.length ≤ 100000) (i j : Nat) (hij : i < j) (hj : j ≤ L.length) (hs : ∀ x ∈ L, 0 ≤ x.s ∧ x.s ≤ bs.length ∧ 0 ≤ x.e ∧ x.e ≤ bs.length) : Calls Tryz.prog 35 #[.pointer (some ⟨p, 0, none⟩), .int .i64 i, .int .i64 j] w fun e w' => e = .returned (spv (spanL bs.length L i j)) ∧ Below w.heap.size w w' := by
  have hba := alloc_below w (Obj.cells #[Value.int IntKind.i64 0, Value.int IntKind.i64 0] 68)
  have HN := Lib.hid (tnone_walk (h.below hba))
  have hsp : spanL bs.length L i j = (minS bs.length ((L.take j).drop i), maxE 0 ((L.take j).drop i)) := by unfold spanL; rw [if_neg (by omega), if_neg (by omega)]; rfl
  rw [hsp]
  obtain ⟨_, _, vb, vl, vn, h2, _, h4, _⟩ := h
  obtain ⟨gl, cl, hv, _, _, hcl, _⟩ := own_form h4 (by omega)
  subst hv
  have c2 := (h2.below hba).cell 2
  have HP := Lib.hid (ItsAt.piece h4 (Nat.le_of_lt hij) hj)
  have hpl : ((L.take j).drop i).length = j - i := by rw [List.length_drop, List.length_take]; omega
  have HPS := Lib.hid (show ∀ x ∈ (L.take j).drop i, 0 ≤ x.s ∧ x.s ≤ bs.length ∧ 0 ≤ x.e ∧ x.e ≤ bs.length from fun x hx => hs x (List.mem_of_mem_take (List.mem_of_mem_drop hx)))
  have HPL := Lib.hid hpl
  generalize (L.take j).drop i = part at *
  have hne : ¬ cl = i := by omega
  have HBk := Lib.hid (row_new w (Obj.cells #[Value.int IntKind.i64 0, Value.int IntKind.i64 0] 68))
  have HB0 := Lib.hid hba
  have d1 : decide ((i : Int) < 0) = false := by rw [decide_eq_false_iff_not]; omega
  have d2 : decide ((i : Int) > (j : Int)) = false := by rw [decide_eq_false_iff_not]; omega
  have d2' : decide (i > j) = false := by rw [decide_eq_false_iff_not]; omega
  have d2'' : decide (j < i) = false := by rw [decide_eq_false_iff_not]; omega
  have d3 : decide ((j : Int) > (L.length : Int)) = false := by rw [decide_eq_false_iff_not]; omega
  have d3' : decide (L.length < j) = false := by rw [decide_eq_false_iff_not]; omega
  have d3'' : decide (j > L.length) = false := by rw [decide_eq_false_iff_not]; omega
  have d4 : ((i : Int) == (j : Int)) = false := by rw [beq_eq_false_iff_ne]; omega
  have d4' : (i == j) = false := by rw [beq_eq_false_iff_ne]; omega
  have hic : i ≤ cl := by omega
  have hjc : j ≤ cl := by omega
  have hij' : i ≤ j := by omega
  clear h2 h4 hsp hba hs
  go_enter Tryz.func35, Tryz.ntmps35
  go_wp2_with fail
  refine HN.out.mono ?_
  rintro e w1 ⟨rfl, rfl⟩
  clear HN
  replace HP := Lib.hid (HP.out.below HB0.out)
  generalize w.alloc _ = w1 at *
  have HPl := Lib.hid (show part.length ≤ 100000 by rw [HPL.out]; omega)
  have HP0 := Lib.hid (show 0 < part.length by rw [HPL.out]; omega)
  go_wp2_with fail
  refine (min_walk HP.out HP0.out HPl.out (bs.length : Int) (fun x hx => by have := HPS.out x hx; omega) (fun x hx => (HPS.out x hx).2.1)).mono ?_
  rintro e w2 ⟨⟨m1, rfl, hm1⟩, hb2⟩
  unfold itv
  have qf1 := fun W => it_field1 m1.r m1.s m1.e W
  have HM1 := Lib.hid hm1
  replace HP := Lib.hid (HP.out.below hb2)
  have HBk2 := Lib.hid (show Blk w2 w.heap.size 68 #[Value.int IntKind.i64 0, Value.int IntKind.i64 0] from Blk.below HBk.out hb2)
  replace HB0 := Lib.hid (HB0.out.trans (hb2.mono HB0.out.size))
  clear hb2 hm1 HBk
  go_wp2_with fail
  refine (max_walk HP.out HP0.out HPl.out 0 (fun x hx => by have := HPS.out x hx; omega) rfl).mono ?_
  rintro e w3 ⟨⟨m2, rfl, hm2⟩, hb3⟩
  unfold itv
  have qf2 := fun W => it_field2 m2.r m2.s m2.e W
  have HM2 := Lib.hid hm2
  have hbk := HBk2.out.below hb3
  have HB3 := HB0.out.trans (hb3.mono HB0.out.size)
  obtain ⟨W9, hW9⟩ : ∃ W, W = (w3.setCell ⟨w.heap.size, 0, none⟩ (.int .i64 m1.s)).setCell ⟨w.heap.size, 1, none⟩ (.int .i64 m2.e) := ⟨_, rfl⟩
  have hF : Blk W9 w.heap.size 68 #[.int .i64 m1.s, .int .i64 m2.e] := hW9 ▸ (hbk.set 0 _).set 1 _
  have HB9 := Lib.hid (show Below w.heap.size w W9 from hW9 ▸ (HB3.setCell (p := ⟨w.heap.size, 0, none⟩) (Nat.le_refl _) (.int .i64 m1.s)).setCell (p := ⟨w.heap.size, 1, none⟩) (Nat.le_refl _) (.int .i64 m2.e))
  have z0 : W9.cell? ⟨w.heap.size, 0, none⟩ = some (.int .i64 m1.s) := hF.cell 0
  have z1 : W9.cell? ⟨w.heap.size, 1, none⟩ = some (.int .i64 m2.e) := hF.cell 1
  have y0 := hbk.cell 0
  have y1 := hbk.cell 1
  have k0 := hbk.free 0
  have k1 := hbk.free 1
  clear hm2 hF hbk hb3 HB3 HBk2 HB0 HP
  go_wp2_with fail
  rw [← hW9]
  refine bodyPost_ret (v := spv (m1.s, m2.e)) (by simp [results, Tryz.results35, go_sem, z0, z1]) rfl ?_
  exact ⟨by rw [HM1.out, HM2.out], HB9.out⟩
theorem tspan_walk (h : TextAt w B p bs L) (hl : L.length ≤ 100000) (hbl : bs.length ≤ 100000) (f t : Int) (hs : ∀ x ∈ L, 0 ≤ x.s ∧ x.s ≤ bs.length ∧ 0 ≤ x.e ∧ x.e ≤ bs.length) : Calls Tryz.prog 35 #[.pointer (some ⟨p, 0, none⟩), .int .i64 f, .int .i64 t] w fun e w' => e = .returned (spv (spanL bs.length L f t)) ∧ Below w.heap.size w w' := by
  by_cases hbad : f < 0 ∨ t < f ∨ (L.length : Int) < t
  · exact tspan_bad h hl f t hbad
  · obtain ⟨i, rfl⟩ := Int.eq_ofNat_of_zero_le (show 0 ≤ f by omega)
    obtain ⟨j, rfl⟩ := Int.eq_ofNat_of_zero_le (show 0 ≤ t by omega)
    by_cases e : i = j
    · subst e
      exact tspan_none h hl i (by omega)
    · exact tspan_part h hl hbl i j (by omega) (by omega) hs
end
end Go.Proofs.YthoegenipbohmaaGreatDoor
