/- rubricatorref12.Text.Span. Printed by wip/tools/mkrspan.py. -/
import Derived.Test.YthoegenipbohmaaGreatDoorItmT
namespace Go.Proofs.YthoegenipbohmaaGreatDoor
open Go.RowKit Utf Itm
set_option linter.unusedVariables false
set_option linter.unusedSimpArgs false
section
variable {w : World} {B q : Nat} {bs : List Nat} {L : List It}
set_option maxRecDepth 100000 in
theorem rspan_bad (h : RTextAt w B q bs L) (hl : L.length ≤ 100000) (f t : Int) (hbad : f < 0 ∨ t < f ∨ (L.length : Int) < t) : Calls Tryz.prog 36 #[.pointer (some ⟨q, 0, none⟩), .int .i64 f, .int .i64 t] w fun e w' => e = .returned (spv (spanL bs.length L f t)) ∧ Below w.heap.size w w' := by
  have hba := alloc_below w (Obj.cells #[Value.int IntKind.i64 0, Value.int IntKind.i64 0] 68)
  have hsp : spanL bs.length L f t = (-1, -1) := by unfold spanL; rw [if_pos hbad]
  rw [hsp]
  obtain ⟨_, _, vb, vl, h2, _, h4⟩ := h
  obtain ⟨Al, cl, rfl⟩ := own_slice h4
  have c2 := (h2.below hba).cell 1
  clear h2 h4 hsp hba
  by_cases a1 : f < 0
  · have d1 : decide (f < 0) = true := decide_eq_true a1
    clear hbad a1
    go_enter Tryz.func36, Tryz.ntmps36
    go_wp2_with fail
    refine bodyPost_ret (v := spv (-1, -1)) (by simp [results, Tryz.results36, go_sem]) rfl ⟨rfl, (Below.refl _ _).alloc (Nat.le_refl _) _⟩
  · have d1 : decide (f < 0) = false := decide_eq_false a1
    by_cases a2 : t < f
    · have d2 : decide (t < f) = true := decide_eq_true a2
      clear hbad a1 a2
      go_enter Tryz.func36, Tryz.ntmps36
      go_wp2_with fail
      refine bodyPost_ret (v := spv (-1, -1)) (by simp [results, Tryz.results36, go_sem]) rfl ⟨rfl, (Below.refl _ _).alloc (Nat.le_refl _) _⟩
    · have d2 : decide (t < f) = false := decide_eq_false a2
      have d3 : decide (t > (L.length : Int)) = true := by rw [decide_eq_true_eq]; omega
      have d3' : decide ((L.length : Int) < t) = true := by rw [decide_eq_true_eq]; omega
      clear hbad a1 a2
      go_enter Tryz.func36, Tryz.ntmps36
      go_wp2_with fail
      refine bodyPost_ret (v := spv (-1, -1)) (by simp [results, Tryz.results36, go_sem]) rfl ⟨rfl, (Below.refl _ _).alloc (Nat.le_refl _) _⟩
set_option maxRecDepth 100000 in
set_option maxHeartbeats 1600000 in
theorem rspan_none (h : RTextAt w B q bs L) (hl : L.length ≤ 100000) (hbl : bs.length ≤ 100000) (i j : Nat) (hij : i = j) (hj : j ≤ L.length) : Calls Tryz.prog 36 #[.pointer (some ⟨q, 0, none⟩), .int .i64 i, .int .i64 j] w fun e w' => e = .returned (spv (spanL bs.length L i j)) ∧ Below w.heap.size w w' := by
  have hba := alloc_below w (Obj.cells #[Value.int IntKind.i64 0, Value.int IntKind.i64 0] 68)
  have hsp : spanL bs.length L i j = (minS bs.length (L.drop i), minS bs.length (L.drop i)) := by
    unfold spanL
    rw [if_neg (by omega), if_pos (by omega)]
    rfl
  rw [hsp]
  obtain ⟨_, _, vb, vl, h2, h3, h4⟩ := h
  obtain ⟨Al, cl, rfl⟩ := own_slice h4
  obtain ⟨Ab, cb, rfl⟩ := own_slice h3
  have hcl : L.length ≤ cl := by
    rcases h4.2 with ⟨h, hz⟩ | ⟨g, cap, cur, h, _, _, hc, _⟩
    · omega
    · injection h with _ _ h
      omega
  obtain ⟨W0, hW0⟩ : ∃ W, W = w.alloc (Obj.cells #[Value.int IntKind.i64 0, Value.int IntKind.i64 0] 68) := ⟨_, rfl⟩
  have HZ := Lib.hid (show Blk W0 w.heap.size 68 #[Value.int IntKind.i64 0, Value.int IntKind.i64 0] from hW0 ▸ row_new _ _)
  rw [← hW0] at hba
  have c0 := (h2.below hba).cell 0
  have c1 := (h2.below hba).cell 1
  have HV := Lib.hid (show ItemsAt W0 B (.slice Al L.length cl) L from own_below h4 hba)
  have HB := Lib.hid hba
  have d1 : decide ((i : Int) < 0) = false := by rw [decide_eq_false_iff_not]; omega
  have d2 : decide ((j : Int) < (i : Int)) = false := by rw [decide_eq_false_iff_not]; omega
  have d2' : decide (j < i) = false := by rw [decide_eq_false_iff_not]; omega
  have d3 : decide ((j : Int) > (L.length : Int)) = false := by rw [decide_eq_false_iff_not]; omega
  have d3' : decide (L.length < j) = false := by rw [decide_eq_false_iff_not]; omega
  have d3'' : decide (j > L.length) = false := by rw [decide_eq_false_iff_not]; omega
  have d4 : ((i : Int) == (j : Int)) = true := by rw [beq_iff_eq]; omega
  have d4' : (i == j) = true := by rw [beq_iff_eq]; omega
  obtain ⟨bn, hbn⟩ : ∃ n, n = bs.length := ⟨_, rfl⟩
  rw [← hbn] at c0 hbl ⊢
  clear h2 h3 h4 hsp hba hbn
  have hic : i ≤ cl := by omega
  have hil : i ≤ L.length := by omega
  have hjl : j ≤ L.length := by omega
  have HIJ := Lib.hid hij
  clear hij
  go_enter Tryz.func36, Tryz.ntmps36
  go_upto_region 1 with fail
  rw [← hW0]
  clear hW0
  by_cases hcn : cl = i
  · go_wp2_with fail
    have hM : L.length - i = 0 := by omega
    go_loopw [7, 8, 40] (fun s e i wr => s = .int .i64 bn ∧ e = .int .i64 0 ∧ i = .int .i64 0 ∧ wr = W0) (fun _ _ i _ => 0)
    case atStart => exact ⟨rfl, rfl, rfl, rfl⟩
    case round =>
      obtain ⟨rfl, rfl, rfl, rfl⟩ := hrel
      have hnot : ¬ (0 < L.length - i) := by omega
      have hd : L.drop i = [] := List.drop_eq_nil_of_le (by omega)
      obtain ⟨W9, hW9⟩ : ∃ W, W = (wr.setCell ⟨w.heap.size, 0, none⟩ (.int .i64 (bn : Int))).setCell ⟨w.heap.size, 1, none⟩ (.int .i64 (bn : Int)) := ⟨_, rfl⟩
      have hF : Blk W9 w.heap.size 68 #[.int .i64 (bn : Int), .int .i64 (bn : Int)] := hW9 ▸ (HZ.out.set 0 _).set 1 _
      have HB9 := Lib.hid (show Below w.heap.size w W9 from hW9 ▸ (HB.out.setCell (p := ⟨w.heap.size, 0, none⟩) (Nat.le_refl _) (.int .i64 (bn : Int))).setCell (p := ⟨w.heap.size, 1, none⟩) (Nat.le_refl _) (.int .i64 (bn : Int)))
      have z0 : W9.cell? ⟨w.heap.size, 0, none⟩ = some (.int .i64 (bn : Int)) := hF.cell 0
      have z1 : W9.cell? ⟨w.heap.size, 1, none⟩ = some (.int .i64 (bn : Int)) := hF.cell 1
      have y0 := HZ.out.cell 0
      have y1 := HZ.out.cell 1
      have k0 := HZ.out.free 0
      have k1 := HZ.out.free 1
      clear hF HZ
      go_wp2_with fail
      rw [← hW9]
      refine bodyPost_ret (v := spv ((bn : Int), (bn : Int))) (by simp [results, Tryz.results36, go_sem, z0, z1]) rfl ?_
      exact ⟨by rw [hd]; rfl, HB9.out⟩
  · go_wp2_with fail
    obtain ⟨M, hM⟩ : ∃ M, M = L.length - i := ⟨_, rfl⟩
    rw [← hM]
    have hML : M + i = L.length := by omega
    have hM3 : M ≤ 100000 := by omega
    have HM := Lib.hid hM
    clear hM
    go_loopw [7, 8, 40] (fun s e n wr => ∃ k : Nat, k ≤ M ∧ n = .int .i64 k ∧ s = .int .i64 (minS bn ((L.drop i).take k)) ∧ e = .int .i64 (0) ∧ Hid (Blk wr w.heap.size 68 #[Value.int IntKind.i64 0, Value.int IntKind.i64 0]) ∧ Hid (Below W0.heap.size W0 wr) ∧ Hid (Below w.heap.size w wr)) (fun _ _ n _ => M - (intOf n).toNat)
    case atStart => exact ⟨0, Nat.zero_le _, rfl, by rw [List.take_zero]; rfl, rfl, HZ, Below.refl _ _, HB⟩
    case round =>
      clear HB HZ
      obtain ⟨k, hk, rfl, rfl, rfl, HZ, HBW, HB⟩ := hrel
      by_cases hkl : k < M
      · obtain ⟨gl, cap, hv, _⟩ := own_form HV.out (by omega)
        injection hv with hA h0 h1
        subst hA h1
        clear h0
        have hnk : i + k < L.length := by omega
        obtain ⟨x, hx⟩ : ∃ x, x = L[i + k] := ⟨_, rfl⟩
        obtain ⟨p0, p1, p2⟩ := items_get L (i + k) hnk
        rw [← hx] at p0 p1 p2
        have q0 := cell_later HBW.out (own_cell HV.out _ _ p0)
        have q1 := cell_later HBW.out (own_cell HV.out _ _ p1)
        have q2 := cell_later HBW.out (own_cell HV.out _ _ p2)
        rw [Nat.add_mul] at q0 q1 q2
        have hdk : (L.drop i)[k]'(by rw [List.length_drop]; omega) = x := by rw [List.getElem_drop, hx]
        have htk : (L.drop i).take (k + 1) = (L.drop i).take k ++ [x] := by rw [List.take_succ_eq_append_getElem (by rw [List.length_drop]; omega), hdk]
        have hba := alloc_below wr (Obj.cells #[.int .i64 x.r, .int .i64 x.s, .int .i64 x.e] 25)
        have HB2 := Lib.hid (HB.out.trans (hba.mono HB.out.size))
        have HBW2 := Lib.hid (HBW.out.trans (hba.mono HBW.out.size))
        have HZ2 := Lib.hid (HZ.out.below hba)
        have HWI := Lib.hid (show IntKind.i64.wrap ((i : Int) + (k : Int)) = ((i + k : Nat) : Int) from by rw [IntKind.wrap_i64]; omega)
        clear p0 p1 p2 hx hba HB HBW HZ hdk
        have e1 : decide (((i + k : Nat) : Int) < (j : Int)) = false := by rw [decide_eq_false_iff_not]; have := HIJ.out; omega
        have e2 : decide (i + k < j) = false := by rw [decide_eq_false_iff_not]; have := HIJ.out; omega
        have e3 : decide ((i : Int) + (k : Int) < (j : Int)) = false := by rw [decide_eq_false_iff_not]; have := HIJ.out; omega
        have HS1 := Lib.hid (show minS bn ((L.drop i).take (k + 1)) = min (minS bn ((L.drop i).take k)) x.s by rw [htk, minS_snoc])
        generalize minS bn ((L.drop i).take k) = a at *
        obtain ⟨a', ha'⟩ : ∃ y : Int, y = min a x.s := ⟨_, rfl⟩
        rw [← ha'] at HS1
        have m1 : min a x.s = a' := ha'.symm
        have m2 : (if x.s < a then x.s else a) = a' := by split <;> omega
        have m3 : (if a ≤ x.s then a else x.s) = a' := by split <;> omega
        clear ha' htk hnk hML
        have wi := HWI.out
        go_wp2_with fail
        clear wi
        go_roundw
        case rel => exact ⟨k + 1, by omega, by go_num, by rw [HS1.out], rfl, HZ2, HBW2, HB2⟩
        case measure => simp [intOf]; omega
      · have hke : k = M := by omega
        subst hke
        have hkm : (L.drop i).take k = L.drop i := List.take_of_length_le (by rw [List.length_drop]; omega)
        rw [hkm]
        obtain ⟨a, ha⟩ : ∃ a : Int, a = minS bn (L.drop i) := ⟨_, rfl⟩
        rw [← ha]
        have HA9 := Lib.hid ha
        clear hkm ha
        obtain ⟨W9, hW9⟩ : ∃ W, W = (wr.setCell ⟨w.heap.size, 0, none⟩ (.int .i64 a)).setCell ⟨w.heap.size, 1, none⟩ (.int .i64 a) := ⟨_, rfl⟩
        have hF : Blk W9 w.heap.size 68 #[.int .i64 a, .int .i64 a] := hW9 ▸ (HZ.out.set 0 _).set 1 _
        have HB9 := Lib.hid (show Below w.heap.size w W9 from hW9 ▸ (HB.out.setCell (p := ⟨w.heap.size, 0, none⟩) (Nat.le_refl _) (.int .i64 a)).setCell (p := ⟨w.heap.size, 1, none⟩) (Nat.le_refl _) (.int .i64 a))
        have z0 : W9.cell? ⟨w.heap.size, 0, none⟩ = some (.int .i64 a) := hF.cell 0
        have z1 : W9.cell? ⟨w.heap.size, 1, none⟩ = some (.int .i64 a) := hF.cell 1
        have y0 := HZ.out.cell 0
        have y1 := HZ.out.cell 1
        have k0 := HZ.out.free 0
        have k1 := HZ.out.free 1
        clear hF HZ
        go_wp2_with fail
        rw [← hW9]
        refine bodyPost_ret (v := spv (a, a)) (by simp [results, Tryz.results36, go_sem, z0, z1]) rfl ?_
        exact ⟨by rw [HA9.out], HB9.out⟩
set_option maxRecDepth 100000 in
set_option maxHeartbeats 1600000 in
theorem rspan_part (h : RTextAt w B q bs L) (hl : L.length ≤ 100000) (hbl : bs.length ≤ 100000) (i j : Nat) (hij : i < j) (hj : j ≤ L.length) : Calls Tryz.prog 36 #[.pointer (some ⟨q, 0, none⟩), .int .i64 i, .int .i64 j] w fun e w' => e = .returned (spv (spanL bs.length L i j)) ∧ Below w.heap.size w w' := by
  have hba := alloc_below w (Obj.cells #[Value.int IntKind.i64 0, Value.int IntKind.i64 0] 68)
  have hsp : spanL bs.length L i j = (minS bs.length ((L.drop i).take (j - i)), maxE 0 ((L.drop i).take (j - i))) := by
    unfold spanL
    rw [if_neg (by omega), if_neg (by omega), ← List.drop_take]
    rfl
  rw [hsp]
  obtain ⟨_, _, vb, vl, h2, h3, h4⟩ := h
  obtain ⟨Al, cl, rfl⟩ := own_slice h4
  obtain ⟨Ab, cb, rfl⟩ := own_slice h3
  have hcl : L.length ≤ cl := by
    rcases h4.2 with ⟨h, hz⟩ | ⟨g, cap, cur, h, _, _, hc, _⟩
    · omega
    · injection h with _ _ h
      omega
  obtain ⟨W0, hW0⟩ : ∃ W, W = w.alloc (Obj.cells #[Value.int IntKind.i64 0, Value.int IntKind.i64 0] 68) := ⟨_, rfl⟩
  have HZ := Lib.hid (show Blk W0 w.heap.size 68 #[Value.int IntKind.i64 0, Value.int IntKind.i64 0] from hW0 ▸ row_new _ _)
  rw [← hW0] at hba
  have c0 := (h2.below hba).cell 0
  have c1 := (h2.below hba).cell 1
  have HV := Lib.hid (show ItemsAt W0 B (.slice Al L.length cl) L from own_below h4 hba)
  have HB := Lib.hid hba
  have d1 : decide ((i : Int) < 0) = false := by rw [decide_eq_false_iff_not]; omega
  have d2 : decide ((j : Int) < (i : Int)) = false := by rw [decide_eq_false_iff_not]; omega
  have d2' : decide (j < i) = false := by rw [decide_eq_false_iff_not]; omega
  have d3 : decide ((j : Int) > (L.length : Int)) = false := by rw [decide_eq_false_iff_not]; omega
  have d3' : decide (L.length < j) = false := by rw [decide_eq_false_iff_not]; omega
  have d3'' : decide (j > L.length) = false := by rw [decide_eq_false_iff_not]; omega
  have d4 : ((i : Int) == (j : Int)) = false := by rw [beq_eq_false_iff_ne]; omega
  have d4' : (i == j) = false := by rw [beq_eq_false_iff_ne]; omega
  obtain ⟨bn, hbn⟩ : ∃ n, n = bs.length := ⟨_, rfl⟩
  rw [← hbn] at c0 hbl ⊢
  clear h2 h3 h4 hsp hba hbn
  have hic : i ≤ cl := by omega
  have hil : i ≤ L.length := by omega
  have hjl : j ≤ L.length := by omega
  go_enter Tryz.func36, Tryz.ntmps36
  go_upto_region 1 with fail
  rw [← hW0]
  clear hW0
  by_cases hcn : cl = i
  · exfalso
    omega
  · go_wp2_with fail
    obtain ⟨M, hM⟩ : ∃ M, M = L.length - i := ⟨_, rfl⟩
    rw [← hM]
    have hML : M + i = L.length := by omega
    have hM3 : M ≤ 100000 := by omega
    have HM := Lib.hid hM
    clear hM
    go_loopw [7, 8, 40] (fun s e n wr => ∃ k : Nat, k ≤ M ∧ n = .int .i64 k ∧ s = .int .i64 (minS bn ((L.drop i).take (min k (j - i)))) ∧ e = .int .i64 (maxE 0 ((L.drop i).take (min k (j - i)))) ∧ Hid (Blk wr w.heap.size 68 #[Value.int IntKind.i64 0, Value.int IntKind.i64 0]) ∧ Hid (Below W0.heap.size W0 wr) ∧ Hid (Below w.heap.size w wr)) (fun _ _ n _ => M - (intOf n).toNat)
    case atStart => exact ⟨0, Nat.zero_le _, rfl, by rw [Nat.zero_min, List.take_zero]; rfl, by rw [Nat.zero_min, List.take_zero]; rfl, HZ, Below.refl _ _, HB⟩
    case round =>
      clear HB HZ
      obtain ⟨k, hk, rfl, rfl, rfl, HZ, HBW, HB⟩ := hrel
      by_cases hkl : k < M
      · obtain ⟨gl, cap, hv, _⟩ := own_form HV.out (by omega)
        injection hv with hA h0 h1
        subst hA h1
        clear h0
        have hnk : i + k < L.length := by omega
        obtain ⟨x, hx⟩ : ∃ x, x = L[i + k] := ⟨_, rfl⟩
        obtain ⟨p0, p1, p2⟩ := items_get L (i + k) hnk
        rw [← hx] at p0 p1 p2
        have q0 := cell_later HBW.out (own_cell HV.out _ _ p0)
        have q1 := cell_later HBW.out (own_cell HV.out _ _ p1)
        have q2 := cell_later HBW.out (own_cell HV.out _ _ p2)
        rw [Nat.add_mul] at q0 q1 q2
        have hdk : (L.drop i)[k]'(by rw [List.length_drop]; omega) = x := by rw [List.getElem_drop, hx]
        have htk : (L.drop i).take (k + 1) = (L.drop i).take k ++ [x] := by rw [List.take_succ_eq_append_getElem (by rw [List.length_drop]; omega), hdk]
        have hba := alloc_below wr (Obj.cells #[.int .i64 x.r, .int .i64 x.s, .int .i64 x.e] 25)
        have HB2 := Lib.hid (HB.out.trans (hba.mono HB.out.size))
        have HBW2 := Lib.hid (HBW.out.trans (hba.mono HBW.out.size))
        have HZ2 := Lib.hid (HZ.out.below hba)
        have HWI := Lib.hid (show IntKind.i64.wrap ((i : Int) + (k : Int)) = ((i + k : Nat) : Int) from by rw [IntKind.wrap_i64]; omega)
        clear p0 p1 p2 hx hba HB HBW HZ hdk
        by_cases hlt : i + k < j
        · have e1 : decide (((i + k : Nat) : Int) < (j : Int)) = true := by rw [decide_eq_true_eq]; omega
          have e2 : decide (i + k < j) = true := decide_eq_true hlt
          have e3 : decide ((i : Int) + (k : Int) < (j : Int)) = true := by rw [decide_eq_true_eq]; omega
          rw [show min k (j - i) = k by omega]
          have HS1 := Lib.hid (show minS bn ((L.drop i).take (min (k + 1) (j - i))) = min (minS bn ((L.drop i).take k)) x.s by rw [show min (k + 1) (j - i) = k + 1 by omega, htk, minS_snoc])
          have HE1 := Lib.hid (show maxE 0 ((L.drop i).take (min (k + 1) (j - i))) = max (maxE 0 ((L.drop i).take k)) x.e by rw [show min (k + 1) (j - i) = k + 1 by omega, htk, maxE_snoc])
          generalize minS bn ((L.drop i).take k) = a at *
          generalize maxE 0 ((L.drop i).take k) = b at *
          obtain ⟨a', ha'⟩ : ∃ y : Int, y = min a x.s := ⟨_, rfl⟩
          obtain ⟨b', hb'⟩ : ∃ y : Int, y = max b x.e := ⟨_, rfl⟩
          rw [← ha'] at HS1
          rw [← hb'] at HE1
          have m1 : min a x.s = a' := ha'.symm
          have m2 : (if x.s < a then x.s else a) = a' := by split <;> omega
          have m3 : (if a ≤ x.s then a else x.s) = a' := by split <;> omega
          have n1 : max b x.e = b' := hb'.symm
          have n2 : (if x.e < b then b else x.e) = b' := by split <;> omega
          have n3 : (if b ≤ x.e then x.e else b) = b' := by split <;> omega
          have n4 : (if b < x.e then x.e else b) = b' := by split <;> omega
          clear ha' hb' htk hnk hlt hML
          have wi := HWI.out
          go_wp2_with fail
          clear wi
          go_roundw
          case rel => exact ⟨k + 1, by omega, by go_num, by rw [HS1.out], by rw [HE1.out], HZ2, HBW2, HB2⟩
          case measure => simp [intOf]; omega
        · have e1 : decide (((i + k : Nat) : Int) < (j : Int)) = false := by rw [decide_eq_false_iff_not]; omega
          have e2 : decide (i + k < j) = false := decide_eq_false hlt
          have e3 : decide ((i : Int) + (k : Int) < (j : Int)) = false := by rw [decide_eq_false_iff_not]; omega
          have HS1 := Lib.hid (show minS bn ((L.drop i).take (min (k + 1) (j - i))) = minS bn ((L.drop i).take (min k (j - i))) by rw [show min (k + 1) (j - i) = min k (j - i) by omega])
          have HE1 := Lib.hid (show maxE 0 ((L.drop i).take (min (k + 1) (j - i))) = maxE 0 ((L.drop i).take (min k (j - i))) by rw [show min (k + 1) (j - i) = min k (j - i) by omega])
          generalize minS bn ((L.drop i).take (min k (j - i))) = a at *
          generalize maxE 0 ((L.drop i).take (min k (j - i))) = b at *
          clear htk hnk hlt hML
          have wi := HWI.out
          go_wp2_with fail
          clear wi
          go_roundw
          case rel => exact ⟨k + 1, by omega, by go_num, by rw [HS1.out], by rw [HE1.out], HZ2, HBW2, HB2⟩
          case measure => simp [intOf]; omega
      · have hke : k = M := by omega
        subst hke
        have hkm : min k (j - i) = j - i := by omega
        rw [hkm]
        obtain ⟨a, ha⟩ : ∃ a : Int, a = minS bn ((L.drop i).take (j - i)) := ⟨_, rfl⟩
        obtain ⟨b, hb⟩ : ∃ b : Int, b = maxE 0 ((L.drop i).take (j - i)) := ⟨_, rfl⟩
        rw [← ha, ← hb]
        have HA9 := Lib.hid ha
        have HB8 := Lib.hid hb
        clear hkm ha hb
        obtain ⟨W9, hW9⟩ : ∃ W, W = (wr.setCell ⟨w.heap.size, 0, none⟩ (.int .i64 a)).setCell ⟨w.heap.size, 1, none⟩ (.int .i64 b) := ⟨_, rfl⟩
        have hF : Blk W9 w.heap.size 68 #[.int .i64 a, .int .i64 b] := hW9 ▸ (HZ.out.set 0 _).set 1 _
        have HB9 := Lib.hid (show Below w.heap.size w W9 from hW9 ▸ (HB.out.setCell (p := ⟨w.heap.size, 0, none⟩) (Nat.le_refl _) (.int .i64 a)).setCell (p := ⟨w.heap.size, 1, none⟩) (Nat.le_refl _) (.int .i64 b))
        have z0 : W9.cell? ⟨w.heap.size, 0, none⟩ = some (.int .i64 a) := hF.cell 0
        have z1 : W9.cell? ⟨w.heap.size, 1, none⟩ = some (.int .i64 b) := hF.cell 1
        have y0 := HZ.out.cell 0
        have y1 := HZ.out.cell 1
        have k0 := HZ.out.free 0
        have k1 := HZ.out.free 1
        clear hF HZ
        go_wp2_with fail
        rw [← hW9]
        refine bodyPost_ret (v := spv (a, b)) (by simp [results, Tryz.results36, go_sem, z0, z1]) rfl ?_
        exact ⟨by rw [HA9.out, HB8.out], HB9.out⟩
theorem rspan_walk (h : RTextAt w B q bs L) (hl : L.length ≤ 100000) (hbl : bs.length ≤ 100000) (f t : Int) : Calls Tryz.prog 36 #[.pointer (some ⟨q, 0, none⟩), .int .i64 f, .int .i64 t] w fun e w' => e = .returned (spv (spanL bs.length L f t)) ∧ Below w.heap.size w w' := by
  by_cases hbad : f < 0 ∨ t < f ∨ (L.length : Int) < t
  · exact rspan_bad h hl f t hbad
  · obtain ⟨i, rfl⟩ := Int.eq_ofNat_of_zero_le (show 0 ≤ f by omega)
    obtain ⟨j, rfl⟩ := Int.eq_ofNat_of_zero_le (show 0 ≤ t by omega)
    by_cases e : i = j
    · exact rspan_none h hl hbl i j e (by omega)
    · exact rspan_part h hl hbl i j (by omega) (by omega)
end
end Go.Proofs.YthoegenipbohmaaGreatDoor
