/- rubricatorref03.Has. -/
import Derived.Test.YtchkckfadennhaaGreatDoorClo
namespace Go.Proofs.YtchkckfadennhaaGreatDoor
open Go.RowKit
set_option linter.unusedVariables false
set_option linter.unusedSimpArgs false

set_option maxRecDepth 100000 in
theorem has3_walk (w : World) (v : Value) (rs : List Rg) (r : Int) (hl : RListAt w v rs) : Calls Tryz.prog 9 #[v, .int .i64 r] w fun e w' => e = .returned (.bool (hasB rs r)) ∧ Below w.heap.size w w' := by
  obtain ⟨A, c, rfl, hn, hz⟩ := hl
  have HZ := Lib.hid hz
  clear hz
  go_enter Tryz.func9, Tryz.ntmps9
  go_wp2_with fail
  go_loopw [9] (fun i wr => ∃ k : Nat, k ≤ rs.length ∧ i = .int .i64 k ∧ Hid (hasB rs r = hasB (rs.drop k) r) ∧ Hid (Below w.heap.size w wr)) (fun i _ => rs.length - (intOf i).toNat)
  case atStart => exact ⟨0, by omega, rfl, by show hasB rs r = hasB (rs.drop 0) r; rw [List.drop_zero], Below.refl _ _⟩
  case round =>
    obtain ⟨k, hk, rfl, HI, HB⟩ := hrel
    by_cases hlt : k < rs.length
    · obtain ⟨ad, rfl, had⟩ := HZ.out (by omega)
      obtain ⟨e0, e1⟩ := had k hlt
      have c0 := cell_later HB.out e0
      have c1 := cell_later HB.out e1
      have hd : rs.drop k = rs[k] :: rs.drop (k + 1) := List.drop_eq_getElem_cons hlt
      have HI2 := Lib.hid (show hasB rs r = (((decide (0 ≤ r) && decide (r ≤ 1114111)) && inRg r rs[k]) || hasB (rs.drop (k + 1)) r) by rw [HI.out, hd]; unfold hasB; rw [List.any_cons, Bool.and_or_distrib_left])
      obtain ⟨x, hx⟩ : ∃ x, x = rs[k] := ⟨_, rfl⟩
      rw [← hx] at c0 c1 HI2
      have c2 : wr.cell? ⟨(ad.add (k * 2)).block, (ad.add (k * 2)).off + 1, none⟩ = some (.int .i64 x.hi) := c1
      have hb2 := alloc_below wr (Obj.cells #[Value.int IntKind.i64 x.lo, Value.int IntKind.i64 x.hi] 37)
      have HB2 := Lib.hid (HB.out.trans (hb2.mono HB.out.size))
      clear hd HI e0 e1 had hx c1 hb2
      by_cases h1 : r ≥ 0
      · by_cases h2 : r ≤ 1114111
        · by_cases h3 : r ≥ x.lo
          · by_cases h4 : r ≤ x.hi
            · have Hfin := Lib.hid (show hasB rs r = true by rw [HI2.out]; unfold inRg; rw [decide_eq_true (show x.lo ≤ r from h3), decide_eq_true h4, decide_eq_true (show 0 ≤ r from h1), decide_eq_true h2]; rfl)
              have d1 := decide_eq_true h1
              have d2 := decide_eq_true h2
              have d3 := decide_eq_true h3
              have d4 := decide_eq_true h4
              clear h1 h2 h3 h4 HI2 HB
              go_wp2_with fail
              go_ret
              refine ⟨?_, HB2.out⟩
              rw [Hfin.out]
              rfl
            · have Hfin := Lib.hid (show hasB rs r = hasB (rs.drop (k + 1)) r by rw [HI2.out]; unfold inRg; rw [decide_eq_false h4]; simp)
              have d1 := decide_eq_true h1
              have d2 := decide_eq_true h2
              have d3 := decide_eq_true h3
              have d4 := decide_eq_false h4
              clear h1 h2 h3 h4 HI2 HB
              go_wp2_with fail
              go_roundw
              case rel => exact ⟨k + 1, by omega, by go_num, Hfin, HB2⟩
              case measure => simp [intOf]; omega
          · have Hfin := Lib.hid (show hasB rs r = hasB (rs.drop (k + 1)) r by rw [HI2.out]; unfold inRg; rw [decide_eq_false (show ¬ x.lo ≤ r from h3)]; simp)
            have d1 := decide_eq_true h1
            have d2 := decide_eq_true h2
            have d3 := decide_eq_false h3
            clear h1 h2 h3 HI2 HB
            go_wp2_with fail
            go_roundw
            case rel => exact ⟨k + 1, by omega, by go_num, Hfin, HB2⟩
            case measure => simp [intOf]; omega
        · have Hfin := Lib.hid (show hasB rs r = hasB (rs.drop (k + 1)) r by rw [HI2.out, decide_eq_false h2]; simp)
          have d1 := decide_eq_true h1
          have d2 := decide_eq_false h2
          clear h1 h2 HI2 HB
          go_wp2_with fail
          go_roundw
          case rel => exact ⟨k + 1, by omega, by go_num, Hfin, HB2⟩
          case measure => simp [intOf]; omega
      · have Hfin := Lib.hid (show hasB rs r = hasB (rs.drop (k + 1)) r by rw [HI2.out, decide_eq_false (show ¬ 0 ≤ r from h1)]; simp)
        have d1 := decide_eq_false h1
        clear h1 HI2 HB
        go_wp2_with fail
        go_roundw
        case rel => exact ⟨k + 1, by omega, by go_num, Hfin, HB2⟩
        case measure => simp [intOf]; omega
    · have hkl : k = rs.length := by omega
      have Hfin := Lib.hid (show hasB rs r = false by rw [HI.out, hkl, List.drop_length]; unfold hasB; simp)
      subst hkl
      clear HI
      go_wp2_with fail
      go_ret
      refine ⟨?_, HB.out⟩
      rw [Hfin.out]
      rfl
end Go.Proofs.YtchkckfadennhaaGreatDoor
