/- slices.Equal of two slices of the same ranges. -/
import Derived.Test.YtchkckfadennhaaGreatDoorSetW
namespace Go.Proofs.YtchkckfadennhaaGreatDoor
open Go.RowKit Go.Maps
set_option linter.unusedVariables false
set_option linter.unusedSimpArgs false

set_option maxRecDepth 100000 in
theorem equalR_walk {w : World} {ba bb : Nat} {va vb : Value} {L : List Rg} (ha : RgsAt w ba va L) (hb : RgsAt w bb vb L) (hl : L.length ≤ 2000000) :
    Calls Tryz.prog 14 #[va, vb] w fun e w' => e = .returned (.bool true) ∧ Below w.heap.size w w' := by
  have HA := Lib.hid ha
  have HB := Lib.hid hb
  obtain ⟨A1, c1, rfl⟩ := own_slice ha
  obtain ⟨A2, c2, rfl⟩ := own_slice hb
  have e0 : ((L.length : Int) != (L.length : Int)) = false := by simp
  clear ha hb
  go_enter Tryz.func14, Tryz.ntmps14
  go_wp2_with fail
  go_loopw [13] (fun i wr => ∃ k : Nat, k ≤ L.length ∧ i = .int .i64 k ∧ Hid (Below w.heap.size w wr)) (fun i _ => L.length - (intOf i).toNat)
  case atStart => exact ⟨0, by omega, rfl, Below.refl _ _⟩
  case round =>
    obtain ⟨k, hk, rfl, HBr⟩ := hrel
    by_cases hlt : k < L.length
    · obtain ⟨g1, cap1, e1, _, hg1, _, _⟩ := own_form HA.out (by omega)
      cases e1
      obtain ⟨g2, cap2, e2, _, hg2, _, _⟩ := own_form HB.out (by omega)
      cases e2
      obtain ⟨q0, q1⟩ := rgs_get L k hlt
      have a0 := cell_later HBr.out (own_cell HA.out _ _ q0)
      have a1 := cell_later HBr.out (own_cell HA.out _ _ q1)
      have b0 := cell_later HBr.out (own_cell HB.out _ _ q0)
      have b1 := cell_later HBr.out (own_cell HB.out _ _ q1)
      generalize L[k] = x at *
      have x0 : (x.lo == x.lo) = true := beq_self_eq_true _
      have x1 : (x.hi == x.hi) = true := beq_self_eq_true _
      clear q0 q1
      go_wp2_with fail
      go_quiet (fail)
      simp only [Exit.then]
      have hbd := below_drewN wr nq
      have HB2 := Lib.hid (HBr.out.trans (hbd.mono HBr.out.size))
      clear hbd
      go_wp2_with fail
      refine ⟨⟨k + 1, by omega, by go_num, HB2⟩, ?_⟩
      simp [intOf]
      omega
    · obtain rfl : k = L.length := by omega
      go_wp2_with fail
      go_ret
      exact ⟨rfl, HBr.out⟩
end Go.Proofs.YtchkckfadennhaaGreatDoor
