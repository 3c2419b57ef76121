/- rubricatorlaw11.WordEdges answers true. Printed by wip/tools/mklaws.py. -/
import Derived.Test.YtkgomgfhfoomhaaGreatDoorRefX
import Derived.Test.YtkgomgfhfoomhaaGreatDoorOpenW
import Derived.Test.YtkgomgfhfoomhaaGreatDoorWrdAw
namespace Go.Proofs.YtkgomgfhfoomhaaGreatDoor
open Go.RowKit
set_option linter.unusedVariables false
set_option linter.unusedSimpArgs false
set_option maxRecDepth 100000 in
set_option maxHeartbeats 3200000 in
theorem wordEdges_walk {v0 : Value} {zs0 : List Int} (w : World) (hl0 : ListV w v0 zs0) (hE : Env w) (hT : EnvT w) : Calls Tryz.prog 7 #[v0] w fun e w' => e = .returned (.bool true) ∧ Below w.heap.size w w' := by
  have HLD := Lib.hid (load_calls w hE hT)
  have HRL := Lib.hid (fun W => ref_load W)
  have HA := Lib.hid (fun (W : World) (hb : Below w.heap.size w W) => awake11_walk W (hE.below hb) (hT.below hb))
  have HEd := Lib.hid (fun (W : World) (m : Nat) (zs : List Int) (v : Value) (ht : TabAt W m files) (hl : ListAt W v zs) (p : Int) (hp : (Lit.int .i64 p).wf = true) => wedgef_walk ht hl p hp)
  have HRe := Lib.hid (fun (W : World) (B b : Nat) (zs : List Int) (v : Value) (hr : RefAt W B b files) (hl : ListAt W v zs) (p : Int) (hp : (Lit.int .i64 p).wf = true) => edge11_walk hr files_ok hl p hp)
  generalize files = Φ at *
  clear hE hT
  obtain ⟨A, c, rfl, hac, han, _⟩ := hl0.form
  obtain ⟨k, hk1, hk2⟩ : ∃ k : Nat, (if 60 < (zs0.length : Int) then 60 else (zs0.length : Int)) = k ∧ (k ≤ 60 ∧ k ≤ zs0.length) := by
    by_cases h : 60 < (zs0.length : Int)
    · exact ⟨60, by rw [if_pos h]; rfl, by omega⟩
    · exact ⟨zs0.length, by rw [if_neg h], by omega⟩
  have m2 : min (zs0.length : Int) 60 = k := by rw [← hk1]; split <;> omega
  have m3 : (if (zs0.length : Int) ≤ 60 then (zs0.length : Int) else 60) = k := by rw [← hk1]; split <;> split <;> omega
  have HAL := Lib.hid (hl0.cut hk2.2)
  obtain ⟨zs, hzs, hzl⟩ : ∃ zs : List Int, zs = zs0.take k ∧ zs.length = k := ⟨_, rfl, by rw [List.length_take]; omega⟩
  rw [← hzs] at HAL
  clear hl0 hzs
  subst hzl
  have hk60 := hk2.1
  go_enter Tryz.func7, Tryz.ntmps7
  go_wp2_with fail
  refine HLD.out.mono ?_
  rintro e w1 ⟨rfl, ht, hb1⟩
  have HT1 := Lib.hid ht
  have HB1 := Lib.hid hb1
  have HL1 := Lib.hid (HAL.out.below hb1)
  clear ht hb1 HLD HAL hk1 hk2 m2 m3
  go_wp2_with fail
  refine (HRL.out _).mono ?_
  rintro e w2 ⟨b, rfl, hr, hb2⟩
  generalize w1.heap.size = B at hr
  have HR2 := Lib.hid hr
  have HT2 := Lib.hid (HT1.out.below hb2)
  have HL2 := Lib.hid (HL1.out.below hb2)
  have HB2 := Lib.hid (HB1.out.trans (hb2.mono HB1.out.size))
  clear hr hb2 HRL HT1 HL1 HB1
  go_wp2_with fail
  refine (clonev_walk HL2.out (by omega)).mono ?_
  rintro e w3 ⟨v3, rfl, hv3, hb3⟩
  have HG3 := Lib.hid (ListAt.of_own hv3)
  obtain ⟨A3, c3, rfl⟩ := own_slice hv3
  have HR3 := Lib.hid (HR2.out.below hb3)
  have HT3 := Lib.hid (HT2.out.below hb3)
  have HL3 := Lib.hid (HL2.out.below hb3)
  have HB3 := Lib.hid (HB2.out.trans (hb3.mono HB2.out.size))
  have b0 : IntKind.i64.wrap ((zs.length : Int) + 1) = (zs.length : Int) + 1 := by rw [IntKind.wrap_i64]; omega
  have v0 : wrap64 ((zs.length : Int) + 1) = (zs.length : Int) + 1 := by unfold wrap64; omega
  clear hv3 hb3 HR2 HT2 HL2 HB2
  go_wp2_with fail
  go_loopw [6] (fun x wr => ∃ q : Int, -1 ≤ q ∧ q ≤ zs.length + 2 ∧ x = .int .i64 q ∧ Hid (Below w3.heap.size w3 wr)) (fun x _ => ((zs.length : Int) + 2 - intOf x).toNat)
  case atStart => exact ⟨-1, by omega, by omega, rfl, Below.refl _ _⟩
  case round =>
    obtain ⟨q, hq1, hq2, rfl, HB⟩ := hrel
    by_cases hle : q ≤ (zs.length : Int) + 1
    · have d0 := decide_eq_true hle
      have b1 : IntKind.i64.wrap (q + 1) = q + 1 := by rw [IntKind.wrap_i64]; omega
      have v1 : wrap64 (q + 1) = q + 1 := by unfold wrap64; omega
      have hqw : (Lit.int .i64 q).wf = true := wf_i64 (by omega) (by omega)
      go_wp2_with fail
      refine (HEd.out wr _ zs _ (HT3.out.below HB.out) (HG3.out.below HB.out) q hqw).mono ?_
      rintro e w4 ⟨rfl, hb4⟩
      have HB4 := Lib.hid (HB.out.trans (hb4.mono HB.out.size))
      clear hb4 HB
      go_wp2_with fail
      refine (HRe.out _ B b zs _ (HR3.out.below HB4.out) (HL3.out.below HB4.out).1 q hqw).mono ?_
      rintro e w5 ⟨rfl, hb5⟩
      have HB5 := Lib.hid (HB4.out.trans (hb5.mono HB4.out.size))
      clear hb5 HB4
      generalize edgeW (wOf Φ zs) zs.length q = x at *
      have hx : (x != x) = false := by simp
      go_wp2_with fail
      go_roundw
      case rel => exact ⟨q + 1, by omega, by omega, rfl, HB5⟩
      case measure => simp [intOf]; omega
    · have d0 := decide_eq_false hle
      have HBw := Lib.hid (HB3.out.trans (HB.out.mono HB3.out.size))
      go_wp2_with fail
      refine (equalv_walk (HG3.out.below HB.out) (HL3.out.below HB.out).1).mono ?_
      rintro e w4 ⟨rfl, hb4⟩
      have HB4 := Lib.hid (HBw.out.trans (hb4.mono HBw.out.size))
      clear hb4 HBw HB
      go_wp2_with fail
      refine (HA.out _ HB4.out).mono ?_
      rintro e w5 ⟨rfl, hb5⟩
      have HB5 := Lib.hid (HB4.out.trans (hb5.mono HB4.out.size))
      clear hb5
      go_wp2_with fail
      go_ret
      exact ⟨rfl, HB5.out⟩
end Go.Proofs.YtkgomgfhfoomhaaGreatDoor
