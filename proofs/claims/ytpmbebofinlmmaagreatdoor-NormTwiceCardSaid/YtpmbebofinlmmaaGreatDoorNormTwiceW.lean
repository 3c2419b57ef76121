/- rubricatorlaw08.NormTwice answers true. Printed by wip/tools/mknlaw.py. -/
import Derived.Test.YtpmbebofinlmmaaGreatDoorNormR
import Derived.Test.YtpmbebofinlmmaaGreatDoorRow
import Derived.Test.YtpmbebofinlmmaaGreatDoorRow2
namespace Go.Proofs.YtpmbebofinlmmaaGreatDoor
open Go.RowKit Go.Sort Stb
set_option linter.unusedVariables false
set_option linter.unusedSimpArgs false
set_option maxRecDepth 100000 in
set_option maxHeartbeats 3200000 in
theorem normTwice_walk {v0 : Value} {zs0 : List Int} (w : World) (hl0 : ListW w v0 zs0) (hE : Env w) (hT : EnvT w) (hH : Hang w) : Calls Tryz.prog 12 #[v0] w fun e w' => e = .returned (.bool true) ∧ Below w.heap.size w w' := by
  have HLD := Lib.hid (fun (W : World) (hb : Below w.heap.size w W) => load_calls W (hE.below hb) (hT.below hb))
  have HA := Lib.hid (fun (W : World) (hb : Below w.heap.size w W) => awake08_walk W (hE.below hb) (hT.below hb) (hH.below hb))
  have HN := Lib.hid (fun (W : World) (m : Nat) (ht : TabAt W m files) (hb : Below w.heap.size w W) => nmd_files ht (hH.below hb))
  generalize files = Φ at *
  clear hE hT hH
  obtain ⟨A, c, rfl, hac, han, hA⟩ := hl0.1.form
  obtain ⟨k, hk1, hk2⟩ : ∃ k : Nat, (if 200 < (zs0.length : Int) then 200 else (zs0.length : Int)) = k ∧ (k ≤ 200 ∧ k ≤ zs0.length) := by
    by_cases h : 200 < (zs0.length : Int)
    · exact ⟨200, by rw [if_pos h]; rfl, by omega⟩
    · exact ⟨zs0.length, by rw [if_neg h], by omega⟩
  have m2 : min (zs0.length : Int) 200 = k := by rw [← hk1]; split <;> omega
  have m3 : (if (zs0.length : Int) ≤ 200 then (zs0.length : Int) else 200) = k := by rw [← hk1]; split <;> split <;> omega
  have HAL := Lib.hid (hl0.1.cut hk2.2)
  have Hwf := Lib.hid (show ∀ z ∈ zs0.take k, (Lit.int .i64 z).wf = true from fun z hz => hl0.2 z (List.mem_of_mem_take hz))
  obtain ⟨zs, hzs, hzl⟩ : ∃ zs : List Int, zs = zs0.take k ∧ zs.length = k := ⟨_, rfl, by rw [List.length_take]; omega⟩
  rw [← hzs] at HAL Hwf
  have hk200 := hk2.1
  have hk0 := hk2.2
  clear hl0 hzs hA hk2
  subst hzl
  go_enter Tryz.func12, Tryz.ntmps12
  go_wp2_with fail
  refine (HLD.out _ (Below.refl _ _)).mono ?_
  rintro e w1 ⟨rfl, ht, hb1⟩
  have HN1 := Lib.hid (HN.out _ _ ht hb1)
  have HB1 := Lib.hid hb1
  have HL1 := Lib.hid (HAL.out.below hb1)
  generalize w.heap.size = mm at ht HN1
  clear ht hb1 HLD HAL HN
  have hzw := Hwf.out
  go_wp2_with fail
  refine (runes_walk HN1.out HL1.out.1 hzw (by omega)).mono ?_
  rintro e w2 ⟨v2, rfl, hv2, hb2⟩
  have hrl := runes_len HN1.out.two zs
  have hrw := runes_wf (Φ := Φ) zs hzw
  have HRO := Lib.hid (fun i h => runes_order (Φ := Φ) zs i h)
  have hrt := runes_twice (Φ := Φ) HN1.out.ends zs
  generalize runesL Φ zs = rs at *
  have HN2 := Lib.hid (HN1.out.below hb2)
  have HB2 := Lib.hid (HB1.out.trans (hb2.mono HB1.out.size))
  obtain ⟨A2, c2, rfl⟩ := own_slice hv2
  have HV2 := Lib.hid hv2
  have HRT := Lib.hid hrt
  have HRW := Lib.hid hrw
  clear hv2 hb2 HB1 HN1 HL1 hrt hrw
  go_wp2_with fail
  refine (runes_walk HN2.out (ListAt.of_own HV2.out) HRW.out (by omega)).mono ?_
  rintro e w3 ⟨v3, rfl, hv3, hb3⟩
  rw [HRT.out] at hv3
  obtain ⟨A3, c3, rfl⟩ := own_slice hv3
  have HN3 := Lib.hid (HN2.out.below hb3)
  have HV3 := Lib.hid (show IntsAt w3 _ (.slice A2 rs.length c2) rs from own_below HV2.out hb3)
  have HE := Lib.hid (equalv_walk (ListAt.of_own hv3) (ListAt.of_own HV3.out))
  have HB3 := Lib.hid (HB2.out.trans (hb3.mono HB2.out.size))
  clear hv3 hb3 HN2 HV2 HB2
  go_wp2_with fail
  refine HE.out.mono ?_
  rintro e w4 ⟨rfl, hb4⟩
  have HIs := Lib.hid (is_walk (HN3.out.below hb4) (ListAt.of_own (show IntsAt w4 _ (.slice A2 rs.length c2) rs from own_below HV3.out hb4)) HRW.out (by omega) HRT.out)
  have HB4 := Lib.hid (HB3.out.trans (hb4.mono HB3.out.size))
  clear hb4 HN3 HV3 HE HB3
  go_wp2_with fail
  refine HIs.out.mono ?_
  rintro e w5 ⟨rfl, hb5⟩
  have HB5 := Lib.hid (HB4.out.trans (hb5.mono HB4.out.size))
  have d1 : decide (((rs.length : Nat) : Int) ≥ ((zs.length : Nat) : Int)) = true := by rw [decide_eq_true_eq]; omega
  have hge : zs.length ≤ rs.length := hrl.2
  clear hb5 HIs HB4 hrl
  go_wp2_with fail
  refine (HA.out _ HB5.out).mono ?_
  rintro e w6 ⟨rfl, hb6⟩
  have HB6 := Lib.hid (HB5.out.trans (hb6.mono HB5.out.size))
  clear hb6 HA HB5
  go_wp2_with fail
  go_ret
  exact ⟨rfl, HB6.out⟩
end Go.Proofs.YtpmbebofinlmmaaGreatDoor
