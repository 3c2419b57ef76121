/- rubricatorlaw08.NormOrders answers true. Printed by wip/tools/mknlaw.py. -/
import Derived.Test.YtpmbebofinlmmaaGreatDoorNormR
import Derived.Test.YtpmbebofinlmmaaGreatDoorRow
import Derived.Test.YtpmbebofinlmmaaGreatDoorRow2
namespace Go.Proofs.YtpmbebofinlmmaaGreatDoor
open Go.RowKit Go.Sort Stb
set_option linter.unusedVariables false
set_option linter.unusedSimpArgs false
set_option maxRecDepth 100000 in
set_option maxHeartbeats 3200000 in
theorem normOrders_walk {v0 : Value} {zs0 : List Int} (w : World) (hl0 : ListW w v0 zs0) (hE : Env w) (hT : EnvT w) (hH : Hang w) : Calls Tryz.prog 10 #[v0] w fun e w' => e = .returned (.bool true) ∧ Below w.heap.size w w' := by
  have HLD := Lib.hid (fun (W : World) (hb : Below w.heap.size w W) => load_calls W (hE.below hb) (hT.below hb))
  have HA := Lib.hid (fun (W : World) (hb : Below w.heap.size w W) => awake08_walk W (hE.below hb) (hT.below hb) (hH.below hb))
  have HN := Lib.hid (fun (W : World) (m : Nat) (ht : TabAt W m files) (hb : Below w.heap.size w W) => nmd_files ht (hH.below hb))
  generalize files = Φ at *
  clear hE hT hH
  obtain ⟨A, c, rfl, hac, han, hA⟩ := hl0.1.form
  obtain ⟨k, hk1, hk2⟩ : ∃ k : Nat, (if 200 < (zs0.length : Int) then 200 else (zs0.length : Int)) = k ∧ (k ≤ 200 ∧ k ≤ zs0.length) := by
    by_cases h : 200 < (zs0.length : Int)
    · exact ⟨200, by rw [if_pos h]; rfl, by omega⟩
    · exact ⟨zs0.length, by rw [if_neg h], by omega⟩
  have m2 : min (zs0.length : Int) 200 = k := by rw [← hk1]; split <;> omega
  have m3 : (if (zs0.length : Int) ≤ 200 then (zs0.length : Int) else 200) = k := by rw [← hk1]; split <;> split <;> omega
  have HAL := Lib.hid (hl0.1.cut hk2.2)
  have Hwf := Lib.hid (show ∀ z ∈ zs0.take k, (Lit.int .i64 z).wf = true from fun z hz => hl0.2 z (List.mem_of_mem_take hz))
  obtain ⟨zs, hzs, hzl⟩ : ∃ zs : List Int, zs = zs0.take k ∧ zs.length = k := ⟨_, rfl, by rw [List.length_take]; omega⟩
  rw [← hzs] at HAL Hwf
  have hk200 := hk2.1
  have hk0 := hk2.2
  clear hl0 hzs hA hk2
  subst hzl
  go_enter Tryz.func10, Tryz.ntmps10
  go_wp2_with fail
  refine (HLD.out _ (Below.refl _ _)).mono ?_
  rintro e w1 ⟨rfl, ht, hb1⟩
  have HN1 := Lib.hid (HN.out _ _ ht hb1)
  have HB1 := Lib.hid hb1
  have HL1 := Lib.hid (HAL.out.below hb1)
  generalize w.heap.size = mm at ht HN1
  clear ht hb1 HLD HAL HN
  have hzw := Hwf.out
  go_wp2_with fail
  refine (runes_walk HN1.out HL1.out.1 hzw (by omega)).mono ?_
  rintro e w2 ⟨v2, rfl, hv2, hb2⟩
  have hrl := runes_len HN1.out.two zs
  have hrw := runes_wf (Φ := Φ) zs hzw
  have HRO := Lib.hid (fun i h => runes_order (Φ := Φ) zs i h)
  have hrt := runes_twice (Φ := Φ) HN1.out.ends zs
  generalize runesL Φ zs = rs at *
  have HN2 := Lib.hid (HN1.out.below hb2)
  have HB2 := Lib.hid (HB1.out.trans (hb2.mono HB1.out.size))
  obtain ⟨A2, c2, rfl⟩ := own_slice hv2
  have HV2 := Lib.hid hv2
  have HRT := Lib.hid hrt
  have HRW := Lib.hid hrw
  clear hv2 hb2 HB1 HN1 HL1 hrt hrw
  have HCb := Lib.hid (fun W (hW : Below w2.heap.size w2 W) r => HN2.out.comb W hW r)
  have HCr := Lib.hid (fun r => comb_range HN2.out.num r)
  clear HN2
  go_wp2_with fail
  go_loopw [4, 18] (fun vl i wr => ∃ (q : Nat) (last : Int), q ≤ rs.length ∧ i = .int .i64 q ∧ vl = .int .i64 last ∧ Hid ((q = 0 ∧ last = 0) ∨ (0 < q ∧ last = combOf Φ (rs.getD (q - 1) 0))) ∧ Hid (Below w2.heap.size w2 wr)) (fun _ i _ => rs.length - (intOf i).toNat)
  case atStart => exact ⟨0, 0, by omega, rfl, rfl, .inl ⟨rfl, rfl⟩, Below.refl _ _⟩
  case round =>
    obtain ⟨q, last, hq, rfl, rfl, HLa, HB⟩ := hrel
    by_cases hlt : q < rs.length
    · obtain ⟨g, cap, hv, _⟩ := own_form HV2.out (by omega)
      injection hv with hA hn0 hc0
      subst hA hc0
      clear hn0
      obtain ⟨r, hr⟩ : ∃ r, r = rs.getD q 0 := ⟨_, rfl⟩
      have cq := own_cell (own_below HV2.out HB.out) q _ (intz_get rs q hlt)
      rw [← hr] at cq
      have hcr := HCr.out r
      have hno : ¬ (0 < combOf Φ r ∧ combOf Φ r < last) := by
        rcases HLa.out with ⟨_, h2⟩ | ⟨h1, h2⟩
        · rw [h2]; omega
        · rw [h2, hr]
          have := HRO.out (q - 1) (by omega)
          rwa [show q - 1 + 1 = q by omega] at this
      have HCW := Lib.hid (HCb.out wr HB.out r)
      have HLb := Lib.hid (show (q + 1 = 0 ∧ combOf Φ r = 0) ∨ (0 < q + 1 ∧ combOf Φ r = combOf Φ (rs.getD (q + 1 - 1) 0)) from .inr ⟨by omega, by rw [Nat.add_sub_cancel, hr]⟩)
      clear hr HLa
      go_wp2_with fail
      refine HCW.out.mono ?_
      rintro e w3 ⟨rfl, hb3⟩
      have HB3 := Lib.hid (HB.out.trans (hb3.mono HB.out.size))
      generalize combOf Φ r = cc at *
      clear hb3 HCW HB cq
      by_cases h1 : 0 < cc
      · have d1 : decide (cc > 0) = true := by rw [decide_eq_true_eq]; exact h1
        have d2 : decide (cc < last) = false := by rw [decide_eq_false_iff_not]; omega
        clear hno h1 hcr
        go_wp2_with fail
        go_roundw
        case rel => exact ⟨q + 1, cc, by omega, by go_num, rfl, HLb, HB3⟩
        case measure => simp [intOf]; omega
      · have d1 : decide (cc > 0) = false := by rw [decide_eq_false_iff_not]; omega
        clear hno h1 hcr
        go_wp2_with fail
        go_roundw
        case rel => exact ⟨q + 1, cc, by omega, by go_num, rfl, HLb, HB3⟩
        case measure => simp [intOf]; omega
    · have hqe : q = rs.length := by omega
      have HB3 := Lib.hid (HB2.out.trans (HB.out.mono HB2.out.size))
      subst hqe
      clear HLa HB HCb
      go_wp2_with fail
      refine (HA.out _ HB3.out).mono ?_
      rintro e w6 ⟨rfl, hb6⟩
      have HB6 := Lib.hid (HB3.out.trans (hb6.mono HB3.out.size))
      clear hb6 HA HB3
      go_wp2_with fail
      go_ret
      exact ⟨rfl, HB6.out⟩
end Go.Proofs.YtpmbebofinlmmaaGreatDoor
