/- rubricatorlaw08.NormItems answers true. -/
import Derived.Test.YthoegenipbohmaaGreatDoorNormRunesV
import Derived.Test.YthoegenipbohmaaGreatDoorRef8M
import Derived.Test.YthoegenipbohmaaGreatDoorRowM
namespace Go.Proofs.YthoegenipbohmaaGreatDoor
open Go.RowKit Go.Sort Stb
set_option linter.unusedVariables false
set_option linter.unusedSimpArgs false
set_option maxRecDepth 100000 in
set_option maxHeartbeats 3200000 in
theorem normItems_walk {v0 : Value} {xs0 : List It} (w : World) (hl0 : ItsV w v0 xs0 ∧ ∀ x ∈ xs0, (Lit.int .i64 x.r).wf = true) (hE : Env w) (hT : EnvT w) (hH : Hang w) : Calls Tryz.prog 3 #[v0] w fun e w' => e = .returned (.bool true) ∧ Below w.heap.size w w' := by
  have HLD := Lib.hid (fun (W : World) (hb : Below w.heap.size w W) => load_calls W (hE.below hb) (hT.below hb))
  have HRL := Lib.hid (fun W => ref_load W)
  have HA := Lib.hid (fun (W : World) (hb : Below w.heap.size w W) => awake08_walk W (hE.below hb) (hT.below hb) (hH.below hb))
  have HN := Lib.hid (fun (W : World) (m : Nat) (ht : TabAt W m files) (hb : Below w.heap.size w W) => nmd_files ht (hH.below hb))
  have HI := Lib.hid (fun (W : World) (B b : Nat) (hr : RefAt W B b files) => items08_files hr)
  generalize files = Φ at *
  clear hE hT hH
  have hform := hl0.1.1
  obtain ⟨A, c, rfl, hn0, _⟩ := hform
  have hac : xs0.length ≤ c := by
    rcases hl0.1.2 with h | ⟨ad, n, c', h, hnc⟩
    · injection h with h1 h2 h3; omega
    · injection h with h1 h2 h3; omega
  have han : A = none → c = 0 := by
    rintro rfl
    rcases hl0.1.2 with h | ⟨ad, n, c', h, hnc⟩
    · injection h
    · injection h with h1; cases h1
  obtain ⟨k, hk1, hk2⟩ : ∃ k : Nat, (if 60 < (xs0.length : Int) then 60 else (xs0.length : Int)) = k ∧ (k ≤ 60 ∧ k ≤ xs0.length) := by
    by_cases h : 60 < (xs0.length : Int)
    · exact ⟨60, by rw [if_pos h]; rfl, by omega⟩
    · exact ⟨xs0.length, by rw [if_neg h], by omega⟩
  have m2 : min (xs0.length : Int) 60 = k := by rw [← hk1]; split <;> omega
  have m3 : (if (xs0.length : Int) ≤ 60 then (xs0.length : Int) else 60) = k := by rw [← hk1]; split <;> split <;> omega
  have HAL := Lib.hid (hl0.1.cut hk2.2)
  have Hwf := Lib.hid (show ∀ x ∈ xs0.take k, (Lit.int .i64 x.r).wf = true from fun z hz => hl0.2 z (List.mem_of_mem_take hz))
  obtain ⟨xs, hxs, hxl⟩ : ∃ xs : List It, xs = xs0.take k ∧ xs.length = k := ⟨_, rfl, by rw [List.length_take]; omega⟩
  rw [← hxs] at HAL Hwf
  have hk200 := hk2.1
  have hk0 := hk2.2
  clear hl0 hxs hk2
  subst hxl
  go_enter Tryz.func3, Tryz.ntmps3
  go_wp2_with fail
  refine (clonei_walk HAL.out (by omega)).mono ?_
  rintro e w1 ⟨v1, rfl, hv1, hb1⟩
  obtain ⟨A1, c1, rfl⟩ := own_slice hv1
  generalize hB1 : w.heap.size = B1 at hv1
  have HG := Lib.hid hv1
  have HL := Lib.hid (HAL.out.below hb1)
  have HB := Lib.hid hb1
  clear hv1 hb1 HAL hB1
  go_wp2_with fail
  refine (HLD.out _ HB.out).mono ?_
  rintro e w2 ⟨rfl, ht, hb2⟩
  replace HB := Lib.hid (HB.out.trans (hb2.mono HB.out.size))
  have HN1 := Lib.hid (HN.out _ _ ht HB.out)
  generalize w1.heap.size = mm at ht HN1
  replace HG := Lib.hid (own_below HG.out hb2)
  replace HL := Lib.hid (HL.out.below hb2)
  clear ht hb2 HLD HN
  have hpl := (partsL_len HN1.out.two xs).1
  unfold partsL at hpl
  go_wp2_with fail
  refine (items_walk HN1.out.full HN1.out.comb (fun r => (comb_range HN1.out.num r).1) (ItsAt.of_own HG.out) Hwf.out (by omega) (by omega)).mono ?_
  rintro e w3 ⟨v3, rfl, hv3, hb3⟩
  obtain ⟨A3, c3, rfl⟩ := own_slice hv3
  generalize w2.heap.size = B3 at hv3
  have HV := Lib.hid hv3
  replace HG := Lib.hid (own_below HG.out hb3)
  replace HL := Lib.hid (HL.out.below hb3)
  replace HB := Lib.hid (HB.out.trans (hb3.mono HB.out.size))
  clear hv3 hb3 HN1 hpl
  go_wp2_with fail
  refine (HRL.out _).mono ?_
  rintro e w4 ⟨b, rfl, hr, hb4⟩
  generalize w3.heap.size = B at hr
  have HR := Lib.hid hr
  replace HV := Lib.hid (own_below HV.out hb4)
  replace HG := Lib.hid (own_below HG.out hb4)
  replace HL := Lib.hid (HL.out.below hb4)
  replace HB := Lib.hid (HB.out.trans (hb4.mono HB.out.size))
  clear hr hb4 HRL
  go_wp2_with fail
  refine (HI.out _ _ _ HR.out _ (Below.refl _ _) _ xs HL.out.1 (by omega)).mono ?_
  rintro e w5 ⟨v5, rfl, hv5, hb5⟩
  obtain ⟨A5, c5, rfl⟩ := own_slice hv5
  have HE := Lib.hid (equali_walk (ItsAt.of_own (show ItemsAt w5 B3 (.slice A3 (nfdG (dall (partsOf Φ.dec)) (combOf Φ) xs).length c3) (nfd Φ xs) from own_below HV.out hb5)) (ItsAt.of_own hv5))
  replace HG := Lib.hid (own_below HG.out hb5)
  replace HL := Lib.hid (HL.out.below hb5)
  replace HB := Lib.hid (HB.out.trans (hb5.mono HB.out.size))
  clear hv5 hb5 HV HI HR
  go_wp2_with fail
  refine HE.out.mono ?_
  rintro e w6 ⟨rfl, hb6⟩
  have HE2 := Lib.hid (equali_walk (ItsAt.of_own (own_below HG.out hb6)) (HL.out.below hb6).1)
  replace HB := Lib.hid (HB.out.trans (hb6.mono HB.out.size))
  clear hb6 HE HG HL
  go_wp2_with fail
  refine HE2.out.mono ?_
  rintro e w7 ⟨rfl, hb7⟩
  replace HB := Lib.hid (HB.out.trans (hb7.mono HB.out.size))
  clear hb7 HE2
  go_wp2_with fail
  refine (HA.out _ HB.out).mono ?_
  rintro e w8 ⟨rfl, hb8⟩
  replace HB := Lib.hid (HB.out.trans (hb8.mono HB.out.size))
  clear hb8 HA
  go_wp2_with fail
  go_ret
  exact ⟨rfl, HB.out⟩
end Go.Proofs.YthoegenipbohmaaGreatDoor
