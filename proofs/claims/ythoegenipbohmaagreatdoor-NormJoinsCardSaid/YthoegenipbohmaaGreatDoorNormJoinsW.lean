/- rubricatorlaw08.NormJoins answers true. -/
import Derived.Test.YthoegenipbohmaaGreatDoorNormM
import Derived.Test.YthoegenipbohmaaGreatDoorItmP
import Derived.Test.YthoegenipbohmaaGreatDoorConc
import Derived.Test.YthoegenipbohmaaGreatDoorRowM
namespace Go.Proofs.YthoegenipbohmaaGreatDoor
open Go.RowKit Go.Sort Stb
set_option linter.unusedVariables false
set_option linter.unusedSimpArgs false
theorem own_pair (w : World) (e : TypeId) (a b : Value) : (∀ i u, ([a, b] : List Value)[i]? = some u → (w.alloc (.cells #[a, b] e)).cell? ⟨w.heap.size, i, none⟩ = some u) := by
  intro i u hu
  rw [(cells_of_row (row_new w _)).1 i]
  match i, hu with
  | 0, hu => exact hu
  | 1, hu => exact hu
  | i + 2, hu => simp at hu
theorem cut100 (n : Nat) : ∃ k : Nat, ((if 100 < (n : Int) then 100 else (n : Int)) = k ∧ min (n : Int) 100 = k ∧ (if (n : Int) ≤ 100 then (n : Int) else 100) = k) ∧ (k ≤ 100 ∧ k ≤ n) := by
  by_cases h : 100 < n
  · exact ⟨100, ⟨by rw [if_pos (by omega)]; rfl, by omega, by rw [if_neg (by omega)]; rfl⟩, by omega⟩
  · exact ⟨n, ⟨by rw [if_neg (by omega)], by omega, by rw [if_pos (by omega)]⟩, by omega⟩
theorem concat2 {w : World} {u1 u2 : Value} {a b cs : List Int} (h1 : ListV w u1 a) (h2 : ListV w u2 b) (hc : cs = a ++ b) (hl : cs.length ≤ 100000) : Calls Tryz.prog 25 #[.slice (some ⟨w.heap.size, 0, none⟩) 2 2] (w.alloc (.cells #[u1, u2] 37)) (CloneSaid cs (w.alloc (.cells #[u1, u2] 37))) := by
  have hba := alloc_below w (.cells #[u1, u2] 37)
  have e : [a, b].flatten = cs := by rw [hc]; simp
  have h := concat_any (w := w.alloc (.cells #[u1, u2] 37)) (g := w.heap.size) (cap := 2) [a, b] [u1, u2] rfl (Nat.le_refl _) (fun i l u e1 e2 => by
    match i, e1, e2 with
    | 0, e1, e2 =>
      cases e1
      cases e2
      exact h1.below hba
    | 1, e1, e2 =>
      cases e1
      cases e2
      exact h2.below hba
    | i + 2, e1, e2 => simp at e1) (own_pair w _ u1 u2) (by rw [e]; exact hl) (by show 2 ≤ 1000; omega)
  rw [e] at h
  exact h
set_option maxRecDepth 100000 in
set_option maxHeartbeats 800000 in
theorem normJoins_walk {v0 v1 : Value} {zs0 zs1 : List Int} (w : World) (hl0 : ListW w v0 zs0) (hl1 : ListW w v1 zs1) (hE : Env w) (hT : EnvT w) (hH : Hang w) : Calls Tryz.prog 5 #[v0, v1] w fun e w' => e = .returned (.bool true) ∧ Below w.heap.size w w' := by
  have HLD := Lib.hid (fun (W : World) (hb : Below w.heap.size w W) => load_calls W (hE.below hb) (hT.below hb))
  have HA := Lib.hid (fun (W : World) (hb : Below w.heap.size w W) => awake08_walk W (hE.below hb) (hT.below hb) (hH.below hb))
  have HN := Lib.hid (fun (W : World) (m : Nat) (ht : TabAt W m files) (hb : Below w.heap.size w W) => nmd_files ht (hH.below hb))
  generalize files = Φ at *
  clear hE hT hH
  obtain ⟨A, c, rfl, hac, han, hA⟩ := hl0.1.form
  obtain ⟨A', c', rfl, hac', han', hA'⟩ := hl1.1.form
  obtain ⟨k, ⟨hk1, m2, m3⟩, hk2⟩ := cut100 zs0.length
  obtain ⟨k', ⟨hk1', m2', m3'⟩, hk2'⟩ := cut100 zs1.length
  have HAL := Lib.hid (hl0.1.cut hk2.2)
  have HBL := Lib.hid (hl1.1.cut hk2'.2)
  have Hwf := Lib.hid (show ∀ z ∈ zs0.take k, (Lit.int .i64 z).wf = true from fun z hz => hl0.2 z (List.mem_of_mem_take hz))
  have Hwf' := Lib.hid (show ∀ z ∈ zs1.take k', (Lit.int .i64 z).wf = true from fun z hz => hl1.2 z (List.mem_of_mem_take hz))
  obtain ⟨zs, hzs, hzl⟩ : ∃ zs : List Int, zs = zs0.take k ∧ zs.length = k := ⟨_, rfl, by rw [List.length_take]; omega⟩
  obtain ⟨ys, hys, hyl⟩ : ∃ ys : List Int, ys = zs1.take k' ∧ ys.length = k' := ⟨_, rfl, by rw [List.length_take]; omega⟩
  rw [← hzs] at HAL Hwf
  rw [← hys] at HBL Hwf'
  have hk100 := hk2.1
  have hk0 := hk2.2
  have hk100' := hk2'.1
  have hk0' := hk2'.2
  clear hl0 hl1 hzs hys hA hA' hk2 hk2'
  subst hzl hyl
  go_enter Tryz.func5, Tryz.ntmps5
  go_wp2_with fail
  go_quiet (fail)
  simp only [Exit.then]
  go_wp2_with fail
  obtain ⟨wd, hwd⟩ : ∃ wd, wd = w.drewN nq := ⟨_, rfl⟩
  have hd0 : Below w.heap.size w wd := hwd ▸ below_drewN w nq
  rw [← hwd]
  clear hwd
  refine (HLD.out _ hd0).mono ?_
  rintro e w1 ⟨rfl, ht, hb1⟩
  have HB := Lib.hid (hd0.trans (hb1.mono hd0.size))
  have HN1 := Lib.hid (HN.out _ _ ht HB.out)
  replace HAL := Lib.hid (HAL.out.below HB.out)
  replace HBL := Lib.hid (HBL.out.below HB.out)
  generalize wd.heap.size = mm at ht HN1
  clear ht hb1 HLD HN hd0
  obtain ⟨cs, hcs⟩ : ∃ cs : List Int, cs = zs ++ ys := ⟨_, rfl⟩
  have hcl : cs.length ≤ 200 := by rw [hcs, List.length_append]; omega
  have Hcw := Lib.hid (show ∀ z ∈ cs, (Lit.int .i64 z).wf = true from fun z hz => by
    rw [hcs] at hz
    rcases List.mem_append.1 hz with h | h
    · exact Hwf.out z h
    · exact Hwf'.out z h)
  have HC := Lib.hid hcs
  have HRA := Lib.hid (runes_len HN1.out.two zs)
  have HRB := Lib.hid (runes_len HN1.out.two ys)
  have HRAw := Lib.hid (runes_wf (Φ := Φ) zs Hwf.out)
  have HRBw := Lib.hid (runes_wf (Φ := Φ) ys Hwf'.out)
  have HJ := Lib.hid (show runesL Φ (runesL Φ zs ++ runesL Φ ys) = runesL Φ cs by rw [hcs]; exact Itm.runes_joins HN1.out.ends zs ys)
  clear hcs
  go_wp2_with fail
  have hba := alloc_below w1 (.cells #[.slice A zs.length c, .slice A' ys.length c'] 37)
  refine (concat2 HAL.out HBL.out HC.out (by omega)).mono ?_
  rintro e w2 ⟨v2, rfl, hv2, hb2⟩
  replace hb2 := hba.trans (hb2.mono hba.size)
  obtain ⟨A2, c2, rfl⟩ := own_slice hv2
  have HV2 := Lib.hid (ListAt.of_own hv2)
  replace HB := Lib.hid (HB.out.trans (hb2.mono HB.out.size))
  replace HN1 := Lib.hid (HN1.out.below hb2)
  replace HAL := Lib.hid (HAL.out.below hb2)
  replace HBL := Lib.hid (HBL.out.below hb2)
  clear hv2 hb2 hba
  go_wp2_with fail
  refine (runes_walk HN1.out HV2.out Hcw.out (by omega)).mono ?_
  rintro e w3 ⟨v3, rfl, hv3, hb3⟩
  generalize w2.heap.size = B3 at hv3
  obtain ⟨rc, hrc⟩ : ∃ rc, rc = runesL Φ cs := ⟨_, rfl⟩
  rw [← hrc] at HJ hv3
  obtain ⟨A3, c3, rfl⟩ := own_slice hv3
  have HV3 := Lib.hid hv3
  replace HB := Lib.hid (HB.out.trans (hb3.mono HB.out.size))
  replace HN1 := Lib.hid (HN1.out.below hb3)
  replace HAL := Lib.hid (HAL.out.below hb3)
  replace HBL := Lib.hid (HBL.out.below hb3)
  clear hv3 hb3 HV2 hrc
  go_wp2_with fail
  refine (runes_walk HN1.out HAL.out.1 Hwf.out (by omega)).mono ?_
  rintro e w4 ⟨v4, rfl, hv4, hb4⟩
  generalize w3.heap.size = B4 at hv4
  generalize runesL Φ zs = ra at *
  obtain ⟨A4, c4, rfl⟩ := own_slice hv4
  have HV4 := Lib.hid (ListV.of_own hv4)
  replace HB := Lib.hid (HB.out.trans (hb4.mono HB.out.size))
  replace HN1 := Lib.hid (HN1.out.below hb4)
  replace HBL := Lib.hid (HBL.out.below hb4)
  replace HV3 := Lib.hid (show IntsAt w4 B3 (.slice A3 rc.length c3) rc from own_below HV3.out hb4)
  clear hv4 hb4 HAL
  go_wp2_with fail
  refine (runes_walk HN1.out HBL.out.1 Hwf'.out (by omega)).mono ?_
  rintro e w5 ⟨v5, rfl, hv5, hb5⟩
  generalize w4.heap.size = B5 at hv5
  generalize runesL Φ ys = rb at *
  obtain ⟨A5, c5, rfl⟩ := own_slice hv5
  have HV5 := Lib.hid (ListV.of_own hv5)
  replace HB := Lib.hid (HB.out.trans (hb5.mono HB.out.size))
  replace HN1 := Lib.hid (HN1.out.below hb5)
  replace HV4 := Lib.hid (HV4.out.below hb5)
  replace HV3 := Lib.hid (show IntsAt w5 B3 (.slice A3 rc.length c3) rc from own_below HV3.out hb5)
  clear hv5 hb5 HBL
  obtain ⟨ds, hds⟩ : ∃ ds : List Int, ds = ra ++ rb := ⟨_, rfl⟩
  have hdl : ds.length ≤ 20000 := by
    have h1 := HRA.out
    have h2 := HRB.out
    rw [hds, List.length_append]
    omega
  rw [← hds] at HJ
  have HD := Lib.hid hds
  have Hdw := Lib.hid (show ∀ z ∈ ds, (Lit.int .i64 z).wf = true from fun z hz => by
    rw [hds] at hz
    rcases List.mem_append.1 hz with h | h
    · exact HRAw.out z h
    · exact HRBw.out z h)
  clear hds HRA HRB HRAw HRBw
  go_wp2_with fail
  have hba := alloc_below w5 (.cells #[.slice A4 ra.length c4, .slice A5 rb.length c5] 37)
  refine (concat2 HV4.out HV5.out HD.out (by omega)).mono ?_
  rintro e w6 ⟨v6, rfl, hv6, hb6⟩
  replace hb6 := hba.trans (hb6.mono hba.size)
  obtain ⟨A6, c6, rfl⟩ := own_slice hv6
  have HV6 := Lib.hid (ListAt.of_own hv6)
  replace HB := Lib.hid (HB.out.trans (hb6.mono HB.out.size))
  replace HN1 := Lib.hid (HN1.out.below hb6)
  replace HV3 := Lib.hid (show IntsAt w6 B3 (.slice A3 rc.length c3) rc from own_below HV3.out hb6)
  clear hv6 hb6 hba HV4 HV5
  go_wp2_with fail
  refine (runes_walk HN1.out HV6.out Hdw.out (by omega)).mono ?_
  rintro e w7 ⟨v7, rfl, hv7, hb7⟩
  rw [HJ.out] at hv7
  obtain ⟨A7, c7, rfl⟩ := own_slice hv7
  have HE := Lib.hid (equalv_walk (ListAt.of_own (show IntsAt w7 B3 (.slice A3 rc.length c3) rc from own_below HV3.out hb7)) (ListAt.of_own hv7))
  replace HB := Lib.hid (HB.out.trans (hb7.mono HB.out.size))
  clear hv7 hb7 HV6 HV3 HN1
  go_wp2_with fail
  refine HE.out.mono ?_
  rintro e w8 ⟨rfl, hb8⟩
  replace HB := Lib.hid (HB.out.trans (hb8.mono HB.out.size))
  clear hb8 HE
  go_wp2_with fail
  refine (HA.out _ HB.out).mono ?_
  rintro e w9 ⟨rfl, hb9⟩
  replace HB := Lib.hid (HB.out.trans (hb9.mono HB.out.size))
  clear hb9 HA
  go_wp2_with fail
  go_ret
  exact ⟨rfl, HB.out⟩
end Go.Proofs.YthoegenipbohmaaGreatDoor
