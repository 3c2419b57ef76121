/- rubricatorlaw09.FoldTells and rubricatorlaw07.DecompFull answer true. Printed by wip/tools/mklaws.py. -/
import Derived.Test.YtkgomgfhfoomhaaGreatDoorRefD
import Derived.Test.YtkgomgfhfoomhaaGreatDoorOpenW
import Derived.Test.YtkgomgfhfoomhaaGreatDoorAwk9W
import Derived.Test.YtkgomgfhfoomhaaGreatDoorDecAw
namespace Go.Proofs.YtkgomgfhfoomhaaGreatDoor
open Go.RowKit
set_option linter.unusedVariables false
set_option linter.unusedSimpArgs false
set_option maxRecDepth 100000 in
set_option maxHeartbeats 3200000 in
theorem foldTells_walk {v0 : Value} {zs0 : List Int} (w : World) (hl0 : ListW w v0 zs0) (p : Int) (hp : (Lit.int .i64 p).wf = true) (hE : Env w) (hT : EnvT w) : Calls Tryz.prog 3 #[v0, .int .i64 p] w fun e w' => e = .returned (.bool true) ∧ Below w.heap.size w w' := by
  have HLD := Lib.hid (load_calls w hE hT)
  have HRL := Lib.hid (fun W => ref_load W)
  have HA := Lib.hid (fun (W : World) (hb : Below w.heap.size w W) => awake9_walk W (hE.below hb) (hT.below hb))
  have HS := Lib.hid (fun (W : World) (m : Nat) (h : TabAt W m files) (x : Int) (hx : (Lit.int .i64 x).wf = true) => simple_walk h files_ok x hx)
  have HF := Lib.hid (fun (W : World) (m : Nat) (h : TabAt W m files) (x : Int) (hx : (Lit.int .i64 x).wf = true) => full_walk h files_ok x hx)
  have HM := Lib.hid (fun (W : World) (m : Nat) (h : TabAt W m files) (x y : Int) (hx : (Lit.int .i64 x).wf = true) (hy : (Lit.int .i64 y).wf = true) => same_walk h files_ok x y hx hy)
  have HSr := Lib.hid (fun (W : World) (B b : Nat) (h : RefAt W B b files) (x : Int) => simple09_walk h files_ok x)
  have HFr := Lib.hid (fun (W : World) (B b : Nat) (h : RefAt W B b files) (x : Int) => full09_walk h files_ok x)
  have HMr := Lib.hid (fun (W : World) (B b : Nat) (h : RefAt W B b files) (x y : Int) => same09_walk h files_ok x y)
  generalize files = Φ at *
  clear hE hT
  obtain ⟨A, c, rfl, hac, han, _⟩ := hl0.1.form
  have Hwf := Lib.hid hl0.2
  have HAL := Lib.hid hl0.1
  obtain ⟨zs, hzs⟩ : ∃ zs, zs = zs0 := ⟨_, rfl⟩
  subst hzs
  go_enter Tryz.func3, Tryz.ntmps3
  go_wp2_with fail
  refine HLD.out.mono ?_
  rintro e w1 ⟨rfl, ht, hb1⟩
  have HT1 := Lib.hid ht
  have HB1 := Lib.hid hb1
  have HL1 := Lib.hid (HAL.out.below hb1)
  clear ht hb1 HLD HAL
  go_wp2_with fail
  refine (HRL.out _).mono ?_
  rintro e w2 ⟨b, rfl, hr, hb2⟩
  generalize w1.heap.size = B at hr
  have HR2 := Lib.hid hr
  have HT2 := Lib.hid (HT1.out.below hb2)
  have HL2 := Lib.hid (HL1.out.below hb2)
  have HB2 := Lib.hid (HB1.out.trans (hb2.mono HB1.out.size))
  clear hr hb2 HRL HT1 HL1 HB1
  go_wp2_with fail
  go_loopw [13] (fun i wr => ∃ k : Nat, k ≤ zs.length ∧ k ≤ 61 ∧ i = .int .i64 k ∧ Hid (Below w2.heap.size w2 wr)) (fun i _ => zs.length - (intOf i).toNat)
  case atStart => exact ⟨0, by omega, by omega, rfl, Below.refl _ _⟩
  case round =>
    obtain ⟨k, hk, hk6, rfl, HB⟩ := hrel
    have HTr := Lib.hid (HT2.out.below HB.out)
    have HRr := Lib.hid (HR2.out.below HB.out)
    by_cases hlt : k < zs.length
    · obtain ⟨ad, rfl, cx⟩ := (HL2.out.below HB.out).cell k hlt
      have hxm : zs.getD k 0 ∈ zs := by
        rw [List.getD_eq_getElem?_getD, List.getElem?_eq_getElem hlt]
        exact List.getElem_mem _
      have hxw := Hwf.out _ hxm
      generalize zs.getD k 0 = x at *
      by_cases h60 : k ≤ 60
      · have d0 : decide ((k : Int) > 60) = false := by rw [decide_eq_false_iff_not]; omega
        clear hxm
        go_wp2_with fail
        refine (HS.out _ _ HTr.out x hxw).mono ?_
        rintro e w_ ⟨rfl, hb_⟩
        replace HTr := Lib.hid (HTr.out.below hb_)
        replace HRr := Lib.hid (HRr.out.below hb_)
        replace HB := Lib.hid (HB.out.trans (hb_.mono HB.out.size))
        clear hb_
        go_wp2_with fail
        refine (HSr.out _ B b HRr.out x).mono ?_
        rintro e w_ ⟨rfl, hb_⟩
        replace HTr := Lib.hid (HTr.out.below hb_)
        replace HRr := Lib.hid (HRr.out.below hb_)
        replace HB := Lib.hid (HB.out.trans (hb_.mono HB.out.size))
        clear hb_
        have hs1 : (simpleOf Φ x != simpleOf Φ x) = false := by simp
        go_wp2_with fail
        refine (HF.out _ _ HTr.out x hxw).mono ?_
        rintro e w_ ⟨v4, rfl, hv4, hb_⟩
        obtain ⟨A4, c4, rfl⟩ := own_slice hv4
        have HV4 := Lib.hid hv4
        clear hv4
        replace HTr := Lib.hid (HTr.out.below hb_)
        replace HRr := Lib.hid (HRr.out.below hb_)
        replace HB := Lib.hid (HB.out.trans (hb_.mono HB.out.size))
        clear hb_
        go_wp2_with fail
        refine (HFr.out _ B b HRr.out x).mono ?_
        rintro e w_ ⟨v5, rfl, hv5, hb_⟩
        obtain ⟨A5, c5, rfl⟩ := own_slice hv5
        replace HV4 := Lib.hid (own_below HV4.out hb_)
        have HV5 := Lib.hid hv5
        replace HTr := Lib.hid (HTr.out.below hb_)
        replace HRr := Lib.hid (HRr.out.below hb_)
        replace HB := Lib.hid (HB.out.trans (hb_.mono HB.out.size))
        clear hb_ hv5
        generalize foldz Φ true x = l1 at *
        go_wp2_with fail
        refine (equal_walk HV4.out HV5.out).mono ?_
        rintro e w_ ⟨rfl, hb_⟩
        rw [show (l1 == l1) = true by simp]
        replace HTr := Lib.hid (HTr.out.below hb_)
        replace HRr := Lib.hid (HRr.out.below hb_)
        replace HB := Lib.hid (HB.out.trans (hb_.mono HB.out.size))
        clear hb_
        clear HV4 HV5
        go_wp2_with fail
        refine (HM.out _ _ HTr.out x p hxw hp).mono ?_
        rintro e w_ ⟨rfl, hb_⟩
        replace HTr := Lib.hid (HTr.out.below hb_)
        replace HRr := Lib.hid (HRr.out.below hb_)
        replace HB := Lib.hid (HB.out.trans (hb_.mono HB.out.size))
        clear hb_
        go_wp2_with fail
        refine (HMr.out _ B b HRr.out x p).mono ?_
        rintro e w_ ⟨rfl, hb_⟩
        replace HTr := Lib.hid (HTr.out.below hb_)
        replace HRr := Lib.hid (HRr.out.below hb_)
        replace HB := Lib.hid (HB.out.trans (hb_.mono HB.out.size))
        clear hb_
        generalize (simpleOf Φ x == simpleOf Φ p) = m1 at *
        have hm1 : (m1 != m1) = false := by simp
        go_wp2_with fail
        go_roundw
        case rel => exact ⟨k + 1, by omega, by omega, by go_num, HB⟩
        case measure => simp [intOf]; omega
      · have d0 : decide ((k : Int) > 60) = true := by rw [decide_eq_true_eq]; omega
        clear hxm hxw
        have HBw := Lib.hid (HB2.out.trans (HB.out.mono HB2.out.size))
        go_wp2_with fail
        refine (HA.out _ HBw.out).mono ?_
        rintro e w9 ⟨rfl, hb9⟩
        have HB9 := Lib.hid (HBw.out.trans (hb9.mono HBw.out.size))
        clear hb9
        go_wp2_with fail
        go_ret
        exact ⟨rfl, HB9.out⟩
    · have hkl : k = zs.length := by omega
      subst hkl
      have HBw := Lib.hid (HB2.out.trans (HB.out.mono HB2.out.size))
      go_wp2_with fail
      refine (HA.out _ HBw.out).mono ?_
      rintro e w9 ⟨rfl, hb9⟩
      have HB9 := Lib.hid (HBw.out.trans (hb9.mono HBw.out.size))
      clear hb9
      go_wp2_with fail
      go_ret
      exact ⟨rfl, HB9.out⟩
set_option maxRecDepth 100000 in
set_option maxHeartbeats 3200000 in
theorem decompFull_walk {v0 : Value} {zs0 : List Int} (w : World) (hl0 : ListW w v0 zs0) (hE : Env w) (hT : EnvT w) (hH : Hang w) : Calls Tryz.prog 4 #[v0] w fun e w' => e = .returned (.bool true) ∧ Below w.heap.size w w' := by
  have HLD := Lib.hid (load_calls w hE hT)
  have HRL := Lib.hid (fun W => ref_load W)
  have HA := Lib.hid (fun (W : World) (hb : Below w.heap.size w W) => awake07_walk W (hE.below hb) (hT.below hb) (hH.below hb))
  have HF := Lib.hid (fun (W : World) (m : Nat) (h : TabAt W m files) (hh : Hang W) (x : Int) (hx : (Lit.int .i64 x).wf = true) => decf_walk h hh x hx)
  have HFr := Lib.hid (fun (W : World) (B b : Nat) (x : Int) (h : RefAt W B b files) => full07_walk files_ok files_parts files_short files_lev x h)
  have HH := Lib.hid hH
  generalize files = Φ at *
  clear hE hT hH
  obtain ⟨A, c, rfl, hac, han, _⟩ := hl0.1.form
  have Hwf := Lib.hid hl0.2
  have HAL := Lib.hid hl0.1
  obtain ⟨zs, hzs⟩ : ∃ zs, zs = zs0 := ⟨_, rfl⟩
  subst hzs
  go_enter Tryz.func4, Tryz.ntmps4
  go_wp2_with fail
  refine HLD.out.mono ?_
  rintro e w1 ⟨rfl, ht, hb1⟩
  have HT1 := Lib.hid ht
  have HB1 := Lib.hid hb1
  have HL1 := Lib.hid (HAL.out.below hb1)
  clear ht hb1 HLD HAL
  go_wp2_with fail
  refine (HRL.out _).mono ?_
  rintro e w2 ⟨b, rfl, hr, hb2⟩
  generalize w1.heap.size = B at hr
  have HR2 := Lib.hid hr
  have HT2 := Lib.hid (HT1.out.below hb2)
  have HL2 := Lib.hid (HL1.out.below hb2)
  have HB2 := Lib.hid (HB1.out.trans (hb2.mono HB1.out.size))
  have HH2 := Lib.hid (HH.out.below HB2.out)
  clear hr hb2 HRL HT1 HL1 HB1
  go_wp2_with fail
  go_loopw [11] (fun i wr => ∃ k : Nat, k ≤ zs.length ∧ k ≤ 61 ∧ i = .int .i64 k ∧ Hid (Below w2.heap.size w2 wr)) (fun i _ => zs.length - (intOf i).toNat)
  case atStart => exact ⟨0, by omega, by omega, rfl, Below.refl _ _⟩
  case round =>
    obtain ⟨k, hk, hk6, rfl, HB⟩ := hrel
    have HTr := Lib.hid (HT2.out.below HB.out)
    have HRr := Lib.hid (HR2.out.below HB.out)
    have HHr := Lib.hid (HH2.out.below HB.out)
    by_cases hlt : k < zs.length
    · obtain ⟨ad, rfl, cx⟩ := (HL2.out.below HB.out).cell k hlt
      have hxm : zs.getD k 0 ∈ zs := by
        rw [List.getD_eq_getElem?_getD, List.getElem?_eq_getElem hlt]
        exact List.getElem_mem _
      have hxw := Hwf.out _ hxm
      generalize zs.getD k 0 = x at *
      by_cases h60 : k ≤ 60
      · have d0 : decide ((k : Int) > 60) = false := by rw [decide_eq_false_iff_not]; omega
        clear hxm
        go_wp2_with fail
        refine (HF.out _ _ HTr.out HHr.out x hxw).mono ?_
        rintro e w_ ⟨v4, rfl, hv4, hb_⟩
        obtain ⟨A4, c4, rfl⟩ := own_slice hv4
        have HV4 := Lib.hid hv4
        clear hv4
        replace HTr := Lib.hid (HTr.out.below hb_)
        replace HRr := Lib.hid (HRr.out.below hb_)
        replace HB := Lib.hid (HB.out.trans (hb_.mono HB.out.size))
        clear hb_ HHr
        go_wp2_with fail
        refine (HFr.out _ B b x HRr.out).mono ?_
        rintro e w_ ⟨v5, rfl, hv5, hb_⟩
        obtain ⟨A5, c5, rfl⟩ := own_slice hv5
        replace HV4 := Lib.hid (own_below HV4.out hb_)
        have HV5 := Lib.hid hv5
        replace HTr := Lib.hid (HTr.out.below hb_)
        replace HRr := Lib.hid (HRr.out.below hb_)
        replace HB := Lib.hid (HB.out.trans (hb_.mono HB.out.size))
        clear hb_ hv5
        generalize dall (partsOf Φ.dec) x = l1 at *
        go_wp2_with fail
        refine (equal_walk HV4.out HV5.out).mono ?_
        rintro e w_ ⟨rfl, hb_⟩
        rw [show (l1 == l1) = true by simp]
        replace HTr := Lib.hid (HTr.out.below hb_)
        replace HRr := Lib.hid (HRr.out.below hb_)
        replace HB := Lib.hid (HB.out.trans (hb_.mono HB.out.size))
        clear hb_
        clear HV4 HV5
        go_wp2_with fail
        go_roundw
        case rel => exact ⟨k + 1, by omega, by omega, by go_num, HB⟩
        case measure => simp [intOf]; omega
      · have d0 : decide ((k : Int) > 60) = true := by rw [decide_eq_true_eq]; omega
        clear hxm hxw
        have HBw := Lib.hid (HB2.out.trans (HB.out.mono HB2.out.size))
        go_wp2_with fail
        refine (HA.out _ HBw.out).mono ?_
        rintro e w9 ⟨rfl, hb9⟩
        have HB9 := Lib.hid (HBw.out.trans (hb9.mono HBw.out.size))
        clear hb9
        go_wp2_with fail
        go_ret
        exact ⟨rfl, HB9.out⟩
    · have hkl : k = zs.length := by omega
      subst hkl
      have HBw := Lib.hid (HB2.out.trans (HB.out.mono HB2.out.size))
      go_wp2_with fail
      refine (HA.out _ HBw.out).mono ?_
      rintro e w9 ⟨rfl, hb9⟩
      have HB9 := Lib.hid (HBw.out.trans (hb9.mono HBw.out.size))
      clear hb9
      go_wp2_with fail
      go_ret
      exact ⟨rfl, HB9.out⟩
end Go.Proofs.YtkgomgfhfoomhaaGreatDoor
