/- rubricatorlaw06: awake; PropsTell answers true. -/
import Derived.Test.YtpmbebofinlmmaaGreatDoorComb
import Derived.Test.YtpmbebofinlmmaaGreatDoorOpenW
import Derived.Test.YtpmbebofinlmmaaGreatDoorAcc3W
import Derived.Test.YtpmbebofinlmmaaGreatDoorRef6C
import Derived.Test.YtpmbebofinlmmaaGreatDoorRefQ
namespace Go.Proofs.YtpmbebofinlmmaaGreatDoor
open Go.RowKit
set_option linter.unusedVariables false
set_option linter.unusedSimpArgs false

theorem own_lit2 (w : World) (e : TypeId) (a b : Value) : (w.alloc (.cells #[a, b] e)).ownsRow w.heap.size e 1 (.slice (some ⟨w.heap.size, 0, none⟩) 2 2) 2 [a, b] :=
  ⟨rfl, .inr ⟨w.heap.size, 2, #[a, b], rfl, Nat.le_refl _, row_new _ _, by omega, by unfold maxLen; omega, rfl, rfl⟩⟩
theorem cat_aw : firstOf (recsOf Tryz.f54) 65 [67, 110] = [76, 117] := by kernel_rfl
theorem fol_aw : (foldsOf true (recsOf Tryz.f62) 223) = some [115, 115] := by kernel_rfl
set_option maxRecDepth 100000 in
theorem files_cat_aw : firstOf files.cat 65 [67, 110] = [76, 117] := cat_aw
set_option maxRecDepth 100000 in
theorem files_fol_aw : foldsOf true files.fol 223 = some [115, 115] := fol_aw
set_option maxRecDepth 100000 in
theorem awake06_walk (w : World) (hE : Env w) (hT : EnvT w) : Calls Tryz.prog 23 #[] w fun e w' => e = .returned (.bool true) ∧ Below w.heap.size w w' := by
  have HLD := Lib.hid (load_calls w hE hT)
  have HC := Lib.hid (fun (W : World) (m : Nat) (ht : TabAt W m files) => category_walk ht files_ok 65)
  have HF := Lib.hid (fun (W : World) (m : Nat) (ht : TabAt W m files) => fold_walk ht files_ok 223 (by decide) true)
  rw [txOf_first (listOk_hi files_ok.cat), files_cat_aw] at HC
  have h2 : foldz files true 223 = [115, 115] := by unfold foldz; rw [files_fol_aw]; rfl
  rw [h2] at HF
  generalize files = Φ at *
  clear hE hT h2
  go_enter Tryz.func23, Tryz.ntmps23
  go_wp2_with fail
  refine HLD.out.mono ?_
  rintro e w1 ⟨rfl, ht, hb1⟩
  have HT1 := Lib.hid ht
  have HB1 := Lib.hid hb1
  clear ht hb1 HLD
  go_wp2_with fail
  refine (HC.out _ _ HT1.out).mono ?_
  rintro e w2 ⟨rfl, hb2⟩
  have HT2 := Lib.hid (HT1.out.below hb2)
  have HB2 := Lib.hid (HB1.out.trans (hb2.mono HB1.out.size))
  clear hb2 HT1 HB1 HC
  go_wp2_with fail
  refine (HF.out _ _ HT2.out).mono ?_
  rintro e w3 ⟨v3, rfl, hv3, hb3⟩
  obtain ⟨A3, c3, rfl⟩ := own_slice hv3
  have hba := alloc_below w3 (Obj.cells #[Value.int IntKind.i64 115, Value.int IntKind.i64 115] 3)
  have HR3 := Lib.hid (own_below hv3 hba)
  have HR4 := Lib.hid (show IntsAt (w3.alloc (Obj.cells #[Value.int IntKind.i64 115, Value.int IntKind.i64 115] 3)) w3.heap.size _ [115, 115] from own_lit2 w3 3 (Value.int .i64 115) (Value.int .i64 115))
  have HB4 := Lib.hid (HB2.out.trans ((hb3.trans (hba.mono hb3.size)).mono HB2.out.size))
  clear hv3 hb3 hba HT2 HB2 HF
  go_wp2_with fail
  refine (equal_walk HR3.out HR4.out).mono ?_
  rintro e w5 ⟨rfl, hb5⟩
  have HB5 := Lib.hid (HB4.out.trans (hb5.mono HB4.out.size))
  rw [show (([115, 115] : List Int) == [115, 115]) = true by decide]
  clear hb5 HR3 HR4 HB4
  go_wp2_with fail
  go_ret
  exact ⟨rfl, HB5.out⟩
set_option maxRecDepth 100000 in
set_option maxHeartbeats 6400000 in
theorem propsTell_walk {v0 : Value} {zs0 : List Int} (w : World) (hl0 : ListW w v0 zs0) (hE : Env w) (hT : EnvT w) : Calls Tryz.prog 8 #[v0] w fun e w' => e = .returned (.bool true) ∧ Below w.heap.size w w' := by
  have HLD := Lib.hid (load_calls w hE hT)
  have HRL := Lib.hid (fun W => ref_load W)
  have HA := Lib.hid (fun (W : World) (hb : Below w.heap.size w W) => awake06_walk W (hE.below hb) (hT.below hb))
  have HC1 := Lib.hid (fun (W : World) (m : Nat) (h : TabAt W m files) (x : Int) => category_walk h files_ok x)
  have HC2 := Lib.hid (fun (W : World) (B b : Nat) (h : RefAt W B b files) (x : Int) => category_ref h files_ok x)
  have HM1 := Lib.hid (fun (W : World) (m : Nat) (h : TabAt W m files) (x : Int) => combining_walk h files_ok files_comb x)
  have HM2 := Lib.hid (fun (W : World) (B b : Nat) (h : RefAt W B b files) (x : Int) => combining_ref h files_ok files_comb x)
  have HS1 := Lib.hid (fun (W : World) (m : Nat) (h : TabAt W m files) (x : Int) => script_walk h files_ok x)
  have HS2 := Lib.hid (fun (W : World) (B b : Nat) (h : RefAt W B b files) (x : Int) => script_ref h files_ok x)
  have HK1 := Lib.hid (fun (W : World) (m : Nat) (h : TabAt W m files) (x : Int) => cluster_walk h files_ok x)
  have HK2 := Lib.hid (fun (W : World) (B b : Nat) (h : RefAt W B b files) (x : Int) => cluster_ref h files_ok x)
  have HW1 := Lib.hid (fun (W : World) (m : Nat) (h : TabAt W m files) (x : Int) => wordp_walk h files_ok x)
  have HW2 := Lib.hid (fun (W : World) (B b : Nat) (h : RefAt W B b files) (x : Int) => word6_ref h files_ok x)
  have HP1 := Lib.hid (fun (W : World) (m : Nat) (h : TabAt W m files) (x : Int) (hx : (Lit.int .i64 x).wf = true) => parts_walk h files_ok x hx)
  have HP2 := Lib.hid (fun (W : World) (B b : Nat) (h : RefAt W B b files) (x : Int) => (files_parts x) ▸ parts_ref h files_ok x)
  have HF1 := Lib.hid (fun (W : World) (m : Nat) (h : TabAt W m files) (x : Int) (hx : (Lit.int .i64 x).wf = true) (f : Bool) => fold_walk h files_ok x hx f)
  have HF2 := Lib.hid (fun (W : World) (B b : Nat) (h : RefAt W B b files) (x : Int) (f : Bool) => fold_refz h files_ok x f)
  generalize files = Φ at *
  clear hE hT
  obtain ⟨A, c, rfl, hac, han, _⟩ := hl0.1.form
  have Hwf := Lib.hid hl0.2
  have HAL := Lib.hid hl0.1
  obtain ⟨zs, hzs⟩ : ∃ zs, zs = zs0 := ⟨_, rfl⟩
  subst hzs
  go_enter Tryz.func8, Tryz.ntmps8
  go_wp2_with fail
  refine HLD.out.mono ?_
  rintro e w1 ⟨rfl, ht, hb1⟩
  have HT1 := Lib.hid ht
  have HB1 := Lib.hid hb1
  have HL1 := Lib.hid (HAL.out.below hb1)
  clear ht hb1 HLD HAL
  go_wp2_with fail
  refine (HRL.out _).mono ?_
  rintro e w2 ⟨b, rfl, hr, hb2⟩
  generalize w1.heap.size = B at hr
  have HR2 := Lib.hid hr
  have HT2 := Lib.hid (HT1.out.below hb2)
  have HL2 := Lib.hid (HL1.out.below hb2)
  have HB2 := Lib.hid (HB1.out.trans (hb2.mono HB1.out.size))
  clear hr hb2 HRL HT1 HL1 HB1
  go_wp2_with fail
  go_loopw [11] (fun i wr => ∃ k : Nat, k ≤ zs.length ∧ k ≤ 41 ∧ i = .int .i64 k ∧ Hid (Below w2.heap.size w2 wr)) (fun i _ => zs.length - (intOf i).toNat)
  case atStart => exact ⟨0, by omega, by omega, rfl, Below.refl _ _⟩
  case round =>
    obtain ⟨k, hk, hk6, rfl, HB⟩ := hrel
    have HTr := Lib.hid (HT2.out.below HB.out)
    have HRr := Lib.hid (HR2.out.below HB.out)
    by_cases hlt : k < zs.length
    · obtain ⟨ad, rfl, cx⟩ := (HL2.out.below HB.out).cell k hlt
      have hxm : zs.getD k 0 ∈ zs := by
        rw [List.getD_eq_getElem?_getD, List.getElem?_eq_getElem hlt]
        exact List.getElem_mem _
      have hxw := Hwf.out _ hxm
      generalize zs.getD k 0 = x at *
      by_cases h60 : k ≤ 40
      · have d0 : decide ((k : Int) > 40) = false := by rw [decide_eq_false_iff_not]; omega
        clear hxm
        go_wp2_with fail
        refine (HC1.out _ _ HTr.out x).mono ?_
        rintro e w_ ⟨rfl, hb_⟩
        replace HTr := Lib.hid (HTr.out.below hb_)
        replace HRr := Lib.hid (HRr.out.below hb_)
        replace HB := Lib.hid (HB.out.trans (hb_.mono HB.out.size))
        clear hb_
        go_wp2_with fail
        refine (HC2.out _ B b HRr.out x).mono ?_
        rintro e w_ ⟨rfl, hb_⟩
        replace HTr := Lib.hid (HTr.out.below hb_)
        replace HRr := Lib.hid (HRr.out.below hb_)
        replace HB := Lib.hid (HB.out.trans (hb_.mono HB.out.size))
        clear hb_
        generalize txOf Φ.cat x [67, 110] = S1 at *
        have hs1 : ((⟨S1.toArray⟩ : ByteArray).toList == (⟨S1.toArray⟩ : ByteArray).toList) = true := by simp
        generalize (⟨S1.toArray⟩ : ByteArray) = D1 at *
        go_wp2_with fail
        refine (HM1.out _ _ HTr.out x).mono ?_
        rintro e w_ ⟨rfl, hb_⟩
        replace HTr := Lib.hid (HTr.out.below hb_)
        replace HRr := Lib.hid (HRr.out.below hb_)
        replace HB := Lib.hid (HB.out.trans (hb_.mono HB.out.size))
        clear hb_
        go_wp2_with fail
        refine (HM2.out _ B b HRr.out x).mono ?_
        rintro e w_ ⟨rfl, hb_⟩
        replace HTr := Lib.hid (HTr.out.below hb_)
        replace HRr := Lib.hid (HRr.out.below hb_)
        replace HB := Lib.hid (HB.out.trans (hb_.mono HB.out.size))
        clear hb_
        generalize combOf Φ x = S2 at *
        have hs2 : (S2 != S2) = false := by simp
        go_wp2_with fail
        refine (HS1.out _ _ HTr.out x).mono ?_
        rintro e w_ ⟨rfl, hb_⟩
        replace HTr := Lib.hid (HTr.out.below hb_)
        replace HRr := Lib.hid (HRr.out.below hb_)
        replace HB := Lib.hid (HB.out.trans (hb_.mono HB.out.size))
        clear hb_
        go_wp2_with fail
        refine (HS2.out _ B b HRr.out x).mono ?_
        rintro e w_ ⟨rfl, hb_⟩
        replace HTr := Lib.hid (HTr.out.below hb_)
        replace HRr := Lib.hid (HRr.out.below hb_)
        replace HB := Lib.hid (HB.out.trans (hb_.mono HB.out.size))
        clear hb_
        generalize txOf Φ.scr x [90, 122, 122, 122] = S3 at *
        have hs3 : ((⟨S3.toArray⟩ : ByteArray).toList == (⟨S3.toArray⟩ : ByteArray).toList) = true := by simp
        generalize (⟨S3.toArray⟩ : ByteArray) = D3 at *
        go_wp2_with fail
        refine (HK1.out _ _ HTr.out x).mono ?_
        rintro e w_ ⟨rfl, hb_⟩
        replace HTr := Lib.hid (HTr.out.below hb_)
        replace HRr := Lib.hid (HRr.out.below hb_)
        replace HB := Lib.hid (HB.out.trans (hb_.mono HB.out.size))
        clear hb_
        go_wp2_with fail
        refine (HK2.out _ B b HRr.out x).mono ?_
        rintro e w_ ⟨rfl, hb_⟩
        replace HTr := Lib.hid (HTr.out.below hb_)
        replace HRr := Lib.hid (HRr.out.below hb_)
        replace HB := Lib.hid (HB.out.trans (hb_.mono HB.out.size))
        clear hb_
        generalize cluOf Φ x = S4 at *
        have hs4 : ((⟨S4.toArray⟩ : ByteArray).toList == (⟨S4.toArray⟩ : ByteArray).toList) = true := by simp
        generalize (⟨S4.toArray⟩ : ByteArray) = D4 at *
        go_wp2_with fail
        refine (HW1.out _ _ HTr.out x).mono ?_
        rintro e w_ ⟨rfl, hb_⟩
        replace HTr := Lib.hid (HTr.out.below hb_)
        replace HRr := Lib.hid (HRr.out.below hb_)
        replace HB := Lib.hid (HB.out.trans (hb_.mono HB.out.size))
        clear hb_
        go_wp2_with fail
        refine (HW2.out _ B b HRr.out x).mono ?_
        rintro e w_ ⟨rfl, hb_⟩
        replace HTr := Lib.hid (HTr.out.below hb_)
        replace HRr := Lib.hid (HRr.out.below hb_)
        replace HB := Lib.hid (HB.out.trans (hb_.mono HB.out.size))
        clear hb_
        generalize txOf Φ.word x [] = S5 at *
        have hs5 : ((⟨S5.toArray⟩ : ByteArray).toList == (⟨S5.toArray⟩ : ByteArray).toList) = true := by simp
        generalize (⟨S5.toArray⟩ : ByteArray) = D5 at *
        go_wp2_with fail
        refine (HP1.out _ _ HTr.out x hxw).mono ?_
        rintro e w_ ⟨v4, rfl, hv4, hb_⟩
        obtain ⟨A4, c4, rfl⟩ := own_slice hv4
        have HV4 := Lib.hid hv4
        clear hv4
        replace HTr := Lib.hid (HTr.out.below hb_)
        replace HRr := Lib.hid (HRr.out.below hb_)
        replace HB := Lib.hid (HB.out.trans (hb_.mono HB.out.size))
        clear hb_
        go_wp2_with fail
        refine (HP2.out _ B b HRr.out x).mono ?_
        rintro e w_ ⟨v5, rfl, hv5, hb_⟩
        obtain ⟨A5, c5, rfl⟩ := own_slice hv5
        replace HV4 := Lib.hid (own_below HV4.out hb_)
        have HV5 := Lib.hid hv5
        clear hv5
        replace HTr := Lib.hid (HTr.out.below hb_)
        replace HRr := Lib.hid (HRr.out.below hb_)
        replace HB := Lib.hid (HB.out.trans (hb_.mono HB.out.size))
        clear hb_
        generalize partz Φ x = l1 at *
        go_wp2_with fail
        refine (equal_walk HV4.out HV5.out).mono ?_
        rintro e w_ ⟨rfl, hb_⟩
        rw [show (l1 == l1) = true by simp]
        replace HTr := Lib.hid (HTr.out.below hb_)
        replace HRr := Lib.hid (HRr.out.below hb_)
        replace HB := Lib.hid (HB.out.trans (hb_.mono HB.out.size))
        clear hb_
        clear HV4 HV5
        go_wp2_with fail
        refine (HF1.out _ _ HTr.out x hxw true).mono ?_
        rintro e w_ ⟨v4, rfl, hv4, hb_⟩
        obtain ⟨A4, c4, rfl⟩ := own_slice hv4
        have HV4 := Lib.hid hv4
        clear hv4
        replace HTr := Lib.hid (HTr.out.below hb_)
        replace HRr := Lib.hid (HRr.out.below hb_)
        replace HB := Lib.hid (HB.out.trans (hb_.mono HB.out.size))
        clear hb_
        go_wp2_with fail
        refine (HF2.out _ B b HRr.out x true).mono ?_
        rintro e w_ ⟨v5, rfl, hv5, hb_⟩
        obtain ⟨A5, c5, rfl⟩ := own_slice hv5
        replace HV4 := Lib.hid (own_below HV4.out hb_)
        have HV5 := Lib.hid hv5
        clear hv5
        replace HTr := Lib.hid (HTr.out.below hb_)
        replace HRr := Lib.hid (HRr.out.below hb_)
        replace HB := Lib.hid (HB.out.trans (hb_.mono HB.out.size))
        clear hb_
        generalize foldz Φ true x = l1 at *
        go_wp2_with fail
        refine (equal_walk HV4.out HV5.out).mono ?_
        rintro e w_ ⟨rfl, hb_⟩
        rw [show (l1 == l1) = true by simp]
        replace HTr := Lib.hid (HTr.out.below hb_)
        replace HRr := Lib.hid (HRr.out.below hb_)
        replace HB := Lib.hid (HB.out.trans (hb_.mono HB.out.size))
        clear hb_
        clear HV4 HV5
        go_wp2_with fail
        refine (HF1.out _ _ HTr.out x hxw false).mono ?_
        rintro e w_ ⟨v4, rfl, hv4, hb_⟩
        obtain ⟨A4, c4, rfl⟩ := own_slice hv4
        have HV4 := Lib.hid hv4
        clear hv4
        replace HTr := Lib.hid (HTr.out.below hb_)
        replace HRr := Lib.hid (HRr.out.below hb_)
        replace HB := Lib.hid (HB.out.trans (hb_.mono HB.out.size))
        clear hb_
        go_wp2_with fail
        refine (HF2.out _ B b HRr.out x false).mono ?_
        rintro e w_ ⟨v5, rfl, hv5, hb_⟩
        obtain ⟨A5, c5, rfl⟩ := own_slice hv5
        replace HV4 := Lib.hid (own_below HV4.out hb_)
        have HV5 := Lib.hid hv5
        clear hv5
        replace HTr := Lib.hid (HTr.out.below hb_)
        replace HRr := Lib.hid (HRr.out.below hb_)
        replace HB := Lib.hid (HB.out.trans (hb_.mono HB.out.size))
        clear hb_
        generalize foldz Φ false x = l1 at *
        go_wp2_with fail
        refine (equal_walk HV4.out HV5.out).mono ?_
        rintro e w_ ⟨rfl, hb_⟩
        rw [show (l1 == l1) = true by simp]
        replace HTr := Lib.hid (HTr.out.below hb_)
        replace HRr := Lib.hid (HRr.out.below hb_)
        replace HB := Lib.hid (HB.out.trans (hb_.mono HB.out.size))
        clear hb_
        clear HV4 HV5
        go_wp2_with fail
        go_roundw
        case rel => exact ⟨k + 1, by omega, by omega, by go_num, HB⟩
        case measure => simp [intOf]; omega
      · have d0 : decide ((k : Int) > 40) = true := by rw [decide_eq_true_eq]; omega
        clear hxm hxw
        have HBw := Lib.hid (HB2.out.trans (HB.out.mono HB2.out.size))
        go_wp2_with fail
        refine (HA.out _ HBw.out).mono ?_
        rintro e w9 ⟨rfl, hb9⟩
        have HB9 := Lib.hid (HBw.out.trans (hb9.mono HBw.out.size))
        clear hb9
        go_wp2_with fail
        go_ret
        exact ⟨rfl, HB9.out⟩
    · have hkl : k = zs.length := by omega
      subst hkl
      have HBw := Lib.hid (HB2.out.trans (HB.out.mono HB2.out.size))
      go_wp2_with fail
      refine (HA.out _ HBw.out).mono ?_
      rintro e w9 ⟨rfl, hb9⟩
      have HB9 := Lib.hid (HBw.out.trans (hb9.mono HBw.out.size))
      clear hb9
      go_wp2_with fail
      go_ret
      exact ⟨rfl, HB9.out⟩
end Go.Proofs.YtpmbebofinlmmaaGreatDoor
