/- rubricatorlaw09.FoldMeets answers true. -/
import Derived.Test.YtgdpfjipgmfjfaaGreatDoorMeetsA
namespace Go.Proofs.YtgdpfjipgmfjfaaGreatDoor
open Go.RowKit
set_option linter.unusedVariables false
set_option linter.unusedSimpArgs false

theorem wordMod (a : Int) : ∃ p : Nat, p < 1114112 ∧ (IntKind.u64.wrap a).tmod 1114112 = p ∧ wrap64 (p : Int) = p ∧ (Lit.int .i64 (p : Int)).wf = true ∧ 0 ≤ (p : Int) ∧ (p : Int) ≤ 1114111 := by
  obtain ⟨p, hp⟩ : ∃ p : Nat, (p : Int) = a % 18446744073709551616 % 1114112 := ⟨(a % 18446744073709551616 % 1114112).toNat, by omega⟩
  have hp2 : p < 1114112 := by omega
  refine ⟨p, hp2, by rw [tmod_of _ _ (by decide), hp], by unfold wrap64; omega, wf_i64 (by omega) (by omega), by omega, by omega⟩

set_option maxRecDepth 100000 in
theorem foldMeets_walk (a b : Int) (ha : (Lit.int .i64 a).wf = true) (hb : (Lit.int .i64 b).wf = true) (w : World) (hE : Env w) (hT : EnvT w) : Calls Tryz.prog 3 #[.int .i64 a, .int .i64 b] w fun e w' => e = .returned (.bool true) ∧ Below w.heap.size w w' := by
  have HLD := Lib.hid (load_calls w hE hT)
  have HA9 := Lib.hid (fun (W : World) (hb : Below w.heap.size w W) => awake9_walk W (hE.below hb) (hT.below hb))
  obtain ⟨p, hp2, a1, a2, wp, hp3⟩ := wordMod a
  obtain ⟨q, hq2, b1, b2, wq, hq3⟩ := wordMod b
  have HC := Lib.hid (fun (W : World) (m : Nat) (v : Value) (ht : TabAt W m files) (hb : Below w.heap.size w W) (hl : RListAt W v [⟨p, p⟩]) (hv : v = .slice none 0 0 ∨ ∃ ad n c, v = .slice (some ad) n c) => clof_walk ht (hE.below hb) hl hv (by simp))
  have HS1 := Lib.hid (fun (W : World) (m : Nat) (ht : TabAt W m files) => same_walk ht files_ok p q wp wq)
  have HS2 := Lib.hid (fun (W : World) (m : Nat) (ht : TabAt W m files) => same_walk ht files_ok q p wq wp)
  have Hset := Lib.hid files_settled
  have Hfew := Lib.hid files_few
  have Hok := Lib.hid files_ok
  generalize files = Φ at *
  clear hE hT ha hb wp wq
  go_enter Tryz.func3, Tryz.ntmps3
  go_wp2_with fail
  refine HLD.out.mono ?_
  rintro e w1 ⟨rfl, ht, hb1⟩
  have hba := alloc_below w1 (Obj.cells #[Value.int IntKind.i64 p, Value.int IntKind.i64 p] 28)
  have hown : RgsAt (w1.alloc (Obj.cells #[Value.int IntKind.i64 p, Value.int IntKind.i64 p] 28)) w1.heap.size (.slice (some ⟨w1.heap.size, 0, none⟩) 1 1) [⟨p, p⟩] := own_cellsN w1 28 2 1 [Value.int IntKind.i64 p, Value.int IntKind.i64 p] rfl (by decide)
  have HT1 := Lib.hid (ht.below hba)
  have HB1 := Lib.hid (hb1.trans (hba.mono hb1.size))
  have HL1 := Lib.hid (RListAt.of_own hown)
  clear ht hb1 hba HLD hown
  go_wp2_with fail
  refine (HC.out _ _ _ HT1.out HB1.out HL1.out (.inr ⟨_, _, _, rfl⟩)).mono ?_
  intro e w2 hcl
  obtain ⟨v2, L, rfl, hr2, hcan, hset, hb2⟩ := closure_set Hset.out hcl
  have HT2 := Lib.hid (HT1.out.below hb2)
  have HB2 := Lib.hid (HB1.out.trans (hb2.mono HB1.out.size))
  have HR2 := Lib.hid (RListAt.of_own hr2)
  have HN := Lib.hid (clo_narrow Hok.out Hset.out Hfew.out hp3 hcan hset)
  have hhas : hasB L q = (simpleOf Φ p == simpleOf Φ q) := by
    have h1 := hasB_iff L q
    have h2 := clo_meets Hset.out p q hp3 hq3
    rw [← hset] at h2
    cases hs : (simpleOf Φ p == simpleOf Φ q) with
    | true =>
      rw [beq_iff_eq] at hs
      exact h1.2 ⟨hq3, h2.2 hs⟩
    | false =>
      rw [beq_eq_false_iff_ne] at hs
      cases hh : hasB L q with
      | false => rfl
      | true => exact absurd (h2.1 (h1.1 hh).2) hs
  have hcomm : (simpleOf Φ q == simpleOf Φ p) = (simpleOf Φ p == simpleOf Φ q) := BEq.comm
  have HH := Lib.hid hhas
  have HCm := Lib.hid hcomm
  clear hcl hb2 hr2 hcan hset hhas hcomm HT1 HB1 HL1 HC hp3 hq3
  obtain ⟨A2, n2, c2, rfl⟩ : ∃ A n c, v2 = .slice A n c := by obtain ⟨A, c, h, _⟩ := HR2.out; exact ⟨A, _, c, h⟩
  go_wp2_with fail
  refine (HS1.out _ _ HT2.out).mono ?_
  rintro e w3 ⟨rfl, hb3⟩
  have HT3 := Lib.hid (HT2.out.below hb3)
  have HB3 := Lib.hid (HB2.out.trans (hb3.mono HB2.out.size))
  have HR3 := Lib.hid (HR2.out.below hb3)
  clear hb3 HT2 HB2 HR2
  go_wp2_with fail
  refine (has3_walk _ _ L q HR3.out).mono ?_
  rintro e w4 ⟨rfl, hb4⟩
  rw [HH.out]
  have HT4 := Lib.hid (HT3.out.below hb4)
  have HB4 := Lib.hid (HB3.out.trans (hb4.mono HB3.out.size))
  have HR4 := Lib.hid (HR3.out.below hb4)
  clear hb4 HT3 HB3 HR3
  have e1 : ((simpleOf Φ p == simpleOf Φ q) == (simpleOf Φ p == simpleOf Φ q)) = true := by simp
  go_wp2_with fail
  refine (HS1.out _ _ HT4.out).mono ?_
  rintro e w5 ⟨rfl, hb5⟩
  have HT5 := Lib.hid (HT4.out.below hb5)
  have HB5 := Lib.hid (HB4.out.trans (hb5.mono HB4.out.size))
  have HR5 := Lib.hid (HR4.out.below hb5)
  clear hb5 HT4 HB4 HR4
  go_wp2_with fail
  refine (HS2.out _ _ HT5.out).mono ?_
  rintro e w6 ⟨rfl, hb6⟩
  rw [HCm.out]
  have HB6 := Lib.hid (HB5.out.trans (hb6.mono HB5.out.size))
  have HR6 := Lib.hid (HR5.out.below hb6)
  clear hb6 HT5 HB5 HR5
  go_wp2_with fail
  refine (wide_walk _ _ L HR6.out HN.out.1 HN.out.2).mono ?_
  rintro e w7 ⟨rfl, hb7⟩
  have HB7 := Lib.hid (HB6.out.trans (hb7.mono HB6.out.size))
  clear hb7 HB6 HR6
  go_wp2_with fail
  refine (HA9.out _ HB7.out).mono ?_
  rintro e w8 ⟨rfl, hb8⟩
  have HB8 := Lib.hid (HB7.out.trans (hb8.mono HB7.out.size))
  clear hb8 HB7
  go_wp2_with fail
  go_ret
  exact ⟨rfl, HB8.out⟩
end Go.Proofs.YtgdpfjipgmfjfaaGreatDoor

