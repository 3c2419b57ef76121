/- rubricatorlaw06: awake. -/
import Derived.Test.YtchkckfadennhaaGreatDoorAcc2M
import Derived.Test.YtchkckfadennhaaGreatDoorCatP
import Derived.Test.YtchkckfadennhaaGreatDoorAccM
namespace Go.Proofs.YtchkckfadennhaaGreatDoor
open Go.RowKit
set_option linter.unusedVariables false
set_option linter.unusedSimpArgs false

theorem own_lit2 (w : World) (e : TypeId) (a b : Value) : (w.alloc (.cells #[a, b] e)).ownsRow w.heap.size e 1 (.slice (some ⟨w.heap.size, 0, none⟩) 2 2) 2 [a, b] :=
  ⟨rfl, .inr ⟨w.heap.size, 2, #[a, b], rfl, Nat.le_refl _, row_new _ _, by omega, by unfold maxLen; omega, rfl, rfl⟩⟩
theorem cat_aw : firstOf (recsOf Tryz.f18) 65 [67, 110] = [76, 117] := by kernel_rfl
theorem fol_aw : (foldsOf true (recsOf Tryz.f26) 223) = some [115, 115] := by kernel_rfl
set_option maxRecDepth 100000 in
theorem files_cat_aw : firstOf files.cat 65 [67, 110] = [76, 117] := cat_aw
set_option maxRecDepth 100000 in
theorem files_fol_aw : foldsOf true files.fol 223 = some [115, 115] := fol_aw
set_option maxRecDepth 100000 in
theorem awake06_walk (w : World) (hE : Env w) (hT : EnvT w) : Calls Tryz.prog 15 #[] w fun e w' => e = .returned (.bool true) ∧ Below w.heap.size w w' := by
  have HLD := Lib.hid (load_calls w hE hT)
  have HC := Lib.hid (fun (W : World) (m : Nat) (ht : TabAt W m files) => category_walk ht files_ok 65)
  have HF := Lib.hid (fun (W : World) (m : Nat) (ht : TabAt W m files) => fold_walk ht files_ok 223 (by decide) true)
  rw [txOf_first (fun x hx => (files_ok.cat.ok x hx).2.1), files_cat_aw] at HC
  have h2 : foldz files true 223 = [115, 115] := by unfold foldz; rw [files_fol_aw]; rfl
  rw [h2] at HF
  generalize files = Φ at *
  clear hE hT h2
  go_enter Tryz.func15, Tryz.ntmps15
  go_wp2_with fail
  refine HLD.out.mono ?_
  rintro e w1 ⟨rfl, ht, hb1⟩
  have HT1 := Lib.hid ht
  have HB1 := Lib.hid hb1
  clear ht hb1 HLD
  go_wp2_with fail
  refine (HC.out _ _ HT1.out).mono ?_
  rintro e w2 ⟨rfl, hb2⟩
  have HT2 := Lib.hid (HT1.out.below hb2)
  have HB2 := Lib.hid (HB1.out.trans (hb2.mono HB1.out.size))
  clear hb2 HT1 HB1 HC
  go_wp2_with fail
  refine (HF.out _ _ HT2.out).mono ?_
  rintro e w3 ⟨v3, rfl, hv3, hb3⟩
  obtain ⟨A3, c3, rfl⟩ := own_slice hv3
  have hba := alloc_below w3 (Obj.cells #[Value.int IntKind.i64 115, Value.int IntKind.i64 115] 3)
  have HR3 := Lib.hid (own_below hv3 hba)
  have HR4 := Lib.hid (show IntsAt (w3.alloc (Obj.cells #[Value.int IntKind.i64 115, Value.int IntKind.i64 115] 3)) w3.heap.size _ [115, 115] from own_lit2 w3 3 (Value.int .i64 115) (Value.int .i64 115))
  have HB4 := Lib.hid (HB2.out.trans ((hb3.trans (hba.mono hb3.size)).mono HB2.out.size))
  clear hv3 hb3 hba HT2 HB2 HF
  go_wp2_with fail
  refine (equal_walk HR3.out HR4.out).mono ?_
  rintro e w5 ⟨rfl, hb5⟩
  have HB5 := Lib.hid (HB4.out.trans (hb5.mono HB4.out.size))
  rw [show (([115, 115] : List Int) == [115, 115]) = true by decide]
  clear hb5 HR3 HR4 HB4
  go_wp2_with fail
  go_ret
  exact ⟨rfl, HB5.out⟩
end Go.Proofs.YtchkckfadennhaaGreatDoor
