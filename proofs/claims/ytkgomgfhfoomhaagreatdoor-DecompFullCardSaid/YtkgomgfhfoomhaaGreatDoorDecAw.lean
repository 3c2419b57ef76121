/- rubricatorlaw07.awake. -/
import Derived.Test.YtkgomgfhfoomhaaGreatDoorDecB
import Derived.Test.YtkgomgfhfoomhaaGreatDoorInts
namespace Go.Proofs.YtkgomgfhfoomhaaGreatDoor
open Go.RowKit
set_option linter.unusedVariables false
set_option linter.unusedSimpArgs false

theorem own_lit3 (w : World) (e : TypeId) (a b c : Value) : (w.alloc (.cells #[a, b, c] e)).ownsRow w.heap.size e 1 (.slice (some ⟨w.heap.size, 0, none⟩) 3 3) 3 [a, b, c] :=
  ⟨rfl, .inr ⟨w.heap.size, 3, #[a, b, c], rfl, Nat.le_refl _, row_new _ _, by omega, by unfold maxLen; omega, rfl, rfl⟩⟩
theorem dall_aw : dall (partsOf (recsOf Tryz.f50)) 7785 = [115, 803, 775] := by kernel_rfl
set_option maxRecDepth 100000 in
theorem files_dall : dall (partsOf files.dec) 7785 = [115, 803, 775] := dall_aw
set_option maxRecDepth 100000 in
theorem awake07_walk (w : World) (hE : Env w) (hT : EnvT w) (hH : Hang w) : Calls Tryz.prog 23 #[] w fun e w' => e = .returned (.bool true) ∧ Below w.heap.size w w' := by
  have HLD := Lib.hid (load_calls w hE hT)
  have HD := Lib.hid (fun (W : World) (m : Nat) (ht : TabAt W m files) (hb : Below w.heap.size w W) => decf_walk ht (hH.below hb) 7785 (by decide))
  have Hd := Lib.hid files_dall
  generalize files = Φ at *
  clear hE hT hH
  go_enter Tryz.func23, Tryz.ntmps23
  go_wp2_with fail
  refine HLD.out.mono ?_
  rintro e w1 ⟨rfl, ht, hb1⟩
  have HT1 := Lib.hid ht
  have HB1 := Lib.hid hb1
  clear ht hb1 HLD
  go_wp2_with fail
  refine (HD.out _ _ HT1.out HB1.out).mono ?_
  rintro e w2 ⟨v2, rfl, hr2, hb2⟩
  rw [Hd.out] at hr2
  obtain ⟨A2, c2, rfl⟩ := own_slice hr2
  have hb3 := alloc_below w2 (Obj.cells #[Value.int IntKind.i64 115, Value.int IntKind.i64 803, Value.int IntKind.i64 775] 3)
  have HR2 := Lib.hid (own_below hr2 hb3)
  have HR3 := Lib.hid (show IntsAt (w2.alloc (Obj.cells #[Value.int IntKind.i64 115, Value.int IntKind.i64 803, Value.int IntKind.i64 775] 3)) w2.heap.size _ [115, 803, 775] from own_lit3 w2 3 (Value.int .i64 115) (Value.int .i64 803) (Value.int .i64 775))
  have HB3 := Lib.hid (HB1.out.trans ((hb2.trans (hb3.mono hb2.size)).mono HB1.out.size))
  clear hr2 hb2 hb3 HT1 HB1 HD
  go_wp2_with fail
  refine (equal_walk HR2.out HR3.out).mono ?_
  rintro e w4 ⟨rfl, hb4⟩
  have HB4 := Lib.hid (HB3.out.trans (hb4.mono HB3.out.size))
  have cc : (([115, 803, 775] : List Int) == [115, 803, 775]) = true := by decide
  rw [cc]
  clear hb4 HR2 HR3 HB3
  go_wp2_with fail
  go_ret
  exact ⟨rfl, HB4.out⟩
end Go.Proofs.YtkgomgfhfoomhaaGreatDoor
