/- rubricatorlaw11: awake. -/
import Derived.Test.YtkgomgfhfoomhaaGreatDoorWrdE
import Derived.Test.YtkgomgfhfoomhaaGreatDoorCatP
import Derived.Test.YtkgomgfhfoomhaaGreatDoorLod2
namespace Go.Proofs.YtkgomgfhfoomhaaGreatDoor
open Go.RowKit
set_option linter.unusedVariables false
set_option linter.unusedSimpArgs false

theorem wedgef_walk {w : World} {m : Nat} {zs : List Int} {v : Value} (ht : TabAt w m files) (hl : ListAt w v zs) (p : Int) (hp : (Lit.int .i64 p).wf = true) :
    Calls Tryz.prog 30 #[.pointer (some ⟨m + 3, 0, none⟩), v, .int .i64 p] w fun e w' => e = .returned (.bool (edgeW (wOf files zs) zs.length p)) ∧ Below w.heap.size w w' :=
  wedge_walk ht files_ok (txOf_ne files_cat 0 (by decide)) hl p hp
theorem own_lit5 (w : World) (e : TypeId) (a b c d x : Value) : (w.alloc (.cells #[a, b, c, d, x] e)).ownsRow w.heap.size e 1 (.slice (some ⟨w.heap.size, 0, none⟩) 5 5) 5 [a, b, c, d, x] :=
  ⟨rfl, .inr ⟨w.heap.size, 5, #[a, b, c, d, x], rfl, Nat.le_refl _, row_new _ _, by omega, by unfold maxLen; omega, rfl, rfl⟩⟩
set_option maxRecDepth 100000 in
theorem awake11_walk (w : World) (hE : Env w) (hT : EnvT w) : Calls Tryz.prog 32 #[] w fun e w' => e = .returned (.bool true) ∧ Below w.heap.size w w' := by
  have HLD := Lib.hid (load_calls w hE hT)
  have HEd := Lib.hid (fun (W : World) (m : Nat) (v : Value) (ht : TabAt W m files) (hl : ListAt W v [99, 97, 110, 39, 116]) (p : Int) (hp : (Lit.int .i64 p).wf = true) => wedgef_walk ht hl p hp)
  have Haw := Lib.hid files_words.awake
  generalize files = Φ at *
  clear hE hT
  go_enter Tryz.func32, Tryz.ntmps32
  go_wp2_with fail
  refine HLD.out.mono ?_
  rintro e w1 ⟨rfl, ht, hb1⟩
  have hba := alloc_below w1 (Obj.cells #[Value.int IntKind.i64 99, Value.int IntKind.i64 97, Value.int IntKind.i64 110, Value.int IntKind.i64 39, Value.int IntKind.i64 116] 3)
  have HT1 := Lib.hid (ht.below hba)
  have HB1 := Lib.hid (hb1.trans (hba.mono hb1.size))
  have HL1 := Lib.hid (ListAt.of_own (zs := [99, 97, 110, 39, 116]) (own_lit5 w1 3 (Value.int .i64 99) (Value.int .i64 97) (Value.int .i64 110) (Value.int .i64 39) (Value.int .i64 116)))
  clear ht hb1 hba HLD
  go_wp2_with fail
  refine (HEd.out _ _ _ HT1.out HL1.out 0 (by decide)).mono ?_
  rintro e w2 ⟨rfl, hb2⟩
  rw [show edgeW (wOf Φ [99, 97, 110, 39, 116]) ([99, 97, 110, 39, 116] : List Int).length 0 = true from Haw.out.1]
  have HT2 := Lib.hid (HT1.out.below hb2)
  have HL2 := Lib.hid (HL1.out.below hb2)
  have HB2 := Lib.hid (HB1.out.trans (hb2.mono HB1.out.size))
  clear hb2 HT1 HL1 HB1
  go_wp2_with fail
  refine (HEd.out _ _ _ HT2.out HL2.out 3 (by decide)).mono ?_
  rintro e w3 ⟨rfl, hb3⟩
  rw [show edgeW (wOf Φ [99, 97, 110, 39, 116]) ([99, 97, 110, 39, 116] : List Int).length 3 = false from Haw.out.2.1]
  have HT3 := Lib.hid (HT2.out.below hb3)
  have HL3 := Lib.hid (HL2.out.below hb3)
  have HB3 := Lib.hid (HB2.out.trans (hb3.mono HB2.out.size))
  clear hb3 HT2 HL2 HB2
  go_wp2_with fail
  refine (HEd.out _ _ _ HT3.out HL3.out 4 (by decide)).mono ?_
  rintro e w4 ⟨rfl, hb4⟩
  rw [show edgeW (wOf Φ [99, 97, 110, 39, 116]) ([99, 97, 110, 39, 116] : List Int).length 4 = false from Haw.out.2.2.1]
  have HT4 := Lib.hid (HT3.out.below hb4)
  have HL4 := Lib.hid (HL3.out.below hb4)
  have HB4 := Lib.hid (HB3.out.trans (hb4.mono HB3.out.size))
  clear hb4 HT3 HL3 HB3
  go_wp2_with fail
  refine (HEd.out _ _ _ HT4.out HL4.out 5 (by decide)).mono ?_
  rintro e w5 ⟨rfl, hb5⟩
  rw [show edgeW (wOf Φ [99, 97, 110, 39, 116]) ([99, 97, 110, 39, 116] : List Int).length 5 = true from Haw.out.2.2.2]
  have HB5 := Lib.hid (HB4.out.trans (hb5.mono HB4.out.size))
  clear hb5 HT4 HL4 HB4
  go_wp2_with fail
  go_ret
  exact ⟨rfl, HB5.out⟩
end Go.Proofs.YtkgomgfhfoomhaaGreatDoor
