/- rubricatorlaw10: awake. -/
import Derived.Test.YtkgomgfhfoomhaaGreatDoorClu
import Derived.Test.YtkgomgfhfoomhaaGreatDoorCatP
import Derived.Test.YtkgomgfhfoomhaaGreatDoorLod2
namespace Go.Proofs.YtkgomgfhfoomhaaGreatDoor
open Go.RowKit
set_option linter.unusedVariables false
set_option linter.unusedSimpArgs false

theorem own_two (w : World) (e : TypeId) (v u : Value) : (w.alloc (.cells #[v, u] e)).ownsRow w.heap.size e 1 (.slice (some ⟨w.heap.size, 0, none⟩) 2 2) 2 [v, u] :=
  ⟨rfl, .inr ⟨w.heap.size, 2, #[v, u], rfl, Nat.le_refl _, row_new _ _, by omega, by unfold maxLen; omega, rfl, rfl⟩⟩
def kindsB (f : Func) : Bool := Nat.beq (kindN (txOf (recsOf f) 101 [])) 0 && Nat.beq (kindN (txOf (recsOf f) 769 [])) 4
theorem kinds_awake : kindsB Tryz.f47 = true := by kernel_rfl
theorem edge0 (Φ : Files) : edgeOf Φ [101, 769] 0 = true := by unfold edgeOf; simp
theorem edge2 (Φ : Files) : edgeOf Φ [101, 769] 2 = true := by unfold edgeOf; simp
theorem edge1_of {Φ : Files} (h1 : kindN (txOf Φ.clu 101 []) = 0) (h2 : kindN (txOf Φ.clu 769 []) = 4) : edgeOf Φ [101, 769] 1 = false := by
  have a : ofK Φ [101, 769] (1 - 1) = 0 := by
    show kindN (cluOf Φ 101) = 0
    unfold cluOf
    rw [if_neg (by decide)]
    exact h1
  have b : ofK Φ [101, 769] 1 = 4 := by
    show kindN (cluOf Φ 769) = 4
    unfold cluOf
    rw [if_neg (by decide)]
    exact h2
  unfold edgeOf
  rw [if_neg (by decide), if_neg (by decide), a, b]
  unfold edgeMid
  rfl
set_option maxRecDepth 100000 in
theorem edge1 : edgeOf files [101, 769] 1 = false := by
  have h : kindsB Tryz.f47 = true := kinds_awake
  unfold kindsB at h
  simp only [Bool.and_eq_true] at h
  exact edge1_of (Nat.eq_of_beq_eq_true h.1) (Nat.eq_of_beq_eq_true h.2)
theorem edgef_walk {w : World} {m : Nat} {zs : List Int} {v : Value} (ht : TabAt w m files) (hl : ListAt w v zs) (p : Int) (hp : (Lit.int .i64 p).wf = true) :
    Calls Tryz.prog 28 #[.pointer (some ⟨m + 3, 0, none⟩), v, .int .i64 p] w fun e w' => e = .returned (.bool (edgeOf files zs p)) ∧ Below w.heap.size w w' :=
  edge_walk ht files_ok (txOf_ne files_cat 0 (by decide)) hl p hp
set_option maxRecDepth 100000 in
theorem awake10_walk (w : World) (hE : Env w) (hT : EnvT w) : Calls Tryz.prog 26 #[] w fun e w' => e = .returned (.bool true) ∧ Below w.heap.size w w' := by
  have HLD := Lib.hid (load_calls w hE hT)
  have HEd := Lib.hid (fun (W : World) (m : Nat) (v : Value) (ht : TabAt W m files) (hl : ListAt W v [101, 769]) (p : Int) (hp : (Lit.int .i64 p).wf = true) => edgef_walk ht hl p hp)
  have he0 := Lib.hid (edge0 files)
  have he1 := Lib.hid edge1
  have he2 := Lib.hid (edge2 files)
  generalize files = Φ at *
  clear hE hT
  go_enter Tryz.func26, Tryz.ntmps26
  go_wp2_with fail
  refine HLD.out.mono ?_
  rintro e w1 ⟨rfl, ht, hb1⟩
  have hba := alloc_below w1 (Obj.cells #[Value.int IntKind.i64 101, Value.int IntKind.i64 769] 3)
  have HT1 := Lib.hid (ht.below hba)
  have HB1 := Lib.hid (hb1.trans (hba.mono hb1.size))
  have HL1 := Lib.hid (ListAt.of_own (zs := [101, 769]) (own_two w1 3 (Value.int .i64 101) (Value.int .i64 769)))
  clear ht hb1 hba HLD
  go_wp2_with fail
  refine (HEd.out _ _ _ HT1.out HL1.out 0 (by decide)).mono ?_
  rintro e w2 ⟨rfl, hb2⟩
  rw [he0.out]
  have HT2 := Lib.hid (HT1.out.below hb2)
  have HL2 := Lib.hid (HL1.out.below hb2)
  have HB2 := Lib.hid (HB1.out.trans (hb2.mono HB1.out.size))
  clear hb2 HT1 HL1 HB1
  go_wp2_with fail
  refine (HEd.out _ _ _ HT2.out HL2.out 1 (by decide)).mono ?_
  rintro e w3 ⟨rfl, hb3⟩
  rw [he1.out]
  have HT3 := Lib.hid (HT2.out.below hb3)
  have HL3 := Lib.hid (HL2.out.below hb3)
  have HB3 := Lib.hid (HB2.out.trans (hb3.mono HB2.out.size))
  clear hb3 HT2 HL2 HB2
  go_wp2_with fail
  refine (HEd.out _ _ _ HT3.out HL3.out 2 (by decide)).mono ?_
  rintro e w4 ⟨rfl, hb4⟩
  rw [he2.out]
  have HB4 := Lib.hid (HB3.out.trans (hb4.mono HB3.out.size))
  clear hb4 HT3 HL3 HB3
  go_wp2_with fail
  go_ret
  exact ⟨rfl, HB4.out⟩
end Go.Proofs.YtkgomgfhfoomhaaGreatDoor
