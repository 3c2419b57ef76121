/- rubricatorlaw11.WordNobody answers true. -/
import Derived.Test.YtgdpfjipgmfjfaaGreatDoorNoneW
import Derived.Test.YtgdpfjipgmfjfaaGreatDoorWrdS
import Derived.Test.YtgdpfjipgmfjfaaGreatDoorWrdAw
import Derived.Test.YtgdpfjipgmfjfaaGreatDoorOpen
namespace Go.Proofs.YtgdpfjipgmfjfaaGreatDoor
open Go.RowKit
set_option linter.unusedVariables false
set_option linter.unusedSimpArgs false

theorem cat_none (w : World) (p : Option Addr) (h : TbNone w p) : CatIs w (.pointer p) (fun _ => []) := fun W hW r => (category_none W p (h.below hW) r).mono fun e W' ⟨h1, h2⟩ => ⟨h1, by subst h2; exact Below.refl _ _⟩
theorem isW_nil : isW [] = false := by decide
theorem inW_none (zs : List Int) (i : Int) : inW (fun _ => []) zs i = false := by unfold inW; rw [isW_nil, Bool.and_false]
theorem simpleW_none (zs : List Int) (i : Int) : simpleW (fun _ => []) zs i = false := by unfold simpleW; rw [inW_none, inW_none]; simp
set_option maxRecDepth 100000 in
theorem wedge_none (w : World) (p : Option Addr) (h : TbNone w p) (A : Option Addr) (n c : Nat) (q : Int) : Calls Tryz.prog 38 #[.pointer p, .slice A n c, .int .i64 q] w fun e w' => e = .returned (.bool false) ∧ Below w.heap.size w w' := by
  have HC := Lib.hid (category_none _ _ h 0)
  clear h
  go_enter Tryz.func38, Tryz.ntmps38
  go_wp2_with (go_at_call 66; refine HC.out.mono ?_; rintro e w' ⟨rfl, rfl⟩)
  go_ret
  exact ⟨rfl, Below.refl _ _⟩
set_option maxRecDepth 100000 in
theorem wordNobody_walk {v : Value} {zs : List Int} (w : World) (hl0 : ListV w v zs) (q r : Int) (hq : (Lit.int .i64 q).wf = true) (hr : (Lit.int .i64 r).wf = true) (hE : Env w) (hT : EnvT w) : Calls Tryz.prog 10 #[v, .int .i64 q, .int .i64 r] w fun e w' => e = .returned (.bool true) ∧ Below w.heap.size w w' := by
  have hl := hl0.1
  clear hl0
  have HA := Lib.hid (fun (W : World) (hb : Below w.heap.size w W) => awake11_walk W (hE.below hb) (hT.below hb))
  have HL := Lib.hid (fun (W : World) (hb : Below w.heap.size w W) => hl.below hb)
  obtain ⟨A, c, rfl, _⟩ := hl
  clear hE hT
  go_enter Tryz.func10, Tryz.ntmps10
  go_wp2
  obtain ⟨W1, hW1⟩ : ∃ W1, W1 = (w.alloc (Obj.cells #[Value.pointer none, Value.pointer none, Value.pointer none, Value.pointer none, Value.pointer none, Value.slice none 0 0, Value.slice none 0 0, Value.map none, Value.map none, Value.map none] 59)).alloc (Obj.cells #[Value.pointer none, Value.pointer (some { block := w.heap.size, off := 0 })] 23) := ⟨_, rfl⟩
  have hB1 : Below w.heap.size w W1 := by subst hW1; exact ((Below.refl _ _).alloc (Nat.le_refl _) _).alloc (by simp) _
  have hs1 : W1.heap.size = w.heap.size + 2 := by subst hW1; simp
  have c0 : W1.cell? ⟨w.heap.size + 1, 0, none⟩ = some (.pointer none) := by subst hW1; go_simp
  have c1 : W1.cell? ⟨w.heap.size + 1, 1, none⟩ = some (.pointer (some ⟨w.heap.size, 0, none⟩)) := by subst hW1; go_simp
  have c2 : W1.cell? ⟨w.heap.size, 7, none⟩ = some (.map none) := by subst hW1; go_simp
  rw [← hW1]
  have HB1 := Lib.hid hB1
  clear hW1 hB1
  go_loopw [13] (fun i wr => ∃ k : Nat, k ≤ 2 ∧ i = .int .i64 k ∧ Hid (Below W1.heap.size W1 wr)) (fun i _ => 2 - (intOf i).toNat)
  case atStart => exact ⟨0, by omega, rfl, Below.refl _ _⟩
  case round =>
    obtain ⟨k, hk, rfl, HB⟩ := hrel
    have HBr := Lib.hid (HB1.out.trans (HB.out.mono HB1.out.size))
    by_cases h2 : 2 ≤ k
    · clear c0 c1 c2 HB
      go_wp2_with fail
      refine (HA.out wr HBr.out).mono ?_
      rintro e w9 ⟨rfl, hb9⟩
      have HB9 := Lib.hid (HBr.out.trans (hb9.mono HBr.out.size))
      clear hb9 HBr
      go_wp2_with fail
      go_ret
      exact ⟨rfl, HB9.out⟩
    · have hx : ∃ p, wr.cell? ⟨w.heap.size + 1, k, none⟩ = some (.pointer p) ∧ TbNone wr p := by
        rcases (by omega : k = 0 ∨ k = 1) with rfl | rfl
        · exact ⟨_, cell_later HB.out c0, .inl rfl⟩
        · exact ⟨_, cell_later HB.out c1, .inr ⟨_, rfl, cell_later HB.out c2⟩⟩
      obtain ⟨p, hp, hn⟩ := hx
      have hlt : k < 2 := by omega
      have HN := Lib.hid hn
      clear c0 c1 c2 h2 hn
      go_wp2_with fail
      refine (wedge_none _ _ HN.out _ _ _ _).mono ?_
      rintro e w5 ⟨rfl, hb5⟩
      have HN5 := Lib.hid (HN.out.below hb5)
      have HB5 := Lib.hid (HB.out.trans (hb5.mono HB.out.size))
      have HBr5 := Lib.hid (HBr.out.trans (hb5.mono HBr.out.size))
      clear hb5 HN HB hp HBr
      go_wp2_with fail
      refine (simple_of (cat_none _ _ HN5.out) (HL.out _ HBr5.out) q hq).mono ?_
      rintro e w6 ⟨rfl, hb6⟩
      rw [simpleW_none]
      have HN6 := Lib.hid (HN5.out.below hb6)
      have HB6 := Lib.hid (HB5.out.trans (hb6.mono HB5.out.size))
      clear hb6 HN5 HB5 HBr5
      go_wp2_with fail
      refine (is_of (cat_none _ _ HN6.out) r).mono ?_
      rintro e w7 ⟨rfl, hb7⟩
      rw [show isW ((fun _ => []) r) = false from isW_nil]
      have HB7 := Lib.hid (HB6.out.trans (hb7.mono HB6.out.size))
      clear hb7 HN6 HB6
      go_wp2_with fail
      go_roundw
      case rel => exact ⟨k + 1, by omega, by go_num, HB7⟩
      case measure => simp [intOf]; omega
end Go.Proofs.YtgdpfjipgmfjfaaGreatDoor
