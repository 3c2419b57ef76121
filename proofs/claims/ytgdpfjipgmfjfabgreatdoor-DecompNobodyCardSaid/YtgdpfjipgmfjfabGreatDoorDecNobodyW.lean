/- rubricatorlaw07.DecompNobody answers true. -/
import Derived.Test.YtgdpfjipgmfjfabGreatDoorNoneW
import Derived.Test.YtgdpfjipgmfjfabGreatDoorDecB
import Derived.Test.YtgdpfjipgmfjfabGreatDoorInts
import Derived.Test.YtgdpfjipgmfjfabGreatDoorShelf4
namespace Go.Proofs.YtgdpfjipgmfjfabGreatDoor
open Go.RowKit
set_option linter.unusedVariables false
set_option linter.unusedSimpArgs false

theorem full_none (w : World) (p : Option Addr) (h : TbNone w p) (r : Int) : Calls Tryz.prog 4 #[.pointer p, .int .i64 r] w fun e w' => e = .returned (.slice none 0 0) ∧ w = w' := by
  have HC := Lib.hid (category_none _ _ h 0)
  clear h
  go_enter Tryz.func4, Tryz.ntmps4
  go_wp2_with (go_at_call 8; refine HC.out.mono ?_; rintro e w' ⟨rfl, rfl⟩)
  refine wp_scope_label 0 (fun _ _ _ => False) rfl ?_ ?_
  · intro n a w1 h
    exact h.elim
  · intro _
    go_wp2_with (go_at_call 8; refine HC.out.mono ?_; rintro e w' ⟨rfl, rfl⟩)
    simp only [Exit.jump]
    go_ret
    exact ⟨rfl, rfl⟩
theorem members_nil (w : World) : Calls Tryz.prog 13 #[.slice none 0 0] w fun e w' => e = .returned (.bool false) ∧ w = w' := by
  go_enter Tryz.func13, Tryz.ntmps13
  go_wp2
  go_ret
  exact ⟨rfl, rfl⟩
theorem singles_nil (w : World) : Calls Tryz.prog 14 #[.slice none 0 0] w fun e w' => e = .returned (.bool false) ∧ w = w' := by
  go_enter Tryz.func14, Tryz.ntmps14
  go_wp2
  go_ret
  exact ⟨rfl, rfl⟩
theorem sort_nil (w : World) : Calls Tryz.prog 22 #[.slice none 0 0] w fun e w' => e = .returned (.tuple #[]) ∧ Below w.heap.size w w' := by
  refine (Tryz.slices_Sort_int_none none 0 w).mono ?_
  rintro e w' ⟨rfl, rfl⟩
  exact ⟨rfl, Below.refl _ _⟩
set_option maxRecDepth 100000 in
set_option maxHeartbeats 1600000 in
theorem listed_none (w : World) (p : Option Addr) (h : TbNone w p) (g : FuncId) (hg : ∀ (args : Array Value) (W : World), (callFunc g args).run Tryz.prog W = .ok (.enter g args) W) (hw : ∀ W : World, Calls Tryz.prog g #[.slice none 0 0] W fun e w' => e = .returned (.bool false) ∧ W = w') (hE : Env w) :
    Calls Tryz.prog 12 #[.pointer p, .func (.func g) #[] #[]] w fun e w' => e = .returned (.slice none 0 0) ∧ Below w.heap.size w w' := by
  obtain ⟨t, ht1, ht2⟩ := texts_ok.dec
  have HP := Lib.hid (ht2 w hE)
  have HT := Lib.hid ht1
  have HW := Lib.hid hw
  have HN := Lib.hid h
  have Hok := Lib.hid (files_ok.decl.ok)
  have hdl := files_ok.decl.le
  generalize files = Φ at *
  clear ht1 ht2 hE hw h
  go_enter Tryz.func12, Tryz.ntmps12
  go_wp2_with fail
  refine (HT.out w).mono ?_
  rintro e w ⟨rfl, rfl⟩
  go_wp2_with fail
  refine HP.out.mono ?_
  rintro e w1 ⟨vl, fv, rfl, hR, hb1⟩
  obtain ⟨A0, c0, rfl⟩ := own_slice hR.row
  have HR := Lib.hid hR
  have HB1 := Lib.hid hb1
  replace HN := Lib.hid (HN.out.below hb1)
  clear hR hb1 HP HT
  go_wp2_with fail
  go_loopw [5, 20] (fun o i wr => ∃ k : Nat, k ≤ Φ.dec.length ∧ o = .slice none 0 0 ∧ i = .int .i64 k ∧ Hid (Below w1.heap.size w1 wr)) (fun _ i _ => Φ.dec.length - (intOf i).toNat)
  case atStart => exact ⟨0, by omega, rfl, rfl, Below.refl _ _⟩
  case round =>
    obtain ⟨k, hk, rfl, rfl, HB⟩ := hrel
    by_cases hlt : k < Φ.dec.length
    · have hRr := HR.out.below HB.out
      obtain ⟨g0, cap0, hv, _, _, _, _⟩ := own_form hRr.row (by omega)
      injection hv with hA hn0 hc0
      subst hA hc0
      obtain ⟨u, hu⟩ : ∃ u, u = fv[k]'(by rw [← HR.out.len]; exact hlt) := ⟨_, rfl⟩
      obtain ⟨x, hx⟩ : ∃ x, x = Φ.dec[k] := ⟨_, rfl⟩
      obtain ⟨e0, e1, e2⟩ := recCells_get Φ.dec fv k HR.out.len hlt
      rw [← hx] at e0 e1
      rw [← hu] at e2
      have c0 := own_cell hRr.row _ _ e0
      have c1 := own_cell hRr.row _ _ e1
      have c2 := own_cell hRr.row _ _ e2
      have hfld := hRr.fld k x u (by rw [hx]; exact List.getElem?_eq_getElem hlt) (by rw [hu]; exact List.getElem?_eq_getElem _)
      have hxo := Hok.out x (by rw [hx]; exact List.getElem_mem _)
      obtain ⟨hx1, hx2, _⟩ := hxo
      obtain ⟨Au, cu, rfl⟩ := own_slice hfld
      have hbx := alloc_below wr (Obj.cells #[Value.int IntKind.i64 x.lo, Value.int IntKind.i64 x.hi, Value.slice Au x.fields.length cu] 54)
      have hrx := (cells_of_row (row_new wr (Obj.cells #[Value.int IntKind.i64 x.lo, Value.int IntKind.i64 x.hi, Value.slice Au x.fields.length cu] 54))).1 1
      have HBx := Lib.hid (HB.out.trans (hbx.mono HB.out.size))
      have HN2 := Lib.hid ((HN.out.below HB.out).below hbx)
      have Hrx := Lib.hid hrx
      clear hRr hx hu e0 e1 e2 hfld hbx hrx HB
      obtain ⟨Wa, hWa⟩ : ∃ Wa, Wa = wr.alloc (Obj.cells #[Value.int IntKind.i64 x.lo, Value.int IntKind.i64 x.hi, Value.slice Au x.fields.length cu] 54) := ⟨_, rfl⟩
      rw [← hWa] at HBx HN2 Hrx
      go_wp2_with fail
      rw [← hWa]
      clear hWa c0 c1 c2
      go_loopw [5, 11] (fun o r wx => ∃ q : Int, o = .slice none 0 0 ∧ r = .int .i64 q ∧ ((x.lo : Int) ≤ q ∧ q ≤ (x.hi : Int) + 1) ∧ Hid (Below Wa.heap.size Wa wx)) (fun _ r _ => ((x.hi : Int) + 1 - intOf r).toNat)
      case atStart => exact ⟨x.lo, rfl, rfl, by omega, Below.refl _ _⟩
      case round =>
        obtain ⟨q, rfl, rfl, hq, HBy⟩ := hrel
        have hc := cell_later HBy.out Hrx.out
        by_cases hle : q ≤ (x.hi : Int)
        · have d1 := decide_eq_true hle
          have a1 : IntKind.i64.wrap (q + 1) = q + 1 := by rw [IntKind.wrap_i64]; omega
          go_wp2_with fail
          refine (full_none _ _ (HN2.out.below HBy.out) q).mono ?_
          rintro e wz ⟨rfl, rfl⟩
          go_wp2_with fail
          refine (HW.out _).mono ?_
          rintro e wz ⟨rfl, rfl⟩
          go_wp2_with fail
          go_roundw
          case rel => exact ⟨q + 1, rfl, rfl, by omega, HBy⟩
          case measure => simp only [intOf]; omega
        · have d1 := decide_eq_false hle
          have HBz := Lib.hid (HBx.out.trans (HBy.out.mono HBx.out.size))
          go_wp2_with fail
          go_roundw
          case rel => exact ⟨k + 1, by omega, rfl, by go_num, HBz⟩
          case measure => simp [intOf]; omega
    · obtain rfl : k = Φ.dec.length := by omega
      have HBr := Lib.hid (HB1.out.trans (HB.out.mono HB1.out.size))
      clear HB
      go_wp2_with fail
      refine (sort_nil _).mono ?_
      rintro e w9 ⟨rfl, hb9⟩
      have HB9 := Lib.hid (HBr.out.trans (hb9.mono HBr.out.size))
      clear hb9
      go_wp2_with fail
      go_ret
      exact ⟨rfl, HB9.out⟩
theorem members_none (w : World) (p : Option Addr) (h : TbNone w p) (hE : Env w) : Calls Tryz.prog 5 #[.pointer p] w fun e w' => e = .returned (.slice none 0 0) ∧ Below w.heap.size w w' := by
  have HL := Lib.hid (listed_none w p h 13 (fun args W => by simp [go_sem]) members_nil hE)
  clear h hE
  go_enter Tryz.func5, Tryz.ntmps5
  go_wp2_with fail
  refine HL.out.mono ?_
  rintro e w1 ⟨rfl, hb1⟩
  have HB1 := Lib.hid hb1
  clear hb1 HL
  go_wp2_with fail
  go_ret
  exact ⟨rfl, HB1.out⟩
theorem singles_none (w : World) (p : Option Addr) (h : TbNone w p) (hE : Env w) : Calls Tryz.prog 6 #[.pointer p] w fun e w' => e = .returned (.slice none 0 0) ∧ Below w.heap.size w w' := by
  have HL := Lib.hid (listed_none w p h 14 (fun args W => by simp [go_sem]) singles_nil hE)
  clear h hE
  go_enter Tryz.func6, Tryz.ntmps6
  go_wp2_with fail
  refine HL.out.mono ?_
  rintro e w1 ⟨rfl, hb1⟩
  have HB1 := Lib.hid hb1
  clear hb1 HL
  go_wp2_with fail
  go_ret
  exact ⟨rfl, HB1.out⟩
theorem own_lit3 (w : World) (e : TypeId) (a b c : Value) : (w.alloc (.cells #[a, b, c] e)).ownsRow w.heap.size e 1 (.slice (some ⟨w.heap.size, 0, none⟩) 3 3) 3 [a, b, c] :=
  ⟨rfl, .inr ⟨w.heap.size, 3, #[a, b, c], rfl, Nat.le_refl _, row_new _ _, by omega, by unfold maxLen; omega, rfl, rfl⟩⟩
theorem dall_aw : dall (partsOf (recsOf Tryz.f21)) 7785 = [115, 803, 775] := by kernel_rfl
set_option maxRecDepth 100000 in
theorem files_dall : dall (partsOf files.dec) 7785 = [115, 803, 775] := dall_aw
set_option maxRecDepth 100000 in
theorem awake07_walk (w : World) (hE : Env w) (hT : EnvT w) (hH : Hang w) : Calls Tryz.prog 7 #[] w fun e w' => e = .returned (.bool true) ∧ Below w.heap.size w w' := by
  have HLD := Lib.hid (load_calls w hE hT)
  have HD := Lib.hid (fun (W : World) (m : Nat) (ht : TabAt W m files) (hb : Below w.heap.size w W) => decf_walk ht (hH.below hb) 7785 (by decide))
  have Hd := Lib.hid files_dall
  generalize files = Φ at *
  clear hE hT hH
  go_enter Tryz.func7, Tryz.ntmps7
  go_wp2_with fail
  refine HLD.out.mono ?_
  rintro e w1 ⟨rfl, ht, hb1⟩
  have HT1 := Lib.hid ht
  have HB1 := Lib.hid hb1
  clear ht hb1 HLD
  go_wp2_with fail
  refine (HD.out _ _ HT1.out HB1.out).mono ?_
  rintro e w2 ⟨v2, rfl, hr2, hb2⟩
  rw [Hd.out] at hr2
  obtain ⟨A2, c2, rfl⟩ := own_slice hr2
  have hb3 := alloc_below w2 (Obj.cells #[Value.int IntKind.i64 115, Value.int IntKind.i64 803, Value.int IntKind.i64 775] 3)
  have HR2 := Lib.hid (own_below hr2 hb3)
  have HR3 := Lib.hid (show IntsAt (w2.alloc (Obj.cells #[Value.int IntKind.i64 115, Value.int IntKind.i64 803, Value.int IntKind.i64 775] 3)) w2.heap.size _ [115, 803, 775] from own_lit3 w2 3 (Value.int .i64 115) (Value.int .i64 803) (Value.int .i64 775))
  have HB3 := Lib.hid (HB1.out.trans ((hb2.trans (hb3.mono hb2.size)).mono HB1.out.size))
  clear hr2 hb2 hb3 HT1 HB1 HD
  go_wp2_with fail
  refine (equal_walk HR2.out HR3.out).mono ?_
  rintro e w4 ⟨rfl, hb4⟩
  have HB4 := Lib.hid (HB3.out.trans (hb4.mono HB3.out.size))
  have cc : (([115, 803, 775] : List Int) == [115, 803, 775]) = true := by decide
  rw [cc]
  clear hb4 HR2 HR3 HB3
  go_wp2_with fail
  go_ret
  exact ⟨rfl, HB4.out⟩
set_option maxRecDepth 100000 in
set_option maxHeartbeats 1600000 in
theorem decompNobody_walk (r : Int) (hr : (Lit.int .i64 r).wf = true) (w : World) (hE : Env w) (hT : EnvT w) (hH : Hang w) : Calls Tryz.prog 3 #[.int .i64 r] w fun e w' => e = .returned (.bool true) ∧ Below w.heap.size w w' := by
  have HA := Lib.hid (fun (W : World) (hb : Below w.heap.size w W) => awake07_walk W (hE.below hb) (hT.below hb) (hH.below hb))
  have HEn := Lib.hid (fun (W : World) (hb : Below w.heap.size w W) => hE.below hb)
  clear hE hT hH hr
  go_enter Tryz.func3, Tryz.ntmps3
  go_wp2
  obtain ⟨W1, hW1⟩ : ∃ W1, W1 = (w.alloc (Obj.cells #[Value.pointer none, Value.pointer none, Value.pointer none, Value.pointer none, Value.pointer none, Value.slice none 0 0, Value.slice none 0 0, Value.map none, Value.map none, Value.map none] 31)).alloc (Obj.cells #[Value.pointer none, Value.pointer (some { block := w.heap.size, off := 0 })] 22) := ⟨_, rfl⟩
  have hB1 : Below w.heap.size w W1 := by subst hW1; exact ((Below.refl _ _).alloc (Nat.le_refl _) _).alloc (by simp) _
  have hs1 : W1.heap.size = w.heap.size + 2 := by subst hW1; simp
  have c0 : W1.cell? ⟨w.heap.size + 1, 0, none⟩ = some (.pointer none) := by subst hW1; go_simp
  have c1 : W1.cell? ⟨w.heap.size + 1, 1, none⟩ = some (.pointer (some ⟨w.heap.size, 0, none⟩)) := by subst hW1; go_simp
  have c2 : W1.cell? ⟨w.heap.size, 7, none⟩ = some (.map none) := by subst hW1; go_simp
  rw [← hW1]
  have HB1 := Lib.hid hB1
  clear hW1 hB1
  go_loopw [9] (fun i wr => ∃ k : Nat, k ≤ 2 ∧ i = .int .i64 k ∧ Hid (Below W1.heap.size W1 wr)) (fun i _ => 2 - (intOf i).toNat)
  case atStart => exact ⟨0, by omega, rfl, Below.refl _ _⟩
  case round =>
    obtain ⟨k, hk, rfl, HB⟩ := hrel
    have HBr := Lib.hid (HB1.out.trans (HB.out.mono HB1.out.size))
    by_cases h2 : 2 ≤ k
    · clear c0 c1 c2 HB
      go_wp2_with fail
      refine (HA.out wr HBr.out).mono ?_
      rintro e w9 ⟨rfl, hb9⟩
      have HB9 := Lib.hid (HBr.out.trans (hb9.mono HBr.out.size))
      clear hb9 HBr
      go_wp2_with fail
      go_ret
      exact ⟨rfl, HB9.out⟩
    · have hx : ∃ p, wr.cell? ⟨w.heap.size + 1, k, none⟩ = some (.pointer p) ∧ TbNone wr p := by
        rcases (by omega : k = 0 ∨ k = 1) with rfl | rfl
        · exact ⟨_, cell_later HB.out c0, .inl rfl⟩
        · exact ⟨_, cell_later HB.out c1, .inr ⟨_, rfl, cell_later HB.out c2⟩⟩
      obtain ⟨p, hp, hn⟩ := hx
      have hlt : k < 2 := by omega
      have HN := Lib.hid hn
      clear c0 c1 c2 h2 hn
      go_wp2_with fail
      refine (full_none _ _ HN.out r).mono ?_
      rintro e w5 ⟨rfl, rfl⟩
      clear hp
      go_wp2_with fail
      refine (members_none _ _ HN.out (HEn.out _ HBr.out)).mono ?_
      rintro e w6 ⟨rfl, hb6⟩
      have HN6 := Lib.hid (HN.out.below hb6)
      have HB6 := Lib.hid (HB.out.trans (hb6.mono HB.out.size))
      have HBr6 := Lib.hid (HBr.out.trans (hb6.mono HBr.out.size))
      clear hb6 HN HB HBr
      go_wp2_with fail
      refine (singles_none _ _ HN6.out (HEn.out _ HBr6.out)).mono ?_
      rintro e w7 ⟨rfl, hb7⟩
      have HB7 := Lib.hid (HB6.out.trans (hb7.mono HB6.out.size))
      clear hb7 HN6 HB6 HBr6
      go_wp2_with fail
      go_roundw
      case rel => exact ⟨k + 1, by omega, by go_num, HB7⟩
      case measure => simp [intOf]; omega
end Go.Proofs.YtgdpfjipgmfjfabGreatDoor
