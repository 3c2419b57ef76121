/- Tables that no call made, props whole; rubricatorlaw06.PropsNobody answers true. -/
import Derived.Test.YtpmbebofinlmmaaGreatDoorNoneW
import Derived.Test.YtpmbebofinlmmaaGreatDoorPropTellW
namespace Go.Proofs.YtpmbebofinlmmaaGreatDoor
open Go.RowKit
set_option linter.unusedVariables false
set_option linter.unusedSimpArgs false

theorem combining_none6 (w : World) (p : Option Addr) (h : TbNone w p) (r : Int) : Calls Tryz.prog 32 #[.pointer p, .int .i64 r] w fun e w' => e = .returned (.int .i64 0) ∧ w = w' := by
  go_enter Tryz.func32, Tryz.ntmps32
  go_wp2_with (go_at_call 64; refine (tbnone _ _ h).mono ?_; rintro e w' ⟨rfl, rfl⟩)
  go_ret
  exact ⟨rfl, rfl⟩
theorem script_none6 (w : World) (p : Option Addr) (h : TbNone w p) (r : Int) : Calls Tryz.prog 19 #[.pointer p, .int .i64 r] w fun e w' => e = .returned (.string ⟨#[]⟩) ∧ w = w' := by
  go_enter Tryz.func19, Tryz.ntmps19
  go_wp2_with (go_at_call 64; refine (tbnone _ _ h).mono ?_; rintro e w' ⟨rfl, rfl⟩)
  go_ret
  exact ⟨rfl, rfl⟩
theorem cluster_none6 (w : World) (p : Option Addr) (h : TbNone w p) (r : Int) : Calls Tryz.prog 35 #[.pointer p, .int .i64 r] w fun e w' => e = .returned (.string ⟨#[]⟩) ∧ w = w' := by
  go_enter Tryz.func35, Tryz.ntmps35
  go_wp2_with (go_at_call 64; refine (tbnone _ _ h).mono ?_; rintro e w' ⟨rfl, rfl⟩)
  go_ret
  exact ⟨rfl, rfl⟩
theorem word_none6 (w : World) (p : Option Addr) (h : TbNone w p) (r : Int) : Calls Tryz.prog 37 #[.pointer p, .int .i64 r] w fun e w' => e = .returned (.string ⟨#[]⟩) ∧ w = w' := by
  go_enter Tryz.func37, Tryz.ntmps37
  go_wp2_with (go_at_call 64; refine (tbnone _ _ h).mono ?_; rintro e w' ⟨rfl, rfl⟩)
  go_ret
  exact ⟨rfl, rfl⟩
theorem parts_none6 (w : World) (p : Option Addr) (h : TbNone w p) (r : Int) : Calls Tryz.prog 39 #[.pointer p, .int .i64 r] w fun e w' => e = .returned (.slice none 0 0) ∧ w = w' := by
  go_enter Tryz.func39, Tryz.ntmps39
  go_wp2_with (go_at_call 64; refine (tbnone _ _ h).mono ?_; rintro e w' ⟨rfl, rfl⟩)
  go_ret
  exact ⟨rfl, rfl⟩
theorem fold_none6 (w : World) (p : Option Addr) (h : TbNone w p) (r : Int) (f : Bool) : Calls Tryz.prog 41 #[.pointer p, .int .i64 r, .bool f] w fun e w' => e = .returned (.slice none 0 0) ∧ w = w' := by
  go_enter Tryz.func41, Tryz.ntmps41
  go_wp2_with (go_at_call 64; refine (tbnone _ _ h).mono ?_; rintro e w' ⟨rfl, rfl⟩)
  go_ret
  exact ⟨rfl, rfl⟩
theorem set_none6 (w : World) (p : Option Addr) (h : TbNone w p) (s : ByteArray) : Calls Tryz.prog 16 #[.pointer p, .string s] w fun e w' => e = .returned (.tuple #[.slice none 0 0, .int .i64 2]) ∧ w = w' := by
  go_enter Tryz.func16, Tryz.ntmps16
  go_wp2_with (go_at_call 64; refine (tbnone _ _ h).mono ?_; rintro e w' ⟨rfl, rfl⟩)
  go_ret2
  exact ⟨rfl, rfl⟩
set_option maxRecDepth 100000 in
set_option maxHeartbeats 3200000 in
theorem propsNobody_walk (r : Int) (s : ByteArray) (w : World) (hE : Env w) (hT : EnvT w) : Calls Tryz.prog 14 #[.int .i64 r, .string s] w fun e w' => e = .returned (.bool true) ∧ Below w.heap.size w w' := by
  have HA := Lib.hid (fun (W : World) (hb : Below w.heap.size w W) => awake06_walk W (hE.below hb) (hT.below hb))
  clear hE hT
  go_enter Tryz.func14, Tryz.ntmps14
  go_wp2
  obtain ⟨W1, hW1⟩ : ∃ W1, W1 = (w.alloc (Obj.cells #[Value.pointer none, Value.pointer none, Value.pointer none, Value.pointer none, Value.pointer none, Value.slice none 0 0, Value.slice none 0 0, Value.map none, Value.map none, Value.map none] 70)).alloc (Obj.cells #[Value.pointer none, Value.pointer (some { block := w.heap.size, off := 0 })] 23) := ⟨_, rfl⟩
  have hB1 : Below w.heap.size w W1 := by subst hW1; exact ((Below.refl _ _).alloc (Nat.le_refl _) _).alloc (by simp) _
  have c0 : W1.cell? ⟨w.heap.size + 1, 0, none⟩ = some (.pointer none) := by subst hW1; go_simp
  have c1 : W1.cell? ⟨w.heap.size + 1, 1, none⟩ = some (.pointer (some ⟨w.heap.size, 0, none⟩)) := by subst hW1; go_simp
  have c2 : W1.cell? ⟨w.heap.size, 7, none⟩ = some (.map none) := by subst hW1; go_simp
  rw [← hW1]
  have HB1 := Lib.hid hB1
  clear hW1 hB1
  go_loopw [13] (fun i wr => ∃ k : Nat, k ≤ 2 ∧ i = .int .i64 k ∧ Hid (Below W1.heap.size W1 wr)) (fun i _ => 2 - (intOf i).toNat)
  case atStart => exact ⟨0, by omega, rfl, Below.refl _ _⟩
  case round =>
    obtain ⟨k, hk, rfl, HB⟩ := hrel
    by_cases h2 : 2 ≤ k
    · have HBr := Lib.hid (HB1.out.trans (HB.out.mono HB1.out.size))
      clear c0 c1 c2 HB
      go_wp2_with fail
      refine (HA.out wr HBr.out).mono ?_
      rintro e w9 ⟨rfl, hb9⟩
      have HB9 := Lib.hid (HBr.out.trans (hb9.mono HBr.out.size))
      clear hb9 HBr
      go_wp2_with fail
      go_ret
      exact ⟨rfl, HB9.out⟩
    · have hx : ∃ p, wr.cell? ⟨w.heap.size + 1, k, none⟩ = some (.pointer p) ∧ TbNone wr p := by
        rcases (by omega : k = 0 ∨ k = 1) with rfl | rfl
        · exact ⟨_, cell_later HB.out c0, .inl rfl⟩
        · exact ⟨_, cell_later HB.out c1, .inr ⟨_, rfl, cell_later HB.out c2⟩⟩
      obtain ⟨p, hp, hn⟩ := hx
      have hlt : k < 2 := by omega
      have HN := Lib.hid hn
      clear c0 c1 c2 h2 hn
      go_wp2_with fail
      refine (set_none6 wr p HN.out s).mono ?_
      rintro e w5 ⟨rfl, rfl⟩
      go_wp2_with fail
      refine (category_none wr p HN.out r).mono ?_
      rintro e w5 ⟨rfl, rfl⟩
      go_wp2_with fail
      refine (combining_none6 wr p HN.out r).mono ?_
      rintro e w5 ⟨rfl, rfl⟩
      go_wp2_with fail
      refine (script_none6 wr p HN.out r).mono ?_
      rintro e w5 ⟨rfl, rfl⟩
      go_wp2_with fail
      refine (cluster_none6 wr p HN.out r).mono ?_
      rintro e w5 ⟨rfl, rfl⟩
      go_wp2_with fail
      refine (word_none6 wr p HN.out r).mono ?_
      rintro e w5 ⟨rfl, rfl⟩
      go_wp2_with fail
      refine (parts_none6 wr p HN.out r).mono ?_
      rintro e w5 ⟨rfl, rfl⟩
      go_wp2_with fail
      refine (fold_none6 wr p HN.out r true).mono ?_
      rintro e w5 ⟨rfl, rfl⟩
      go_wp2_with fail
      refine (fold_none6 wr p HN.out r false).mono ?_
      rintro e w5 ⟨rfl, rfl⟩
      go_wp2_with fail
      go_roundw
      case rel => exact ⟨k + 1, by omega, by go_num, HB⟩
      case measure => simp [intOf]; omega
end Go.Proofs.YtpmbebofinlmmaaGreatDoor
