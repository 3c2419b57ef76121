/- fold at tables that no call made. -/
import Derived.Test.YtmdkjljcnegmeaaDoorNoneW
import Derived.Test.YtmdkjljcnegmeaaDoorFoldLawW
namespace Go.Proofs.YtmdkjljcnegmeaaDoor
open Go.RowKit
set_option linter.unusedVariables false
set_option linter.unusedSimpArgs false
section
variable {w : World} {p : Option Addr}
theorem fold_none (h : TbNone w p) (r : Int) (f : Bool) : Calls Tryd.prog 52 #[.pointer p, .int .i64 r, .bool f] w fun e w' => e = .returned (.slice none 0 0) ∧ w = w' := by
  have HN := Lib.hid (tbnone _ _ h)
  clear h
  go_enter Tryd.func52, Tryd.ntmps52
  go_wp2_with (go_at_call 53; refine HN.out.mono ?_; rintro e w' ⟨rfl, rfl⟩)
  go_ret
  exact ⟨rfl, rfl⟩
theorem to_none (h : TbNone w p) (r : Int) (k : Int) : Calls Tryd.prog 31 #[.pointer p, .int .i64 r, .int .i64 k] w fun e w' => e = .returned (.slice none 0 0) ∧ w = w' := by
  have HN := Lib.hid (fun f => fold_none h r f)
  clear h
  go_enter Tryd.func31, Tryd.ntmps31
  go_wp2_with (go_at_call 52; refine (HN.out _).mono ?_; rintro e w' ⟨rfl, rfl⟩)
  go_ret
  exact ⟨rfl, rfl⟩
theorem simple_none (h : TbNone w p) (r : Int) : Calls Tryd.prog 10 #[.pointer p, .int .i64 r] w fun e w' => e = .returned (.int .i64 0) ∧ w = w' := by
  have HN := Lib.hid (fun k => to_none h r k)
  clear h
  go_enter Tryd.func10, Tryd.ntmps10
  go_wp2_with (go_at_call 31; refine (HN.out _).mono ?_; rintro e w' ⟨rfl, rfl⟩)
  go_ret
  exact ⟨rfl, rfl⟩
theorem full_none (h : TbNone w p) (r : Int) : Calls Tryd.prog 11 #[.pointer p, .int .i64 r] w fun e w' => e = .returned (.slice none 0 0) ∧ w = w' := by
  have HN := Lib.hid (fun k => to_none h r k)
  clear h
  go_enter Tryd.func11, Tryd.ntmps11
  go_wp2_with (go_at_call 31; refine (HN.out _).mono ?_; rintro e w' ⟨rfl, rfl⟩)
  go_ret
  exact ⟨rfl, rfl⟩
set_option maxRecDepth 100000 in
theorem same_none (h : TbNone w p) (a b : Int) : Calls Tryd.prog 13 #[.pointer p, .int .i64 a, .int .i64 b] w fun e w' => e = .returned (.bool false) ∧ Below w.heap.size w w' := by
  have HA := Lib.hid (fun r k => to_none h r k)
  clear h
  go_enter Tryd.func13, Tryd.ntmps13
  go_wp2_with (go_at_call 31; refine (HA.out _ _).mono ?_; rintro e w' ⟨rfl, rfl⟩)
  go_quiet (fail)
  simp only [Exit.then]
  go_wp2_with fail
  go_ret
  exact ⟨rfl, below_drewN _ _⟩
theorem closure_none (h : TbNone w p) (v : Value) : Calls Tryd.prog 15 #[.pointer p, v] w fun e w' => e = .returned (.slice none 0 0) ∧ w = w' := by
  have HN := Lib.hid (fun r k => to_none h r k)
  clear h
  go_enter Tryd.func15, Tryd.ntmps15
  go_wp2_with (go_at_call 31; refine (HN.out _ _).mono ?_; rintro e w' ⟨rfl, rfl⟩)
  go_ret
  exact ⟨rfl, rfl⟩
end
end Go.Proofs.YtmdkjljcnegmeaaDoor
