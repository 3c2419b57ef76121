/- Tables that no call made: none, Category. -/
import Derived.Test.YthoegenipbohmaaGreatDoorAccM
namespace Go.Proofs.YthoegenipbohmaaGreatDoor
open Go.RowKit
set_option linter.unusedVariables false
def TbNone (w : World) (p : Option Addr) : Prop := p = none ∨ ∃ b, p = some ⟨b, 0, none⟩ ∧ w.cell? ⟨b, 7, none⟩ = some (.map none)
theorem TbNone.below {w w' : World} {p : Option Addr} (h : TbNone w p) (hb : Below w.heap.size w w') : TbNone w' p := by
  rcases h with rfl | ⟨b, rfl, hc⟩
  · exact .inl rfl
  · exact .inr ⟨b, rfl, cell_later hb hc⟩
set_option maxRecDepth 100000 in
theorem tbnone (w : World) (p : Option Addr) (h : TbNone w p) : Calls Tryz.prog 78 #[.pointer p] w fun e w' => e = .returned (.bool true) ∧ w = w' := by
  rcases h with rfl | ⟨b, rfl, hc⟩
  · go_enter Tryz.func78, Tryz.ntmps78
    go_wp2
    go_ret
    exact ⟨rfl, rfl⟩
  · have hm := fun (w : World) (r : Option Nat) => run_eql_map_nil (P := Tryz.prog) w 46 3 37 r Tryz.underlying46
    go_enter Tryz.func78, Tryz.ntmps78
    go_wp2
    go_ret
    exact ⟨rfl, rfl⟩
theorem category_none (w : World) (p : Option Addr) (h : TbNone w p) (r : Int) : Calls Tryz.prog 65 #[.pointer p, .int .i64 r] w fun e w' => e = .returned (.string ⟨#[]⟩) ∧ w = w' := by
  go_enter Tryz.func65, Tryz.ntmps65
  go_wp2_with (go_at_call 78; refine (tbnone _ _ h).mono ?_; rintro e w' ⟨rfl, rfl⟩)
  go_ret
  exact ⟨rfl, rfl⟩
end Go.Proofs.YthoegenipbohmaaGreatDoor
