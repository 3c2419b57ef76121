/- From a row's condition to what the walks ask of decomp's variable. -/
import Derived.Test.YtpmbebofinlmmaaGreatDoorRow
import Derived.Test.YtpmbebofinlmmaaGreatDoorDecW
namespace Go.Proofs.YtpmbebofinlmmaaGreatDoor
open Go.RowKit
set_option linter.unusedVariables false
theorem hang_data : (Rows.laid_rubricator_decomp_hangul : DataW Unit) = Lib.tabData .i64 [4352, 4449, 4519] := by kernel_rfl
theorem hang_of_laid {w : World} {l : List (String × DataW Unit)} (h : laidMet Tryz.prog l w) (hm : ("rubricator/decomp.hangul", Rows.laid_rubricator_decomp_hangul) ∈ l) : Hang w := by
  have hr := Lib.laidMet.reads h hm
  rw [hang_data] at hr
  have ht : Lib.TabIs Tryz.prog w "rubricator/decomp.hangul" .i64 [4352, 4449, 4519] := tabIs_of_reads (g := 0) (t := 151) (e := 3) (n := 3) (by kernel_rfl) (by kernel_rfl) Tryz.underlying151 Tryz.underlying3 (by kernel_rfl) (by kernel_rfl) hr
  have hg : Tryz.prog.globalNamed "rubricator/decomp.hangul" = some 0 := by kernel_rfl
  exact ⟨ht.cell hg 0 (by decide), ht.cell hg 1 (by decide), ht.cell hg 2 (by decide)⟩
end Go.Proofs.YtpmbebofinlmmaaGreatDoor
