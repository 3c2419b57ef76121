/- What the row NormNobody says of its function's reach, by the kernel. Printed by wip/tools/mkrow.py. -/
import Derived.Test.YthoegenipbohmaaGreatDoorRowM
import Derived.Test.YthoegenipbohmaaGreatDoorCards
import Derived.WalkKit
import Derived.ProofKit
namespace Go.Proofs.YthoegenipbohmaaGreatDoor.normNobody
open Go.RowKit
theorem reach1 : (Rows.normNobodyUptoRow.inPlace == Tryz.pinned.checked.prog.inPlace 6) = true := by kernel_rfl
theorem reach2 : (Rows.normNobodyUptoRow.unfollowed == Tryz.pinned.checked.prog.unfollowed 6) = true := by kernel_rfl
theorem reach3 : (Rows.normNobodyUptoRow.recurses == Tryz.pinned.checked.prog.recurses 6) = true := by kernel_rfl
theorem reach4 : (Rows.normNobodyUptoRow.named == Tryz.pinned.checked.prog.varsNamed 6) = true := by kernel_rfl
theorem closed : joinedFacts Tryz.pinned.checked.prog 6 Tryz.f6 (Rows.OpenSpec.upto Rows.normNobodySpec).bare Rows.normNobodyUptoRow = true := by
  unfold joinedFacts
  rw [reach1, reach2, reach3, reach4]
  kernel_rfl
end Go.Proofs.YthoegenipbohmaaGreatDoor.normNobody
