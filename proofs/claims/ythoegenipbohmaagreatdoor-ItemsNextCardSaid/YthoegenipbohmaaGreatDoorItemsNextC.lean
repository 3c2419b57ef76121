/- What the row ItemsNext says of its function's reach, by the kernel. Printed by wip/tools/mkrow.py. -/
import Derived.Test.YthoegenipbohmaaGreatDoorRowM
import Derived.Test.YthoegenipbohmaaGreatDoorCards
import Derived.WalkKit
import Derived.ProofKit
namespace Go.Proofs.YthoegenipbohmaaGreatDoor.itemsNext
open Go.RowKit
theorem reach1 : (Rows.itemsNextRow.inPlace == Tryz.pinned.checked.prog.inPlace 8) = true := by kernel_rfl
theorem reach2 : (Rows.itemsNextRow.unfollowed == Tryz.pinned.checked.prog.unfollowed 8) = true := by kernel_rfl
theorem reach3 : (Rows.itemsNextRow.recurses == Tryz.pinned.checked.prog.recurses 8) = true := by kernel_rfl
theorem reach4 : (Rows.itemsNextRow.named == Tryz.pinned.checked.prog.varsNamed 8) = true := by kernel_rfl
theorem closed : joinedFacts Tryz.pinned.checked.prog 8 Tryz.f8 (OpenSpec.ofChange Rows.itemsNextSpec).bare Rows.itemsNextRow = true := by
  unfold joinedFacts
  rw [reach1, reach2, reach3, reach4]
  kernel_rfl
end Go.Proofs.YthoegenipbohmaaGreatDoor.itemsNext
