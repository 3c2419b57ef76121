/- What the row ItemsEqual says of its function's reach, by the kernel. Printed by wip/tools/mkrow.py. -/
import Derived.Test.YthoegenipbohmaaGreatDoorRowM
import Derived.Test.YthoegenipbohmaaGreatDoorCards
import Derived.WalkKit
import Derived.ProofKit
namespace Go.Proofs.YthoegenipbohmaaGreatDoor.itemsEqual
open Go.RowKit
theorem reach1 : (Rows.itemsEqualRow.inPlace == Tryz.pinned.checked.prog.inPlace 12) = true := by kernel_rfl
theorem reach2 : (Rows.itemsEqualRow.unfollowed == Tryz.pinned.checked.prog.unfollowed 12) = true := by kernel_rfl
theorem reach3 : (Rows.itemsEqualRow.recurses == Tryz.pinned.checked.prog.recurses 12) = true := by kernel_rfl
theorem reach4 : (Rows.itemsEqualRow.named == Tryz.pinned.checked.prog.varsNamed 12) = true := by kernel_rfl
theorem closed : joinedFacts Tryz.pinned.checked.prog 12 Tryz.f12 (OpenSpec.ofChange Rows.itemsEqualSpec).bare Rows.itemsEqualRow = true := by
  unfold joinedFacts
  rw [reach1, reach2, reach3, reach4]
  kernel_rfl
end Go.Proofs.YthoegenipbohmaaGreatDoor.itemsEqual
