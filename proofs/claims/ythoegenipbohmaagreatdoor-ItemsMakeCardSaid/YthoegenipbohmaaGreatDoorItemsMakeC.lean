/- What the row ItemsMake says of its function's reach, by the kernel. Printed by wip/tools/mkrow.py. -/
import Derived.Test.YthoegenipbohmaaGreatDoorRowM
import Derived.Test.YthoegenipbohmaaGreatDoorCards
import Derived.WalkKit
import Derived.ProofKit
namespace Go.Proofs.YthoegenipbohmaaGreatDoor.itemsMake
open Go.RowKit
theorem reach1 : (Rows.itemsMakeRow.inPlace == Tryz.pinned.checked.prog.inPlace 9) = true := by kernel_rfl
theorem reach2 : (Rows.itemsMakeRow.unfollowed == Tryz.pinned.checked.prog.unfollowed 9) = true := by kernel_rfl
theorem reach3 : (Rows.itemsMakeRow.recurses == Tryz.pinned.checked.prog.recurses 9) = true := by kernel_rfl
theorem reach4 : (Rows.itemsMakeRow.named == Tryz.pinned.checked.prog.varsNamed 9) = true := by kernel_rfl
theorem closed : joinedFacts Tryz.pinned.checked.prog 9 Tryz.f9 (OpenSpec.ofChange Rows.itemsMakeSpec).bare Rows.itemsMakeRow = true := by
  unfold joinedFacts
  rw [reach1, reach2, reach3, reach4]
  kernel_rfl
end Go.Proofs.YthoegenipbohmaaGreatDoor.itemsMake
