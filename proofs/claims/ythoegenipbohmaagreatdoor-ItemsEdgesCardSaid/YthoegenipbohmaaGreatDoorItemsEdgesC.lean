/- What the row ItemsEdges says of its function's reach, by the kernel. Printed by wip/tools/mkrow.py. -/
import Derived.Test.YthoegenipbohmaaGreatDoorRowM
import Derived.Test.YthoegenipbohmaaGreatDoorCards
import Derived.WalkKit
import Derived.ProofKit
namespace Go.Proofs.YthoegenipbohmaaGreatDoor.itemsEdges
open Go.RowKit
theorem reach1 : (Rows.itemsEdgesRow.inPlace == Tryz.pinned.checked.prog.inPlace 11) = true := by kernel_rfl
theorem reach2 : (Rows.itemsEdgesRow.unfollowed == Tryz.pinned.checked.prog.unfollowed 11) = true := by kernel_rfl
theorem reach3 : (Rows.itemsEdgesRow.recurses == Tryz.pinned.checked.prog.recurses 11) = true := by kernel_rfl
theorem reach4 : (Rows.itemsEdgesRow.named == Tryz.pinned.checked.prog.varsNamed 11) = true := by kernel_rfl
theorem closed : joinedFacts Tryz.pinned.checked.prog 11 Tryz.f11 (OpenSpec.ofChange Rows.itemsEdgesSpec).bare Rows.itemsEdgesRow = true := by
  unfold joinedFacts
  rw [reach1, reach2, reach3, reach4]
  kernel_rfl
end Go.Proofs.YthoegenipbohmaaGreatDoor.itemsEdges
