/- What the row PropsIn says of its function's reach, by the kernel. Printed by wip/tools/mkrow.py. -/
import Derived.Test.YtchkckfadennhaaGreatDoorRow
import Derived.Test.YtchkckfadennhaaGreatDoorCards
import Derived.WalkKit
import Derived.ProofKit
namespace Go.Proofs.YtchkckfadennhaaGreatDoor.propsIn
open Go.RowKit
theorem reach1 : (Rows.propsInRow.inPlace == Tryz.pinned.checked.prog.inPlace 4) = true := by kernel_rfl
theorem reach2 : (Rows.propsInRow.unfollowed == Tryz.pinned.checked.prog.unfollowed 4) = true := by kernel_rfl
theorem reach3 : (Rows.propsInRow.recurses == Tryz.pinned.checked.prog.recurses 4) = true := by kernel_rfl
theorem reach4 : (Rows.propsInRow.named == Tryz.pinned.checked.prog.varsNamed 4) = true := by kernel_rfl
theorem closed : joinedFacts Tryz.pinned.checked.prog 4 Tryz.f4 (OpenSpec.ofChange Rows.propsInSpec).bare Rows.propsInRow = true := by
  unfold joinedFacts
  rw [reach1, reach2, reach3, reach4]
  kernel_rfl
end Go.Proofs.YtchkckfadennhaaGreatDoor.propsIn
