/- What the row PropsNames says of its function's reach, by the kernel. Printed by wip/tools/mkrow.py. -/
import Derived.Test.YtchkckfadennhaaGreatDoorRow
import Derived.Test.YtchkckfadennhaaGreatDoorCards
import Derived.WalkKit
import Derived.ProofKit
namespace Go.Proofs.YtchkckfadennhaaGreatDoor.propsNames
open Go.RowKit
theorem reach1 : (Rows.propsNamesUptoRow.inPlace == Tryz.pinned.checked.prog.inPlace 6) = true := by kernel_rfl
theorem reach2 : (Rows.propsNamesUptoRow.unfollowed == Tryz.pinned.checked.prog.unfollowed 6) = true := by kernel_rfl
theorem reach3 : (Rows.propsNamesUptoRow.recurses == Tryz.pinned.checked.prog.recurses 6) = true := by kernel_rfl
theorem reach4 : (Rows.propsNamesUptoRow.named == Tryz.pinned.checked.prog.varsNamed 6) = true := by kernel_rfl
theorem closed : joinedFacts Tryz.pinned.checked.prog 6 Tryz.f6 (Rows.OpenSpec.upto Rows.propsNamesSpec).bare Rows.propsNamesUptoRow = true := by
  unfold joinedFacts
  rw [reach1, reach2, reach3, reach4]
  kernel_rfl
end Go.Proofs.YtchkckfadennhaaGreatDoor.propsNames
