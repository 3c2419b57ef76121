/- What the row PropsSet says of its function's reach, by the kernel. Printed by wip/tools/mkrow.py. -/
import Derived.Test.YtchkckfadennhaaGreatDoorRow
import Derived.Test.YtchkckfadennhaaGreatDoorCards
import Derived.WalkKit
import Derived.ProofKit
namespace Go.Proofs.YtchkckfadennhaaGreatDoor.propsSet
open Go.RowKit
theorem reach1 : (Rows.propsSetUptoRow.inPlace == Tryz.pinned.checked.prog.inPlace 5) = true := by kernel_rfl
theorem reach2 : (Rows.propsSetUptoRow.unfollowed == Tryz.pinned.checked.prog.unfollowed 5) = true := by kernel_rfl
theorem reach3 : (Rows.propsSetUptoRow.recurses == Tryz.pinned.checked.prog.recurses 5) = true := by kernel_rfl
theorem reach4 : (Rows.propsSetUptoRow.named == Tryz.pinned.checked.prog.varsNamed 5) = true := by kernel_rfl
theorem closed : joinedFacts Tryz.pinned.checked.prog 5 Tryz.f5 (Rows.OpenSpec.upto Rows.propsSetSpec).bare Rows.propsSetUptoRow = true := by
  unfold joinedFacts
  rw [reach1, reach2, reach3, reach4]
  kernel_rfl
end Go.Proofs.YtchkckfadennhaaGreatDoor.propsSet
