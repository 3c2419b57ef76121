/- What the row PropsParts says of its function's reach, by the kernel. Printed by wip/tools/mkrow.py. -/
import Derived.Test.YtchkckfadennhaaGreatDoorRow
import Derived.Test.YtchkckfadennhaaGreatDoorCards
import Derived.WalkKit
import Derived.ProofKit
namespace Go.Proofs.YtchkckfadennhaaGreatDoor.propsParts
open Go.RowKit
theorem reach1 : (Rows.propsPartsRow.inPlace == Tryz.pinned.checked.prog.inPlace 3) = true := by kernel_rfl
theorem reach2 : (Rows.propsPartsRow.unfollowed == Tryz.pinned.checked.prog.unfollowed 3) = true := by kernel_rfl
theorem reach3 : (Rows.propsPartsRow.recurses == Tryz.pinned.checked.prog.recurses 3) = true := by kernel_rfl
theorem reach4 : (Rows.propsPartsRow.named == Tryz.pinned.checked.prog.varsNamed 3) = true := by kernel_rfl
theorem closed : joinedFacts Tryz.pinned.checked.prog 3 Tryz.f3 (OpenSpec.ofChange Rows.propsPartsSpec).bare Rows.propsPartsRow = true := by
  unfold joinedFacts
  rw [reach1, reach2, reach3, reach4]
  kernel_rfl
end Go.Proofs.YtchkckfadennhaaGreatDoor.propsParts
