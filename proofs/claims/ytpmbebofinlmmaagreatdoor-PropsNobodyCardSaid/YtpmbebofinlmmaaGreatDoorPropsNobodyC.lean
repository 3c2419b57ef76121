/- What the row PropsNobody says of its function's reach, by the kernel. Printed by wip/tools/mkrow.py. -/
import Derived.Test.YtpmbebofinlmmaaGreatDoorRow
import Derived.Test.YtpmbebofinlmmaaGreatDoorCards
import Derived.WalkKit
import Derived.ProofKit
namespace Go.Proofs.YtpmbebofinlmmaaGreatDoor.propsNobody
open Go.RowKit
theorem reach1 : (Rows.propsNobodyRow.inPlace == Tryz.pinned.checked.prog.inPlace 14) = true := by kernel_rfl
theorem reach2 : (Rows.propsNobodyRow.unfollowed == Tryz.pinned.checked.prog.unfollowed 14) = true := by kernel_rfl
theorem reach3 : (Rows.propsNobodyRow.recurses == Tryz.pinned.checked.prog.recurses 14) = true := by kernel_rfl
theorem reach4 : (Rows.propsNobodyRow.named == Tryz.pinned.checked.prog.varsNamed 14) = true := by kernel_rfl
theorem closed : joinedFacts Tryz.pinned.checked.prog 14 Tryz.f14 (OpenSpec.ofChange Rows.propsNobodySpec).bare Rows.propsNobodyRow = true := by
  unfold joinedFacts
  rw [reach1, reach2, reach3, reach4]
  kernel_rfl
end Go.Proofs.YtpmbebofinlmmaaGreatDoor.propsNobody
