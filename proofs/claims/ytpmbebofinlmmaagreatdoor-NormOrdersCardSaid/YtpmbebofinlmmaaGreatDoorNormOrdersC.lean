/- What the row NormOrders says of its function's reach, by the kernel. Printed by wip/tools/mkrow.py. -/
import Derived.Test.YtpmbebofinlmmaaGreatDoorRow
import Derived.Test.YtpmbebofinlmmaaGreatDoorCards
import Derived.WalkKit
import Derived.ProofKit
namespace Go.Proofs.YtpmbebofinlmmaaGreatDoor.normOrders
open Go.RowKit
theorem reach1 : (Rows.normOrdersRow.inPlace == Tryz.pinned.checked.prog.inPlace 10) = true := by kernel_rfl
theorem reach2 : (Rows.normOrdersRow.unfollowed == Tryz.pinned.checked.prog.unfollowed 10) = true := by kernel_rfl
theorem reach3 : (Rows.normOrdersRow.recurses == Tryz.pinned.checked.prog.recurses 10) = true := by kernel_rfl
theorem reach4 : (Rows.normOrdersRow.named == Tryz.pinned.checked.prog.varsNamed 10) = true := by kernel_rfl
theorem closed : joinedFacts Tryz.pinned.checked.prog 10 Tryz.f10 (OpenSpec.ofChange Rows.normOrdersSpec).bare Rows.normOrdersRow = true := by
  unfold joinedFacts
  rw [reach1, reach2, reach3, reach4]
  kernel_rfl
end Go.Proofs.YtpmbebofinlmmaaGreatDoor.normOrders
