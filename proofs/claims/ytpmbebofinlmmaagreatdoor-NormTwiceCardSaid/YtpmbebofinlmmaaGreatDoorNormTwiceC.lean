/- What the row NormTwice says of its function's reach, by the kernel. Printed by wip/tools/mkrow.py. -/
import Derived.Test.YtpmbebofinlmmaaGreatDoorRow
import Derived.Test.YtpmbebofinlmmaaGreatDoorCards
import Derived.WalkKit
import Derived.ProofKit
namespace Go.Proofs.YtpmbebofinlmmaaGreatDoor.normTwice
open Go.RowKit
theorem reach1 : (Rows.normTwiceRow.inPlace == Tryz.pinned.checked.prog.inPlace 12) = true := by kernel_rfl
theorem reach2 : (Rows.normTwiceRow.unfollowed == Tryz.pinned.checked.prog.unfollowed 12) = true := by kernel_rfl
theorem reach3 : (Rows.normTwiceRow.recurses == Tryz.pinned.checked.prog.recurses 12) = true := by kernel_rfl
theorem reach4 : (Rows.normTwiceRow.named == Tryz.pinned.checked.prog.varsNamed 12) = true := by kernel_rfl
theorem closed : joinedFacts Tryz.pinned.checked.prog 12 Tryz.f12 (OpenSpec.ofChange Rows.normTwiceSpec).bare Rows.normTwiceRow = true := by
  unfold joinedFacts
  rw [reach1, reach2, reach3, reach4]
  kernel_rfl
end Go.Proofs.YtpmbebofinlmmaaGreatDoor.normTwice
