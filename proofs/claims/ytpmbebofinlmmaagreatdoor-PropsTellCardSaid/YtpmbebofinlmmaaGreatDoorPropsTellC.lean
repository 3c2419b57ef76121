/- What the row PropsTell says of its function's reach, by the kernel. Printed by wip/tools/mkrow.py. -/
import Derived.Test.YtpmbebofinlmmaaGreatDoorRow
import Derived.Test.YtpmbebofinlmmaaGreatDoorCards
import Derived.WalkKit
import Derived.ProofKit
namespace Go.Proofs.YtpmbebofinlmmaaGreatDoor.propsTell
open Go.RowKit
theorem reach1 : (Rows.propsTellRow.inPlace == Tryz.pinned.checked.prog.inPlace 8) = true := by kernel_rfl
theorem reach2 : (Rows.propsTellRow.unfollowed == Tryz.pinned.checked.prog.unfollowed 8) = true := by kernel_rfl
theorem reach3 : (Rows.propsTellRow.recurses == Tryz.pinned.checked.prog.recurses 8) = true := by kernel_rfl
theorem reach4 : (Rows.propsTellRow.named == Tryz.pinned.checked.prog.varsNamed 8) = true := by kernel_rfl
theorem closed : joinedFacts Tryz.pinned.checked.prog 8 Tryz.f8 (OpenSpec.ofChange Rows.propsTellSpec).bare Rows.propsTellRow = true := by
  unfold joinedFacts
  rw [reach1, reach2, reach3, reach4]
  kernel_rfl
end Go.Proofs.YtpmbebofinlmmaaGreatDoor.propsTell
