/- What the row DecompMembers says of its function's reach, by the kernel. Printed by wip/tools/mkrow.py. -/
import Derived.Test.YtpmbebofinlmmaaGreatDoorRow
import Derived.Test.YtpmbebofinlmmaaGreatDoorCards
import Derived.WalkKit
import Derived.ProofKit
namespace Go.Proofs.YtpmbebofinlmmaaGreatDoor.decompMembers
open Go.RowKit
theorem reach1 : (Rows.decompMembersRow.inPlace == Tryz.pinned.checked.prog.inPlace 7) = true := by kernel_rfl
theorem reach2 : (Rows.decompMembersRow.unfollowed == Tryz.pinned.checked.prog.unfollowed 7) = true := by kernel_rfl
theorem reach3 : (Rows.decompMembersRow.recurses == Tryz.pinned.checked.prog.recurses 7) = true := by kernel_rfl
theorem reach4 : (Rows.decompMembersRow.named == Tryz.pinned.checked.prog.varsNamed 7) = true := by kernel_rfl
theorem closed : joinedFacts Tryz.pinned.checked.prog 7 Tryz.f7 (OpenSpec.ofChange Rows.decompMembersSpec).bare Rows.decompMembersRow = true := by
  unfold joinedFacts
  rw [reach1, reach2, reach3, reach4]
  kernel_rfl
end Go.Proofs.YtpmbebofinlmmaaGreatDoor.decompMembers
