/- What holds of the files' records, by the kernel: foldings settle, decompositions end. -/
import Derived.Test.YtmdkjljcnegmeaaDoorRecs
import Derived.Test.YtmdkjljcnegmeaaDoorDecP
namespace Go.Proofs.YtmdkjljcnegmeaaDoor
open Go.RowKit
set_option linter.unusedVariables false

theorem settle_simple : settlesB false (recsOf Tryd.f29) = true := by kernel_rfl
theorem settle_full : settlesB true (recsOf Tryd.f29) = true := by kernel_rfl
theorem parts_end : endB (recsOf Tryd.f27) = true := by kernel_rfl
set_option maxRecDepth 100000 in
theorem fol_settle (full : Bool) : settlesB full files.fol = true := by
  cases full
  · exact settle_simple
  · exact settle_full
set_option maxRecDepth 100000 in
theorem dec_end : endB files.dec = true := parts_end
end Go.Proofs.YtmdkjljcnegmeaaDoor
