/- What the reference's tables tell: Category, Word, Script, Combining. -/
import Derived.Test.YthoegenipbohmaaGreatDoorRef6N
namespace Go.Proofs.YthoegenipbohmaaGreatDoor
open Go.RowKit
set_option linter.unusedVariables false
set_option linter.unusedSimpArgs false

section
variable {w : World} {B b : Nat} {Φ : Files}
end
end Go.Proofs.YthoegenipbohmaaGreatDoor
