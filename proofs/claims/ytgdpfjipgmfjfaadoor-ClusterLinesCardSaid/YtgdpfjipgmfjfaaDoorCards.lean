/-
  DERIVED. GIVEN WITH THE SEED: THE CARDS: each row of YtgdpfjipgmfjfaaDoorRows.lean that lists a variable, with what it lists TIED to the program's text (the seventh form; the later family's looks); each row that meets fmt, with fmt's text TOLD by the authors' own Lean function (tested against real Go, not proved from fmt's source: count such statements apart). THE CARD IS WHAT COUNTS. Prove the row's statement (the work); the ties are given (YtgdpfjipgmfjfaaDoorTie.lean); close each card by the builder's one call (the guide's Derived/Test/ToyasCard.lean, 'card_holds'). Laid BY PROGRAM, IN A SANDBOX (cutbox-door.mjs). By AI agents, Wed Nov 11 2026. No macro, syntax, notation, axiom, sorry.
-/
import Derived.Test.YtgdpfjipgmfjfaaDoorRows
import GoSem.ClaimSeven
namespace Go.Proofs.YtgdpfjipgmfjfaaDoor
namespace Rows

/-- THE TIED CARD OF 'rubricatorlaw10.ClusterLines'. -/
def clusterLinesCard : Claim7 := { stood := { row := clusterLinesRow, standIns := [], harness := (true, "129446044e0616a4829e224a50bb8d0c101bd4df27994c7b419c1ec1fa0b28b8"), looks := false }, kinds := [], alts := [], laidByText := true, laidKinds := [.data, .listed, .data, .pinned], laidTests := true, laidLooks := .later }
def ClusterLinesCardSaid : Prop := Claim7.holds Tryd.pinned (.plain (OpenSpec.ofChange clusterLinesSpec)) clusterLinesCard

/-- THE SECOND FORM's CARD OF 'rubricatorlaw10.ClusterLines'. -/
def clusterLinesUptoCard : Claim7 := { stood := { row := clusterLinesUptoRow, standIns := [], harness := (true, "129446044e0616a4829e224a50bb8d0c101bd4df27994c7b419c1ec1fa0b28b8"), looks := false }, kinds := [], alts := [], laidByText := true, laidKinds := [.data, .listed, .data, .pinned], laidTests := true, laidLooks := .later }
def ClusterLinesUptoCardSaid : Prop := Claim7.holds Tryd.pinned (.plain (OpenSpec.upto clusterLinesSpec)) clusterLinesUptoCard
end Rows
end Go.Proofs.YtgdpfjipgmfjfaaDoor
