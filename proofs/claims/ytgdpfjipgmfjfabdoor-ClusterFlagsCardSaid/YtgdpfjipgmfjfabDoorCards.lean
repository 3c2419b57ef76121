/-
  DERIVED. GIVEN WITH THE SEED: THE CARDS: each row of YtgdpfjipgmfjfabDoorRows.lean that lists a variable, with what it lists TIED to the program's text (the seventh form; the later family's looks); each row that meets fmt, with fmt's text TOLD by the authors' own Lean function (tested against real Go, not proved from fmt's source: count such statements apart). THE CARD IS WHAT COUNTS. Prove the row's statement (the work); the ties are given (YtgdpfjipgmfjfabDoorTie.lean); close each card by the builder's one call (the guide's Derived/Test/ToyasCard.lean, 'card_holds'). Laid BY PROGRAM, IN A SANDBOX (cutbox-door.mjs). By AI agents, Wed Nov 11 2026. No macro, syntax, notation, axiom, sorry.
-/
import Derived.Test.YtgdpfjipgmfjfabDoorRows
import GoSem.ClaimSeven
namespace Go.Proofs.YtgdpfjipgmfjfabDoor
namespace Rows

/-- THE TIED CARD OF 'rubricatorlaw10.ClusterMarks'. -/
def clusterMarksCard : Claim7 := { stood := { row := clusterMarksRow, standIns := [], harness := (true, "6a440d0b708bec9d42c5187eeccb2b10d04b2fc273b21b89fcb7dd8f68e7883e"), looks := false }, kinds := [], alts := [], laidByText := true, laidKinds := [.data, .listed, .data, .pinned], laidTests := true, laidLooks := .later }
def ClusterMarksCardSaid : Prop := Claim7.holds Tryd.pinned (.plain (OpenSpec.ofChange clusterMarksSpec)) clusterMarksCard

/-- THE TIED CARD OF 'rubricatorlaw10.ClusterFlags'. -/
def clusterFlagsCard : Claim7 := { stood := { row := clusterFlagsRow, standIns := [], harness := (true, "6a440d0b708bec9d42c5187eeccb2b10d04b2fc273b21b89fcb7dd8f68e7883e"), looks := false }, kinds := [], alts := [], laidByText := true, laidKinds := [.data, .listed, .data, .pinned], laidTests := true, laidLooks := .later }
def ClusterFlagsCardSaid : Prop := Claim7.holds Tryd.pinned (.plain (OpenSpec.ofChange clusterFlagsSpec)) clusterFlagsCard

/-- THE SECOND FORM's CARD OF 'rubricatorlaw10.ClusterMarks'. -/
def clusterMarksUptoCard : Claim7 := { stood := { row := clusterMarksUptoRow, standIns := [], harness := (true, "6a440d0b708bec9d42c5187eeccb2b10d04b2fc273b21b89fcb7dd8f68e7883e"), looks := false }, kinds := [], alts := [], laidByText := true, laidKinds := [.data, .listed, .data, .pinned], laidTests := true, laidLooks := .later }
def ClusterMarksUptoCardSaid : Prop := Claim7.holds Tryd.pinned (.plain (OpenSpec.upto clusterMarksSpec)) clusterMarksUptoCard

/-- THE SECOND FORM's CARD OF 'rubricatorlaw10.ClusterFlags'. -/
def clusterFlagsUptoCard : Claim7 := { stood := { row := clusterFlagsUptoRow, standIns := [], harness := (true, "6a440d0b708bec9d42c5187eeccb2b10d04b2fc273b21b89fcb7dd8f68e7883e"), looks := false }, kinds := [], alts := [], laidByText := true, laidKinds := [.data, .listed, .data, .pinned], laidTests := true, laidLooks := .later }
def ClusterFlagsUptoCardSaid : Prop := Claim7.holds Tryd.pinned (.plain (OpenSpec.upto clusterFlagsSpec)) clusterFlagsUptoCard
end Rows
end Go.Proofs.YtgdpfjipgmfjfabDoor
