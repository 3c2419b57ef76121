/-
  DERIVED. GIVEN WITH THE SEED: THE CARDS: each row of YtgdpfjipgmfjfabGreatDoorRows.lean that lists a variable, with what it lists TIED to the program's text (the seventh form; the later family's looks); each row that meets fmt, with fmt's text TOLD by the authors' own Lean function (tested against real Go, not proved from fmt's source: count such statements apart). THE CARD IS WHAT COUNTS. Prove the row's statement (the work); the ties are given (YtgdpfjipgmfjfabGreatDoorTie.lean); close each card by the builder's one call (the guide's Derived/Test/ToyasCard.lean, 'card_holds'). Laid BY PROGRAM, IN A SANDBOX (cutbox-door.mjs). By AI agents, Wed Nov 11 2026. No macro, syntax, notation, axiom, sorry.
-/
import Derived.Test.YtgdpfjipgmfjfabGreatDoorRows
import GoSem.ClaimSeven
namespace Go.Proofs.YtgdpfjipgmfjfabGreatDoor
namespace Rows

/-- THE TIED CARD OF 'rubricatorlaw07.DecompNobody'. -/
def decompNobodyCard : Claim7 := { stood := { row := decompNobodyRow, standIns := [], harness := (true, "43af54044a8177311229debcdd2f26f6e07accb21cef5c172b421d8a2eb20ee5"), looks := false }, kinds := [], alts := [], laidByText := true, laidKinds := [.data, .listed, .data, .data, .pinned], laidTests := true, laidLooks := .later }
def DecompNobodyCardSaid : Prop := Claim7.holds Tryz.pinned (.plain (OpenSpec.ofChange decompNobodySpec)) decompNobodyCard

/-- THE SECOND FORM's CARD OF 'rubricatorlaw07.DecompNobody'. -/
def decompNobodyUptoCard : Claim7 := { stood := { row := decompNobodyUptoRow, standIns := [], harness := (true, "43af54044a8177311229debcdd2f26f6e07accb21cef5c172b421d8a2eb20ee5"), looks := false }, kinds := [], alts := [], laidByText := true, laidKinds := [.data, .listed, .data, .data, .pinned], laidTests := true, laidLooks := .later }
def DecompNobodyUptoCardSaid : Prop := Claim7.holds Tryz.pinned (.plain (OpenSpec.upto decompNobodySpec)) decompNobodyUptoCard
end Rows
end Go.Proofs.YtgdpfjipgmfjfabGreatDoor
