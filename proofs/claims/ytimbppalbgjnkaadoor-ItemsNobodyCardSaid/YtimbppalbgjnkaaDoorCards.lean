/-
  DERIVED. GIVEN WITH THE SEED: THE CARDS: each row of YtimbppalbgjnkaaDoorRows.lean that lists a variable, with what it lists TIED to the program's text (the seventh form; the later family's looks); each row that meets fmt, with fmt's text TOLD by the authors' own Lean function (tested against real Go, not proved from fmt's source: count such statements apart). THE CARD IS WHAT COUNTS. Prove the row's statement (the work); the ties are given (YtimbppalbgjnkaaDoorTie.lean); close each card by the builder's one call (the guide's Derived/Test/ToyasCard.lean, 'card_holds'). Laid BY PROGRAM, IN A SANDBOX (cutbox-door.mjs). By AI agents, Wed Nov 11 2026. No macro, syntax, notation, axiom, sorry.
-/
import Derived.Test.YtimbppalbgjnkaaDoorRows
import GoSem.ClaimSeven
namespace Go.Proofs.YtimbppalbgjnkaaDoor
namespace Rows

/-- THE TIED CARD OF 'rubricatorlaw12.ItemsNobody'. -/
def itemsNobodyCard : Claim7 := { stood := { row := itemsNobodyRow, standIns := [], harness := (true, "9f8aa7010d8eb4185601d1ba9edc15e1f37e1a439622e5a9b981e2b3916b8c0b"), looks := true }, kinds := [], alts := [], laidByText := true, laidKinds := [.data, .data, .data, .sentinel, .sentinel, .data], laidTests := true, laidLooks := .later }
def ItemsNobodyCardSaid : Prop := Claim7.holds Tryd.pinned (.plain (OpenSpec.ofChange itemsNobodySpec)) itemsNobodyCard

/-- THE TIED CARD OF 'rubricatorlaw09.FoldSettles'. -/
def foldSettlesCard : Claim7 := { stood := { row := foldSettlesRow, standIns := [], harness := (true, "9f8aa7010d8eb4185601d1ba9edc15e1f37e1a439622e5a9b981e2b3916b8c0b"), looks := true }, kinds := [], alts := [], laidByText := true, laidKinds := [.data, .listed, .data, .pinned], laidTests := true, laidLooks := .later }
def FoldSettlesCardSaid : Prop := Claim7.holds Tryd.pinned (.plain (OpenSpec.ofChange foldSettlesSpec)) foldSettlesCard

/-- THE TIED CARD OF 'rubricatorlaw07.DecompHangul'. -/
def decompHangulCard : Claim7 := { stood := { row := decompHangulRow, standIns := [], harness := (true, "9f8aa7010d8eb4185601d1ba9edc15e1f37e1a439622e5a9b981e2b3916b8c0b"), looks := true }, kinds := [], alts := [], laidByText := true, laidKinds := [.data, .listed, .data, .data, .pinned], laidTests := true, laidLooks := .later }
def DecompHangulCardSaid : Prop := Claim7.holds Tryd.pinned (.plain (OpenSpec.ofChange decompHangulSpec)) decompHangulCard

/-- THE SECOND FORM's CARD OF 'rubricatorlaw12.ItemsNobody'. -/
def itemsNobodyUptoCard : Claim7 := { stood := { row := itemsNobodyUptoRow, standIns := [], harness := (true, "9f8aa7010d8eb4185601d1ba9edc15e1f37e1a439622e5a9b981e2b3916b8c0b"), looks := true }, kinds := [], alts := [], laidByText := true, laidKinds := [.data, .data, .data, .sentinel, .sentinel, .data], laidTests := true, laidLooks := .later }
def ItemsNobodyUptoCardSaid : Prop := Claim7.holds Tryd.pinned (.plain (OpenSpec.upto itemsNobodySpec)) itemsNobodyUptoCard

/-- THE SECOND FORM's CARD OF 'rubricatorlaw09.FoldSettles'. -/
def foldSettlesUptoCard : Claim7 := { stood := { row := foldSettlesUptoRow, standIns := [], harness := (true, "9f8aa7010d8eb4185601d1ba9edc15e1f37e1a439622e5a9b981e2b3916b8c0b"), looks := true }, kinds := [], alts := [], laidByText := true, laidKinds := [.data, .listed, .data, .pinned], laidTests := true, laidLooks := .later }
def FoldSettlesUptoCardSaid : Prop := Claim7.holds Tryd.pinned (.plain (OpenSpec.upto foldSettlesSpec)) foldSettlesUptoCard

/-- THE SECOND FORM's CARD OF 'rubricatorlaw07.DecompHangul'. -/
def decompHangulUptoCard : Claim7 := { stood := { row := decompHangulUptoRow, standIns := [], harness := (true, "9f8aa7010d8eb4185601d1ba9edc15e1f37e1a439622e5a9b981e2b3916b8c0b"), looks := true }, kinds := [], alts := [], laidByText := true, laidKinds := [.data, .listed, .data, .data, .pinned], laidTests := true, laidLooks := .later }
def DecompHangulUptoCardSaid : Prop := Claim7.holds Tryd.pinned (.plain (OpenSpec.upto decompHangulSpec)) decompHangulUptoCard
end Rows
end Go.Proofs.YtimbppalbgjnkaaDoor
