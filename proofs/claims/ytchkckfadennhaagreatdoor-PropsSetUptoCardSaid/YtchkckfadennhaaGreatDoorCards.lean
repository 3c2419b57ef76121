/-
  DERIVED. GIVEN WITH THE SEED: THE CARDS: each row of YtchkckfadennhaaGreatDoorRows.lean that lists a variable, with what it lists TIED to the program's text (the seventh form; the later family's looks); each row that meets fmt, with fmt's text TOLD by the authors' own Lean function (tested against real Go, not proved from fmt's source: count such statements apart). THE CARD IS WHAT COUNTS. Prove the row's statement (the work); the ties are given (YtchkckfadennhaaGreatDoorTie.lean); close each card by the builder's one call (the guide's Derived/Test/ToyasCard.lean, 'card_holds'). Laid BY PROGRAM, IN A SANDBOX (cutbox-door.mjs). By AI agents, Wed Nov 11 2026. No macro, syntax, notation, axiom, sorry.
-/
import Derived.Test.YtchkckfadennhaaGreatDoorRows
import GoSem.ClaimSeven
namespace Go.Proofs.YtchkckfadennhaaGreatDoor
namespace Rows

/-- THE TIED CARD OF 'rubricatorlaw06.PropsParts'. -/
def propsPartsCard : Claim7 := { stood := { row := propsPartsRow, standIns := [], harness := (true, "5c75de8cc28049023f7e071bd58f72b8e1a02013301bbd300b0404a6e059026f"), looks := false }, kinds := [], alts := [], laidByText := true, laidKinds := [.data, .listed, .data, .pinned], laidTests := true, laidLooks := .later }
def PropsPartsCardSaid : Prop := Claim7.holds Tryz.pinned (.plain (OpenSpec.ofChange propsPartsSpec)) propsPartsCard

/-- THE TIED CARD OF 'rubricatorlaw06.PropsIn'. -/
def propsInCard : Claim7 := { stood := { row := propsInRow, standIns := [], harness := (true, "5c75de8cc28049023f7e071bd58f72b8e1a02013301bbd300b0404a6e059026f"), looks := false }, kinds := [], alts := [], laidByText := true, laidKinds := [.data, .listed, .data, .pinned], laidTests := true, laidLooks := .later }
def PropsInCardSaid : Prop := Claim7.holds Tryz.pinned (.plain (OpenSpec.ofChange propsInSpec)) propsInCard

/-- THE TIED CARD OF 'rubricatorlaw06.PropsSet'. -/
def propsSetCard : Claim7 := { stood := { row := propsSetRow, standIns := [], harness := (true, "5c75de8cc28049023f7e071bd58f72b8e1a02013301bbd300b0404a6e059026f"), looks := false }, kinds := [], alts := [], laidByText := true, laidKinds := [.data, .listed, .data, .pinned], laidTests := true, laidLooks := .later }
def PropsSetCardSaid : Prop := Claim7.holds Tryz.pinned (.plain (OpenSpec.ofChange propsSetSpec)) propsSetCard

/-- THE TIED CARD OF 'rubricatorlaw06.PropsNames'. -/
def propsNamesCard : Claim7 := { stood := { row := propsNamesRow, standIns := [], harness := (true, "5c75de8cc28049023f7e071bd58f72b8e1a02013301bbd300b0404a6e059026f"), looks := false }, kinds := [], alts := [], laidByText := true, laidKinds := [.data, .listed, .data, .pinned], laidTests := true, laidLooks := .later }
def PropsNamesCardSaid : Prop := Claim7.holds Tryz.pinned (.plain (OpenSpec.ofChange propsNamesSpec)) propsNamesCard

/-- THE SECOND FORM's CARD OF 'rubricatorlaw06.PropsParts'. -/
def propsPartsUptoCard : Claim7 := { stood := { row := propsPartsUptoRow, standIns := [], harness := (true, "5c75de8cc28049023f7e071bd58f72b8e1a02013301bbd300b0404a6e059026f"), looks := false }, kinds := [], alts := [], laidByText := true, laidKinds := [.data, .listed, .data, .pinned], laidTests := true, laidLooks := .later }
def PropsPartsUptoCardSaid : Prop := Claim7.holds Tryz.pinned (.plain (OpenSpec.upto propsPartsSpec)) propsPartsUptoCard

/-- THE SECOND FORM's CARD OF 'rubricatorlaw06.PropsIn'. -/
def propsInUptoCard : Claim7 := { stood := { row := propsInUptoRow, standIns := [], harness := (true, "5c75de8cc28049023f7e071bd58f72b8e1a02013301bbd300b0404a6e059026f"), looks := false }, kinds := [], alts := [], laidByText := true, laidKinds := [.data, .listed, .data, .pinned], laidTests := true, laidLooks := .later }
def PropsInUptoCardSaid : Prop := Claim7.holds Tryz.pinned (.plain (OpenSpec.upto propsInSpec)) propsInUptoCard

/-- THE SECOND FORM's CARD OF 'rubricatorlaw06.PropsSet'. -/
def propsSetUptoCard : Claim7 := { stood := { row := propsSetUptoRow, standIns := [], harness := (true, "5c75de8cc28049023f7e071bd58f72b8e1a02013301bbd300b0404a6e059026f"), looks := false }, kinds := [], alts := [], laidByText := true, laidKinds := [.data, .listed, .data, .pinned], laidTests := true, laidLooks := .later }
def PropsSetUptoCardSaid : Prop := Claim7.holds Tryz.pinned (.plain (OpenSpec.upto propsSetSpec)) propsSetUptoCard

/-- THE SECOND FORM's CARD OF 'rubricatorlaw06.PropsNames'. -/
def propsNamesUptoCard : Claim7 := { stood := { row := propsNamesUptoRow, standIns := [], harness := (true, "5c75de8cc28049023f7e071bd58f72b8e1a02013301bbd300b0404a6e059026f"), looks := false }, kinds := [], alts := [], laidByText := true, laidKinds := [.data, .listed, .data, .pinned], laidTests := true, laidLooks := .later }
def PropsNamesUptoCardSaid : Prop := Claim7.holds Tryz.pinned (.plain (OpenSpec.upto propsNamesSpec)) propsNamesUptoCard
end Rows
end Go.Proofs.YtchkckfadennhaaGreatDoor
