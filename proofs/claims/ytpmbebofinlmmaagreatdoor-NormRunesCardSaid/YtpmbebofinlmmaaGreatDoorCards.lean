/-
  DERIVED. GIVEN WITH THE SEED: THE CARDS: each row of YtpmbebofinlmmaaGreatDoorRows.lean that lists a variable, with what it lists TIED to the program's text (the seventh form; the later family's looks); each row that meets fmt, with fmt's text TOLD by the authors' own Lean function (tested against real Go, not proved from fmt's source: count such statements apart). THE CARD IS WHAT COUNTS. Prove the row's statement (the work); the ties are given (YtpmbebofinlmmaaGreatDoorTie.lean); close each card by the builder's one call (the guide's Derived/Test/ToyasCard.lean, 'card_holds'). Laid BY PROGRAM, IN A SANDBOX (cutbox-door.mjs). By AI agents, Wed Nov 11 2026. No macro, syntax, notation, axiom, sorry.
-/
import Derived.Test.YtpmbebofinlmmaaGreatDoorRows
import GoSem.ClaimSeven
namespace Go.Proofs.YtpmbebofinlmmaaGreatDoor
namespace Rows

/-- THE TIED CARD OF 'rubricatorlaw06.PropsParts'. -/
def propsPartsCard : Claim7 := { stood := { row := propsPartsRow, standIns := [], harness := (true, "084c38b1634eb5c75eb7ee8ad2eea7a0f396d4738988ccd58cb9039cabfa7d86"), looks := true }, kinds := [], alts := [], laidByText := true, laidKinds := [.data, .listed, .data, .pinned], laidTests := true, laidLooks := .later }
def PropsPartsCardSaid : Prop := Claim7.holds Tryz.pinned (.plain (OpenSpec.ofChange propsPartsSpec)) propsPartsCard

/-- THE TIED CARD OF 'rubricatorlaw06.PropsIn'. -/
def propsInCard : Claim7 := { stood := { row := propsInRow, standIns := [], harness := (true, "084c38b1634eb5c75eb7ee8ad2eea7a0f396d4738988ccd58cb9039cabfa7d86"), looks := true }, kinds := [], alts := [], laidByText := true, laidKinds := [.data, .listed, .data, .pinned], laidTests := true, laidLooks := .later }
def PropsInCardSaid : Prop := Claim7.holds Tryz.pinned (.plain (OpenSpec.ofChange propsInSpec)) propsInCard

/-- THE TIED CARD OF 'rubricatorlaw06.PropsSet'. -/
def propsSetCard : Claim7 := { stood := { row := propsSetRow, standIns := [], harness := (true, "084c38b1634eb5c75eb7ee8ad2eea7a0f396d4738988ccd58cb9039cabfa7d86"), looks := true }, kinds := [], alts := [], laidByText := true, laidKinds := [.data, .listed, .data, .pinned], laidTests := true, laidLooks := .later }
def PropsSetCardSaid : Prop := Claim7.holds Tryz.pinned (.plain (OpenSpec.ofChange propsSetSpec)) propsSetCard

/-- THE TIED CARD OF 'rubricatorlaw06.PropsNames'. -/
def propsNamesCard : Claim7 := { stood := { row := propsNamesRow, standIns := [], harness := (true, "084c38b1634eb5c75eb7ee8ad2eea7a0f396d4738988ccd58cb9039cabfa7d86"), looks := true }, kinds := [], alts := [], laidByText := true, laidKinds := [.data, .listed, .data, .pinned], laidTests := true, laidLooks := .later }
def PropsNamesCardSaid : Prop := Claim7.holds Tryz.pinned (.plain (OpenSpec.ofChange propsNamesSpec)) propsNamesCard

/-- THE TIED CARD OF 'rubricatorlaw07.DecompMembers'. -/
def decompMembersCard : Claim7 := { stood := { row := decompMembersRow, standIns := [], harness := (true, "084c38b1634eb5c75eb7ee8ad2eea7a0f396d4738988ccd58cb9039cabfa7d86"), looks := true }, kinds := [], alts := [], laidByText := true, laidKinds := [.data, .listed, .data, .data, .pinned], laidTests := true, laidLooks := .later }
def DecompMembersCardSaid : Prop := Claim7.holds Tryz.pinned (.plain (OpenSpec.ofChange decompMembersSpec)) decompMembersCard

/-- THE TIED CARD OF 'rubricatorlaw06.PropsTell'. -/
def propsTellCard : Claim7 := { stood := { row := propsTellRow, standIns := [], harness := (true, "084c38b1634eb5c75eb7ee8ad2eea7a0f396d4738988ccd58cb9039cabfa7d86"), looks := true }, kinds := [], alts := [], laidByText := true, laidKinds := [.data, .data, .data, .data, .sentinel, .sentinel, .listed, .data, .pinned], laidTests := true, laidLooks := .later }
def PropsTellCardSaid : Prop := Claim7.holds Tryz.pinned (.plain (OpenSpec.ofChange propsTellSpec)) propsTellCard

/-- THE TIED CARD OF 'rubricatorlaw08.NormItems'. -/
def normItemsCard : Claim7 := { stood := { row := normItemsRow, standIns := [], harness := (true, "084c38b1634eb5c75eb7ee8ad2eea7a0f396d4738988ccd58cb9039cabfa7d86"), looks := true }, kinds := [], alts := [], laidByText := true, laidKinds := [.data, .data, .data, .data, .sentinel, .sentinel, .listed, .data, .data, .pinned], laidTests := true, laidLooks := .later }
def NormItemsCardSaid : Prop := Claim7.holds Tryz.pinned (.plain (OpenSpec.ofChange normItemsSpec)) normItemsCard

/-- THE TIED CARD OF 'rubricatorlaw08.NormOrders'. -/
def normOrdersCard : Claim7 := { stood := { row := normOrdersRow, standIns := [], harness := (true, "084c38b1634eb5c75eb7ee8ad2eea7a0f396d4738988ccd58cb9039cabfa7d86"), looks := true }, kinds := [], alts := [], laidByText := true, laidKinds := [.data, .data, .data, .data, .sentinel, .sentinel, .listed, .data, .data, .pinned], laidTests := true, laidLooks := .later }
def NormOrdersCardSaid : Prop := Claim7.holds Tryz.pinned (.plain (OpenSpec.ofChange normOrdersSpec)) normOrdersCard

/-- THE TIED CARD OF 'rubricatorlaw08.NormRunes'. -/
def normRunesCard : Claim7 := { stood := { row := normRunesRow, standIns := [], harness := (true, "084c38b1634eb5c75eb7ee8ad2eea7a0f396d4738988ccd58cb9039cabfa7d86"), looks := true }, kinds := [], alts := [], laidByText := true, laidKinds := [.data, .data, .data, .data, .sentinel, .sentinel, .listed, .data, .data, .pinned], laidTests := true, laidLooks := .later }
def NormRunesCardSaid : Prop := Claim7.holds Tryz.pinned (.plain (OpenSpec.ofChange normRunesSpec)) normRunesCard

/-- THE TIED CARD OF 'rubricatorlaw08.NormTwice'. -/
def normTwiceCard : Claim7 := { stood := { row := normTwiceRow, standIns := [], harness := (true, "084c38b1634eb5c75eb7ee8ad2eea7a0f396d4738988ccd58cb9039cabfa7d86"), looks := true }, kinds := [], alts := [], laidByText := true, laidKinds := [.data, .data, .data, .data, .sentinel, .sentinel, .listed, .data, .data, .pinned], laidTests := true, laidLooks := .later }
def NormTwiceCardSaid : Prop := Claim7.holds Tryz.pinned (.plain (OpenSpec.ofChange normTwiceSpec)) normTwiceCard

/-- THE TIED CARD OF 'rubricatorlaw08.NormNobody'. -/
def normNobodyCard : Claim7 := { stood := { row := normNobodyRow, standIns := [], harness := (true, "084c38b1634eb5c75eb7ee8ad2eea7a0f396d4738988ccd58cb9039cabfa7d86"), looks := true }, kinds := [], alts := [], laidByText := true, laidKinds := [.data, .data, .data, .data, .sentinel, .sentinel, .listed, .data, .data, .pinned], laidTests := true, laidLooks := .later }
def NormNobodyCardSaid : Prop := Claim7.holds Tryz.pinned (.plain (OpenSpec.ofChange normNobodySpec)) normNobodyCard

/-- THE TIED CARD OF 'rubricatorlaw06.PropsNobody'. -/
def propsNobodyCard : Claim7 := { stood := { row := propsNobodyRow, standIns := [], harness := (true, "084c38b1634eb5c75eb7ee8ad2eea7a0f396d4738988ccd58cb9039cabfa7d86"), looks := true }, kinds := [], alts := [], laidByText := true, laidKinds := [.data, .data, .data, .data, .sentinel, .sentinel, .listed, .data, .pinned], laidTests := true, laidLooks := .later }
def PropsNobodyCardSaid : Prop := Claim7.holds Tryz.pinned (.plain (OpenSpec.ofChange propsNobodySpec)) propsNobodyCard

/-- THE SECOND FORM's CARD OF 'rubricatorlaw06.PropsParts'. -/
def propsPartsUptoCard : Claim7 := { stood := { row := propsPartsUptoRow, standIns := [], harness := (true, "084c38b1634eb5c75eb7ee8ad2eea7a0f396d4738988ccd58cb9039cabfa7d86"), looks := true }, kinds := [], alts := [], laidByText := true, laidKinds := [.data, .listed, .data, .pinned], laidTests := true, laidLooks := .later }
def PropsPartsUptoCardSaid : Prop := Claim7.holds Tryz.pinned (.plain (OpenSpec.upto propsPartsSpec)) propsPartsUptoCard

/-- THE SECOND FORM's CARD OF 'rubricatorlaw06.PropsIn'. -/
def propsInUptoCard : Claim7 := { stood := { row := propsInUptoRow, standIns := [], harness := (true, "084c38b1634eb5c75eb7ee8ad2eea7a0f396d4738988ccd58cb9039cabfa7d86"), looks := true }, kinds := [], alts := [], laidByText := true, laidKinds := [.data, .listed, .data, .pinned], laidTests := true, laidLooks := .later }
def PropsInUptoCardSaid : Prop := Claim7.holds Tryz.pinned (.plain (OpenSpec.upto propsInSpec)) propsInUptoCard

/-- THE SECOND FORM's CARD OF 'rubricatorlaw06.PropsSet'. -/
def propsSetUptoCard : Claim7 := { stood := { row := propsSetUptoRow, standIns := [], harness := (true, "084c38b1634eb5c75eb7ee8ad2eea7a0f396d4738988ccd58cb9039cabfa7d86"), looks := true }, kinds := [], alts := [], laidByText := true, laidKinds := [.data, .listed, .data, .pinned], laidTests := true, laidLooks := .later }
def PropsSetUptoCardSaid : Prop := Claim7.holds Tryz.pinned (.plain (OpenSpec.upto propsSetSpec)) propsSetUptoCard

/-- THE SECOND FORM's CARD OF 'rubricatorlaw06.PropsNames'. -/
def propsNamesUptoCard : Claim7 := { stood := { row := propsNamesUptoRow, standIns := [], harness := (true, "084c38b1634eb5c75eb7ee8ad2eea7a0f396d4738988ccd58cb9039cabfa7d86"), looks := true }, kinds := [], alts := [], laidByText := true, laidKinds := [.data, .listed, .data, .pinned], laidTests := true, laidLooks := .later }
def PropsNamesUptoCardSaid : Prop := Claim7.holds Tryz.pinned (.plain (OpenSpec.upto propsNamesSpec)) propsNamesUptoCard

/-- THE SECOND FORM's CARD OF 'rubricatorlaw07.DecompMembers'. -/
def decompMembersUptoCard : Claim7 := { stood := { row := decompMembersUptoRow, standIns := [], harness := (true, "084c38b1634eb5c75eb7ee8ad2eea7a0f396d4738988ccd58cb9039cabfa7d86"), looks := true }, kinds := [], alts := [], laidByText := true, laidKinds := [.data, .listed, .data, .data, .pinned], laidTests := true, laidLooks := .later }
def DecompMembersUptoCardSaid : Prop := Claim7.holds Tryz.pinned (.plain (OpenSpec.upto decompMembersSpec)) decompMembersUptoCard

/-- THE SECOND FORM's CARD OF 'rubricatorlaw06.PropsTell'. -/
def propsTellUptoCard : Claim7 := { stood := { row := propsTellUptoRow, standIns := [], harness := (true, "084c38b1634eb5c75eb7ee8ad2eea7a0f396d4738988ccd58cb9039cabfa7d86"), looks := true }, kinds := [], alts := [], laidByText := true, laidKinds := [.data, .data, .data, .data, .sentinel, .sentinel, .listed, .data, .pinned], laidTests := true, laidLooks := .later }
def PropsTellUptoCardSaid : Prop := Claim7.holds Tryz.pinned (.plain (OpenSpec.upto propsTellSpec)) propsTellUptoCard

/-- THE SECOND FORM's CARD OF 'rubricatorlaw08.NormItems'. -/
def normItemsUptoCard : Claim7 := { stood := { row := normItemsUptoRow, standIns := [], harness := (true, "084c38b1634eb5c75eb7ee8ad2eea7a0f396d4738988ccd58cb9039cabfa7d86"), looks := true }, kinds := [], alts := [], laidByText := true, laidKinds := [.data, .data, .data, .data, .sentinel, .sentinel, .listed, .data, .data, .pinned], laidTests := true, laidLooks := .later }
def NormItemsUptoCardSaid : Prop := Claim7.holds Tryz.pinned (.plain (OpenSpec.upto normItemsSpec)) normItemsUptoCard

/-- THE SECOND FORM's CARD OF 'rubricatorlaw08.NormOrders'. -/
def normOrdersUptoCard : Claim7 := { stood := { row := normOrdersUptoRow, standIns := [], harness := (true, "084c38b1634eb5c75eb7ee8ad2eea7a0f396d4738988ccd58cb9039cabfa7d86"), looks := true }, kinds := [], alts := [], laidByText := true, laidKinds := [.data, .data, .data, .data, .sentinel, .sentinel, .listed, .data, .data, .pinned], laidTests := true, laidLooks := .later }
def NormOrdersUptoCardSaid : Prop := Claim7.holds Tryz.pinned (.plain (OpenSpec.upto normOrdersSpec)) normOrdersUptoCard

/-- THE SECOND FORM's CARD OF 'rubricatorlaw08.NormRunes'. -/
def normRunesUptoCard : Claim7 := { stood := { row := normRunesUptoRow, standIns := [], harness := (true, "084c38b1634eb5c75eb7ee8ad2eea7a0f396d4738988ccd58cb9039cabfa7d86"), looks := true }, kinds := [], alts := [], laidByText := true, laidKinds := [.data, .data, .data, .data, .sentinel, .sentinel, .listed, .data, .data, .pinned], laidTests := true, laidLooks := .later }
def NormRunesUptoCardSaid : Prop := Claim7.holds Tryz.pinned (.plain (OpenSpec.upto normRunesSpec)) normRunesUptoCard

/-- THE SECOND FORM's CARD OF 'rubricatorlaw08.NormTwice'. -/
def normTwiceUptoCard : Claim7 := { stood := { row := normTwiceUptoRow, standIns := [], harness := (true, "084c38b1634eb5c75eb7ee8ad2eea7a0f396d4738988ccd58cb9039cabfa7d86"), looks := true }, kinds := [], alts := [], laidByText := true, laidKinds := [.data, .data, .data, .data, .sentinel, .sentinel, .listed, .data, .data, .pinned], laidTests := true, laidLooks := .later }
def NormTwiceUptoCardSaid : Prop := Claim7.holds Tryz.pinned (.plain (OpenSpec.upto normTwiceSpec)) normTwiceUptoCard

/-- THE SECOND FORM's CARD OF 'rubricatorlaw08.NormNobody'. -/
def normNobodyUptoCard : Claim7 := { stood := { row := normNobodyUptoRow, standIns := [], harness := (true, "084c38b1634eb5c75eb7ee8ad2eea7a0f396d4738988ccd58cb9039cabfa7d86"), looks := true }, kinds := [], alts := [], laidByText := true, laidKinds := [.data, .data, .data, .data, .sentinel, .sentinel, .listed, .data, .data, .pinned], laidTests := true, laidLooks := .later }
def NormNobodyUptoCardSaid : Prop := Claim7.holds Tryz.pinned (.plain (OpenSpec.upto normNobodySpec)) normNobodyUptoCard

/-- THE SECOND FORM's CARD OF 'rubricatorlaw06.PropsNobody'. -/
def propsNobodyUptoCard : Claim7 := { stood := { row := propsNobodyUptoRow, standIns := [], harness := (true, "084c38b1634eb5c75eb7ee8ad2eea7a0f396d4738988ccd58cb9039cabfa7d86"), looks := true }, kinds := [], alts := [], laidByText := true, laidKinds := [.data, .data, .data, .data, .sentinel, .sentinel, .listed, .data, .pinned], laidTests := true, laidLooks := .later }
def PropsNobodyUptoCardSaid : Prop := Claim7.holds Tryz.pinned (.plain (OpenSpec.upto propsNobodySpec)) propsNobodyUptoCard
end Rows
end Go.Proofs.YtpmbebofinlmmaaGreatDoor
