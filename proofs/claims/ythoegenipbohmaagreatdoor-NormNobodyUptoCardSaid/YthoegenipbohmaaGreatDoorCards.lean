/-
  DERIVED. GIVEN WITH THE SEED: THE CARDS: each row of YthoegenipbohmaaGreatDoorRows.lean that lists a variable, with what it lists TIED to the program's text (the seventh form; the later family's looks); each row that meets fmt, with fmt's text TOLD by the authors' own Lean function (tested against real Go, not proved from fmt's source: count such statements apart). THE CARD IS WHAT COUNTS. Prove the row's statement (the work); the ties are given (YthoegenipbohmaaGreatDoorTie.lean); close each card by the builder's one call (the guide's Derived/Test/ToyasCard.lean, 'card_holds'). Laid BY PROGRAM, IN A SANDBOX (cutbox-door.mjs). By AI agents, Wed Nov 11 2026. No macro, syntax, notation, axiom, sorry.
-/
import Derived.Test.YthoegenipbohmaaGreatDoorRows
import GoSem.ClaimSeven
namespace Go.Proofs.YthoegenipbohmaaGreatDoor
namespace Rows

/-- THE TIED CARD OF 'rubricatorlaw08.NormItems'. -/
def normItemsCard : Claim7 := { stood := { row := normItemsRow, standIns := [], harness := (true, "126785b31afa745c2acfa82e3da3d731b0f0723a3d6746e2330ada5400741e8f"), looks := true }, kinds := [], alts := [], laidByText := true, laidKinds := [.data, .data, .data, .data, .sentinel, .sentinel, .listed, .data, .data, .pinned], laidTests := true, laidLooks := .later }
def NormItemsCardSaid : Prop := Claim7.holds Tryz.pinned (.plain (OpenSpec.ofChange normItemsSpec)) normItemsCard

/-- THE TIED CARD OF 'rubricatorlaw08.NormKeeps'. -/
def normKeepsCard : Claim7 := { stood := { row := normKeepsRow, standIns := [], harness := (true, "126785b31afa745c2acfa82e3da3d731b0f0723a3d6746e2330ada5400741e8f"), looks := true }, kinds := [], alts := [], laidByText := true, laidKinds := [.data, .data, .data, .data, .sentinel, .sentinel, .listed, .data, .data, .pinned], laidTests := true, laidLooks := .later }
def NormKeepsCardSaid : Prop := Claim7.holds Tryz.pinned (.plain (OpenSpec.ofChange normKeepsSpec)) normKeepsCard

/-- THE TIED CARD OF 'rubricatorlaw08.NormJoins'. -/
def normJoinsCard : Claim7 := { stood := { row := normJoinsRow, standIns := [], harness := (true, "126785b31afa745c2acfa82e3da3d731b0f0723a3d6746e2330ada5400741e8f"), looks := true }, kinds := [], alts := [], laidByText := true, laidKinds := [.data, .data, .data, .data, .sentinel, .sentinel, .listed, .data, .data, .pinned], laidTests := true, laidLooks := .later }
def NormJoinsCardSaid : Prop := Claim7.holds Tryz.pinned (.plain (OpenSpec.ofChange normJoinsSpec)) normJoinsCard

/-- THE TIED CARD OF 'rubricatorlaw08.NormNobody'. -/
def normNobodyCard : Claim7 := { stood := { row := normNobodyRow, standIns := [], harness := (true, "126785b31afa745c2acfa82e3da3d731b0f0723a3d6746e2330ada5400741e8f"), looks := true }, kinds := [], alts := [], laidByText := true, laidKinds := [.data, .data, .data, .data, .sentinel, .sentinel, .listed, .data, .data, .pinned], laidTests := true, laidLooks := .later }
def NormNobodyCardSaid : Prop := Claim7.holds Tryz.pinned (.plain (OpenSpec.ofChange normNobodySpec)) normNobodyCard

/-- THE TIED CARD OF 'rubricatorlaw12.ItemsAfter'. -/
def itemsAfterCard : Claim7 := { stood := { row := itemsAfterRow, standIns := [], harness := (true, "126785b31afa745c2acfa82e3da3d731b0f0723a3d6746e2330ada5400741e8f"), looks := true }, kinds := [], alts := [], laidByText := true, laidKinds := [.data, .data, .data, .data, .sentinel, .sentinel, .listed, .data, .data, .pinned], laidTests := true, laidLooks := .later }
def ItemsAfterCardSaid : Prop := Claim7.holds Tryz.pinned (.plain (OpenSpec.ofChange itemsAfterSpec)) itemsAfterCard

/-- THE TIED CARD OF 'rubricatorlaw12.ItemsNext'. -/
def itemsNextCard : Claim7 := { stood := { row := itemsNextRow, standIns := [], harness := (true, "126785b31afa745c2acfa82e3da3d731b0f0723a3d6746e2330ada5400741e8f"), looks := true }, kinds := [], alts := [], laidByText := true, laidKinds := [.data, .data, .data, .data, .sentinel, .sentinel, .listed, .data, .data, .pinned], laidTests := true, laidLooks := .later }
def ItemsNextCardSaid : Prop := Claim7.holds Tryz.pinned (.plain (OpenSpec.ofChange itemsNextSpec)) itemsNextCard

/-- THE TIED CARD OF 'rubricatorlaw12.ItemsMake'. -/
def itemsMakeCard : Claim7 := { stood := { row := itemsMakeRow, standIns := [], harness := (true, "126785b31afa745c2acfa82e3da3d731b0f0723a3d6746e2330ada5400741e8f"), looks := true }, kinds := [], alts := [], laidByText := true, laidKinds := [.data, .data, .data, .data, .sentinel, .sentinel, .listed, .data, .data, .pinned], laidTests := true, laidLooks := .later }
def ItemsMakeCardSaid : Prop := Claim7.holds Tryz.pinned (.plain (OpenSpec.ofChange itemsMakeSpec)) itemsMakeCard

/-- THE TIED CARD OF 'rubricatorlaw12.ItemsSpan'. -/
def itemsSpanCard : Claim7 := { stood := { row := itemsSpanRow, standIns := [], harness := (true, "126785b31afa745c2acfa82e3da3d731b0f0723a3d6746e2330ada5400741e8f"), looks := true }, kinds := [], alts := [], laidByText := true, laidKinds := [.data, .data, .data, .data, .sentinel, .sentinel, .listed, .data, .data, .pinned], laidTests := true, laidLooks := .later }
def ItemsSpanCardSaid : Prop := Claim7.holds Tryz.pinned (.plain (OpenSpec.ofChange itemsSpanSpec)) itemsSpanCard

/-- THE TIED CARD OF 'rubricatorlaw12.ItemsEdges'. -/
def itemsEdgesCard : Claim7 := { stood := { row := itemsEdgesRow, standIns := [], harness := (true, "126785b31afa745c2acfa82e3da3d731b0f0723a3d6746e2330ada5400741e8f"), looks := true }, kinds := [], alts := [], laidByText := true, laidKinds := [.data, .data, .data, .data, .sentinel, .sentinel, .listed, .data, .data, .pinned], laidTests := true, laidLooks := .later }
def ItemsEdgesCardSaid : Prop := Claim7.holds Tryz.pinned (.plain (OpenSpec.ofChange itemsEdgesSpec)) itemsEdgesCard

/-- THE TIED CARD OF 'rubricatorlaw12.ItemsEqual'. -/
def itemsEqualCard : Claim7 := { stood := { row := itemsEqualRow, standIns := [], harness := (true, "126785b31afa745c2acfa82e3da3d731b0f0723a3d6746e2330ada5400741e8f"), looks := true }, kinds := [], alts := [], laidByText := true, laidKinds := [.data, .data, .data, .data, .sentinel, .sentinel, .listed, .data, .data, .pinned], laidTests := true, laidLooks := .later }
def ItemsEqualCardSaid : Prop := Claim7.holds Tryz.pinned (.plain (OpenSpec.ofChange itemsEqualSpec)) itemsEqualCard

/-- THE SECOND FORM's CARD OF 'rubricatorlaw08.NormItems'. -/
def normItemsUptoCard : Claim7 := { stood := { row := normItemsUptoRow, standIns := [], harness := (true, "126785b31afa745c2acfa82e3da3d731b0f0723a3d6746e2330ada5400741e8f"), looks := true }, kinds := [], alts := [], laidByText := true, laidKinds := [.data, .data, .data, .data, .sentinel, .sentinel, .listed, .data, .data, .pinned], laidTests := true, laidLooks := .later }
def NormItemsUptoCardSaid : Prop := Claim7.holds Tryz.pinned (.plain (OpenSpec.upto normItemsSpec)) normItemsUptoCard

/-- THE SECOND FORM's CARD OF 'rubricatorlaw08.NormKeeps'. -/
def normKeepsUptoCard : Claim7 := { stood := { row := normKeepsUptoRow, standIns := [], harness := (true, "126785b31afa745c2acfa82e3da3d731b0f0723a3d6746e2330ada5400741e8f"), looks := true }, kinds := [], alts := [], laidByText := true, laidKinds := [.data, .data, .data, .data, .sentinel, .sentinel, .listed, .data, .data, .pinned], laidTests := true, laidLooks := .later }
def NormKeepsUptoCardSaid : Prop := Claim7.holds Tryz.pinned (.plain (OpenSpec.upto normKeepsSpec)) normKeepsUptoCard

/-- THE SECOND FORM's CARD OF 'rubricatorlaw08.NormJoins'. -/
def normJoinsUptoCard : Claim7 := { stood := { row := normJoinsUptoRow, standIns := [], harness := (true, "126785b31afa745c2acfa82e3da3d731b0f0723a3d6746e2330ada5400741e8f"), looks := true }, kinds := [], alts := [], laidByText := true, laidKinds := [.data, .data, .data, .data, .sentinel, .sentinel, .listed, .data, .data, .pinned], laidTests := true, laidLooks := .later }
def NormJoinsUptoCardSaid : Prop := Claim7.holds Tryz.pinned (.plain (OpenSpec.upto normJoinsSpec)) normJoinsUptoCard

/-- THE SECOND FORM's CARD OF 'rubricatorlaw08.NormNobody'. -/
def normNobodyUptoCard : Claim7 := { stood := { row := normNobodyUptoRow, standIns := [], harness := (true, "126785b31afa745c2acfa82e3da3d731b0f0723a3d6746e2330ada5400741e8f"), looks := true }, kinds := [], alts := [], laidByText := true, laidKinds := [.data, .data, .data, .data, .sentinel, .sentinel, .listed, .data, .data, .pinned], laidTests := true, laidLooks := .later }
def NormNobodyUptoCardSaid : Prop := Claim7.holds Tryz.pinned (.plain (OpenSpec.upto normNobodySpec)) normNobodyUptoCard

/-- THE SECOND FORM's CARD OF 'rubricatorlaw12.ItemsAfter'. -/
def itemsAfterUptoCard : Claim7 := { stood := { row := itemsAfterUptoRow, standIns := [], harness := (true, "126785b31afa745c2acfa82e3da3d731b0f0723a3d6746e2330ada5400741e8f"), looks := true }, kinds := [], alts := [], laidByText := true, laidKinds := [.data, .data, .data, .data, .sentinel, .sentinel, .listed, .data, .data, .pinned], laidTests := true, laidLooks := .later }
def ItemsAfterUptoCardSaid : Prop := Claim7.holds Tryz.pinned (.plain (OpenSpec.upto itemsAfterSpec)) itemsAfterUptoCard

/-- THE SECOND FORM's CARD OF 'rubricatorlaw12.ItemsNext'. -/
def itemsNextUptoCard : Claim7 := { stood := { row := itemsNextUptoRow, standIns := [], harness := (true, "126785b31afa745c2acfa82e3da3d731b0f0723a3d6746e2330ada5400741e8f"), looks := true }, kinds := [], alts := [], laidByText := true, laidKinds := [.data, .data, .data, .data, .sentinel, .sentinel, .listed, .data, .data, .pinned], laidTests := true, laidLooks := .later }
def ItemsNextUptoCardSaid : Prop := Claim7.holds Tryz.pinned (.plain (OpenSpec.upto itemsNextSpec)) itemsNextUptoCard

/-- THE SECOND FORM's CARD OF 'rubricatorlaw12.ItemsMake'. -/
def itemsMakeUptoCard : Claim7 := { stood := { row := itemsMakeUptoRow, standIns := [], harness := (true, "126785b31afa745c2acfa82e3da3d731b0f0723a3d6746e2330ada5400741e8f"), looks := true }, kinds := [], alts := [], laidByText := true, laidKinds := [.data, .data, .data, .data, .sentinel, .sentinel, .listed, .data, .data, .pinned], laidTests := true, laidLooks := .later }
def ItemsMakeUptoCardSaid : Prop := Claim7.holds Tryz.pinned (.plain (OpenSpec.upto itemsMakeSpec)) itemsMakeUptoCard

/-- THE SECOND FORM's CARD OF 'rubricatorlaw12.ItemsSpan'. -/
def itemsSpanUptoCard : Claim7 := { stood := { row := itemsSpanUptoRow, standIns := [], harness := (true, "126785b31afa745c2acfa82e3da3d731b0f0723a3d6746e2330ada5400741e8f"), looks := true }, kinds := [], alts := [], laidByText := true, laidKinds := [.data, .data, .data, .data, .sentinel, .sentinel, .listed, .data, .data, .pinned], laidTests := true, laidLooks := .later }
def ItemsSpanUptoCardSaid : Prop := Claim7.holds Tryz.pinned (.plain (OpenSpec.upto itemsSpanSpec)) itemsSpanUptoCard

/-- THE SECOND FORM's CARD OF 'rubricatorlaw12.ItemsEdges'. -/
def itemsEdgesUptoCard : Claim7 := { stood := { row := itemsEdgesUptoRow, standIns := [], harness := (true, "126785b31afa745c2acfa82e3da3d731b0f0723a3d6746e2330ada5400741e8f"), looks := true }, kinds := [], alts := [], laidByText := true, laidKinds := [.data, .data, .data, .data, .sentinel, .sentinel, .listed, .data, .data, .pinned], laidTests := true, laidLooks := .later }
def ItemsEdgesUptoCardSaid : Prop := Claim7.holds Tryz.pinned (.plain (OpenSpec.upto itemsEdgesSpec)) itemsEdgesUptoCard

/-- THE SECOND FORM's CARD OF 'rubricatorlaw12.ItemsEqual'. -/
def itemsEqualUptoCard : Claim7 := { stood := { row := itemsEqualUptoRow, standIns := [], harness := (true, "126785b31afa745c2acfa82e3da3d731b0f0723a3d6746e2330ada5400741e8f"), looks := true }, kinds := [], alts := [], laidByText := true, laidKinds := [.data, .data, .data, .data, .sentinel, .sentinel, .listed, .data, .data, .pinned], laidTests := true, laidLooks := .later }
def ItemsEqualUptoCardSaid : Prop := Claim7.holds Tryz.pinned (.plain (OpenSpec.upto itemsEqualSpec)) itemsEqualUptoCard
end Rows
end Go.Proofs.YthoegenipbohmaaGreatDoor
