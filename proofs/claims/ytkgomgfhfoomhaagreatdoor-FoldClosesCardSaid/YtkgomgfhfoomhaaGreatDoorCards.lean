/-
  DERIVED. GIVEN WITH THE SEED: THE CARDS: each row of YtkgomgfhfoomhaaGreatDoorRows.lean that lists a variable, with what it lists TIED to the program's text (the seventh form; the later family's looks); each row that meets fmt, with fmt's text TOLD by the authors' own Lean function (tested against real Go, not proved from fmt's source: count such statements apart). THE CARD IS WHAT COUNTS. Prove the row's statement (the work); the ties are given (YtkgomgfhfoomhaaGreatDoorTie.lean); close each card by the builder's one call (the guide's Derived/Test/ToyasCard.lean, 'card_holds'). Laid BY PROGRAM, IN A SANDBOX (cutbox-door.mjs). By AI agents, Wed Nov 11 2026. No macro, syntax, notation, axiom, sorry.
-/
import Derived.Test.YtkgomgfhfoomhaaGreatDoorRows
import GoSem.ClaimSeven
namespace Go.Proofs.YtkgomgfhfoomhaaGreatDoor
namespace Rows

/-- THE TIED CARD OF 'rubricatorlaw09.FoldTells'. -/
def foldTellsCard : Claim7 := { stood := { row := foldTellsRow, standIns := [], harness := (true, "98a6fd9a03cbee8e380afa56c2ec6a236fc3e9f59719435da5758d36125ccd57"), looks := false }, kinds := [], alts := [], laidByText := true, laidKinds := [.data, .listed, .data, .pinned], laidTests := true, laidLooks := .later }
def FoldTellsCardSaid : Prop := Claim7.holds Tryz.pinned (.plain (OpenSpec.ofChange foldTellsSpec)) foldTellsCard

/-- THE TIED CARD OF 'rubricatorlaw07.DecompFull'. -/
def decompFullCard : Claim7 := { stood := { row := decompFullRow, standIns := [], harness := (true, "98a6fd9a03cbee8e380afa56c2ec6a236fc3e9f59719435da5758d36125ccd57"), looks := false }, kinds := [], alts := [], laidByText := true, laidKinds := [.data, .listed, .data, .data, .pinned], laidTests := true, laidLooks := .later }
def DecompFullCardSaid : Prop := Claim7.holds Tryz.pinned (.plain (OpenSpec.ofChange decompFullSpec)) decompFullCard

/-- THE TIED CARD OF 'rubricatorlaw10.ClusterNext'. -/
def clusterNextCard : Claim7 := { stood := { row := clusterNextRow, standIns := [], harness := (true, "98a6fd9a03cbee8e380afa56c2ec6a236fc3e9f59719435da5758d36125ccd57"), looks := false }, kinds := [], alts := [], laidByText := true, laidKinds := [.data, .listed, .data, .pinned], laidTests := true, laidLooks := .later }
def ClusterNextCardSaid : Prop := Claim7.holds Tryz.pinned (.plain (OpenSpec.ofChange clusterNextSpec)) clusterNextCard

/-- THE TIED CARD OF 'rubricatorlaw10.ClusterEdges'. -/
def clusterEdgesCard : Claim7 := { stood := { row := clusterEdgesRow, standIns := [], harness := (true, "98a6fd9a03cbee8e380afa56c2ec6a236fc3e9f59719435da5758d36125ccd57"), looks := false }, kinds := [], alts := [], laidByText := true, laidKinds := [.data, .listed, .data, .pinned], laidTests := true, laidLooks := .later }
def ClusterEdgesCardSaid : Prop := Claim7.holds Tryz.pinned (.plain (OpenSpec.ofChange clusterEdgesSpec)) clusterEdgesCard

/-- THE TIED CARD OF 'rubricatorlaw11.WordEdges'. -/
def wordEdgesCard : Claim7 := { stood := { row := wordEdgesRow, standIns := [], harness := (true, "98a6fd9a03cbee8e380afa56c2ec6a236fc3e9f59719435da5758d36125ccd57"), looks := false }, kinds := [], alts := [], laidByText := true, laidKinds := [.data, .listed, .data, .pinned], laidTests := true, laidLooks := .later }
def WordEdgesCardSaid : Prop := Claim7.holds Tryz.pinned (.plain (OpenSpec.ofChange wordEdgesSpec)) wordEdgesCard

/-- THE TIED CARD OF 'rubricatorlaw11.WordSimple'. -/
def wordSimpleCard : Claim7 := { stood := { row := wordSimpleRow, standIns := [], harness := (true, "98a6fd9a03cbee8e380afa56c2ec6a236fc3e9f59719435da5758d36125ccd57"), looks := false }, kinds := [], alts := [], laidByText := true, laidKinds := [.data, .listed, .data, .pinned], laidTests := true, laidLooks := .later }
def WordSimpleCardSaid : Prop := Claim7.holds Tryz.pinned (.plain (OpenSpec.ofChange wordSimpleSpec)) wordSimpleCard

/-- THE TIED CARD OF 'rubricatorlaw09.FoldTwice'. -/
def foldTwiceCard : Claim7 := { stood := { row := foldTwiceRow, standIns := [], harness := (true, "98a6fd9a03cbee8e380afa56c2ec6a236fc3e9f59719435da5758d36125ccd57"), looks := false }, kinds := [], alts := [], laidByText := true, laidKinds := [.data, .listed, .data, .pinned], laidTests := true, laidLooks := .later }
def FoldTwiceCardSaid : Prop := Claim7.holds Tryz.pinned (.plain (OpenSpec.ofChange foldTwiceSpec)) foldTwiceCard

/-- THE TIED CARD OF 'rubricatorlaw09.FoldCloses'. -/
def foldClosesCard : Claim7 := { stood := { row := foldClosesRow, standIns := [], harness := (true, "98a6fd9a03cbee8e380afa56c2ec6a236fc3e9f59719435da5758d36125ccd57"), looks := false }, kinds := [], alts := [], laidByText := true, laidKinds := [.data, .listed, .data, .pinned], laidTests := true, laidLooks := .later }
def FoldClosesCardSaid : Prop := Claim7.holds Tryz.pinned (.plain (OpenSpec.ofChange foldClosesSpec)) foldClosesCard

/-- THE SECOND FORM's CARD OF 'rubricatorlaw09.FoldTells'. -/
def foldTellsUptoCard : Claim7 := { stood := { row := foldTellsUptoRow, standIns := [], harness := (true, "98a6fd9a03cbee8e380afa56c2ec6a236fc3e9f59719435da5758d36125ccd57"), looks := false }, kinds := [], alts := [], laidByText := true, laidKinds := [.data, .listed, .data, .pinned], laidTests := true, laidLooks := .later }
def FoldTellsUptoCardSaid : Prop := Claim7.holds Tryz.pinned (.plain (OpenSpec.upto foldTellsSpec)) foldTellsUptoCard

/-- THE SECOND FORM's CARD OF 'rubricatorlaw07.DecompFull'. -/
def decompFullUptoCard : Claim7 := { stood := { row := decompFullUptoRow, standIns := [], harness := (true, "98a6fd9a03cbee8e380afa56c2ec6a236fc3e9f59719435da5758d36125ccd57"), looks := false }, kinds := [], alts := [], laidByText := true, laidKinds := [.data, .listed, .data, .data, .pinned], laidTests := true, laidLooks := .later }
def DecompFullUptoCardSaid : Prop := Claim7.holds Tryz.pinned (.plain (OpenSpec.upto decompFullSpec)) decompFullUptoCard

/-- THE SECOND FORM's CARD OF 'rubricatorlaw10.ClusterNext'. -/
def clusterNextUptoCard : Claim7 := { stood := { row := clusterNextUptoRow, standIns := [], harness := (true, "98a6fd9a03cbee8e380afa56c2ec6a236fc3e9f59719435da5758d36125ccd57"), looks := false }, kinds := [], alts := [], laidByText := true, laidKinds := [.data, .listed, .data, .pinned], laidTests := true, laidLooks := .later }
def ClusterNextUptoCardSaid : Prop := Claim7.holds Tryz.pinned (.plain (OpenSpec.upto clusterNextSpec)) clusterNextUptoCard

/-- THE SECOND FORM's CARD OF 'rubricatorlaw10.ClusterEdges'. -/
def clusterEdgesUptoCard : Claim7 := { stood := { row := clusterEdgesUptoRow, standIns := [], harness := (true, "98a6fd9a03cbee8e380afa56c2ec6a236fc3e9f59719435da5758d36125ccd57"), looks := false }, kinds := [], alts := [], laidByText := true, laidKinds := [.data, .listed, .data, .pinned], laidTests := true, laidLooks := .later }
def ClusterEdgesUptoCardSaid : Prop := Claim7.holds Tryz.pinned (.plain (OpenSpec.upto clusterEdgesSpec)) clusterEdgesUptoCard

/-- THE SECOND FORM's CARD OF 'rubricatorlaw11.WordEdges'. -/
def wordEdgesUptoCard : Claim7 := { stood := { row := wordEdgesUptoRow, standIns := [], harness := (true, "98a6fd9a03cbee8e380afa56c2ec6a236fc3e9f59719435da5758d36125ccd57"), looks := false }, kinds := [], alts := [], laidByText := true, laidKinds := [.data, .listed, .data, .pinned], laidTests := true, laidLooks := .later }
def WordEdgesUptoCardSaid : Prop := Claim7.holds Tryz.pinned (.plain (OpenSpec.upto wordEdgesSpec)) wordEdgesUptoCard

/-- THE SECOND FORM's CARD OF 'rubricatorlaw11.WordSimple'. -/
def wordSimpleUptoCard : Claim7 := { stood := { row := wordSimpleUptoRow, standIns := [], harness := (true, "98a6fd9a03cbee8e380afa56c2ec6a236fc3e9f59719435da5758d36125ccd57"), looks := false }, kinds := [], alts := [], laidByText := true, laidKinds := [.data, .listed, .data, .pinned], laidTests := true, laidLooks := .later }
def WordSimpleUptoCardSaid : Prop := Claim7.holds Tryz.pinned (.plain (OpenSpec.upto wordSimpleSpec)) wordSimpleUptoCard

/-- THE SECOND FORM's CARD OF 'rubricatorlaw09.FoldTwice'. -/
def foldTwiceUptoCard : Claim7 := { stood := { row := foldTwiceUptoRow, standIns := [], harness := (true, "98a6fd9a03cbee8e380afa56c2ec6a236fc3e9f59719435da5758d36125ccd57"), looks := false }, kinds := [], alts := [], laidByText := true, laidKinds := [.data, .listed, .data, .pinned], laidTests := true, laidLooks := .later }
def FoldTwiceUptoCardSaid : Prop := Claim7.holds Tryz.pinned (.plain (OpenSpec.upto foldTwiceSpec)) foldTwiceUptoCard

/-- THE SECOND FORM's CARD OF 'rubricatorlaw09.FoldCloses'. -/
def foldClosesUptoCard : Claim7 := { stood := { row := foldClosesUptoRow, standIns := [], harness := (true, "98a6fd9a03cbee8e380afa56c2ec6a236fc3e9f59719435da5758d36125ccd57"), looks := false }, kinds := [], alts := [], laidByText := true, laidKinds := [.data, .listed, .data, .pinned], laidTests := true, laidLooks := .later }
def FoldClosesUptoCardSaid : Prop := Claim7.holds Tryz.pinned (.plain (OpenSpec.upto foldClosesSpec)) foldClosesUptoCard
end Rows
end Go.Proofs.YtkgomgfhfoomhaaGreatDoor
