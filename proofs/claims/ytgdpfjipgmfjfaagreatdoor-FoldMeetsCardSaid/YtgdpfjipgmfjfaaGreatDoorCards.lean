/-
  DERIVED. GIVEN WITH THE SEED: THE CARDS: each row of YtgdpfjipgmfjfaaGreatDoorRows.lean that lists a variable, with what it lists TIED to the program's text (the seventh form; the later family's looks); each row that meets fmt, with fmt's text TOLD by the authors' own Lean function (tested against real Go, not proved from fmt's source: count such statements apart). THE CARD IS WHAT COUNTS. Prove the row's statement (the work); the ties are given (YtgdpfjipgmfjfaaGreatDoorTie.lean); close each card by the builder's one call (the guide's Derived/Test/ToyasCard.lean, 'card_holds'). Laid BY PROGRAM, IN A SANDBOX (cutbox-door.mjs). By AI agents, Wed Nov 11 2026. No macro, syntax, notation, axiom, sorry.
-/
import Derived.Test.YtgdpfjipgmfjfaaGreatDoorRows
import GoSem.ClaimSeven
namespace Go.Proofs.YtgdpfjipgmfjfaaGreatDoor
namespace Rows

/-- THE TIED CARD OF 'rubricatorlaw09.FoldMeets'. -/
def foldMeetsCard : Claim7 := { stood := { row := foldMeetsRow, standIns := [], harness := (true, "ac60e41accde4a3cb5313654b00c75165e3afc6070189f2cc05f37d7a589c8a6"), looks := false }, kinds := [], alts := [], laidByText := true, laidKinds := [.data, .listed, .data, .pinned], laidTests := true, laidLooks := .later }
def FoldMeetsCardSaid : Prop := Claim7.holds Tryz.pinned (.plain (OpenSpec.ofChange foldMeetsSpec)) foldMeetsCard

/-- THE TIED CARD OF 'rubricatorlaw09.FoldTwice'. -/
def foldTwiceCard : Claim7 := { stood := { row := foldTwiceRow, standIns := [], harness := (true, "ac60e41accde4a3cb5313654b00c75165e3afc6070189f2cc05f37d7a589c8a6"), looks := false }, kinds := [], alts := [], laidByText := true, laidKinds := [.data, .listed, .data, .pinned], laidTests := true, laidLooks := .later }
def FoldTwiceCardSaid : Prop := Claim7.holds Tryz.pinned (.plain (OpenSpec.ofChange foldTwiceSpec)) foldTwiceCard

/-- THE TIED CARD OF 'rubricatorlaw07.DecompFull'. -/
def decompFullCard : Claim7 := { stood := { row := decompFullRow, standIns := [], harness := (true, "ac60e41accde4a3cb5313654b00c75165e3afc6070189f2cc05f37d7a589c8a6"), looks := false }, kinds := [], alts := [], laidByText := true, laidKinds := [.data, .listed, .data, .data, .pinned], laidTests := true, laidLooks := .later }
def DecompFullCardSaid : Prop := Claim7.holds Tryz.pinned (.plain (OpenSpec.ofChange decompFullSpec)) decompFullCard

/-- THE TIED CARD OF 'rubricatorlaw09.FoldCloses'. -/
def foldClosesCard : Claim7 := { stood := { row := foldClosesRow, standIns := [], harness := (true, "ac60e41accde4a3cb5313654b00c75165e3afc6070189f2cc05f37d7a589c8a6"), looks := false }, kinds := [], alts := [], laidByText := true, laidKinds := [.data, .listed, .data, .pinned], laidTests := true, laidLooks := .later }
def FoldClosesCardSaid : Prop := Claim7.holds Tryz.pinned (.plain (OpenSpec.ofChange foldClosesSpec)) foldClosesCard

/-- THE TIED CARD OF 'rubricatorlaw09.FoldTells'. -/
def foldTellsCard : Claim7 := { stood := { row := foldTellsRow, standIns := [], harness := (true, "ac60e41accde4a3cb5313654b00c75165e3afc6070189f2cc05f37d7a589c8a6"), looks := false }, kinds := [], alts := [], laidByText := true, laidKinds := [.data, .listed, .data, .pinned], laidTests := true, laidLooks := .later }
def FoldTellsCardSaid : Prop := Claim7.holds Tryz.pinned (.plain (OpenSpec.ofChange foldTellsSpec)) foldTellsCard

/-- THE TIED CARD OF 'rubricatorlaw10.ClusterNext'. -/
def clusterNextCard : Claim7 := { stood := { row := clusterNextRow, standIns := [], harness := (true, "ac60e41accde4a3cb5313654b00c75165e3afc6070189f2cc05f37d7a589c8a6"), looks := false }, kinds := [], alts := [], laidByText := true, laidKinds := [.data, .listed, .data, .pinned], laidTests := true, laidLooks := .later }
def ClusterNextCardSaid : Prop := Claim7.holds Tryz.pinned (.plain (OpenSpec.ofChange clusterNextSpec)) clusterNextCard

/-- THE TIED CARD OF 'rubricatorlaw11.WordLetters'. -/
def wordLettersCard : Claim7 := { stood := { row := wordLettersRow, standIns := [], harness := (true, "ac60e41accde4a3cb5313654b00c75165e3afc6070189f2cc05f37d7a589c8a6"), looks := false }, kinds := [], alts := [], laidByText := true, laidKinds := [.data, .listed, .data, .pinned], laidTests := true, laidLooks := .later }
def WordLettersCardSaid : Prop := Claim7.holds Tryz.pinned (.plain (OpenSpec.ofChange wordLettersSpec)) wordLettersCard

/-- THE TIED CARD OF 'rubricatorlaw11.WordNobody'. -/
def wordNobodyCard : Claim7 := { stood := { row := wordNobodyRow, standIns := [], harness := (true, "ac60e41accde4a3cb5313654b00c75165e3afc6070189f2cc05f37d7a589c8a6"), looks := false }, kinds := [], alts := [], laidByText := true, laidKinds := [.data, .listed, .data, .pinned], laidTests := true, laidLooks := .later }
def WordNobodyCardSaid : Prop := Claim7.holds Tryz.pinned (.plain (OpenSpec.ofChange wordNobodySpec)) wordNobodyCard

/-- THE TIED CARD OF 'rubricatorlaw10.ClusterEdges'. -/
def clusterEdgesCard : Claim7 := { stood := { row := clusterEdgesRow, standIns := [], harness := (true, "ac60e41accde4a3cb5313654b00c75165e3afc6070189f2cc05f37d7a589c8a6"), looks := false }, kinds := [], alts := [], laidByText := true, laidKinds := [.data, .listed, .data, .pinned], laidTests := true, laidLooks := .later }
def ClusterEdgesCardSaid : Prop := Claim7.holds Tryz.pinned (.plain (OpenSpec.ofChange clusterEdgesSpec)) clusterEdgesCard

/-- THE TIED CARD OF 'rubricatorlaw11.WordMarks'. -/
def wordMarksCard : Claim7 := { stood := { row := wordMarksRow, standIns := [], harness := (true, "ac60e41accde4a3cb5313654b00c75165e3afc6070189f2cc05f37d7a589c8a6"), looks := false }, kinds := [], alts := [], laidByText := true, laidKinds := [.data, .listed, .data, .pinned], laidTests := true, laidLooks := .later }
def WordMarksCardSaid : Prop := Claim7.holds Tryz.pinned (.plain (OpenSpec.ofChange wordMarksSpec)) wordMarksCard

/-- THE TIED CARD OF 'rubricatorlaw11.WordLines'. -/
def wordLinesCard : Claim7 := { stood := { row := wordLinesRow, standIns := [], harness := (true, "ac60e41accde4a3cb5313654b00c75165e3afc6070189f2cc05f37d7a589c8a6"), looks := false }, kinds := [], alts := [], laidByText := true, laidKinds := [.data, .listed, .data, .pinned], laidTests := true, laidLooks := .later }
def WordLinesCardSaid : Prop := Claim7.holds Tryz.pinned (.plain (OpenSpec.ofChange wordLinesSpec)) wordLinesCard

/-- THE SECOND FORM's CARD OF 'rubricatorlaw09.FoldMeets'. -/
def foldMeetsUptoCard : Claim7 := { stood := { row := foldMeetsUptoRow, standIns := [], harness := (true, "ac60e41accde4a3cb5313654b00c75165e3afc6070189f2cc05f37d7a589c8a6"), looks := false }, kinds := [], alts := [], laidByText := true, laidKinds := [.data, .listed, .data, .pinned], laidTests := true, laidLooks := .later }
def FoldMeetsUptoCardSaid : Prop := Claim7.holds Tryz.pinned (.plain (OpenSpec.upto foldMeetsSpec)) foldMeetsUptoCard

/-- THE SECOND FORM's CARD OF 'rubricatorlaw09.FoldTwice'. -/
def foldTwiceUptoCard : Claim7 := { stood := { row := foldTwiceUptoRow, standIns := [], harness := (true, "ac60e41accde4a3cb5313654b00c75165e3afc6070189f2cc05f37d7a589c8a6"), looks := false }, kinds := [], alts := [], laidByText := true, laidKinds := [.data, .listed, .data, .pinned], laidTests := true, laidLooks := .later }
def FoldTwiceUptoCardSaid : Prop := Claim7.holds Tryz.pinned (.plain (OpenSpec.upto foldTwiceSpec)) foldTwiceUptoCard

/-- THE SECOND FORM's CARD OF 'rubricatorlaw07.DecompFull'. -/
def decompFullUptoCard : Claim7 := { stood := { row := decompFullUptoRow, standIns := [], harness := (true, "ac60e41accde4a3cb5313654b00c75165e3afc6070189f2cc05f37d7a589c8a6"), looks := false }, kinds := [], alts := [], laidByText := true, laidKinds := [.data, .listed, .data, .data, .pinned], laidTests := true, laidLooks := .later }
def DecompFullUptoCardSaid : Prop := Claim7.holds Tryz.pinned (.plain (OpenSpec.upto decompFullSpec)) decompFullUptoCard

/-- THE SECOND FORM's CARD OF 'rubricatorlaw09.FoldCloses'. -/
def foldClosesUptoCard : Claim7 := { stood := { row := foldClosesUptoRow, standIns := [], harness := (true, "ac60e41accde4a3cb5313654b00c75165e3afc6070189f2cc05f37d7a589c8a6"), looks := false }, kinds := [], alts := [], laidByText := true, laidKinds := [.data, .listed, .data, .pinned], laidTests := true, laidLooks := .later }
def FoldClosesUptoCardSaid : Prop := Claim7.holds Tryz.pinned (.plain (OpenSpec.upto foldClosesSpec)) foldClosesUptoCard

/-- THE SECOND FORM's CARD OF 'rubricatorlaw09.FoldTells'. -/
def foldTellsUptoCard : Claim7 := { stood := { row := foldTellsUptoRow, standIns := [], harness := (true, "ac60e41accde4a3cb5313654b00c75165e3afc6070189f2cc05f37d7a589c8a6"), looks := false }, kinds := [], alts := [], laidByText := true, laidKinds := [.data, .listed, .data, .pinned], laidTests := true, laidLooks := .later }
def FoldTellsUptoCardSaid : Prop := Claim7.holds Tryz.pinned (.plain (OpenSpec.upto foldTellsSpec)) foldTellsUptoCard

/-- THE SECOND FORM's CARD OF 'rubricatorlaw10.ClusterNext'. -/
def clusterNextUptoCard : Claim7 := { stood := { row := clusterNextUptoRow, standIns := [], harness := (true, "ac60e41accde4a3cb5313654b00c75165e3afc6070189f2cc05f37d7a589c8a6"), looks := false }, kinds := [], alts := [], laidByText := true, laidKinds := [.data, .listed, .data, .pinned], laidTests := true, laidLooks := .later }
def ClusterNextUptoCardSaid : Prop := Claim7.holds Tryz.pinned (.plain (OpenSpec.upto clusterNextSpec)) clusterNextUptoCard

/-- THE SECOND FORM's CARD OF 'rubricatorlaw11.WordLetters'. -/
def wordLettersUptoCard : Claim7 := { stood := { row := wordLettersUptoRow, standIns := [], harness := (true, "ac60e41accde4a3cb5313654b00c75165e3afc6070189f2cc05f37d7a589c8a6"), looks := false }, kinds := [], alts := [], laidByText := true, laidKinds := [.data, .listed, .data, .pinned], laidTests := true, laidLooks := .later }
def WordLettersUptoCardSaid : Prop := Claim7.holds Tryz.pinned (.plain (OpenSpec.upto wordLettersSpec)) wordLettersUptoCard

/-- THE SECOND FORM's CARD OF 'rubricatorlaw11.WordNobody'. -/
def wordNobodyUptoCard : Claim7 := { stood := { row := wordNobodyUptoRow, standIns := [], harness := (true, "ac60e41accde4a3cb5313654b00c75165e3afc6070189f2cc05f37d7a589c8a6"), looks := false }, kinds := [], alts := [], laidByText := true, laidKinds := [.data, .listed, .data, .pinned], laidTests := true, laidLooks := .later }
def WordNobodyUptoCardSaid : Prop := Claim7.holds Tryz.pinned (.plain (OpenSpec.upto wordNobodySpec)) wordNobodyUptoCard

/-- THE SECOND FORM's CARD OF 'rubricatorlaw10.ClusterEdges'. -/
def clusterEdgesUptoCard : Claim7 := { stood := { row := clusterEdgesUptoRow, standIns := [], harness := (true, "ac60e41accde4a3cb5313654b00c75165e3afc6070189f2cc05f37d7a589c8a6"), looks := false }, kinds := [], alts := [], laidByText := true, laidKinds := [.data, .listed, .data, .pinned], laidTests := true, laidLooks := .later }
def ClusterEdgesUptoCardSaid : Prop := Claim7.holds Tryz.pinned (.plain (OpenSpec.upto clusterEdgesSpec)) clusterEdgesUptoCard

/-- THE SECOND FORM's CARD OF 'rubricatorlaw11.WordMarks'. -/
def wordMarksUptoCard : Claim7 := { stood := { row := wordMarksUptoRow, standIns := [], harness := (true, "ac60e41accde4a3cb5313654b00c75165e3afc6070189f2cc05f37d7a589c8a6"), looks := false }, kinds := [], alts := [], laidByText := true, laidKinds := [.data, .listed, .data, .pinned], laidTests := true, laidLooks := .later }
def WordMarksUptoCardSaid : Prop := Claim7.holds Tryz.pinned (.plain (OpenSpec.upto wordMarksSpec)) wordMarksUptoCard

/-- THE SECOND FORM's CARD OF 'rubricatorlaw11.WordLines'. -/
def wordLinesUptoCard : Claim7 := { stood := { row := wordLinesUptoRow, standIns := [], harness := (true, "ac60e41accde4a3cb5313654b00c75165e3afc6070189f2cc05f37d7a589c8a6"), looks := false }, kinds := [], alts := [], laidByText := true, laidKinds := [.data, .listed, .data, .pinned], laidTests := true, laidLooks := .later }
def WordLinesUptoCardSaid : Prop := Claim7.holds Tryz.pinned (.plain (OpenSpec.upto wordLinesSpec)) wordLinesUptoCard
end Rows
end Go.Proofs.YtgdpfjipgmfjfaaGreatDoor
