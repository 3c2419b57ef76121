/-
  DERIVED. GIVEN WITH THE SEED: THE CARDS: each row of YtmdkjljcnegmeaaDoorRows.lean that lists a variable, with what it lists TIED to the program's text (the seventh form; the later family's looks); each row that meets fmt, with fmt's text TOLD by the authors' own Lean function (tested against real Go, not proved from fmt's source: count such statements apart). THE CARD IS WHAT COUNTS. Prove the row's statement (the work); the ties are given (YtmdkjljcnegmeaaDoorTie.lean); close each card by the builder's one call (the guide's Derived/Test/ToyasCard.lean, 'card_holds'). Laid BY PROGRAM, IN A SANDBOX (cutbox-door.mjs). By AI agents, Wed Nov 11 2026. No macro, syntax, notation, axiom, sorry.
-/
import Derived.Test.YtmdkjljcnegmeaaDoorRows
import GoSem.ClaimSeven
namespace Go.Proofs.YtmdkjljcnegmeaaDoor
namespace Rows

/-- THE TIED CARD OF 'rubricatorlaw09.FoldSettles'. -/
def foldSettlesCard : Claim7 := { stood := { row := foldSettlesRow, standIns := [], harness := (true, "6a53c3224b771d9809d4787902ff694556e8658bbe69620f2e98d902d065f012"), looks := false }, kinds := [], alts := [], laidByText := true, laidKinds := [.data, .listed, .data, .pinned], laidTests := true, laidLooks := .later }
def FoldSettlesCardSaid : Prop := Claim7.holds Tryd.pinned (.plain (OpenSpec.ofChange foldSettlesSpec)) foldSettlesCard

/-- THE TIED CARD OF 'rubricatorlaw07.DecompHangul'. -/
def decompHangulCard : Claim7 := { stood := { row := decompHangulRow, standIns := [], harness := (true, "6a53c3224b771d9809d4787902ff694556e8658bbe69620f2e98d902d065f012"), looks := false }, kinds := [], alts := [], laidByText := true, laidKinds := [.data, .listed, .data, .data, .pinned], laidTests := true, laidLooks := .later }
def DecompHangulCardSaid : Prop := Claim7.holds Tryd.pinned (.plain (OpenSpec.ofChange decompHangulSpec)) decompHangulCard

/-- THE TIED CARD OF 'rubricatorlaw07.DecompEnds'. -/
def decompEndsCard : Claim7 := { stood := { row := decompEndsRow, standIns := [], harness := (true, "6a53c3224b771d9809d4787902ff694556e8658bbe69620f2e98d902d065f012"), looks := false }, kinds := [], alts := [], laidByText := true, laidKinds := [.data, .listed, .data, .data, .pinned], laidTests := true, laidLooks := .later }
def DecompEndsCardSaid : Prop := Claim7.holds Tryd.pinned (.plain (OpenSpec.ofChange decompEndsSpec)) decompEndsCard

/-- THE TIED CARD OF 'rubricatorlaw09.FoldNobody'. -/
def foldNobodyCard : Claim7 := { stood := { row := foldNobodyRow, standIns := [], harness := (true, "6a53c3224b771d9809d4787902ff694556e8658bbe69620f2e98d902d065f012"), looks := false }, kinds := [], alts := [], laidByText := true, laidKinds := [.data, .listed, .data, .pinned], laidTests := true, laidLooks := .later }
def FoldNobodyCardSaid : Prop := Claim7.holds Tryd.pinned (.plain (OpenSpec.ofChange foldNobodySpec)) foldNobodyCard

/-- THE TIED CARD OF 'rubricatorlaw10.ClusterWalks'. -/
def clusterWalksCard : Claim7 := { stood := { row := clusterWalksRow, standIns := [], harness := (true, "6a53c3224b771d9809d4787902ff694556e8658bbe69620f2e98d902d065f012"), looks := false }, kinds := [], alts := [], laidByText := true, laidKinds := [.data, .listed, .data, .pinned], laidTests := true, laidLooks := .later }
def ClusterWalksCardSaid : Prop := Claim7.holds Tryd.pinned (.plain (OpenSpec.ofChange clusterWalksSpec)) clusterWalksCard

/-- THE TIED CARD OF 'rubricatorlaw10.ClusterNobody'. -/
def clusterNobodyCard : Claim7 := { stood := { row := clusterNobodyRow, standIns := [], harness := (true, "6a53c3224b771d9809d4787902ff694556e8658bbe69620f2e98d902d065f012"), looks := false }, kinds := [], alts := [], laidByText := true, laidKinds := [.data, .listed, .data, .pinned], laidTests := true, laidLooks := .later }
def ClusterNobodyCardSaid : Prop := Claim7.holds Tryd.pinned (.plain (OpenSpec.ofChange clusterNobodySpec)) clusterNobodyCard

/-- THE SECOND FORM's CARD OF 'rubricatorlaw09.FoldSettles'. -/
def foldSettlesUptoCard : Claim7 := { stood := { row := foldSettlesUptoRow, standIns := [], harness := (true, "6a53c3224b771d9809d4787902ff694556e8658bbe69620f2e98d902d065f012"), looks := false }, kinds := [], alts := [], laidByText := true, laidKinds := [.data, .listed, .data, .pinned], laidTests := true, laidLooks := .later }
def FoldSettlesUptoCardSaid : Prop := Claim7.holds Tryd.pinned (.plain (OpenSpec.upto foldSettlesSpec)) foldSettlesUptoCard

/-- THE SECOND FORM's CARD OF 'rubricatorlaw07.DecompHangul'. -/
def decompHangulUptoCard : Claim7 := { stood := { row := decompHangulUptoRow, standIns := [], harness := (true, "6a53c3224b771d9809d4787902ff694556e8658bbe69620f2e98d902d065f012"), looks := false }, kinds := [], alts := [], laidByText := true, laidKinds := [.data, .listed, .data, .data, .pinned], laidTests := true, laidLooks := .later }
def DecompHangulUptoCardSaid : Prop := Claim7.holds Tryd.pinned (.plain (OpenSpec.upto decompHangulSpec)) decompHangulUptoCard

/-- THE SECOND FORM's CARD OF 'rubricatorlaw07.DecompEnds'. -/
def decompEndsUptoCard : Claim7 := { stood := { row := decompEndsUptoRow, standIns := [], harness := (true, "6a53c3224b771d9809d4787902ff694556e8658bbe69620f2e98d902d065f012"), looks := false }, kinds := [], alts := [], laidByText := true, laidKinds := [.data, .listed, .data, .data, .pinned], laidTests := true, laidLooks := .later }
def DecompEndsUptoCardSaid : Prop := Claim7.holds Tryd.pinned (.plain (OpenSpec.upto decompEndsSpec)) decompEndsUptoCard

/-- THE SECOND FORM's CARD OF 'rubricatorlaw09.FoldNobody'. -/
def foldNobodyUptoCard : Claim7 := { stood := { row := foldNobodyUptoRow, standIns := [], harness := (true, "6a53c3224b771d9809d4787902ff694556e8658bbe69620f2e98d902d065f012"), looks := false }, kinds := [], alts := [], laidByText := true, laidKinds := [.data, .listed, .data, .pinned], laidTests := true, laidLooks := .later }
def FoldNobodyUptoCardSaid : Prop := Claim7.holds Tryd.pinned (.plain (OpenSpec.upto foldNobodySpec)) foldNobodyUptoCard

/-- THE SECOND FORM's CARD OF 'rubricatorlaw10.ClusterWalks'. -/
def clusterWalksUptoCard : Claim7 := { stood := { row := clusterWalksUptoRow, standIns := [], harness := (true, "6a53c3224b771d9809d4787902ff694556e8658bbe69620f2e98d902d065f012"), looks := false }, kinds := [], alts := [], laidByText := true, laidKinds := [.data, .listed, .data, .pinned], laidTests := true, laidLooks := .later }
def ClusterWalksUptoCardSaid : Prop := Claim7.holds Tryd.pinned (.plain (OpenSpec.upto clusterWalksSpec)) clusterWalksUptoCard

/-- THE SECOND FORM's CARD OF 'rubricatorlaw10.ClusterNobody'. -/
def clusterNobodyUptoCard : Claim7 := { stood := { row := clusterNobodyUptoRow, standIns := [], harness := (true, "6a53c3224b771d9809d4787902ff694556e8658bbe69620f2e98d902d065f012"), looks := false }, kinds := [], alts := [], laidByText := true, laidKinds := [.data, .listed, .data, .pinned], laidTests := true, laidLooks := .later }
def ClusterNobodyUptoCardSaid : Prop := Claim7.holds Tryd.pinned (.plain (OpenSpec.upto clusterNobodySpec)) clusterNobodyUptoCard
end Rows
end Go.Proofs.YtmdkjljcnegmeaaDoor
