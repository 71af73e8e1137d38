/-
  DERIVED. GIVEN WITH THE SEED: THE CARDS: each row of YtpfokhdelnlciaaGreatDoorRows.lean that lists a variable, with what it lists TIED to the program's text (the seventh form; the later family's looks); each row that meets fmt, with fmt's text TOLD by the authors' own Lean function (tested against real Go, not proved from fmt's source: count such statements apart). THE CARD IS WHAT COUNTS. Prove the row's statement (the work); the ties are given (YtpfokhdelnlciaaGreatDoorTie.lean); close each card by the builder's one call (the guide's Derived/Test/ToyasCard.lean, 'card_holds'). Laid BY PROGRAM, IN A SANDBOX (cutbox-door.mjs). By AI agents, Wed Nov 11 2026. No macro, syntax, notation, axiom, sorry.
-/
import Derived.Test.YtpfokhdelnlciaaGreatDoorRows
import GoSem.ClaimSeven
namespace Go.Proofs.YtpfokhdelnlciaaGreatDoor
namespace Rows

/-- THE TIED CARD OF 'depositorylaw27.ReparseResolves'. -/
def reparseResolvesCard : Claim7 := { stood := { row := reparseResolvesRow, standIns := [], harness := (true, "a16cbc1bcc8e620bf3fa5a01d12ddd2b9540fe44c3b039af40c111ac70deaea2"), looks := false }, kinds := [], alts := [], laidByText := true, laidKinds := [.data, .pinned], laidTests := true, laidLooks := .later }
def ReparseResolvesCardSaid : Prop := Claim7.holds Tryz.pinned (.plain (OpenSpec.ofChange reparseResolvesSpec)) reparseResolvesCard

/-- THE TIED CARD OF 'depositorylaw27.ReparseSame'. -/
def reparseSameCard : Claim7 := { stood := { row := reparseSameRow, standIns := [], harness := (true, "a16cbc1bcc8e620bf3fa5a01d12ddd2b9540fe44c3b039af40c111ac70deaea2"), looks := false }, kinds := [], alts := [], laidByText := true, laidKinds := [.data, .pinned], laidTests := true, laidLooks := .later }
def ReparseSameCardSaid : Prop := Claim7.holds Tryz.pinned (.plain (OpenSpec.ofChange reparseSameSpec)) reparseSameCard

/-- THE TIED CARD OF 'depositorylaw27.ReparseTrees'. -/
def reparseTreesCard : Claim7 := { stood := { row := reparseTreesRow, standIns := [], harness := (true, "a16cbc1bcc8e620bf3fa5a01d12ddd2b9540fe44c3b039af40c111ac70deaea2"), looks := false }, kinds := [], alts := [], laidByText := true, laidKinds := [.data, .pinned], laidTests := true, laidLooks := .later }
def ReparseTreesCardSaid : Prop := Claim7.holds Tryz.pinned (.plain (OpenSpec.ofChange reparseTreesSpec)) reparseTreesCard

/-- THE TIED CARD OF 'depositorylaw27.ReparseNormal'. -/
def reparseNormalCard : Claim7 := { stood := { row := reparseNormalRow, standIns := [], harness := (true, "a16cbc1bcc8e620bf3fa5a01d12ddd2b9540fe44c3b039af40c111ac70deaea2"), looks := false }, kinds := [], alts := [], laidByText := true, laidKinds := [.data, .pinned], laidTests := true, laidLooks := .later }
def ReparseNormalCardSaid : Prop := Claim7.holds Tryz.pinned (.plain (OpenSpec.ofChange reparseNormalSpec)) reparseNormalCard

/-- THE TIED CARD OF 'depositorylaw27.ReparseRelative'. -/
def reparseRelativeCard : Claim7 := { stood := { row := reparseRelativeRow, standIns := [], harness := (true, "a16cbc1bcc8e620bf3fa5a01d12ddd2b9540fe44c3b039af40c111ac70deaea2"), looks := false }, kinds := [], alts := [], laidByText := true, laidKinds := [.data, .pinned], laidTests := true, laidLooks := .later }
def ReparseRelativeCardSaid : Prop := Claim7.holds Tryz.pinned (.plain (OpenSpec.ofChange reparseRelativeSpec)) reparseRelativeCard

/-- THE TIED CARD OF 'depositorylaw27.ReparsePaths'. -/
def reparsePathsCard : Claim7 := { stood := { row := reparsePathsRow, standIns := [], harness := (true, "a16cbc1bcc8e620bf3fa5a01d12ddd2b9540fe44c3b039af40c111ac70deaea2"), looks := false }, kinds := [], alts := [], laidByText := true, laidKinds := [.data, .pinned], laidTests := true, laidLooks := .later }
def ReparsePathsCardSaid : Prop := Claim7.holds Tryz.pinned (.plain (OpenSpec.ofChange reparsePathsSpec)) reparsePathsCard

/-- THE TIED CARD OF 'depositorylaw27.ReparseWays'. -/
def reparseWaysCard : Claim7 := { stood := { row := reparseWaysRow, standIns := [], harness := (true, "a16cbc1bcc8e620bf3fa5a01d12ddd2b9540fe44c3b039af40c111ac70deaea2"), looks := false }, kinds := [], alts := [], laidByText := true, laidKinds := [.data, .pinned], laidTests := true, laidLooks := .later }
def ReparseWaysCardSaid : Prop := Claim7.holds Tryz.pinned (.plain (OpenSpec.ofChange reparseWaysSpec)) reparseWaysCard

/-- THE SECOND FORM's CARD OF 'depositorylaw27.ReparseResolves'. -/
def reparseResolvesUptoCard : Claim7 := { stood := { row := reparseResolvesUptoRow, standIns := [], harness := (true, "a16cbc1bcc8e620bf3fa5a01d12ddd2b9540fe44c3b039af40c111ac70deaea2"), looks := false }, kinds := [], alts := [], laidByText := true, laidKinds := [.data, .pinned], laidTests := true, laidLooks := .later }
def ReparseResolvesUptoCardSaid : Prop := Claim7.holds Tryz.pinned (.plain (OpenSpec.upto reparseResolvesSpec)) reparseResolvesUptoCard

/-- THE SECOND FORM's CARD OF 'depositorylaw27.ReparseSame'. -/
def reparseSameUptoCard : Claim7 := { stood := { row := reparseSameUptoRow, standIns := [], harness := (true, "a16cbc1bcc8e620bf3fa5a01d12ddd2b9540fe44c3b039af40c111ac70deaea2"), looks := false }, kinds := [], alts := [], laidByText := true, laidKinds := [.data, .pinned], laidTests := true, laidLooks := .later }
def ReparseSameUptoCardSaid : Prop := Claim7.holds Tryz.pinned (.plain (OpenSpec.upto reparseSameSpec)) reparseSameUptoCard

/-- THE SECOND FORM's CARD OF 'depositorylaw27.ReparseTrees'. -/
def reparseTreesUptoCard : Claim7 := { stood := { row := reparseTreesUptoRow, standIns := [], harness := (true, "a16cbc1bcc8e620bf3fa5a01d12ddd2b9540fe44c3b039af40c111ac70deaea2"), looks := false }, kinds := [], alts := [], laidByText := true, laidKinds := [.data, .pinned], laidTests := true, laidLooks := .later }
def ReparseTreesUptoCardSaid : Prop := Claim7.holds Tryz.pinned (.plain (OpenSpec.upto reparseTreesSpec)) reparseTreesUptoCard

/-- THE SECOND FORM's CARD OF 'depositorylaw27.ReparseNormal'. -/
def reparseNormalUptoCard : Claim7 := { stood := { row := reparseNormalUptoRow, standIns := [], harness := (true, "a16cbc1bcc8e620bf3fa5a01d12ddd2b9540fe44c3b039af40c111ac70deaea2"), looks := false }, kinds := [], alts := [], laidByText := true, laidKinds := [.data, .pinned], laidTests := true, laidLooks := .later }
def ReparseNormalUptoCardSaid : Prop := Claim7.holds Tryz.pinned (.plain (OpenSpec.upto reparseNormalSpec)) reparseNormalUptoCard

/-- THE SECOND FORM's CARD OF 'depositorylaw27.ReparseRelative'. -/
def reparseRelativeUptoCard : Claim7 := { stood := { row := reparseRelativeUptoRow, standIns := [], harness := (true, "a16cbc1bcc8e620bf3fa5a01d12ddd2b9540fe44c3b039af40c111ac70deaea2"), looks := false }, kinds := [], alts := [], laidByText := true, laidKinds := [.data, .pinned], laidTests := true, laidLooks := .later }
def ReparseRelativeUptoCardSaid : Prop := Claim7.holds Tryz.pinned (.plain (OpenSpec.upto reparseRelativeSpec)) reparseRelativeUptoCard

/-- THE SECOND FORM's CARD OF 'depositorylaw27.ReparsePaths'. -/
def reparsePathsUptoCard : Claim7 := { stood := { row := reparsePathsUptoRow, standIns := [], harness := (true, "a16cbc1bcc8e620bf3fa5a01d12ddd2b9540fe44c3b039af40c111ac70deaea2"), looks := false }, kinds := [], alts := [], laidByText := true, laidKinds := [.data, .pinned], laidTests := true, laidLooks := .later }
def ReparsePathsUptoCardSaid : Prop := Claim7.holds Tryz.pinned (.plain (OpenSpec.upto reparsePathsSpec)) reparsePathsUptoCard

/-- THE SECOND FORM's CARD OF 'depositorylaw27.ReparseWays'. -/
def reparseWaysUptoCard : Claim7 := { stood := { row := reparseWaysUptoRow, standIns := [], harness := (true, "a16cbc1bcc8e620bf3fa5a01d12ddd2b9540fe44c3b039af40c111ac70deaea2"), looks := false }, kinds := [], alts := [], laidByText := true, laidKinds := [.data, .pinned], laidTests := true, laidLooks := .later }
def ReparseWaysUptoCardSaid : Prop := Claim7.holds Tryz.pinned (.plain (OpenSpec.upto reparseWaysSpec)) reparseWaysUptoCard
end Rows
end Go.Proofs.YtpfokhdelnlciaaGreatDoor
