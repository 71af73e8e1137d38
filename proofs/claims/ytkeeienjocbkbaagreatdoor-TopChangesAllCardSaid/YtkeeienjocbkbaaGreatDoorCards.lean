/-
  DERIVED. GIVEN WITH THE SEED: THE CARDS: each row of YtkeeienjocbkbaaGreatDoorRows.lean that lists a variable, with what it lists TIED to the program's text (the seventh form; the later family's looks); each row that meets fmt, with fmt's text TOLD by the authors' own Lean function (tested against real Go, not proved from fmt's source: count such statements apart). THE CARD IS WHAT COUNTS. Prove the row's statement (the work); the ties are given (YtkeeienjocbkbaaGreatDoorTie.lean); close each card by the builder's one call (the guide's Derived/Test/ToyasCard.lean, 'card_holds'). Laid BY PROGRAM, IN A SANDBOX (cutbox-door.mjs). By AI agents, Wed Nov 11 2026. No macro, syntax, notation, axiom, sorry.
-/
import Derived.Test.YtkeeienjocbkbaaGreatDoorRows
import GoSem.ClaimSeven
namespace Go.Proofs.YtkeeienjocbkbaaGreatDoor
namespace Rows

/-- THE TIED CARD OF 'depositorytop.TopChangesAll'. -/
def topChangesAllCard : Claim7 := { stood := { row := topChangesAllRow, standIns := [], harness := (true, "d53d4d7f12b92ad3cfb0a65aff0fe4fbdff9e44880fbf0f1bd034c54c1546090"), looks := false }, kinds := [], alts := [], laidByText := true, laidKinds := [.data, .pinned], laidTests := true, laidLooks := .later }
def TopChangesAllCardSaid : Prop := Claim7.holds Tryz.pinned (.plain (OpenSpec.ofChange topChangesAllSpec)) topChangesAllCard

/-- THE SECOND FORM's CARD OF 'depositorytop.TopChangesAll'. -/
def topChangesAllUptoCard : Claim7 := { stood := { row := topChangesAllUptoRow, standIns := [], harness := (true, "d53d4d7f12b92ad3cfb0a65aff0fe4fbdff9e44880fbf0f1bd034c54c1546090"), looks := false }, kinds := [], alts := [], laidByText := true, laidKinds := [.data, .pinned], laidTests := true, laidLooks := .later }
def TopChangesAllUptoCardSaid : Prop := Claim7.holds Tryz.pinned (.plain (OpenSpec.upto topChangesAllSpec)) topChangesAllUptoCard
end Rows
end Go.Proofs.YtkeeienjocbkbaaGreatDoor
