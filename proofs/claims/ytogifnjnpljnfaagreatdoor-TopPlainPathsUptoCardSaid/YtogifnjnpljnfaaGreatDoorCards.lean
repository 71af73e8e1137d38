/-
  DERIVED. GIVEN WITH THE SEED: THE CARDS: each row of YtogifnjnpljnfaaGreatDoorRows.lean that lists a variable, with what it lists TIED to the program's text (the seventh form; the later family's looks); each row that meets fmt, with fmt's text TOLD by the authors' own Lean function (tested against real Go, not proved from fmt's source: count such statements apart). THE CARD IS WHAT COUNTS. Prove the row's statement (the work); the ties are given (YtogifnjnpljnfaaGreatDoorTie.lean); close each card by the builder's one call (the guide's Derived/Test/ToyasCard.lean, 'card_holds'). Laid BY PROGRAM, IN A SANDBOX (cutbox-door.mjs). By AI agents, Wed Nov 11 2026. No macro, syntax, notation, axiom, sorry.
-/
import Derived.Test.YtogifnjnpljnfaaGreatDoorRows
import GoSem.ClaimSeven
namespace Go.Proofs.YtogifnjnpljnfaaGreatDoor
namespace Rows

/-- THE TIED CARD OF 'depositorytop.TopPlainPaths'. -/
def topPlainPathsCard : Claim7 := { stood := { row := topPlainPathsRow, standIns := [], harness := (true, "7a16603c39190f815be54a4a8c7d38fe3559bb548dc5c0ac4c1ece0fc2b0b401"), looks := false }, kinds := [], alts := [], laidByText := true, laidKinds := [.data, .data, .data, .data, .data, .pinned], laidTests := true, laidLooks := .later }
def TopPlainPathsCardSaid : Prop := Claim7.holds Tryz.pinned (.plain (OpenSpec.ofChange topPlainPathsSpec)) topPlainPathsCard

/-- THE SECOND FORM's CARD OF 'depositorytop.TopPlainPaths'. -/
def topPlainPathsUptoCard : Claim7 := { stood := { row := topPlainPathsUptoRow, standIns := [], harness := (true, "7a16603c39190f815be54a4a8c7d38fe3559bb548dc5c0ac4c1ece0fc2b0b401"), looks := false }, kinds := [], alts := [], laidByText := true, laidKinds := [.data, .data, .data, .data, .data, .pinned], laidTests := true, laidLooks := .later }
def TopPlainPathsUptoCardSaid : Prop := Claim7.holds Tryz.pinned (.plain (OpenSpec.upto topPlainPathsSpec)) topPlainPathsUptoCard
end Rows
end Go.Proofs.YtogifnjnpljnfaaGreatDoor
