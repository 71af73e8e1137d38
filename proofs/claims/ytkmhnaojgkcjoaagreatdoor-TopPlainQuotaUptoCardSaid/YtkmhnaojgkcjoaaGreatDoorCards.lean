/-
  DERIVED. GIVEN WITH THE SEED: THE CARDS: each row of YtkmhnaojgkcjoaaGreatDoorRows.lean that lists a variable, with what it lists TIED to the program's text (the seventh form; the later family's looks); each row that meets fmt, with fmt's text TOLD by the authors' own Lean function (tested against real Go, not proved from fmt's source: count such statements apart). THE CARD IS WHAT COUNTS. Prove the row's statement (the work); the ties are given (YtkmhnaojgkcjoaaGreatDoorTie.lean); close each card by the builder's one call (the guide's Derived/Test/ToyasCard.lean, 'card_holds'). Laid BY PROGRAM, IN A SANDBOX (cutbox-door.mjs). By AI agents, Wed Nov 11 2026. No macro, syntax, notation, axiom, sorry.
-/
import Derived.Test.YtkmhnaojgkcjoaaGreatDoorRows
import GoSem.ClaimSeven
namespace Go.Proofs.YtkmhnaojgkcjoaaGreatDoor
namespace Rows

/-- THE TIED CARD OF 'depositorytop.TopPlainQuota'. -/
def topPlainQuotaCard : Claim7 := { stood := { row := topPlainQuotaRow, standIns := [], harness := (true, "8f882c226b6b54b7d4a73ddefce76f9705ff25eaf5978b6d6f3e9b97259d6c21"), looks := false }, kinds := [], alts := [], laidByText := true, laidKinds := [.data, .data, .data, .data, .pinned], laidTests := true, laidLooks := .later }
def TopPlainQuotaCardSaid : Prop := Claim7.holds Tryz.pinned (.plain (OpenSpec.ofChange topPlainQuotaSpec)) topPlainQuotaCard

/-- THE SECOND FORM's CARD OF 'depositorytop.TopPlainQuota'. -/
def topPlainQuotaUptoCard : Claim7 := { stood := { row := topPlainQuotaUptoRow, standIns := [], harness := (true, "8f882c226b6b54b7d4a73ddefce76f9705ff25eaf5978b6d6f3e9b97259d6c21"), looks := false }, kinds := [], alts := [], laidByText := true, laidKinds := [.data, .data, .data, .data, .pinned], laidTests := true, laidLooks := .later }
def TopPlainQuotaUptoCardSaid : Prop := Claim7.holds Tryz.pinned (.plain (OpenSpec.upto topPlainQuotaSpec)) topPlainQuotaUptoCard
end Rows
end Go.Proofs.YtkmhnaojgkcjoaaGreatDoor
