/-
  DERIVED. GIVEN WITH THE SEED: THE CARDS: each row of YtjbipdppgoldlaaGreatDoorRows.lean that lists a variable, with what it lists TIED to the program's text (the seventh form; the later family's looks); each row that meets fmt, with fmt's text TOLD by the authors' own Lean function (tested against real Go, not proved from fmt's source: count such statements apart). THE CARD IS WHAT COUNTS. Prove the row's statement (the work); the ties are given (YtjbipdppgoldlaaGreatDoorTie.lean); close each card by the builder's one call (the guide's Derived/Test/ToyasCard.lean, 'card_holds'). Laid BY PROGRAM, IN A SANDBOX (cutbox-door.mjs). By AI agents, Wed Nov 11 2026. No macro, syntax, notation, axiom, sorry.
-/
import Derived.Test.YtjbipdppgoldlaaGreatDoorRows
import GoSem.ClaimSeven
namespace Go.Proofs.YtjbipdppgoldlaaGreatDoor
namespace Rows

/-- THE TIED CARD OF 'depositorylaw24.ChangesParses'. -/
def changesParsesCard : Claim7 := { stood := { row := changesParsesRow, standIns := [], harness := (true, "1ddc22db80d1ccbc9293bf674042cece788f60955cd070cb4e7d0c12a2e93070"), looks := false }, kinds := [], alts := [], laidByText := true, laidKinds := [.data, .pinned], laidTests := true, laidLooks := .later }
def ChangesParsesCardSaid : Prop := Claim7.holds Tryz.pinned (.plain (OpenSpec.ofChange changesParsesSpec)) changesParsesCard

/-- THE TIED CARD OF 'depositorylaw24.ChangesBack'. -/
def changesBackCard : Claim7 := { stood := { row := changesBackRow, standIns := [], harness := (true, "1ddc22db80d1ccbc9293bf674042cece788f60955cd070cb4e7d0c12a2e93070"), looks := false }, kinds := [], alts := [], laidByText := true, laidKinds := [.data, .pinned], laidTests := true, laidLooks := .later }
def ChangesBackCardSaid : Prop := Claim7.holds Tryz.pinned (.plain (OpenSpec.ofChange changesBackSpec)) changesBackCard

/-- THE SECOND FORM's CARD OF 'depositorylaw24.ChangesParses'. -/
def changesParsesUptoCard : Claim7 := { stood := { row := changesParsesUptoRow, standIns := [], harness := (true, "1ddc22db80d1ccbc9293bf674042cece788f60955cd070cb4e7d0c12a2e93070"), looks := false }, kinds := [], alts := [], laidByText := true, laidKinds := [.data, .pinned], laidTests := true, laidLooks := .later }
def ChangesParsesUptoCardSaid : Prop := Claim7.holds Tryz.pinned (.plain (OpenSpec.upto changesParsesSpec)) changesParsesUptoCard

/-- THE SECOND FORM's CARD OF 'depositorylaw24.ChangesBack'. -/
def changesBackUptoCard : Claim7 := { stood := { row := changesBackUptoRow, standIns := [], harness := (true, "1ddc22db80d1ccbc9293bf674042cece788f60955cd070cb4e7d0c12a2e93070"), looks := false }, kinds := [], alts := [], laidByText := true, laidKinds := [.data, .pinned], laidTests := true, laidLooks := .later }
def ChangesBackUptoCardSaid : Prop := Claim7.holds Tryz.pinned (.plain (OpenSpec.upto changesBackSpec)) changesBackUptoCard
end Rows
end Go.Proofs.YtjbipdppgoldlaaGreatDoor
