/-
  DERIVED. GIVEN WITH THE SEED: THE CARDS: each row of YtbkmjpmgiaiacaaGreatDoorRows.lean that lists a variable, with what it lists TIED to the program's text (the seventh form; the later family's looks); each row that meets fmt, with fmt's text TOLD by the authors' own Lean function (tested against real Go, not proved from fmt's source: count such statements apart). THE CARD IS WHAT COUNTS. Prove the row's statement (the work); the ties are given (YtbkmjpmgiaiacaaGreatDoorTie.lean); close each card by the builder's one call (the guide's Derived/Test/ToyasCard.lean, 'card_holds'). Laid BY PROGRAM, IN A SANDBOX (cutbox-door.mjs). By AI agents, Wed Nov 11 2026. No macro, syntax, notation, axiom, sorry.
-/
import Derived.Test.YtbkmjpmgiaiacaaGreatDoorRows
import GoSem.ClaimSeven
namespace Go.Proofs.YtbkmjpmgiaiacaaGreatDoor
namespace Rows

/-- THE TIED CARD OF 'depositorylaw28.NotifySees'. -/
def notifySeesCard : Claim7 := { stood := { row := notifySeesRow, standIns := [], harness := (true, "109c5384165a96825d1f2089578ad2bcbcab01a966bcbf40a0fdea72bc267f3f"), looks := false }, kinds := [], alts := [], laidByText := true, laidKinds := [.data, .pinned], laidTests := true, laidLooks := .later }
def NotifySeesCardSaid : Prop := Claim7.holds Tryz.pinned (.plain (OpenSpec.ofChange notifySeesSpec)) notifySeesCard

/-- THE TIED CARD OF 'depositorylaw28.NotifyTells'. -/
def notifyTellsCard : Claim7 := { stood := { row := notifyTellsRow, standIns := [], harness := (true, "109c5384165a96825d1f2089578ad2bcbcab01a966bcbf40a0fdea72bc267f3f"), looks := false }, kinds := [], alts := [], laidByText := true, laidKinds := [.data, .pinned], laidTests := true, laidLooks := .later }
def NotifyTellsCardSaid : Prop := Claim7.holds Tryz.pinned (.plain (OpenSpec.ofChange notifyTellsSpec)) notifyTellsCard

/-- THE TIED CARD OF 'depositorylaw28.NotifyReads'. -/
def notifyReadsCard : Claim7 := { stood := { row := notifyReadsRow, standIns := [], harness := (true, "109c5384165a96825d1f2089578ad2bcbcab01a966bcbf40a0fdea72bc267f3f"), looks := false }, kinds := [], alts := [], laidByText := true, laidKinds := [.data, .pinned], laidTests := true, laidLooks := .later }
def NotifyReadsCardSaid : Prop := Claim7.holds Tryz.pinned (.plain (OpenSpec.ofChange notifyReadsSpec)) notifyReadsCard

/-- THE TIED CARD OF 'depositorylaw28.NotifyNoneMissed'. -/
def notifyNoneMissedCard : Claim7 := { stood := { row := notifyNoneMissedRow, standIns := [], harness := (true, "109c5384165a96825d1f2089578ad2bcbcab01a966bcbf40a0fdea72bc267f3f"), looks := false }, kinds := [], alts := [], laidByText := true, laidKinds := [.data, .pinned], laidTests := true, laidLooks := .later }
def NotifyNoneMissedCardSaid : Prop := Claim7.holds Tryz.pinned (.plain (OpenSpec.ofChange notifyNoneMissedSpec)) notifyNoneMissedCard

/-- THE TIED CARD OF 'depositorylaw28.NotifyApart'. -/
def notifyApartCard : Claim7 := { stood := { row := notifyApartRow, standIns := [], harness := (true, "109c5384165a96825d1f2089578ad2bcbcab01a966bcbf40a0fdea72bc267f3f"), looks := false }, kinds := [], alts := [], laidByText := true, laidKinds := [.data, .pinned], laidTests := true, laidLooks := .later }
def NotifyApartCardSaid : Prop := Claim7.holds Tryz.pinned (.plain (OpenSpec.ofChange notifyApartSpec)) notifyApartCard

/-- THE TIED CARD OF 'depositorylaw28.NotifyBoards'. -/
def notifyBoardsCard : Claim7 := { stood := { row := notifyBoardsRow, standIns := [], harness := (true, "109c5384165a96825d1f2089578ad2bcbcab01a966bcbf40a0fdea72bc267f3f"), looks := false }, kinds := [], alts := [], laidByText := true, laidKinds := [.data, .pinned], laidTests := true, laidLooks := .later }
def NotifyBoardsCardSaid : Prop := Claim7.holds Tryz.pinned (.plain (OpenSpec.ofChange notifyBoardsSpec)) notifyBoardsCard

/-- THE TIED CARD OF 'depositorylaw28.NotifyRuns'. -/
def notifyRunsCard : Claim7 := { stood := { row := notifyRunsRow, standIns := [], harness := (true, "109c5384165a96825d1f2089578ad2bcbcab01a966bcbf40a0fdea72bc267f3f"), looks := false }, kinds := [], alts := [], laidByText := true, laidKinds := [.data, .pinned], laidTests := true, laidLooks := .later }
def NotifyRunsCardSaid : Prop := Claim7.holds Tryz.pinned (.plain (OpenSpec.ofChange notifyRunsSpec)) notifyRunsCard

/-- THE TIED CARD OF 'depositorylaw28.NotifyBytes'. -/
def notifyBytesCard : Claim7 := { stood := { row := notifyBytesRow, standIns := [], harness := (true, "109c5384165a96825d1f2089578ad2bcbcab01a966bcbf40a0fdea72bc267f3f"), looks := false }, kinds := [], alts := [], laidByText := true, laidKinds := [.data, .data, .data, .pinned], laidTests := true, laidLooks := .later }
def NotifyBytesCardSaid : Prop := Claim7.holds Tryz.pinned (.plain (OpenSpec.ofChange notifyBytesSpec)) notifyBytesCard

/-- THE SECOND FORM's CARD OF 'depositorylaw28.NotifySees'. -/
def notifySeesUptoCard : Claim7 := { stood := { row := notifySeesUptoRow, standIns := [], harness := (true, "109c5384165a96825d1f2089578ad2bcbcab01a966bcbf40a0fdea72bc267f3f"), looks := false }, kinds := [], alts := [], laidByText := true, laidKinds := [.data, .pinned], laidTests := true, laidLooks := .later }
def NotifySeesUptoCardSaid : Prop := Claim7.holds Tryz.pinned (.plain (OpenSpec.upto notifySeesSpec)) notifySeesUptoCard

/-- THE SECOND FORM's CARD OF 'depositorylaw28.NotifyTells'. -/
def notifyTellsUptoCard : Claim7 := { stood := { row := notifyTellsUptoRow, standIns := [], harness := (true, "109c5384165a96825d1f2089578ad2bcbcab01a966bcbf40a0fdea72bc267f3f"), looks := false }, kinds := [], alts := [], laidByText := true, laidKinds := [.data, .pinned], laidTests := true, laidLooks := .later }
def NotifyTellsUptoCardSaid : Prop := Claim7.holds Tryz.pinned (.plain (OpenSpec.upto notifyTellsSpec)) notifyTellsUptoCard

/-- THE SECOND FORM's CARD OF 'depositorylaw28.NotifyReads'. -/
def notifyReadsUptoCard : Claim7 := { stood := { row := notifyReadsUptoRow, standIns := [], harness := (true, "109c5384165a96825d1f2089578ad2bcbcab01a966bcbf40a0fdea72bc267f3f"), looks := false }, kinds := [], alts := [], laidByText := true, laidKinds := [.data, .pinned], laidTests := true, laidLooks := .later }
def NotifyReadsUptoCardSaid : Prop := Claim7.holds Tryz.pinned (.plain (OpenSpec.upto notifyReadsSpec)) notifyReadsUptoCard

/-- THE SECOND FORM's CARD OF 'depositorylaw28.NotifyNoneMissed'. -/
def notifyNoneMissedUptoCard : Claim7 := { stood := { row := notifyNoneMissedUptoRow, standIns := [], harness := (true, "109c5384165a96825d1f2089578ad2bcbcab01a966bcbf40a0fdea72bc267f3f"), looks := false }, kinds := [], alts := [], laidByText := true, laidKinds := [.data, .pinned], laidTests := true, laidLooks := .later }
def NotifyNoneMissedUptoCardSaid : Prop := Claim7.holds Tryz.pinned (.plain (OpenSpec.upto notifyNoneMissedSpec)) notifyNoneMissedUptoCard

/-- THE SECOND FORM's CARD OF 'depositorylaw28.NotifyApart'. -/
def notifyApartUptoCard : Claim7 := { stood := { row := notifyApartUptoRow, standIns := [], harness := (true, "109c5384165a96825d1f2089578ad2bcbcab01a966bcbf40a0fdea72bc267f3f"), looks := false }, kinds := [], alts := [], laidByText := true, laidKinds := [.data, .pinned], laidTests := true, laidLooks := .later }
def NotifyApartUptoCardSaid : Prop := Claim7.holds Tryz.pinned (.plain (OpenSpec.upto notifyApartSpec)) notifyApartUptoCard

/-- THE SECOND FORM's CARD OF 'depositorylaw28.NotifyBoards'. -/
def notifyBoardsUptoCard : Claim7 := { stood := { row := notifyBoardsUptoRow, standIns := [], harness := (true, "109c5384165a96825d1f2089578ad2bcbcab01a966bcbf40a0fdea72bc267f3f"), looks := false }, kinds := [], alts := [], laidByText := true, laidKinds := [.data, .pinned], laidTests := true, laidLooks := .later }
def NotifyBoardsUptoCardSaid : Prop := Claim7.holds Tryz.pinned (.plain (OpenSpec.upto notifyBoardsSpec)) notifyBoardsUptoCard

/-- THE SECOND FORM's CARD OF 'depositorylaw28.NotifyRuns'. -/
def notifyRunsUptoCard : Claim7 := { stood := { row := notifyRunsUptoRow, standIns := [], harness := (true, "109c5384165a96825d1f2089578ad2bcbcab01a966bcbf40a0fdea72bc267f3f"), looks := false }, kinds := [], alts := [], laidByText := true, laidKinds := [.data, .pinned], laidTests := true, laidLooks := .later }
def NotifyRunsUptoCardSaid : Prop := Claim7.holds Tryz.pinned (.plain (OpenSpec.upto notifyRunsSpec)) notifyRunsUptoCard

/-- THE SECOND FORM's CARD OF 'depositorylaw28.NotifyBytes'. -/
def notifyBytesUptoCard : Claim7 := { stood := { row := notifyBytesUptoRow, standIns := [], harness := (true, "109c5384165a96825d1f2089578ad2bcbcab01a966bcbf40a0fdea72bc267f3f"), looks := false }, kinds := [], alts := [], laidByText := true, laidKinds := [.data, .data, .data, .pinned], laidTests := true, laidLooks := .later }
def NotifyBytesUptoCardSaid : Prop := Claim7.holds Tryz.pinned (.plain (OpenSpec.upto notifyBytesSpec)) notifyBytesUptoCard
end Rows
end Go.Proofs.YtbkmjpmgiaiacaaGreatDoor
