/-
  DERIVED. GIVEN WITH THE SEED: THE CARDS: each row of YtpblmdolgocpaaaDoorRows.lean that lists a variable, with what it lists TIED to the program's text (the seventh form; the later family's looks); each row that meets fmt, with fmt's text TOLD by the authors' own Lean function (tested against real Go, not proved from fmt's source: count such statements apart). THE CARD IS WHAT COUNTS. Prove the row's statement (the work); the ties are given (YtpblmdolgocpaaaDoorTie.lean); close each card by the builder's one call (the guide's Derived/Test/ToyasCard.lean, 'card_holds'). Laid BY PROGRAM, IN A SANDBOX (cutbox-door.mjs). By AI agents, Wed Nov 11 2026. No macro, syntax, notation, axiom, sorry.
-/
import Derived.Test.YtpblmdolgocpaaaDoorRows
import GoSem.ClaimSeven
namespace Go.Proofs.YtpblmdolgocpaaaDoor
namespace Rows

/-- THE TIED CARD OF 'depositorylaw02.DiskEvents'. -/
def diskEventsCard : Claim7 := { stood := { row := diskEventsRow, standIns := [], harness := (true, "687066918dee5d74383946f45575ea29590729c4e1dda89224b6bf73c7b9600f"), looks := false }, kinds := [], alts := [], laidByText := true, laidKinds := [.data, .pinned], laidTests := true, laidLooks := .later }
def DiskEventsCardSaid : Prop := Claim7.holds Tryd.pinned (.plain (OpenSpec.ofChange diskEventsSpec)) diskEventsCard

/-- THE TIED CARD OF 'depositorylaw02.DiskStates'. -/
def diskStatesCard : Claim7 := { stood := { row := diskStatesRow, standIns := [], harness := (true, "687066918dee5d74383946f45575ea29590729c4e1dda89224b6bf73c7b9600f"), looks := false }, kinds := [], alts := [], laidByText := true, laidKinds := [.data, .pinned], laidTests := true, laidLooks := .later }
def DiskStatesCardSaid : Prop := Claim7.holds Tryd.pinned (.plain (OpenSpec.ofChange diskStatesSpec)) diskStatesCard

/-- THE TIED CARD OF 'depositorylaw02.DiskDifferences'. -/
def diskDifferencesCard : Claim7 := { stood := { row := diskDifferencesRow, standIns := [], harness := (true, "687066918dee5d74383946f45575ea29590729c4e1dda89224b6bf73c7b9600f"), looks := false }, kinds := [], alts := [], laidByText := true, laidKinds := [.data, .pinned], laidTests := true, laidLooks := .later }
def DiskDifferencesCardSaid : Prop := Claim7.holds Tryd.pinned (.plain (OpenSpec.ofChange diskDifferencesSpec)) diskDifferencesCard

/-- THE TIED CARD OF 'depositorylaw02.DiskFailures'. -/
def diskFailuresCard : Claim7 := { stood := { row := diskFailuresRow, standIns := [], harness := (true, "687066918dee5d74383946f45575ea29590729c4e1dda89224b6bf73c7b9600f"), looks := false }, kinds := [], alts := [], laidByText := true, laidKinds := [.data, .pinned], laidTests := true, laidLooks := .later }
def DiskFailuresCardSaid : Prop := Claim7.holds Tryd.pinned (.plain (OpenSpec.ofChange diskFailuresSpec)) diskFailuresCard

/-- THE TIED CARD OF 'depositorylaw02.DiskChoices'. -/
def diskChoicesCard : Claim7 := { stood := { row := diskChoicesRow, standIns := [], harness := (true, "687066918dee5d74383946f45575ea29590729c4e1dda89224b6bf73c7b9600f"), looks := false }, kinds := [], alts := [], laidByText := true, laidKinds := [.data, .pinned], laidTests := true, laidLooks := .later }
def DiskChoicesCardSaid : Prop := Claim7.holds Tryd.pinned (.plain (OpenSpec.ofChange diskChoicesSpec)) diskChoicesCard

/-- THE TIED CARD OF 'depositorylaw02.DiskReads'. -/
def diskReadsCard : Claim7 := { stood := { row := diskReadsRow, standIns := [], harness := (true, "687066918dee5d74383946f45575ea29590729c4e1dda89224b6bf73c7b9600f"), looks := false }, kinds := [], alts := [], laidByText := true, laidKinds := [.data, .pinned], laidTests := true, laidLooks := .later }
def DiskReadsCardSaid : Prop := Claim7.holds Tryd.pinned (.plain (OpenSpec.ofChange diskReadsSpec)) diskReadsCard

/-- THE TIED CARD OF 'depositorylaw02.DiskMixes'. -/
def diskMixesCard : Claim7 := { stood := { row := diskMixesRow, standIns := [], harness := (true, "687066918dee5d74383946f45575ea29590729c4e1dda89224b6bf73c7b9600f"), looks := false }, kinds := [], alts := [], laidByText := true, laidKinds := [.data, .pinned], laidTests := true, laidLooks := .later }
def DiskMixesCardSaid : Prop := Claim7.holds Tryd.pinned (.plain (OpenSpec.ofChange diskMixesSpec)) diskMixesCard

/-- THE TIED CARD OF 'depositorylaw02.DiskBlocks'. -/
def diskBlocksCard : Claim7 := { stood := { row := diskBlocksRow, standIns := [], harness := (true, "687066918dee5d74383946f45575ea29590729c4e1dda89224b6bf73c7b9600f"), looks := false }, kinds := [], alts := [], laidByText := true, laidKinds := [.data, .pinned], laidTests := true, laidLooks := .later }
def DiskBlocksCardSaid : Prop := Claim7.holds Tryd.pinned (.plain (OpenSpec.ofChange diskBlocksSpec)) diskBlocksCard

/-- THE SECOND FORM's CARD OF 'depositorylaw02.DiskEvents'. -/
def diskEventsUptoCard : Claim7 := { stood := { row := diskEventsUptoRow, standIns := [], harness := (true, "687066918dee5d74383946f45575ea29590729c4e1dda89224b6bf73c7b9600f"), looks := false }, kinds := [], alts := [], laidByText := true, laidKinds := [.data, .pinned], laidTests := true, laidLooks := .later }
def DiskEventsUptoCardSaid : Prop := Claim7.holds Tryd.pinned (.plain (OpenSpec.upto diskEventsSpec)) diskEventsUptoCard

/-- THE SECOND FORM's CARD OF 'depositorylaw02.DiskStates'. -/
def diskStatesUptoCard : Claim7 := { stood := { row := diskStatesUptoRow, standIns := [], harness := (true, "687066918dee5d74383946f45575ea29590729c4e1dda89224b6bf73c7b9600f"), looks := false }, kinds := [], alts := [], laidByText := true, laidKinds := [.data, .pinned], laidTests := true, laidLooks := .later }
def DiskStatesUptoCardSaid : Prop := Claim7.holds Tryd.pinned (.plain (OpenSpec.upto diskStatesSpec)) diskStatesUptoCard

/-- THE SECOND FORM's CARD OF 'depositorylaw02.DiskDifferences'. -/
def diskDifferencesUptoCard : Claim7 := { stood := { row := diskDifferencesUptoRow, standIns := [], harness := (true, "687066918dee5d74383946f45575ea29590729c4e1dda89224b6bf73c7b9600f"), looks := false }, kinds := [], alts := [], laidByText := true, laidKinds := [.data, .pinned], laidTests := true, laidLooks := .later }
def DiskDifferencesUptoCardSaid : Prop := Claim7.holds Tryd.pinned (.plain (OpenSpec.upto diskDifferencesSpec)) diskDifferencesUptoCard

/-- THE SECOND FORM's CARD OF 'depositorylaw02.DiskFailures'. -/
def diskFailuresUptoCard : Claim7 := { stood := { row := diskFailuresUptoRow, standIns := [], harness := (true, "687066918dee5d74383946f45575ea29590729c4e1dda89224b6bf73c7b9600f"), looks := false }, kinds := [], alts := [], laidByText := true, laidKinds := [.data, .pinned], laidTests := true, laidLooks := .later }
def DiskFailuresUptoCardSaid : Prop := Claim7.holds Tryd.pinned (.plain (OpenSpec.upto diskFailuresSpec)) diskFailuresUptoCard

/-- THE SECOND FORM's CARD OF 'depositorylaw02.DiskChoices'. -/
def diskChoicesUptoCard : Claim7 := { stood := { row := diskChoicesUptoRow, standIns := [], harness := (true, "687066918dee5d74383946f45575ea29590729c4e1dda89224b6bf73c7b9600f"), looks := false }, kinds := [], alts := [], laidByText := true, laidKinds := [.data, .pinned], laidTests := true, laidLooks := .later }
def DiskChoicesUptoCardSaid : Prop := Claim7.holds Tryd.pinned (.plain (OpenSpec.upto diskChoicesSpec)) diskChoicesUptoCard

/-- THE SECOND FORM's CARD OF 'depositorylaw02.DiskReads'. -/
def diskReadsUptoCard : Claim7 := { stood := { row := diskReadsUptoRow, standIns := [], harness := (true, "687066918dee5d74383946f45575ea29590729c4e1dda89224b6bf73c7b9600f"), looks := false }, kinds := [], alts := [], laidByText := true, laidKinds := [.data, .pinned], laidTests := true, laidLooks := .later }
def DiskReadsUptoCardSaid : Prop := Claim7.holds Tryd.pinned (.plain (OpenSpec.upto diskReadsSpec)) diskReadsUptoCard

/-- THE SECOND FORM's CARD OF 'depositorylaw02.DiskMixes'. -/
def diskMixesUptoCard : Claim7 := { stood := { row := diskMixesUptoRow, standIns := [], harness := (true, "687066918dee5d74383946f45575ea29590729c4e1dda89224b6bf73c7b9600f"), looks := false }, kinds := [], alts := [], laidByText := true, laidKinds := [.data, .pinned], laidTests := true, laidLooks := .later }
def DiskMixesUptoCardSaid : Prop := Claim7.holds Tryd.pinned (.plain (OpenSpec.upto diskMixesSpec)) diskMixesUptoCard

/-- THE SECOND FORM's CARD OF 'depositorylaw02.DiskBlocks'. -/
def diskBlocksUptoCard : Claim7 := { stood := { row := diskBlocksUptoRow, standIns := [], harness := (true, "687066918dee5d74383946f45575ea29590729c4e1dda89224b6bf73c7b9600f"), looks := false }, kinds := [], alts := [], laidByText := true, laidKinds := [.data, .pinned], laidTests := true, laidLooks := .later }
def DiskBlocksUptoCardSaid : Prop := Claim7.holds Tryd.pinned (.plain (OpenSpec.upto diskBlocksSpec)) diskBlocksUptoCard
end Rows
end Go.Proofs.YtpblmdolgocpaaaDoor
