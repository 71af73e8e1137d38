/-
  NARROWER THAN 'FOR EVERY INPUT', by the rows' own cells (each row's printed sentence says how): DiskEvents: laid · DiskStates: laid · DiskDifferences: laid · DiskFailures: laid · DiskChoices: laid · DiskReads: laid · DiskMixes: laid · DiskBlocks: laid.
  DERIVED. THE GIVEN ROWS OF THIS SEAT. 8 by the template 'for every input the law returns true; each argument reads behind the call as it read before'; 0 by the template 'total and deterministic' (their statements: YtpblmdolgocpaaaDoorTotals.lean).
  GIVEN WITH THE SEED: the statements are not yours to turn. If you find one false, say at which input.
  Laid BY PROGRAM, IN A SANDBOX (cutbox-rows.mjs): the forced cells as the released guide's own fill.sh prints them over the translation 7bb60f9d2fb97729… (all of the seat's roots in one cut). By AI agents, Wed Nov 11 2026. No macro, syntax, notation, axiom, sorry.
-/
import Derived.Test.YtpblmdolgocpaaaDoorChecked
import GoSem.PinnedTables
import GoSem.Claim
import GoSem.ClaimJoined
import GoSem.ClaimMapViews
import Derived.JoinedTies
import Derived.KernelRfl
namespace Go.Proofs.YtpblmdolgocpaaaDoor
/- THE CELL 'sum', in the pinned program and in every row, IS THE sha256 OF THE DUMP (.gsa) THAT YtpblmdolgocpaaaDoorProg.lean LOADS. Nothing in Lean hashes anything: it is a label: what it is worth is what the hold of that sum in a sandbox is worth. -/
noncomputable def Tryd.pinned : Pinned := { name := "ytpblmdolgocpaaadoor", sum := "7bb60f9d2fb9772935b78731257fb20492e6cc2148994309df9615e43b999b6a", checked := Tryd.checked }
namespace Rows
def none {H : Type} : Left H := { results := [], args := [] }

/- WHAT THE LISTED PACKAGE-LEVEL VARIABLES READ AS WHEN THE CALL BEGINS. Each datum BY PROGRAM (the guide's laid-datum.mjs) off the statement by which the dump's own 'gosem.cut.vars' lays the variable. In a bare row this is a premise. The card (YtpblmdolgocpaaaDoorCards.lean) ties it to the program's text. -/
def laid_unicode_utf8_acceptRanges {H : Type} : DataW H := .agg [.agg [.lit (.int .u8 128), .lit (.int .u8 191)], .agg [.lit (.int .u8 160), .lit (.int .u8 191)], .agg [.lit (.int .u8 128), .lit (.int .u8 159)], .agg [.lit (.int .u8 144), .lit (.int .u8 191)], .agg [.lit (.int .u8 128), .lit (.int .u8 143)], .agg [.lit (.int .u8 0), .lit (.int .u8 0)], .agg [.lit (.int .u8 0), .lit (.int .u8 0)], .agg [.lit (.int .u8 0), .lit (.int .u8 0)], .agg [.lit (.int .u8 0), .lit (.int .u8 0)], .agg [.lit (.int .u8 0), .lit (.int .u8 0)], .agg [.lit (.int .u8 0), .lit (.int .u8 0)], .agg [.lit (.int .u8 0), .lit (.int .u8 0)], .agg [.lit (.int .u8 0), .lit (.int .u8 0)], .agg [.lit (.int .u8 0), .lit (.int .u8 0)], .agg [.lit (.int .u8 0), .lit (.int .u8 0)], .agg [.lit (.int .u8 0), .lit (.int .u8 0)]]
/-- One of Go's own tables, pinned by name: the form's constant. -/
def laid_unicode_utf8_first : DataW Unit := Go.Pinned.utf8First

/-- 'depositorylaw02.DiskEvents': WHATEVER THE INPUT: true; the input reads as it did. -/
def diskEventsSpec : ChangeSpec := { name := "diskEvents", fn := fun _ => fun
  | [d1, d2] => { results := [.lit (.bool true)], args := [d1, d2] }
  | _ => none }
def diskEventsRow : OpenClaim := { program := "ytpblmdolgocpaaadoor", sum := "7bb60f9d2fb9772935b78731257fb20492e6cc2148994309df9615e43b999b6a", func := "depository/depositorylaw02.DiskEvents", spec := "diskEvents", inPlace := ["internal/abi.NoEscape", "internal/bytealg.MakeNoZero", "internal/bytealg.IndexByteString", "internal/bytealg.IndexString"], unfollowed := true, recurses := true, named := ["unicode/utf8.first", "unicode/utf8.acceptRanges", "internal/bytealg.MaxLen"], apart := false, laid := [("unicode/utf8.acceptRanges", laid_unicode_utf8_acceptRanges), ("unicode/utf8.first", laid_unicode_utf8_first)] }
def DiskEventsSaid : Prop := diskEventsRow.holds Tryd.pinned (OpenSpec.ofChange diskEventsSpec)

/-- ITS FALSE NEIGHBOUR: 'it returns false'. Refute it at one input. -/
def diskEventsWrong : ChangeSpec := { name := "diskEvents", fn := fun _ => fun
  | [d1, d2] => { results := [.lit (.bool false)], args := [d1, d2] }
  | _ => none }
def DiskEventsWrongFalsely : Prop := diskEventsRow.holds Tryd.pinned (OpenSpec.ofChange diskEventsWrong)

/-- 'depositorylaw02.DiskStates': WHATEVER THE INPUT: true; the input reads as it did. -/
def diskStatesSpec : ChangeSpec := { name := "diskStates", fn := fun _ => fun
  | [d1, d2, d3] => { results := [.lit (.bool true)], args := [d1, d2, d3] }
  | _ => none }
def diskStatesRow : OpenClaim := { program := "ytpblmdolgocpaaadoor", sum := "7bb60f9d2fb9772935b78731257fb20492e6cc2148994309df9615e43b999b6a", func := "depository/depositorylaw02.DiskStates", spec := "diskStates", inPlace := ["internal/abi.NoEscape", "internal/bytealg.MakeNoZero", "internal/bytealg.IndexByteString", "internal/bytealg.IndexString"], unfollowed := true, recurses := true, named := ["unicode/utf8.first", "unicode/utf8.acceptRanges", "internal/bytealg.MaxLen"], apart := false, laid := [("unicode/utf8.acceptRanges", laid_unicode_utf8_acceptRanges), ("unicode/utf8.first", laid_unicode_utf8_first)] }
def DiskStatesSaid : Prop := diskStatesRow.holds Tryd.pinned (OpenSpec.ofChange diskStatesSpec)

/-- ITS FALSE NEIGHBOUR: 'it returns false'. Refute it at one input. -/
def diskStatesWrong : ChangeSpec := { name := "diskStates", fn := fun _ => fun
  | [d1, d2, d3] => { results := [.lit (.bool false)], args := [d1, d2, d3] }
  | _ => none }
def DiskStatesWrongFalsely : Prop := diskStatesRow.holds Tryd.pinned (OpenSpec.ofChange diskStatesWrong)

/-- 'depositorylaw02.DiskDifferences': WHATEVER THE INPUT: true; the input reads as it did. -/
def diskDifferencesSpec : ChangeSpec := { name := "diskDifferences", fn := fun _ => fun
  | [d1, d2] => { results := [.lit (.bool true)], args := [d1, d2] }
  | _ => none }
def diskDifferencesRow : OpenClaim := { program := "ytpblmdolgocpaaadoor", sum := "7bb60f9d2fb9772935b78731257fb20492e6cc2148994309df9615e43b999b6a", func := "depository/depositorylaw02.DiskDifferences", spec := "diskDifferences", inPlace := ["internal/abi.NoEscape", "internal/bytealg.MakeNoZero", "internal/bytealg.IndexByteString", "internal/bytealg.IndexString"], unfollowed := true, recurses := true, named := ["unicode/utf8.first", "unicode/utf8.acceptRanges", "internal/bytealg.MaxLen"], apart := false, laid := [("unicode/utf8.acceptRanges", laid_unicode_utf8_acceptRanges), ("unicode/utf8.first", laid_unicode_utf8_first)] }
def DiskDifferencesSaid : Prop := diskDifferencesRow.holds Tryd.pinned (OpenSpec.ofChange diskDifferencesSpec)

/-- ITS FALSE NEIGHBOUR: 'it returns false'. Refute it at one input. -/
def diskDifferencesWrong : ChangeSpec := { name := "diskDifferences", fn := fun _ => fun
  | [d1, d2] => { results := [.lit (.bool false)], args := [d1, d2] }
  | _ => none }
def DiskDifferencesWrongFalsely : Prop := diskDifferencesRow.holds Tryd.pinned (OpenSpec.ofChange diskDifferencesWrong)

/-- 'depositorylaw02.DiskFailures': WHATEVER THE INPUT: true; the input reads as it did. -/
def diskFailuresSpec : ChangeSpec := { name := "diskFailures", fn := fun _ => fun
  | [d1, d2, d3] => { results := [.lit (.bool true)], args := [d1, d2, d3] }
  | _ => none }
def diskFailuresRow : OpenClaim := { program := "ytpblmdolgocpaaadoor", sum := "7bb60f9d2fb9772935b78731257fb20492e6cc2148994309df9615e43b999b6a", func := "depository/depositorylaw02.DiskFailures", spec := "diskFailures", inPlace := ["internal/abi.NoEscape", "internal/bytealg.MakeNoZero", "internal/bytealg.IndexByteString", "internal/bytealg.IndexString"], unfollowed := true, recurses := true, named := ["unicode/utf8.first", "unicode/utf8.acceptRanges", "internal/bytealg.MaxLen"], apart := false, laid := [("unicode/utf8.acceptRanges", laid_unicode_utf8_acceptRanges), ("unicode/utf8.first", laid_unicode_utf8_first)] }
def DiskFailuresSaid : Prop := diskFailuresRow.holds Tryd.pinned (OpenSpec.ofChange diskFailuresSpec)

/-- ITS FALSE NEIGHBOUR: 'it returns false'. Refute it at one input. -/
def diskFailuresWrong : ChangeSpec := { name := "diskFailures", fn := fun _ => fun
  | [d1, d2, d3] => { results := [.lit (.bool false)], args := [d1, d2, d3] }
  | _ => none }
def DiskFailuresWrongFalsely : Prop := diskFailuresRow.holds Tryd.pinned (OpenSpec.ofChange diskFailuresWrong)

/-- 'depositorylaw02.DiskChoices': WHATEVER THE INPUT: true; the input reads as it did. -/
def diskChoicesSpec : ChangeSpec := { name := "diskChoices", fn := fun _ => fun
  | [d1, d2, d3] => { results := [.lit (.bool true)], args := [d1, d2, d3] }
  | _ => none }
def diskChoicesRow : OpenClaim := { program := "ytpblmdolgocpaaadoor", sum := "7bb60f9d2fb9772935b78731257fb20492e6cc2148994309df9615e43b999b6a", func := "depository/depositorylaw02.DiskChoices", spec := "diskChoices", inPlace := ["internal/abi.NoEscape", "internal/bytealg.MakeNoZero", "internal/bytealg.IndexByteString", "internal/bytealg.IndexString"], unfollowed := true, recurses := true, named := ["unicode/utf8.first", "unicode/utf8.acceptRanges", "internal/bytealg.MaxLen"], apart := false, laid := [("unicode/utf8.acceptRanges", laid_unicode_utf8_acceptRanges), ("unicode/utf8.first", laid_unicode_utf8_first)] }
def DiskChoicesSaid : Prop := diskChoicesRow.holds Tryd.pinned (OpenSpec.ofChange diskChoicesSpec)

/-- ITS FALSE NEIGHBOUR: 'it returns false'. Refute it at one input. -/
def diskChoicesWrong : ChangeSpec := { name := "diskChoices", fn := fun _ => fun
  | [d1, d2, d3] => { results := [.lit (.bool false)], args := [d1, d2, d3] }
  | _ => none }
def DiskChoicesWrongFalsely : Prop := diskChoicesRow.holds Tryd.pinned (OpenSpec.ofChange diskChoicesWrong)

/-- 'depositorylaw02.DiskReads': WHATEVER THE INPUT: true; the input reads as it did. -/
def diskReadsSpec : ChangeSpec := { name := "diskReads", fn := fun _ => fun
  | [d1, d2, d3] => { results := [.lit (.bool true)], args := [d1, d2, d3] }
  | _ => none }
def diskReadsRow : OpenClaim := { program := "ytpblmdolgocpaaadoor", sum := "7bb60f9d2fb9772935b78731257fb20492e6cc2148994309df9615e43b999b6a", func := "depository/depositorylaw02.DiskReads", spec := "diskReads", inPlace := ["internal/abi.NoEscape", "internal/bytealg.MakeNoZero", "internal/bytealg.IndexByteString", "internal/bytealg.IndexString"], unfollowed := true, recurses := true, named := ["unicode/utf8.first", "unicode/utf8.acceptRanges", "internal/bytealg.MaxLen"], apart := false, laid := [("unicode/utf8.acceptRanges", laid_unicode_utf8_acceptRanges), ("unicode/utf8.first", laid_unicode_utf8_first)] }
def DiskReadsSaid : Prop := diskReadsRow.holds Tryd.pinned (OpenSpec.ofChange diskReadsSpec)

/-- ITS FALSE NEIGHBOUR: 'it returns false'. Refute it at one input. -/
def diskReadsWrong : ChangeSpec := { name := "diskReads", fn := fun _ => fun
  | [d1, d2, d3] => { results := [.lit (.bool false)], args := [d1, d2, d3] }
  | _ => none }
def DiskReadsWrongFalsely : Prop := diskReadsRow.holds Tryd.pinned (OpenSpec.ofChange diskReadsWrong)

/-- 'depositorylaw02.DiskMixes': WHATEVER THE INPUT: true; the input reads as it did. -/
def diskMixesSpec : ChangeSpec := { name := "diskMixes", fn := fun _ => fun
  | [d1, d2, d3] => { results := [.lit (.bool true)], args := [d1, d2, d3] }
  | _ => none }
def diskMixesRow : OpenClaim := { program := "ytpblmdolgocpaaadoor", sum := "7bb60f9d2fb9772935b78731257fb20492e6cc2148994309df9615e43b999b6a", func := "depository/depositorylaw02.DiskMixes", spec := "diskMixes", inPlace := ["internal/abi.NoEscape", "internal/bytealg.MakeNoZero", "internal/bytealg.IndexByteString", "internal/bytealg.IndexString"], unfollowed := true, recurses := true, named := ["unicode/utf8.first", "unicode/utf8.acceptRanges", "internal/bytealg.MaxLen"], apart := false, laid := [("unicode/utf8.acceptRanges", laid_unicode_utf8_acceptRanges), ("unicode/utf8.first", laid_unicode_utf8_first)] }
def DiskMixesSaid : Prop := diskMixesRow.holds Tryd.pinned (OpenSpec.ofChange diskMixesSpec)

/-- ITS FALSE NEIGHBOUR: 'it returns false'. Refute it at one input. -/
def diskMixesWrong : ChangeSpec := { name := "diskMixes", fn := fun _ => fun
  | [d1, d2, d3] => { results := [.lit (.bool false)], args := [d1, d2, d3] }
  | _ => none }
def DiskMixesWrongFalsely : Prop := diskMixesRow.holds Tryd.pinned (OpenSpec.ofChange diskMixesWrong)

/-- 'depositorylaw02.DiskBlocks': WHATEVER THE INPUT: true; the input reads as it did. -/
def diskBlocksSpec : ChangeSpec := { name := "diskBlocks", fn := fun _ => fun
  | [d1, d2] => { results := [.lit (.bool true)], args := [d1, d2] }
  | _ => none }
def diskBlocksRow : OpenClaim := { program := "ytpblmdolgocpaaadoor", sum := "7bb60f9d2fb9772935b78731257fb20492e6cc2148994309df9615e43b999b6a", func := "depository/depositorylaw02.DiskBlocks", spec := "diskBlocks", inPlace := ["internal/abi.NoEscape", "internal/bytealg.MakeNoZero", "internal/bytealg.IndexByteString", "internal/bytealg.IndexString"], unfollowed := true, recurses := true, named := ["unicode/utf8.first", "unicode/utf8.acceptRanges", "internal/bytealg.MaxLen"], apart := false, laid := [("unicode/utf8.acceptRanges", laid_unicode_utf8_acceptRanges), ("unicode/utf8.first", laid_unicode_utf8_first)] }
def DiskBlocksSaid : Prop := diskBlocksRow.holds Tryd.pinned (OpenSpec.ofChange diskBlocksSpec)

/-- ITS FALSE NEIGHBOUR: 'it returns false'. Refute it at one input. -/
def diskBlocksWrong : ChangeSpec := { name := "diskBlocks", fn := fun _ => fun
  | [d1, d2] => { results := [.lit (.bool false)], args := [d1, d2] }
  | _ => none }
def DiskBlocksWrongFalsely : Prop := diskBlocksRow.holds Tryd.pinned (OpenSpec.ofChange diskBlocksWrong)

/- THE SECOND FORM. 'bulk': how many values and letters a reading holds, each counted each time it is reached (what is shared counts as often as it is met; a slice's spare places count too). A statement '..UptoSaid' is the law's where the arguments, and the package variables that the reading takes, are together of bulk at most 1048576: NARROWER than '..Said'. Prove '..Said' where nothing that the law and all that it calls make is longer than what came in: it says more and counts as full. Else prove '..UptoSaid'. A law counts once. -/
mutual
def uptoBulk {H : Type} : DataW H → Nat
  | .lit (.string bytes) => bytes.length + 1
  | .lit _ => 1
  | .nil => 1
  | .ptr d => uptoBulk d + 1
  | .slice elems spare => uptoBulkAll elems + uptoBulkAll spare + 1
  | .agg parts => uptoBulkAll parts + 1
  | .iface _ d => uptoBulk d + 1
  | .map entries => uptoBulkEntries entries + 1
  | .held _ => 1
def uptoBulkAll {H : Type} : List (DataW H) → Nat
  | [] => 0
  | d :: r => uptoBulk d + uptoBulkAll r
def uptoBulkEntries {H : Type} : List (Lit × DataW H) → Nat
  | [] => 0
  | x :: r => uptoBulkEntry x + uptoBulkEntries r
def uptoBulkEntry {H : Type} : Lit × DataW H → Nat
  | (.string bytes, d) => bytes.length + uptoBulk d + 1
  | (_, d) => uptoBulk d + 1
 end
def uptoSmall : (H : Type) → List (DataW H) → Bool := fun _ ds => decide (uptoBulkAll ds ≤ 1048576)
def OpenSpec.upto (s : _root_.Go.ChangeSpec) : _root_.Go.OpenSpec := { _root_.Go.OpenSpec.ofChange s with cond := some uptoSmall }

/-- 'depositorylaw02.DiskEvents', WHERE WHAT IT READS IS OF BULK AT MOST 1048576: true; the input reads as it did. -/
def diskEventsUptoRow : OpenClaim := { program := "ytpblmdolgocpaaadoor", sum := "7bb60f9d2fb9772935b78731257fb20492e6cc2148994309df9615e43b999b6a", func := "depository/depositorylaw02.DiskEvents", spec := "diskEvents", inPlace := ["internal/abi.NoEscape", "internal/bytealg.MakeNoZero", "internal/bytealg.IndexByteString", "internal/bytealg.IndexString"], unfollowed := true, recurses := true, named := ["unicode/utf8.first", "unicode/utf8.acceptRanges", "internal/bytealg.MaxLen"], apart := false, laid := [("unicode/utf8.acceptRanges", laid_unicode_utf8_acceptRanges), ("unicode/utf8.first", laid_unicode_utf8_first)], narrowed := true }
def DiskEventsUptoSaid : Prop := diskEventsUptoRow.holds Tryd.pinned (OpenSpec.upto diskEventsSpec)

/-- 'depositorylaw02.DiskStates', WHERE WHAT IT READS IS OF BULK AT MOST 1048576: true; the input reads as it did. -/
def diskStatesUptoRow : OpenClaim := { program := "ytpblmdolgocpaaadoor", sum := "7bb60f9d2fb9772935b78731257fb20492e6cc2148994309df9615e43b999b6a", func := "depository/depositorylaw02.DiskStates", spec := "diskStates", inPlace := ["internal/abi.NoEscape", "internal/bytealg.MakeNoZero", "internal/bytealg.IndexByteString", "internal/bytealg.IndexString"], unfollowed := true, recurses := true, named := ["unicode/utf8.first", "unicode/utf8.acceptRanges", "internal/bytealg.MaxLen"], apart := false, laid := [("unicode/utf8.acceptRanges", laid_unicode_utf8_acceptRanges), ("unicode/utf8.first", laid_unicode_utf8_first)], narrowed := true }
def DiskStatesUptoSaid : Prop := diskStatesUptoRow.holds Tryd.pinned (OpenSpec.upto diskStatesSpec)

/-- 'depositorylaw02.DiskDifferences', WHERE WHAT IT READS IS OF BULK AT MOST 1048576: true; the input reads as it did. -/
def diskDifferencesUptoRow : OpenClaim := { program := "ytpblmdolgocpaaadoor", sum := "7bb60f9d2fb9772935b78731257fb20492e6cc2148994309df9615e43b999b6a", func := "depository/depositorylaw02.DiskDifferences", spec := "diskDifferences", inPlace := ["internal/abi.NoEscape", "internal/bytealg.MakeNoZero", "internal/bytealg.IndexByteString", "internal/bytealg.IndexString"], unfollowed := true, recurses := true, named := ["unicode/utf8.first", "unicode/utf8.acceptRanges", "internal/bytealg.MaxLen"], apart := false, laid := [("unicode/utf8.acceptRanges", laid_unicode_utf8_acceptRanges), ("unicode/utf8.first", laid_unicode_utf8_first)], narrowed := true }
def DiskDifferencesUptoSaid : Prop := diskDifferencesUptoRow.holds Tryd.pinned (OpenSpec.upto diskDifferencesSpec)

/-- 'depositorylaw02.DiskFailures', WHERE WHAT IT READS IS OF BULK AT MOST 1048576: true; the input reads as it did. -/
def diskFailuresUptoRow : OpenClaim := { program := "ytpblmdolgocpaaadoor", sum := "7bb60f9d2fb9772935b78731257fb20492e6cc2148994309df9615e43b999b6a", func := "depository/depositorylaw02.DiskFailures", spec := "diskFailures", inPlace := ["internal/abi.NoEscape", "internal/bytealg.MakeNoZero", "internal/bytealg.IndexByteString", "internal/bytealg.IndexString"], unfollowed := true, recurses := true, named := ["unicode/utf8.first", "unicode/utf8.acceptRanges", "internal/bytealg.MaxLen"], apart := false, laid := [("unicode/utf8.acceptRanges", laid_unicode_utf8_acceptRanges), ("unicode/utf8.first", laid_unicode_utf8_first)], narrowed := true }
def DiskFailuresUptoSaid : Prop := diskFailuresUptoRow.holds Tryd.pinned (OpenSpec.upto diskFailuresSpec)

/-- 'depositorylaw02.DiskChoices', WHERE WHAT IT READS IS OF BULK AT MOST 1048576: true; the input reads as it did. -/
def diskChoicesUptoRow : OpenClaim := { program := "ytpblmdolgocpaaadoor", sum := "7bb60f9d2fb9772935b78731257fb20492e6cc2148994309df9615e43b999b6a", func := "depository/depositorylaw02.DiskChoices", spec := "diskChoices", inPlace := ["internal/abi.NoEscape", "internal/bytealg.MakeNoZero", "internal/bytealg.IndexByteString", "internal/bytealg.IndexString"], unfollowed := true, recurses := true, named := ["unicode/utf8.first", "unicode/utf8.acceptRanges", "internal/bytealg.MaxLen"], apart := false, laid := [("unicode/utf8.acceptRanges", laid_unicode_utf8_acceptRanges), ("unicode/utf8.first", laid_unicode_utf8_first)], narrowed := true }
def DiskChoicesUptoSaid : Prop := diskChoicesUptoRow.holds Tryd.pinned (OpenSpec.upto diskChoicesSpec)

/-- 'depositorylaw02.DiskReads', WHERE WHAT IT READS IS OF BULK AT MOST 1048576: true; the input reads as it did. -/
def diskReadsUptoRow : OpenClaim := { program := "ytpblmdolgocpaaadoor", sum := "7bb60f9d2fb9772935b78731257fb20492e6cc2148994309df9615e43b999b6a", func := "depository/depositorylaw02.DiskReads", spec := "diskReads", inPlace := ["internal/abi.NoEscape", "internal/bytealg.MakeNoZero", "internal/bytealg.IndexByteString", "internal/bytealg.IndexString"], unfollowed := true, recurses := true, named := ["unicode/utf8.first", "unicode/utf8.acceptRanges", "internal/bytealg.MaxLen"], apart := false, laid := [("unicode/utf8.acceptRanges", laid_unicode_utf8_acceptRanges), ("unicode/utf8.first", laid_unicode_utf8_first)], narrowed := true }
def DiskReadsUptoSaid : Prop := diskReadsUptoRow.holds Tryd.pinned (OpenSpec.upto diskReadsSpec)

/-- 'depositorylaw02.DiskMixes', WHERE WHAT IT READS IS OF BULK AT MOST 1048576: true; the input reads as it did. -/
def diskMixesUptoRow : OpenClaim := { program := "ytpblmdolgocpaaadoor", sum := "7bb60f9d2fb9772935b78731257fb20492e6cc2148994309df9615e43b999b6a", func := "depository/depositorylaw02.DiskMixes", spec := "diskMixes", inPlace := ["internal/abi.NoEscape", "internal/bytealg.MakeNoZero", "internal/bytealg.IndexByteString", "internal/bytealg.IndexString"], unfollowed := true, recurses := true, named := ["unicode/utf8.first", "unicode/utf8.acceptRanges", "internal/bytealg.MaxLen"], apart := false, laid := [("unicode/utf8.acceptRanges", laid_unicode_utf8_acceptRanges), ("unicode/utf8.first", laid_unicode_utf8_first)], narrowed := true }
def DiskMixesUptoSaid : Prop := diskMixesUptoRow.holds Tryd.pinned (OpenSpec.upto diskMixesSpec)

/-- 'depositorylaw02.DiskBlocks', WHERE WHAT IT READS IS OF BULK AT MOST 1048576: true; the input reads as it did. -/
def diskBlocksUptoRow : OpenClaim := { program := "ytpblmdolgocpaaadoor", sum := "7bb60f9d2fb9772935b78731257fb20492e6cc2148994309df9615e43b999b6a", func := "depository/depositorylaw02.DiskBlocks", spec := "diskBlocks", inPlace := ["internal/abi.NoEscape", "internal/bytealg.MakeNoZero", "internal/bytealg.IndexByteString", "internal/bytealg.IndexString"], unfollowed := true, recurses := true, named := ["unicode/utf8.first", "unicode/utf8.acceptRanges", "internal/bytealg.MaxLen"], apart := false, laid := [("unicode/utf8.acceptRanges", laid_unicode_utf8_acceptRanges), ("unicode/utf8.first", laid_unicode_utf8_first)], narrowed := true }
def DiskBlocksUptoSaid : Prop := diskBlocksUptoRow.holds Tryd.pinned (OpenSpec.upto diskBlocksSpec)

end Rows
end Go.Proofs.YtpblmdolgocpaaaDoor
