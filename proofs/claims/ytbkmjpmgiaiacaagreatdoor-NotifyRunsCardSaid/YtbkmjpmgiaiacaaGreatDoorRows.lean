/-
  NARROWER THAN 'FOR EVERY INPUT', by the rows' own cells (each row's printed sentence says how): NotifySees: laid · NotifyTells: laid · NotifyReads: laid · NotifyNoneMissed: laid · NotifyApart: laid · NotifyBoards: laid · NotifyRuns: laid · NotifyBytes: laid.
  DERIVED. THE GIVEN ROWS OF THIS SEAT. 8 by the template 'for every input the law returns true; each argument reads behind the call as it read before'; 0 by the template 'total and deterministic' (their statements: YtbkmjpmgiaiacaaGreatDoorTotals.lean).
  GIVEN WITH THE SEED: the statements are not yours to turn. If you find one false, say at which input.
  Laid BY PROGRAM, IN A SANDBOX (cutbox-rows.mjs): the forced cells as the released guide's own fill.sh prints them over the translation 2678d2d5ff161f9a… (all of the seat's roots in one cut). By AI agents, Wed Nov 11 2026. No macro, syntax, notation, axiom, sorry.
-/
import Derived.Test.YtbkmjpmgiaiacaaGreatDoorChecked
import GoSem.PinnedTables
import GoSem.Claim
import GoSem.ClaimJoined
import GoSem.ClaimMapViews
import Derived.JoinedTies
import Derived.KernelRfl
namespace Go.Proofs.YtbkmjpmgiaiacaaGreatDoor
/- THE CELL 'sum', in the pinned program and in every row, IS THE sha256 OF THE DUMP (.gsa) THAT YtbkmjpmgiaiacaaGreatDoorProg.lean LOADS. Nothing in Lean hashes anything: it is a label: what it is worth is what the hold of that sum in a sandbox is worth. -/
noncomputable def Tryz.pinned : Pinned := { name := "ytbkmjpmgiaiacaagreatdoor", sum := "2678d2d5ff161f9a02aafb2000ca7009f37c7b6d4132fff9a36d91257e352e98", checked := Tryz.checked }
namespace Rows
def none {H : Type} : Left H := { results := [], args := [] }

/- WHAT THE LISTED PACKAGE-LEVEL VARIABLES READ AS WHEN THE CALL BEGINS. Each datum BY PROGRAM (the guide's laid-datum.mjs) off the statement by which the dump's own 'gosem.cut.vars' lays the variable. In a bare row this is a premise. The card (YtbkmjpmgiaiacaaGreatDoorCards.lean) ties it to the program's text. -/
def laid_unicode_utf8_acceptRanges {H : Type} : DataW H := .agg [.agg [.lit (.int .u8 128), .lit (.int .u8 191)], .agg [.lit (.int .u8 160), .lit (.int .u8 191)], .agg [.lit (.int .u8 128), .lit (.int .u8 159)], .agg [.lit (.int .u8 144), .lit (.int .u8 191)], .agg [.lit (.int .u8 128), .lit (.int .u8 143)], .agg [.lit (.int .u8 0), .lit (.int .u8 0)], .agg [.lit (.int .u8 0), .lit (.int .u8 0)], .agg [.lit (.int .u8 0), .lit (.int .u8 0)], .agg [.lit (.int .u8 0), .lit (.int .u8 0)], .agg [.lit (.int .u8 0), .lit (.int .u8 0)], .agg [.lit (.int .u8 0), .lit (.int .u8 0)], .agg [.lit (.int .u8 0), .lit (.int .u8 0)], .agg [.lit (.int .u8 0), .lit (.int .u8 0)], .agg [.lit (.int .u8 0), .lit (.int .u8 0)], .agg [.lit (.int .u8 0), .lit (.int .u8 0)], .agg [.lit (.int .u8 0), .lit (.int .u8 0)]]
/-- One of Go's own tables, pinned by name: the form's constant. -/
def laid_unicode_utf8_first : DataW Unit := Go.Pinned.utf8First
def laid_math_bits_deBruijn32tab {H : Type} : DataW H := .agg [.lit (.int .u8 0), .lit (.int .u8 1), .lit (.int .u8 28), .lit (.int .u8 2), .lit (.int .u8 29), .lit (.int .u8 14), .lit (.int .u8 24), .lit (.int .u8 3), .lit (.int .u8 30), .lit (.int .u8 22), .lit (.int .u8 20), .lit (.int .u8 15), .lit (.int .u8 25), .lit (.int .u8 17), .lit (.int .u8 4), .lit (.int .u8 8), .lit (.int .u8 31), .lit (.int .u8 27), .lit (.int .u8 13), .lit (.int .u8 23), .lit (.int .u8 21), .lit (.int .u8 19), .lit (.int .u8 16), .lit (.int .u8 7), .lit (.int .u8 26), .lit (.int .u8 12), .lit (.int .u8 18), .lit (.int .u8 6), .lit (.int .u8 11), .lit (.int .u8 5), .lit (.int .u8 10), .lit (.int .u8 9)]
def laid_math_bits_deBruijn64tab {H : Type} : DataW H := .agg [.lit (.int .u8 0), .lit (.int .u8 1), .lit (.int .u8 56), .lit (.int .u8 2), .lit (.int .u8 57), .lit (.int .u8 49), .lit (.int .u8 28), .lit (.int .u8 3), .lit (.int .u8 61), .lit (.int .u8 58), .lit (.int .u8 42), .lit (.int .u8 50), .lit (.int .u8 38), .lit (.int .u8 29), .lit (.int .u8 17), .lit (.int .u8 4), .lit (.int .u8 62), .lit (.int .u8 47), .lit (.int .u8 59), .lit (.int .u8 36), .lit (.int .u8 45), .lit (.int .u8 43), .lit (.int .u8 51), .lit (.int .u8 22), .lit (.int .u8 53), .lit (.int .u8 39), .lit (.int .u8 33), .lit (.int .u8 30), .lit (.int .u8 24), .lit (.int .u8 18), .lit (.int .u8 12), .lit (.int .u8 5), .lit (.int .u8 63), .lit (.int .u8 55), .lit (.int .u8 48), .lit (.int .u8 27), .lit (.int .u8 60), .lit (.int .u8 41), .lit (.int .u8 37), .lit (.int .u8 16), .lit (.int .u8 46), .lit (.int .u8 35), .lit (.int .u8 44), .lit (.int .u8 21), .lit (.int .u8 52), .lit (.int .u8 32), .lit (.int .u8 23), .lit (.int .u8 11), .lit (.int .u8 54), .lit (.int .u8 26), .lit (.int .u8 40), .lit (.int .u8 15), .lit (.int .u8 34), .lit (.int .u8 20), .lit (.int .u8 31), .lit (.int .u8 10), .lit (.int .u8 25), .lit (.int .u8 14), .lit (.int .u8 19), .lit (.int .u8 9), .lit (.int .u8 13), .lit (.int .u8 8), .lit (.int .u8 7), .lit (.int .u8 6)]

/-- 'depositorylaw28.NotifySees': WHATEVER THE INPUT: true; the input reads as it did. -/
def notifySeesSpec : ChangeSpec := { name := "notifySees", fn := fun _ => fun
  | [d1, d2] => { results := [.lit (.bool true)], args := [d1, d2] }
  | _ => none }
def notifySeesRow : OpenClaim := { program := "ytbkmjpmgiaiacaagreatdoor", sum := "2678d2d5ff161f9a02aafb2000ca7009f37c7b6d4132fff9a36d91257e352e98", func := "depository/depositorylaw28.NotifySees", spec := "notifySees", inPlace := ["internal/bytealg.CountString", "internal/bytealg.IndexByteString", "internal/bytealg.IndexString", "internal/abi.NoEscape", "internal/bytealg.MakeNoZero"], unfollowed := true, recurses := true, named := ["unicode/utf8.first", "unicode/utf8.acceptRanges", "internal/bytealg.MaxLen"], apart := false, laid := [("unicode/utf8.acceptRanges", laid_unicode_utf8_acceptRanges), ("unicode/utf8.first", laid_unicode_utf8_first)] }
def NotifySeesSaid : Prop := notifySeesRow.holds Tryz.pinned (OpenSpec.ofChange notifySeesSpec)

/-- ITS FALSE NEIGHBOUR: 'it returns false'. Refute it at one input. -/
def notifySeesWrong : ChangeSpec := { name := "notifySees", fn := fun _ => fun
  | [d1, d2] => { results := [.lit (.bool false)], args := [d1, d2] }
  | _ => none }
def NotifySeesWrongFalsely : Prop := notifySeesRow.holds Tryz.pinned (OpenSpec.ofChange notifySeesWrong)

/-- 'depositorylaw28.NotifyTells': WHATEVER THE INPUT: true; the input reads as it did. -/
def notifyTellsSpec : ChangeSpec := { name := "notifyTells", fn := fun _ => fun
  | [d1, d2] => { results := [.lit (.bool true)], args := [d1, d2] }
  | _ => none }
def notifyTellsRow : OpenClaim := { program := "ytbkmjpmgiaiacaagreatdoor", sum := "2678d2d5ff161f9a02aafb2000ca7009f37c7b6d4132fff9a36d91257e352e98", func := "depository/depositorylaw28.NotifyTells", spec := "notifyTells", inPlace := ["internal/bytealg.CountString", "internal/bytealg.IndexByteString", "internal/bytealg.IndexString", "internal/abi.NoEscape", "internal/bytealg.MakeNoZero"], unfollowed := true, recurses := true, named := ["unicode/utf8.first", "unicode/utf8.acceptRanges", "internal/bytealg.MaxLen"], apart := false, laid := [("unicode/utf8.acceptRanges", laid_unicode_utf8_acceptRanges), ("unicode/utf8.first", laid_unicode_utf8_first)] }
def NotifyTellsSaid : Prop := notifyTellsRow.holds Tryz.pinned (OpenSpec.ofChange notifyTellsSpec)

/-- ITS FALSE NEIGHBOUR: 'it returns false'. Refute it at one input. -/
def notifyTellsWrong : ChangeSpec := { name := "notifyTells", fn := fun _ => fun
  | [d1, d2] => { results := [.lit (.bool false)], args := [d1, d2] }
  | _ => none }
def NotifyTellsWrongFalsely : Prop := notifyTellsRow.holds Tryz.pinned (OpenSpec.ofChange notifyTellsWrong)

/-- 'depositorylaw28.NotifyReads': WHATEVER THE INPUT: true; the input reads as it did. -/
def notifyReadsSpec : ChangeSpec := { name := "notifyReads", fn := fun _ => fun
  | [d1, d2, d3] => { results := [.lit (.bool true)], args := [d1, d2, d3] }
  | _ => none }
def notifyReadsRow : OpenClaim := { program := "ytbkmjpmgiaiacaagreatdoor", sum := "2678d2d5ff161f9a02aafb2000ca7009f37c7b6d4132fff9a36d91257e352e98", func := "depository/depositorylaw28.NotifyReads", spec := "notifyReads", inPlace := ["internal/bytealg.CountString", "internal/bytealg.IndexByteString", "internal/bytealg.IndexString", "internal/abi.NoEscape", "internal/bytealg.MakeNoZero"], unfollowed := true, recurses := true, named := ["unicode/utf8.first", "unicode/utf8.acceptRanges", "internal/bytealg.MaxLen"], apart := false, laid := [("unicode/utf8.acceptRanges", laid_unicode_utf8_acceptRanges), ("unicode/utf8.first", laid_unicode_utf8_first)] }
def NotifyReadsSaid : Prop := notifyReadsRow.holds Tryz.pinned (OpenSpec.ofChange notifyReadsSpec)

/-- ITS FALSE NEIGHBOUR: 'it returns false'. Refute it at one input. -/
def notifyReadsWrong : ChangeSpec := { name := "notifyReads", fn := fun _ => fun
  | [d1, d2, d3] => { results := [.lit (.bool false)], args := [d1, d2, d3] }
  | _ => none }
def NotifyReadsWrongFalsely : Prop := notifyReadsRow.holds Tryz.pinned (OpenSpec.ofChange notifyReadsWrong)

/-- 'depositorylaw28.NotifyNoneMissed': WHATEVER THE INPUT: true; the input reads as it did. -/
def notifyNoneMissedSpec : ChangeSpec := { name := "notifyNoneMissed", fn := fun _ => fun
  | [d1, d2] => { results := [.lit (.bool true)], args := [d1, d2] }
  | _ => none }
def notifyNoneMissedRow : OpenClaim := { program := "ytbkmjpmgiaiacaagreatdoor", sum := "2678d2d5ff161f9a02aafb2000ca7009f37c7b6d4132fff9a36d91257e352e98", func := "depository/depositorylaw28.NotifyNoneMissed", spec := "notifyNoneMissed", inPlace := ["internal/bytealg.CountString", "internal/bytealg.IndexByteString", "internal/bytealg.IndexString", "internal/abi.NoEscape", "internal/bytealg.MakeNoZero"], unfollowed := true, recurses := true, named := ["unicode/utf8.first", "unicode/utf8.acceptRanges", "internal/bytealg.MaxLen"], apart := false, laid := [("unicode/utf8.acceptRanges", laid_unicode_utf8_acceptRanges), ("unicode/utf8.first", laid_unicode_utf8_first)] }
def NotifyNoneMissedSaid : Prop := notifyNoneMissedRow.holds Tryz.pinned (OpenSpec.ofChange notifyNoneMissedSpec)

/-- ITS FALSE NEIGHBOUR: 'it returns false'. Refute it at one input. -/
def notifyNoneMissedWrong : ChangeSpec := { name := "notifyNoneMissed", fn := fun _ => fun
  | [d1, d2] => { results := [.lit (.bool false)], args := [d1, d2] }
  | _ => none }
def NotifyNoneMissedWrongFalsely : Prop := notifyNoneMissedRow.holds Tryz.pinned (OpenSpec.ofChange notifyNoneMissedWrong)

/-- 'depositorylaw28.NotifyApart': WHATEVER THE INPUT: true; the input reads as it did. -/
def notifyApartSpec : ChangeSpec := { name := "notifyApart", fn := fun _ => fun
  | [d1, d2, d3] => { results := [.lit (.bool true)], args := [d1, d2, d3] }
  | _ => none }
def notifyApartRow : OpenClaim := { program := "ytbkmjpmgiaiacaagreatdoor", sum := "2678d2d5ff161f9a02aafb2000ca7009f37c7b6d4132fff9a36d91257e352e98", func := "depository/depositorylaw28.NotifyApart", spec := "notifyApart", inPlace := ["internal/bytealg.CountString", "internal/bytealg.IndexByteString", "internal/bytealg.IndexString", "internal/abi.NoEscape", "internal/bytealg.MakeNoZero"], unfollowed := true, recurses := true, named := ["unicode/utf8.first", "unicode/utf8.acceptRanges", "internal/bytealg.MaxLen"], apart := false, laid := [("unicode/utf8.acceptRanges", laid_unicode_utf8_acceptRanges), ("unicode/utf8.first", laid_unicode_utf8_first)] }
def NotifyApartSaid : Prop := notifyApartRow.holds Tryz.pinned (OpenSpec.ofChange notifyApartSpec)

/-- ITS FALSE NEIGHBOUR: 'it returns false'. Refute it at one input. -/
def notifyApartWrong : ChangeSpec := { name := "notifyApart", fn := fun _ => fun
  | [d1, d2, d3] => { results := [.lit (.bool false)], args := [d1, d2, d3] }
  | _ => none }
def NotifyApartWrongFalsely : Prop := notifyApartRow.holds Tryz.pinned (OpenSpec.ofChange notifyApartWrong)

/-- 'depositorylaw28.NotifyBoards': WHATEVER THE INPUT: true; the input reads as it did. -/
def notifyBoardsSpec : ChangeSpec := { name := "notifyBoards", fn := fun _ => fun
  | [d1, d2, d3] => { results := [.lit (.bool true)], args := [d1, d2, d3] }
  | _ => none }
def notifyBoardsRow : OpenClaim := { program := "ytbkmjpmgiaiacaagreatdoor", sum := "2678d2d5ff161f9a02aafb2000ca7009f37c7b6d4132fff9a36d91257e352e98", func := "depository/depositorylaw28.NotifyBoards", spec := "notifyBoards", inPlace := ["internal/bytealg.CountString", "internal/bytealg.IndexByteString", "internal/bytealg.IndexString", "internal/abi.NoEscape", "internal/bytealg.MakeNoZero"], unfollowed := true, recurses := true, named := ["unicode/utf8.first", "unicode/utf8.acceptRanges", "internal/bytealg.MaxLen"], apart := false, laid := [("unicode/utf8.acceptRanges", laid_unicode_utf8_acceptRanges), ("unicode/utf8.first", laid_unicode_utf8_first)] }
def NotifyBoardsSaid : Prop := notifyBoardsRow.holds Tryz.pinned (OpenSpec.ofChange notifyBoardsSpec)

/-- ITS FALSE NEIGHBOUR: 'it returns false'. Refute it at one input. -/
def notifyBoardsWrong : ChangeSpec := { name := "notifyBoards", fn := fun _ => fun
  | [d1, d2, d3] => { results := [.lit (.bool false)], args := [d1, d2, d3] }
  | _ => none }
def NotifyBoardsWrongFalsely : Prop := notifyBoardsRow.holds Tryz.pinned (OpenSpec.ofChange notifyBoardsWrong)

/-- 'depositorylaw28.NotifyRuns': WHATEVER THE INPUT: true; the input reads as it did. -/
def notifyRunsSpec : ChangeSpec := { name := "notifyRuns", fn := fun _ => fun
  | [d1, d2] => { results := [.lit (.bool true)], args := [d1, d2] }
  | _ => none }
def notifyRunsRow : OpenClaim := { program := "ytbkmjpmgiaiacaagreatdoor", sum := "2678d2d5ff161f9a02aafb2000ca7009f37c7b6d4132fff9a36d91257e352e98", func := "depository/depositorylaw28.NotifyRuns", spec := "notifyRuns", inPlace := ["internal/bytealg.CountString", "internal/bytealg.IndexByteString", "internal/bytealg.IndexString", "internal/abi.NoEscape", "internal/bytealg.MakeNoZero"], unfollowed := true, recurses := true, named := ["unicode/utf8.first", "unicode/utf8.acceptRanges", "internal/bytealg.MaxLen"], apart := false, laid := [("unicode/utf8.acceptRanges", laid_unicode_utf8_acceptRanges), ("unicode/utf8.first", laid_unicode_utf8_first)] }
def NotifyRunsSaid : Prop := notifyRunsRow.holds Tryz.pinned (OpenSpec.ofChange notifyRunsSpec)

/-- ITS FALSE NEIGHBOUR: 'it returns false'. Refute it at one input. -/
def notifyRunsWrong : ChangeSpec := { name := "notifyRuns", fn := fun _ => fun
  | [d1, d2] => { results := [.lit (.bool false)], args := [d1, d2] }
  | _ => none }
def NotifyRunsWrongFalsely : Prop := notifyRunsRow.holds Tryz.pinned (OpenSpec.ofChange notifyRunsWrong)

/-- 'depositorylaw28.NotifyBytes': WHATEVER THE INPUT: true; the input reads as it did. -/
def notifyBytesSpec : ChangeSpec := { name := "notifyBytes", fn := fun _ => fun
  | [d1, d2] => { results := [.lit (.bool true)], args := [d1, d2] }
  | _ => none }
def notifyBytesRow : OpenClaim := { program := "ytbkmjpmgiaiacaagreatdoor", sum := "2678d2d5ff161f9a02aafb2000ca7009f37c7b6d4132fff9a36d91257e352e98", func := "depository/depositorylaw28.NotifyBytes", spec := "notifyBytes", inPlace := ["internal/bytealg.CountString", "internal/bytealg.IndexByteString", "internal/bytealg.IndexString", "internal/abi.NoEscape", "internal/bytealg.MakeNoZero"], unfollowed := true, recurses := true, named := ["unicode/utf8.first", "unicode/utf8.acceptRanges", "internal/bytealg.MaxLen", "math/bits.deBruijn32tab", "math/bits.deBruijn64tab"], apart := false, laid := [("math/bits.deBruijn32tab", laid_math_bits_deBruijn32tab), ("math/bits.deBruijn64tab", laid_math_bits_deBruijn64tab), ("unicode/utf8.acceptRanges", laid_unicode_utf8_acceptRanges), ("unicode/utf8.first", laid_unicode_utf8_first)] }
def NotifyBytesSaid : Prop := notifyBytesRow.holds Tryz.pinned (OpenSpec.ofChange notifyBytesSpec)

/-- ITS FALSE NEIGHBOUR: 'it returns false'. Refute it at one input. -/
def notifyBytesWrong : ChangeSpec := { name := "notifyBytes", fn := fun _ => fun
  | [d1, d2] => { results := [.lit (.bool false)], args := [d1, d2] }
  | _ => none }
def NotifyBytesWrongFalsely : Prop := notifyBytesRow.holds Tryz.pinned (OpenSpec.ofChange notifyBytesWrong)

/- THE SECOND FORM. 'bulk': how many values and letters a reading holds, each counted each time it is reached (what is shared counts as often as it is met; a slice's spare places count too). A statement '..UptoSaid' is the law's where the arguments, and the package variables that the reading takes, are together of bulk at most 1048576: NARROWER than '..Said'. Prove '..Said' where nothing that the law and all that it calls make is longer than what came in: it says more and counts as full. Else prove '..UptoSaid'. A law counts once. -/
mutual
def uptoBulk {H : Type} : DataW H → Nat
  | .lit (.string bytes) => bytes.length + 1
  | .lit _ => 1
  | .nil => 1
  | .ptr d => uptoBulk d + 1
  | .slice elems spare => uptoBulkAll elems + uptoBulkAll spare + 1
  | .agg parts => uptoBulkAll parts + 1
  | .iface _ d => uptoBulk d + 1
  | .map entries => uptoBulkEntries entries + 1
  | .held _ => 1
def uptoBulkAll {H : Type} : List (DataW H) → Nat
  | [] => 0
  | d :: r => uptoBulk d + uptoBulkAll r
def uptoBulkEntries {H : Type} : List (Lit × DataW H) → Nat
  | [] => 0
  | x :: r => uptoBulkEntry x + uptoBulkEntries r
def uptoBulkEntry {H : Type} : Lit × DataW H → Nat
  | (.string bytes, d) => bytes.length + uptoBulk d + 1
  | (_, d) => uptoBulk d + 1
 end
def uptoSmall : (H : Type) → List (DataW H) → Bool := fun _ ds => decide (uptoBulkAll ds ≤ 1048576)
def OpenSpec.upto (s : _root_.Go.ChangeSpec) : _root_.Go.OpenSpec := { _root_.Go.OpenSpec.ofChange s with cond := some uptoSmall }

/-- 'depositorylaw28.NotifySees', WHERE WHAT IT READS IS OF BULK AT MOST 1048576: true; the input reads as it did. -/
def notifySeesUptoRow : OpenClaim := { program := "ytbkmjpmgiaiacaagreatdoor", sum := "2678d2d5ff161f9a02aafb2000ca7009f37c7b6d4132fff9a36d91257e352e98", func := "depository/depositorylaw28.NotifySees", spec := "notifySees", inPlace := ["internal/bytealg.CountString", "internal/bytealg.IndexByteString", "internal/bytealg.IndexString", "internal/abi.NoEscape", "internal/bytealg.MakeNoZero"], unfollowed := true, recurses := true, named := ["unicode/utf8.first", "unicode/utf8.acceptRanges", "internal/bytealg.MaxLen"], apart := false, laid := [("unicode/utf8.acceptRanges", laid_unicode_utf8_acceptRanges), ("unicode/utf8.first", laid_unicode_utf8_first)], narrowed := true }
def NotifySeesUptoSaid : Prop := notifySeesUptoRow.holds Tryz.pinned (OpenSpec.upto notifySeesSpec)

/-- 'depositorylaw28.NotifyTells', WHERE WHAT IT READS IS OF BULK AT MOST 1048576: true; the input reads as it did. -/
def notifyTellsUptoRow : OpenClaim := { program := "ytbkmjpmgiaiacaagreatdoor", sum := "2678d2d5ff161f9a02aafb2000ca7009f37c7b6d4132fff9a36d91257e352e98", func := "depository/depositorylaw28.NotifyTells", spec := "notifyTells", inPlace := ["internal/bytealg.CountString", "internal/bytealg.IndexByteString", "internal/bytealg.IndexString", "internal/abi.NoEscape", "internal/bytealg.MakeNoZero"], unfollowed := true, recurses := true, named := ["unicode/utf8.first", "unicode/utf8.acceptRanges", "internal/bytealg.MaxLen"], apart := false, laid := [("unicode/utf8.acceptRanges", laid_unicode_utf8_acceptRanges), ("unicode/utf8.first", laid_unicode_utf8_first)], narrowed := true }
def NotifyTellsUptoSaid : Prop := notifyTellsUptoRow.holds Tryz.pinned (OpenSpec.upto notifyTellsSpec)

/-- 'depositorylaw28.NotifyReads', WHERE WHAT IT READS IS OF BULK AT MOST 1048576: true; the input reads as it did. -/
def notifyReadsUptoRow : OpenClaim := { program := "ytbkmjpmgiaiacaagreatdoor", sum := "2678d2d5ff161f9a02aafb2000ca7009f37c7b6d4132fff9a36d91257e352e98", func := "depository/depositorylaw28.NotifyReads", spec := "notifyReads", inPlace := ["internal/bytealg.CountString", "internal/bytealg.IndexByteString", "internal/bytealg.IndexString", "internal/abi.NoEscape", "internal/bytealg.MakeNoZero"], unfollowed := true, recurses := true, named := ["unicode/utf8.first", "unicode/utf8.acceptRanges", "internal/bytealg.MaxLen"], apart := false, laid := [("unicode/utf8.acceptRanges", laid_unicode_utf8_acceptRanges), ("unicode/utf8.first", laid_unicode_utf8_first)], narrowed := true }
def NotifyReadsUptoSaid : Prop := notifyReadsUptoRow.holds Tryz.pinned (OpenSpec.upto notifyReadsSpec)

/-- 'depositorylaw28.NotifyNoneMissed', WHERE WHAT IT READS IS OF BULK AT MOST 1048576: true; the input reads as it did. -/
def notifyNoneMissedUptoRow : OpenClaim := { program := "ytbkmjpmgiaiacaagreatdoor", sum := "2678d2d5ff161f9a02aafb2000ca7009f37c7b6d4132fff9a36d91257e352e98", func := "depository/depositorylaw28.NotifyNoneMissed", spec := "notifyNoneMissed", inPlace := ["internal/bytealg.CountString", "internal/bytealg.IndexByteString", "internal/bytealg.IndexString", "internal/abi.NoEscape", "internal/bytealg.MakeNoZero"], unfollowed := true, recurses := true, named := ["unicode/utf8.first", "unicode/utf8.acceptRanges", "internal/bytealg.MaxLen"], apart := false, laid := [("unicode/utf8.acceptRanges", laid_unicode_utf8_acceptRanges), ("unicode/utf8.first", laid_unicode_utf8_first)], narrowed := true }
def NotifyNoneMissedUptoSaid : Prop := notifyNoneMissedUptoRow.holds Tryz.pinned (OpenSpec.upto notifyNoneMissedSpec)

/-- 'depositorylaw28.NotifyApart', WHERE WHAT IT READS IS OF BULK AT MOST 1048576: true; the input reads as it did. -/
def notifyApartUptoRow : OpenClaim := { program := "ytbkmjpmgiaiacaagreatdoor", sum := "2678d2d5ff161f9a02aafb2000ca7009f37c7b6d4132fff9a36d91257e352e98", func := "depository/depositorylaw28.NotifyApart", spec := "notifyApart", inPlace := ["internal/bytealg.CountString", "internal/bytealg.IndexByteString", "internal/bytealg.IndexString", "internal/abi.NoEscape", "internal/bytealg.MakeNoZero"], unfollowed := true, recurses := true, named := ["unicode/utf8.first", "unicode/utf8.acceptRanges", "internal/bytealg.MaxLen"], apart := false, laid := [("unicode/utf8.acceptRanges", laid_unicode_utf8_acceptRanges), ("unicode/utf8.first", laid_unicode_utf8_first)], narrowed := true }
def NotifyApartUptoSaid : Prop := notifyApartUptoRow.holds Tryz.pinned (OpenSpec.upto notifyApartSpec)

/-- 'depositorylaw28.NotifyBoards', WHERE WHAT IT READS IS OF BULK AT MOST 1048576: true; the input reads as it did. -/
def notifyBoardsUptoRow : OpenClaim := { program := "ytbkmjpmgiaiacaagreatdoor", sum := "2678d2d5ff161f9a02aafb2000ca7009f37c7b6d4132fff9a36d91257e352e98", func := "depository/depositorylaw28.NotifyBoards", spec := "notifyBoards", inPlace := ["internal/bytealg.CountString", "internal/bytealg.IndexByteString", "internal/bytealg.IndexString", "internal/abi.NoEscape", "internal/bytealg.MakeNoZero"], unfollowed := true, recurses := true, named := ["unicode/utf8.first", "unicode/utf8.acceptRanges", "internal/bytealg.MaxLen"], apart := false, laid := [("unicode/utf8.acceptRanges", laid_unicode_utf8_acceptRanges), ("unicode/utf8.first", laid_unicode_utf8_first)], narrowed := true }
def NotifyBoardsUptoSaid : Prop := notifyBoardsUptoRow.holds Tryz.pinned (OpenSpec.upto notifyBoardsSpec)

/-- 'depositorylaw28.NotifyRuns', WHERE WHAT IT READS IS OF BULK AT MOST 1048576: true; the input reads as it did. -/
def notifyRunsUptoRow : OpenClaim := { program := "ytbkmjpmgiaiacaagreatdoor", sum := "2678d2d5ff161f9a02aafb2000ca7009f37c7b6d4132fff9a36d91257e352e98", func := "depository/depositorylaw28.NotifyRuns", spec := "notifyRuns", inPlace := ["internal/bytealg.CountString", "internal/bytealg.IndexByteString", "internal/bytealg.IndexString", "internal/abi.NoEscape", "internal/bytealg.MakeNoZero"], unfollowed := true, recurses := true, named := ["unicode/utf8.first", "unicode/utf8.acceptRanges", "internal/bytealg.MaxLen"], apart := false, laid := [("unicode/utf8.acceptRanges", laid_unicode_utf8_acceptRanges), ("unicode/utf8.first", laid_unicode_utf8_first)], narrowed := true }
def NotifyRunsUptoSaid : Prop := notifyRunsUptoRow.holds Tryz.pinned (OpenSpec.upto notifyRunsSpec)

/-- 'depositorylaw28.NotifyBytes', WHERE WHAT IT READS IS OF BULK AT MOST 1048576: true; the input reads as it did. -/
def notifyBytesUptoRow : OpenClaim := { program := "ytbkmjpmgiaiacaagreatdoor", sum := "2678d2d5ff161f9a02aafb2000ca7009f37c7b6d4132fff9a36d91257e352e98", func := "depository/depositorylaw28.NotifyBytes", spec := "notifyBytes", inPlace := ["internal/bytealg.CountString", "internal/bytealg.IndexByteString", "internal/bytealg.IndexString", "internal/abi.NoEscape", "internal/bytealg.MakeNoZero"], unfollowed := true, recurses := true, named := ["unicode/utf8.first", "unicode/utf8.acceptRanges", "internal/bytealg.MaxLen", "math/bits.deBruijn32tab", "math/bits.deBruijn64tab"], apart := false, laid := [("math/bits.deBruijn32tab", laid_math_bits_deBruijn32tab), ("math/bits.deBruijn64tab", laid_math_bits_deBruijn64tab), ("unicode/utf8.acceptRanges", laid_unicode_utf8_acceptRanges), ("unicode/utf8.first", laid_unicode_utf8_first)], narrowed := true }
def NotifyBytesUptoSaid : Prop := notifyBytesUptoRow.holds Tryz.pinned (OpenSpec.upto notifyBytesSpec)

end Rows
end Go.Proofs.YtbkmjpmgiaiacaaGreatDoor
