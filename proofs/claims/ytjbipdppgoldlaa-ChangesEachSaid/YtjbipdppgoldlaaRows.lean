/-
  No cell of these rows narrows 'for every input' (looked for: loops, veiled, ifaces, maps, wideKeys, modest, calm, conditions, laid).
  DERIVED. THE GIVEN ROWS OF THIS SEAT. 6 by the template 'for every input the law returns true; each argument reads behind the call as it read before'; 0 by the template 'total and deterministic' (their statements: YtjbipdppgoldlaaTotals.lean).
  GIVEN WITH THE SEED: the statements are not yours to turn. If you find one false, say at which input.
  Laid BY PROGRAM, IN A SANDBOX (cutbox-rows.mjs): the forced cells as the released guide's own fill.sh prints them over the translation 0e58aeffc5e4a300… (all of the seat's roots in one cut). By AI agents, Wed Nov 11 2026. No macro, syntax, notation, axiom, sorry.
-/
import Derived.Test.YtjbipdppgoldlaaChecked
import GoSem.Claim
import GoSem.ClaimJoined
import GoSem.ClaimMapViews
import Derived.JoinedTies
import Derived.KernelRfl
namespace Go.Proofs.Ytjbipdppgoldlaa
/- THE CELL 'sum', in the pinned program and in every row, IS THE sha256 OF THE DUMP (.gsa) THAT YtjbipdppgoldlaaProg.lean LOADS. Nothing in Lean hashes anything: it is a label: what it is worth is what the hold of that sum in a sandbox is worth. -/
noncomputable def Try.pinned : Pinned := { name := "ytjbipdppgoldlaa", sum := "0e58aeffc5e4a300495df32065cc2b03dd6f6316dfc44cc8e484f1664e814f3b", checked := Try.checked }
namespace Rows
def none {H : Type} : Left H := { results := [], args := [] }

/-- 'depositorylaw24.ChangesGoesOn': WHATEVER THE INPUT: true; the input reads as it did. -/
def changesGoesOnSpec : ChangeSpec := { name := "changesGoesOn", fn := fun _ => fun
  | [d1, d2] => { results := [.lit (.bool true)], args := [d1, d2] }
  | _ => none }
def changesGoesOnRow : OpenClaim := { program := "ytjbipdppgoldlaa", sum := "0e58aeffc5e4a300495df32065cc2b03dd6f6316dfc44cc8e484f1664e814f3b", func := "depository/depositorylaw24.ChangesGoesOn", spec := "changesGoesOn", inPlace := ["slices.overlaps[depository/api.ChangeOpen]"], unfollowed := true, recurses := true, apart := false }
def ChangesGoesOnSaid : Prop := changesGoesOnRow.holds Try.pinned (OpenSpec.ofChange changesGoesOnSpec)

/-- ITS FALSE NEIGHBOUR: 'it returns false'. Refute it at one input. -/
def changesGoesOnWrong : ChangeSpec := { name := "changesGoesOn", fn := fun _ => fun
  | [d1, d2] => { results := [.lit (.bool false)], args := [d1, d2] }
  | _ => none }
def ChangesGoesOnWrongFalsely : Prop := changesGoesOnRow.holds Try.pinned (OpenSpec.ofChange changesGoesOnWrong)

/-- 'depositorylaw24.ChangesErrors': WHATEVER THE INPUT: true; the input reads as it did. -/
def changesErrorsSpec : ChangeSpec := { name := "changesErrors", fn := fun _ => fun
  | [d1, d2, d3] => { results := [.lit (.bool true)], args := [d1, d2, d3] }
  | _ => none }
def changesErrorsRow : OpenClaim := { program := "ytjbipdppgoldlaa", sum := "0e58aeffc5e4a300495df32065cc2b03dd6f6316dfc44cc8e484f1664e814f3b", func := "depository/depositorylaw24.ChangesErrors", spec := "changesErrors", inPlace := ["slices.overlaps[depository/api.ChangeOpen]"], unfollowed := true, recurses := true, apart := false }
def ChangesErrorsSaid : Prop := changesErrorsRow.holds Try.pinned (OpenSpec.ofChange changesErrorsSpec)

/-- ITS FALSE NEIGHBOUR: 'it returns false'. Refute it at one input. -/
def changesErrorsWrong : ChangeSpec := { name := "changesErrors", fn := fun _ => fun
  | [d1, d2, d3] => { results := [.lit (.bool false)], args := [d1, d2, d3] }
  | _ => none }
def ChangesErrorsWrongFalsely : Prop := changesErrorsRow.holds Try.pinned (OpenSpec.ofChange changesErrorsWrong)

/-- 'depositorylaw24.ChangesEach': WHATEVER THE INPUT: true; the input reads as it did. -/
def changesEachSpec : ChangeSpec := { name := "changesEach", fn := fun _ => fun
  | [d1, d2] => { results := [.lit (.bool true)], args := [d1, d2] }
  | _ => none }
def changesEachRow : OpenClaim := { program := "ytjbipdppgoldlaa", sum := "0e58aeffc5e4a300495df32065cc2b03dd6f6316dfc44cc8e484f1664e814f3b", func := "depository/depositorylaw24.ChangesEach", spec := "changesEach", inPlace := ["slices.overlaps[depository/api.ChangeOpen]"], unfollowed := true, recurses := true, apart := false }
def ChangesEachSaid : Prop := changesEachRow.holds Try.pinned (OpenSpec.ofChange changesEachSpec)

/-- ITS FALSE NEIGHBOUR: 'it returns false'. Refute it at one input. -/
def changesEachWrong : ChangeSpec := { name := "changesEach", fn := fun _ => fun
  | [d1, d2] => { results := [.lit (.bool false)], args := [d1, d2] }
  | _ => none }
def ChangesEachWrongFalsely : Prop := changesEachRow.holds Try.pinned (OpenSpec.ofChange changesEachWrong)

/-- 'depositorylaw24.ChangesBytes': WHATEVER THE INPUT: true; the input reads as it did. -/
def changesBytesSpec : ChangeSpec := { name := "changesBytes", fn := fun _ => fun
  | [d1, d2] => { results := [.lit (.bool true)], args := [d1, d2] }
  | _ => none }
def changesBytesRow : OpenClaim := { program := "ytjbipdppgoldlaa", sum := "0e58aeffc5e4a300495df32065cc2b03dd6f6316dfc44cc8e484f1664e814f3b", func := "depository/depositorylaw24.ChangesBytes", spec := "changesBytes", inPlace := ["slices.overlaps[depository/api.ChangeOpen]"], unfollowed := true, recurses := true, apart := false }
def ChangesBytesSaid : Prop := changesBytesRow.holds Try.pinned (OpenSpec.ofChange changesBytesSpec)

/-- ITS FALSE NEIGHBOUR: 'it returns false'. Refute it at one input. -/
def changesBytesWrong : ChangeSpec := { name := "changesBytes", fn := fun _ => fun
  | [d1, d2] => { results := [.lit (.bool false)], args := [d1, d2] }
  | _ => none }
def ChangesBytesWrongFalsely : Prop := changesBytesRow.holds Try.pinned (OpenSpec.ofChange changesBytesWrong)

/-- 'depositorylaw24.ChangesNotes': WHATEVER THE INPUT: true; the input reads as it did. -/
def changesNotesSpec : ChangeSpec := { name := "changesNotes", fn := fun _ => fun
  | [d1, d2] => { results := [.lit (.bool true)], args := [d1, d2] }
  | _ => none }
def changesNotesRow : OpenClaim := { program := "ytjbipdppgoldlaa", sum := "0e58aeffc5e4a300495df32065cc2b03dd6f6316dfc44cc8e484f1664e814f3b", func := "depository/depositorylaw24.ChangesNotes", spec := "changesNotes", inPlace := ["slices.overlaps[depository/api.ChangeOpen]"], unfollowed := true, recurses := true, apart := false }
def ChangesNotesSaid : Prop := changesNotesRow.holds Try.pinned (OpenSpec.ofChange changesNotesSpec)

/-- ITS FALSE NEIGHBOUR: 'it returns false'. Refute it at one input. -/
def changesNotesWrong : ChangeSpec := { name := "changesNotes", fn := fun _ => fun
  | [d1, d2] => { results := [.lit (.bool false)], args := [d1, d2] }
  | _ => none }
def ChangesNotesWrongFalsely : Prop := changesNotesRow.holds Try.pinned (OpenSpec.ofChange changesNotesWrong)

/-- 'depositorylaw24.ChangesReads': WHATEVER THE INPUT: true; the input reads as it did. -/
def changesReadsSpec : ChangeSpec := { name := "changesReads", fn := fun _ => fun
  | [d1, d2, d3] => { results := [.lit (.bool true)], args := [d1, d2, d3] }
  | _ => none }
def changesReadsRow : OpenClaim := { program := "ytjbipdppgoldlaa", sum := "0e58aeffc5e4a300495df32065cc2b03dd6f6316dfc44cc8e484f1664e814f3b", func := "depository/depositorylaw24.ChangesReads", spec := "changesReads", inPlace := ["slices.overlaps[depository/api.ChangeOpen]"], unfollowed := true, recurses := true, apart := false }
def ChangesReadsSaid : Prop := changesReadsRow.holds Try.pinned (OpenSpec.ofChange changesReadsSpec)

/-- ITS FALSE NEIGHBOUR: 'it returns false'. Refute it at one input. -/
def changesReadsWrong : ChangeSpec := { name := "changesReads", fn := fun _ => fun
  | [d1, d2, d3] => { results := [.lit (.bool false)], args := [d1, d2, d3] }
  | _ => none }
def ChangesReadsWrongFalsely : Prop := changesReadsRow.holds Try.pinned (OpenSpec.ofChange changesReadsWrong)

/- THE SECOND FORM. 'bulk': how many values and letters a reading holds, each counted each time it is reached (what is shared counts as often as it is met; a slice's spare places count too). A statement '..UptoSaid' is the law's where the arguments, and the package variables that the reading takes, are together of bulk at most 1048576: NARROWER than '..Said'. Prove '..Said' where nothing that the law and all that it calls make is longer than what came in: it says more and counts as full. Else prove '..UptoSaid'. A law counts once. -/
mutual
def uptoBulk {H : Type} : DataW H → Nat
  | .lit (.string bytes) => bytes.length + 1
  | .lit _ => 1
  | .nil => 1
  | .ptr d => uptoBulk d + 1
  | .slice elems spare => uptoBulkAll elems + uptoBulkAll spare + 1
  | .agg parts => uptoBulkAll parts + 1
  | .iface _ d => uptoBulk d + 1
  | .map entries => uptoBulkEntries entries + 1
  | .held _ => 1
def uptoBulkAll {H : Type} : List (DataW H) → Nat
  | [] => 0
  | d :: r => uptoBulk d + uptoBulkAll r
def uptoBulkEntries {H : Type} : List (Lit × DataW H) → Nat
  | [] => 0
  | x :: r => uptoBulkEntry x + uptoBulkEntries r
def uptoBulkEntry {H : Type} : Lit × DataW H → Nat
  | (.string bytes, d) => bytes.length + uptoBulk d + 1
  | (_, d) => uptoBulk d + 1
 end
def uptoSmall : (H : Type) → List (DataW H) → Bool := fun _ ds => decide (uptoBulkAll ds ≤ 1048576)
def OpenSpec.upto (s : _root_.Go.ChangeSpec) : _root_.Go.OpenSpec := { _root_.Go.OpenSpec.ofChange s with cond := some uptoSmall }

/-- 'depositorylaw24.ChangesGoesOn', WHERE WHAT IT READS IS OF BULK AT MOST 1048576: true; the input reads as it did. -/
def changesGoesOnUptoRow : OpenClaim := { program := "ytjbipdppgoldlaa", sum := "0e58aeffc5e4a300495df32065cc2b03dd6f6316dfc44cc8e484f1664e814f3b", func := "depository/depositorylaw24.ChangesGoesOn", spec := "changesGoesOn", inPlace := ["slices.overlaps[depository/api.ChangeOpen]"], unfollowed := true, recurses := true, apart := false, narrowed := true }
def ChangesGoesOnUptoSaid : Prop := changesGoesOnUptoRow.holds Try.pinned (OpenSpec.upto changesGoesOnSpec)

/-- 'depositorylaw24.ChangesErrors', WHERE WHAT IT READS IS OF BULK AT MOST 1048576: true; the input reads as it did. -/
def changesErrorsUptoRow : OpenClaim := { program := "ytjbipdppgoldlaa", sum := "0e58aeffc5e4a300495df32065cc2b03dd6f6316dfc44cc8e484f1664e814f3b", func := "depository/depositorylaw24.ChangesErrors", spec := "changesErrors", inPlace := ["slices.overlaps[depository/api.ChangeOpen]"], unfollowed := true, recurses := true, apart := false, narrowed := true }
def ChangesErrorsUptoSaid : Prop := changesErrorsUptoRow.holds Try.pinned (OpenSpec.upto changesErrorsSpec)

/-- 'depositorylaw24.ChangesEach', WHERE WHAT IT READS IS OF BULK AT MOST 1048576: true; the input reads as it did. -/
def changesEachUptoRow : OpenClaim := { program := "ytjbipdppgoldlaa", sum := "0e58aeffc5e4a300495df32065cc2b03dd6f6316dfc44cc8e484f1664e814f3b", func := "depository/depositorylaw24.ChangesEach", spec := "changesEach", inPlace := ["slices.overlaps[depository/api.ChangeOpen]"], unfollowed := true, recurses := true, apart := false, narrowed := true }
def ChangesEachUptoSaid : Prop := changesEachUptoRow.holds Try.pinned (OpenSpec.upto changesEachSpec)

/-- 'depositorylaw24.ChangesBytes', WHERE WHAT IT READS IS OF BULK AT MOST 1048576: true; the input reads as it did. -/
def changesBytesUptoRow : OpenClaim := { program := "ytjbipdppgoldlaa", sum := "0e58aeffc5e4a300495df32065cc2b03dd6f6316dfc44cc8e484f1664e814f3b", func := "depository/depositorylaw24.ChangesBytes", spec := "changesBytes", inPlace := ["slices.overlaps[depository/api.ChangeOpen]"], unfollowed := true, recurses := true, apart := false, narrowed := true }
def ChangesBytesUptoSaid : Prop := changesBytesUptoRow.holds Try.pinned (OpenSpec.upto changesBytesSpec)

/-- 'depositorylaw24.ChangesNotes', WHERE WHAT IT READS IS OF BULK AT MOST 1048576: true; the input reads as it did. -/
def changesNotesUptoRow : OpenClaim := { program := "ytjbipdppgoldlaa", sum := "0e58aeffc5e4a300495df32065cc2b03dd6f6316dfc44cc8e484f1664e814f3b", func := "depository/depositorylaw24.ChangesNotes", spec := "changesNotes", inPlace := ["slices.overlaps[depository/api.ChangeOpen]"], unfollowed := true, recurses := true, apart := false, narrowed := true }
def ChangesNotesUptoSaid : Prop := changesNotesUptoRow.holds Try.pinned (OpenSpec.upto changesNotesSpec)

/-- 'depositorylaw24.ChangesReads', WHERE WHAT IT READS IS OF BULK AT MOST 1048576: true; the input reads as it did. -/
def changesReadsUptoRow : OpenClaim := { program := "ytjbipdppgoldlaa", sum := "0e58aeffc5e4a300495df32065cc2b03dd6f6316dfc44cc8e484f1664e814f3b", func := "depository/depositorylaw24.ChangesReads", spec := "changesReads", inPlace := ["slices.overlaps[depository/api.ChangeOpen]"], unfollowed := true, recurses := true, apart := false, narrowed := true }
def ChangesReadsUptoSaid : Prop := changesReadsUptoRow.holds Try.pinned (OpenSpec.upto changesReadsSpec)

end Rows
end Go.Proofs.Ytjbipdppgoldlaa
