/-
  No cell of these rows narrows 'for every input' (looked for: loops, veiled, ifaces, maps, wideKeys, modest, calm, conditions, laid).
  DERIVED. THE GIVEN ROWS OF THIS SEAT. 9 by the template 'for every input the law returns true; each argument reads behind the call as it read before'; 0 by the template 'total and deterministic' (their statements: YtolfkcmdfgakkaaTotals.lean).
  GIVEN WITH THE SEED: the statements are not yours to turn. If you find one false, say at which input.
  Laid BY PROGRAM, IN A SANDBOX (cutbox-rows.mjs): the forced cells as the released guide's own fill.sh prints them over the translation 05a169e71cf2f661… (all of the seat's roots in one cut). By AI agents, Wed Nov 11 2026. No macro, syntax, notation, axiom, sorry.
-/
import Derived.Test.YtolfkcmdfgakkaaChecked
import GoSem.Claim
import GoSem.ClaimJoined
import GoSem.ClaimMapViews
import Derived.JoinedTies
import Derived.KernelRfl
namespace Go.Proofs.Ytolfkcmdfgakkaa
/- THE CELL 'sum', in the pinned program and in every row, IS THE sha256 OF THE DUMP (.gsa) THAT YtolfkcmdfgakkaaProg.lean LOADS. Nothing in Lean hashes anything: it is a label: what it is worth is what the hold of that sum in a sandbox is worth. -/
noncomputable def Try.pinned : Pinned := { name := "ytolfkcmdfgakkaa", sum := "05a169e71cf2f661157d8555618fecc901a95b383cb368cbd36fd8c67b15d4e4", checked := Try.checked }
namespace Rows
def none {H : Type} : Left H := { results := [], args := [] }

/-- 'depositorylaw19.QuotaCharges': WHATEVER THE INPUT: true; the input reads as it did. -/
def quotaChargesSpec : ChangeSpec := { name := "quotaCharges", fn := fun _ => fun
  | [d1, d2, d3] => { results := [.lit (.bool true)], args := [d1, d2, d3] }
  | _ => none }
def quotaChargesRow : OpenClaim := { program := "ytolfkcmdfgakkaa", sum := "05a169e71cf2f661157d8555618fecc901a95b383cb368cbd36fd8c67b15d4e4", func := "depository/depositorylaw19.QuotaCharges", spec := "quotaCharges", inPlace := ["slices.overlaps[depository/api.QuotaOwner]"], unfollowed := true, recurses := true, apart := false }
def QuotaChargesSaid : Prop := quotaChargesRow.holds Try.pinned (OpenSpec.ofChange quotaChargesSpec)

/-- ITS FALSE NEIGHBOUR: 'it returns false'. Refute it at one input. -/
def quotaChargesWrong : ChangeSpec := { name := "quotaCharges", fn := fun _ => fun
  | [d1, d2, d3] => { results := [.lit (.bool false)], args := [d1, d2, d3] }
  | _ => none }
def QuotaChargesWrongFalsely : Prop := quotaChargesRow.holds Try.pinned (OpenSpec.ofChange quotaChargesWrong)

/-- 'depositorylaw19.QuotaReleases': WHATEVER THE INPUT: true; the input reads as it did. -/
def quotaReleasesSpec : ChangeSpec := { name := "quotaReleases", fn := fun _ => fun
  | [d1, d2, d3] => { results := [.lit (.bool true)], args := [d1, d2, d3] }
  | _ => none }
def quotaReleasesRow : OpenClaim := { program := "ytolfkcmdfgakkaa", sum := "05a169e71cf2f661157d8555618fecc901a95b383cb368cbd36fd8c67b15d4e4", func := "depository/depositorylaw19.QuotaReleases", spec := "quotaReleases", inPlace := ["slices.overlaps[depository/api.QuotaOwner]"], unfollowed := true, recurses := true, apart := false }
def QuotaReleasesSaid : Prop := quotaReleasesRow.holds Try.pinned (OpenSpec.ofChange quotaReleasesSpec)

/-- ITS FALSE NEIGHBOUR: 'it returns false'. Refute it at one input. -/
def quotaReleasesWrong : ChangeSpec := { name := "quotaReleases", fn := fun _ => fun
  | [d1, d2, d3] => { results := [.lit (.bool false)], args := [d1, d2, d3] }
  | _ => none }
def QuotaReleasesWrongFalsely : Prop := quotaReleasesRow.holds Try.pinned (OpenSpec.ofChange quotaReleasesWrong)

/-- 'depositorylaw19.QuotaMoves': WHATEVER THE INPUT: true; the input reads as it did. -/
def quotaMovesSpec : ChangeSpec := { name := "quotaMoves", fn := fun _ => fun
  | [d1, d2, d3] => { results := [.lit (.bool true)], args := [d1, d2, d3] }
  | _ => none }
def quotaMovesRow : OpenClaim := { program := "ytolfkcmdfgakkaa", sum := "05a169e71cf2f661157d8555618fecc901a95b383cb368cbd36fd8c67b15d4e4", func := "depository/depositorylaw19.QuotaMoves", spec := "quotaMoves", inPlace := ["slices.overlaps[depository/api.QuotaOwner]"], unfollowed := true, recurses := true, apart := false }
def QuotaMovesSaid : Prop := quotaMovesRow.holds Try.pinned (OpenSpec.ofChange quotaMovesSpec)

/-- ITS FALSE NEIGHBOUR: 'it returns false'. Refute it at one input. -/
def quotaMovesWrong : ChangeSpec := { name := "quotaMoves", fn := fun _ => fun
  | [d1, d2, d3] => { results := [.lit (.bool false)], args := [d1, d2, d3] }
  | _ => none }
def QuotaMovesWrongFalsely : Prop := quotaMovesRow.holds Try.pinned (OpenSpec.ofChange quotaMovesWrong)

/-- 'depositorylaw19.QuotaLooks': WHATEVER THE INPUT: true; the input reads as it did. -/
def quotaLooksSpec : ChangeSpec := { name := "quotaLooks", fn := fun _ => fun
  | [d1, d2] => { results := [.lit (.bool true)], args := [d1, d2] }
  | _ => none }
def quotaLooksRow : OpenClaim := { program := "ytolfkcmdfgakkaa", sum := "05a169e71cf2f661157d8555618fecc901a95b383cb368cbd36fd8c67b15d4e4", func := "depository/depositorylaw19.QuotaLooks", spec := "quotaLooks", inPlace := ["slices.overlaps[depository/api.QuotaOwner]"], unfollowed := true, recurses := true, apart := false }
def QuotaLooksSaid : Prop := quotaLooksRow.holds Try.pinned (OpenSpec.ofChange quotaLooksSpec)

/-- ITS FALSE NEIGHBOUR: 'it returns false'. Refute it at one input. -/
def quotaLooksWrong : ChangeSpec := { name := "quotaLooks", fn := fun _ => fun
  | [d1, d2] => { results := [.lit (.bool false)], args := [d1, d2] }
  | _ => none }
def QuotaLooksWrongFalsely : Prop := quotaLooksRow.holds Try.pinned (OpenSpec.ofChange quotaLooksWrong)

/-- 'depositorylaw19.QuotaRuns': WHATEVER THE INPUT: true; the input reads as it did. -/
def quotaRunsSpec : ChangeSpec := { name := "quotaRuns", fn := fun _ => fun
  | [d1, d2] => { results := [.lit (.bool true)], args := [d1, d2] }
  | _ => none }
def quotaRunsRow : OpenClaim := { program := "ytolfkcmdfgakkaa", sum := "05a169e71cf2f661157d8555618fecc901a95b383cb368cbd36fd8c67b15d4e4", func := "depository/depositorylaw19.QuotaRuns", spec := "quotaRuns", inPlace := ["slices.overlaps[depository/api.QuotaOwner]"], unfollowed := true, recurses := true, apart := false }
def QuotaRunsSaid : Prop := quotaRunsRow.holds Try.pinned (OpenSpec.ofChange quotaRunsSpec)

/-- ITS FALSE NEIGHBOUR: 'it returns false'. Refute it at one input. -/
def quotaRunsWrong : ChangeSpec := { name := "quotaRuns", fn := fun _ => fun
  | [d1, d2] => { results := [.lit (.bool false)], args := [d1, d2] }
  | _ => none }
def QuotaRunsWrongFalsely : Prop := quotaRunsRow.holds Try.pinned (OpenSpec.ofChange quotaRunsWrong)

/-- 'depositorylaw19.QuotaConserved': WHATEVER THE INPUT: true; the input reads as it did. -/
def quotaConservedSpec : ChangeSpec := { name := "quotaConserved", fn := fun _ => fun
  | [d1, d2] => { results := [.lit (.bool true)], args := [d1, d2] }
  | _ => none }
def quotaConservedRow : OpenClaim := { program := "ytolfkcmdfgakkaa", sum := "05a169e71cf2f661157d8555618fecc901a95b383cb368cbd36fd8c67b15d4e4", func := "depository/depositorylaw19.QuotaConserved", spec := "quotaConserved", inPlace := ["slices.overlaps[depository/api.QuotaOwner]"], unfollowed := true, recurses := true, apart := false }
def QuotaConservedSaid : Prop := quotaConservedRow.holds Try.pinned (OpenSpec.ofChange quotaConservedSpec)

/-- ITS FALSE NEIGHBOUR: 'it returns false'. Refute it at one input. -/
def quotaConservedWrong : ChangeSpec := { name := "quotaConserved", fn := fun _ => fun
  | [d1, d2] => { results := [.lit (.bool false)], args := [d1, d2] }
  | _ => none }
def QuotaConservedWrongFalsely : Prop := quotaConservedRow.holds Try.pinned (OpenSpec.ofChange quotaConservedWrong)

/-- 'depositorylaw19.QuotaSums': WHATEVER THE INPUT: true; the input reads as it did. -/
def quotaSumsSpec : ChangeSpec := { name := "quotaSums", fn := fun _ => fun
  | [d] => { results := [.lit (.bool true)], args := [d] }
  | _ => none }
def quotaSumsRow : OpenClaim := { program := "ytolfkcmdfgakkaa", sum := "05a169e71cf2f661157d8555618fecc901a95b383cb368cbd36fd8c67b15d4e4", func := "depository/depositorylaw19.QuotaSums", spec := "quotaSums", inPlace := ["slices.overlaps[depository/api.QuotaOwner]"], unfollowed := true, recurses := true, apart := false }
def QuotaSumsSaid : Prop := quotaSumsRow.holds Try.pinned (OpenSpec.ofChange quotaSumsSpec)

/-- ITS FALSE NEIGHBOUR: 'it returns false'. Refute it at one input. -/
def quotaSumsWrong : ChangeSpec := { name := "quotaSums", fn := fun _ => fun
  | [d] => { results := [.lit (.bool false)], args := [d] }
  | _ => none }
def QuotaSumsWrongFalsely : Prop := quotaSumsRow.holds Try.pinned (OpenSpec.ofChange quotaSumsWrong)

/-- 'depositorylaw19.QuotaDifferences': WHATEVER THE INPUT: true; the input reads as it did. -/
def quotaDifferencesSpec : ChangeSpec := { name := "quotaDifferences", fn := fun _ => fun
  | [d1, d2] => { results := [.lit (.bool true)], args := [d1, d2] }
  | _ => none }
def quotaDifferencesRow : OpenClaim := { program := "ytolfkcmdfgakkaa", sum := "05a169e71cf2f661157d8555618fecc901a95b383cb368cbd36fd8c67b15d4e4", func := "depository/depositorylaw19.QuotaDifferences", spec := "quotaDifferences", inPlace := ["slices.overlaps[depository/api.QuotaOwner]"], unfollowed := true, recurses := true, apart := false }
def QuotaDifferencesSaid : Prop := quotaDifferencesRow.holds Try.pinned (OpenSpec.ofChange quotaDifferencesSpec)

/-- ITS FALSE NEIGHBOUR: 'it returns false'. Refute it at one input. -/
def quotaDifferencesWrong : ChangeSpec := { name := "quotaDifferences", fn := fun _ => fun
  | [d1, d2] => { results := [.lit (.bool false)], args := [d1, d2] }
  | _ => none }
def QuotaDifferencesWrongFalsely : Prop := quotaDifferencesRow.holds Try.pinned (OpenSpec.ofChange quotaDifferencesWrong)

/-- 'depositorylaw19.QuotaBytes': WHATEVER THE INPUT: true; the input reads as it did. -/
def quotaBytesSpec : ChangeSpec := { name := "quotaBytes", fn := fun _ => fun
  | [d1, d2] => { results := [.lit (.bool true)], args := [d1, d2] }
  | _ => none }
def quotaBytesRow : OpenClaim := { program := "ytolfkcmdfgakkaa", sum := "05a169e71cf2f661157d8555618fecc901a95b383cb368cbd36fd8c67b15d4e4", func := "depository/depositorylaw19.QuotaBytes", spec := "quotaBytes", inPlace := ["slices.overlaps[depository/api.QuotaOwner]"], unfollowed := true, recurses := true, apart := false }
def QuotaBytesSaid : Prop := quotaBytesRow.holds Try.pinned (OpenSpec.ofChange quotaBytesSpec)

/-- ITS FALSE NEIGHBOUR: 'it returns false'. Refute it at one input. -/
def quotaBytesWrong : ChangeSpec := { name := "quotaBytes", fn := fun _ => fun
  | [d1, d2] => { results := [.lit (.bool false)], args := [d1, d2] }
  | _ => none }
def QuotaBytesWrongFalsely : Prop := quotaBytesRow.holds Try.pinned (OpenSpec.ofChange quotaBytesWrong)

/- THE SECOND FORM. 'bulk': how many values and letters a reading holds, each counted each time it is reached (what is shared counts as often as it is met; a slice's spare places count too). A statement '..UptoSaid' is the law's where the arguments, and the package variables that the reading takes, are together of bulk at most 1048576: NARROWER than '..Said'. Prove '..Said' where nothing that the law and all that it calls make is longer than what came in: it says more and counts as full. Else prove '..UptoSaid'. A law counts once. -/
mutual
def uptoBulk {H : Type} : DataW H → Nat
  | .lit (.string bytes) => bytes.length + 1
  | .lit _ => 1
  | .nil => 1
  | .ptr d => uptoBulk d + 1
  | .slice elems spare => uptoBulkAll elems + uptoBulkAll spare + 1
  | .agg parts => uptoBulkAll parts + 1
  | .iface _ d => uptoBulk d + 1
  | .map entries => uptoBulkEntries entries + 1
  | .held _ => 1
def uptoBulkAll {H : Type} : List (DataW H) → Nat
  | [] => 0
  | d :: r => uptoBulk d + uptoBulkAll r
def uptoBulkEntries {H : Type} : List (Lit × DataW H) → Nat
  | [] => 0
  | x :: r => uptoBulkEntry x + uptoBulkEntries r
def uptoBulkEntry {H : Type} : Lit × DataW H → Nat
  | (.string bytes, d) => bytes.length + uptoBulk d + 1
  | (_, d) => uptoBulk d + 1
 end
def uptoSmall : (H : Type) → List (DataW H) → Bool := fun _ ds => decide (uptoBulkAll ds ≤ 1048576)
def OpenSpec.upto (s : _root_.Go.ChangeSpec) : _root_.Go.OpenSpec := { _root_.Go.OpenSpec.ofChange s with cond := some uptoSmall }

/-- 'depositorylaw19.QuotaCharges', WHERE WHAT IT READS IS OF BULK AT MOST 1048576: true; the input reads as it did. -/
def quotaChargesUptoRow : OpenClaim := { program := "ytolfkcmdfgakkaa", sum := "05a169e71cf2f661157d8555618fecc901a95b383cb368cbd36fd8c67b15d4e4", func := "depository/depositorylaw19.QuotaCharges", spec := "quotaCharges", inPlace := ["slices.overlaps[depository/api.QuotaOwner]"], unfollowed := true, recurses := true, apart := false, narrowed := true }
def QuotaChargesUptoSaid : Prop := quotaChargesUptoRow.holds Try.pinned (OpenSpec.upto quotaChargesSpec)

/-- 'depositorylaw19.QuotaReleases', WHERE WHAT IT READS IS OF BULK AT MOST 1048576: true; the input reads as it did. -/
def quotaReleasesUptoRow : OpenClaim := { program := "ytolfkcmdfgakkaa", sum := "05a169e71cf2f661157d8555618fecc901a95b383cb368cbd36fd8c67b15d4e4", func := "depository/depositorylaw19.QuotaReleases", spec := "quotaReleases", inPlace := ["slices.overlaps[depository/api.QuotaOwner]"], unfollowed := true, recurses := true, apart := false, narrowed := true }
def QuotaReleasesUptoSaid : Prop := quotaReleasesUptoRow.holds Try.pinned (OpenSpec.upto quotaReleasesSpec)

/-- 'depositorylaw19.QuotaMoves', WHERE WHAT IT READS IS OF BULK AT MOST 1048576: true; the input reads as it did. -/
def quotaMovesUptoRow : OpenClaim := { program := "ytolfkcmdfgakkaa", sum := "05a169e71cf2f661157d8555618fecc901a95b383cb368cbd36fd8c67b15d4e4", func := "depository/depositorylaw19.QuotaMoves", spec := "quotaMoves", inPlace := ["slices.overlaps[depository/api.QuotaOwner]"], unfollowed := true, recurses := true, apart := false, narrowed := true }
def QuotaMovesUptoSaid : Prop := quotaMovesUptoRow.holds Try.pinned (OpenSpec.upto quotaMovesSpec)

/-- 'depositorylaw19.QuotaLooks', WHERE WHAT IT READS IS OF BULK AT MOST 1048576: true; the input reads as it did. -/
def quotaLooksUptoRow : OpenClaim := { program := "ytolfkcmdfgakkaa", sum := "05a169e71cf2f661157d8555618fecc901a95b383cb368cbd36fd8c67b15d4e4", func := "depository/depositorylaw19.QuotaLooks", spec := "quotaLooks", inPlace := ["slices.overlaps[depository/api.QuotaOwner]"], unfollowed := true, recurses := true, apart := false, narrowed := true }
def QuotaLooksUptoSaid : Prop := quotaLooksUptoRow.holds Try.pinned (OpenSpec.upto quotaLooksSpec)

/-- 'depositorylaw19.QuotaRuns', WHERE WHAT IT READS IS OF BULK AT MOST 1048576: true; the input reads as it did. -/
def quotaRunsUptoRow : OpenClaim := { program := "ytolfkcmdfgakkaa", sum := "05a169e71cf2f661157d8555618fecc901a95b383cb368cbd36fd8c67b15d4e4", func := "depository/depositorylaw19.QuotaRuns", spec := "quotaRuns", inPlace := ["slices.overlaps[depository/api.QuotaOwner]"], unfollowed := true, recurses := true, apart := false, narrowed := true }
def QuotaRunsUptoSaid : Prop := quotaRunsUptoRow.holds Try.pinned (OpenSpec.upto quotaRunsSpec)

/-- 'depositorylaw19.QuotaConserved', WHERE WHAT IT READS IS OF BULK AT MOST 1048576: true; the input reads as it did. -/
def quotaConservedUptoRow : OpenClaim := { program := "ytolfkcmdfgakkaa", sum := "05a169e71cf2f661157d8555618fecc901a95b383cb368cbd36fd8c67b15d4e4", func := "depository/depositorylaw19.QuotaConserved", spec := "quotaConserved", inPlace := ["slices.overlaps[depository/api.QuotaOwner]"], unfollowed := true, recurses := true, apart := false, narrowed := true }
def QuotaConservedUptoSaid : Prop := quotaConservedUptoRow.holds Try.pinned (OpenSpec.upto quotaConservedSpec)

/-- 'depositorylaw19.QuotaSums', WHERE WHAT IT READS IS OF BULK AT MOST 1048576: true; the input reads as it did. -/
def quotaSumsUptoRow : OpenClaim := { program := "ytolfkcmdfgakkaa", sum := "05a169e71cf2f661157d8555618fecc901a95b383cb368cbd36fd8c67b15d4e4", func := "depository/depositorylaw19.QuotaSums", spec := "quotaSums", inPlace := ["slices.overlaps[depository/api.QuotaOwner]"], unfollowed := true, recurses := true, apart := false, narrowed := true }
def QuotaSumsUptoSaid : Prop := quotaSumsUptoRow.holds Try.pinned (OpenSpec.upto quotaSumsSpec)

/-- 'depositorylaw19.QuotaDifferences', WHERE WHAT IT READS IS OF BULK AT MOST 1048576: true; the input reads as it did. -/
def quotaDifferencesUptoRow : OpenClaim := { program := "ytolfkcmdfgakkaa", sum := "05a169e71cf2f661157d8555618fecc901a95b383cb368cbd36fd8c67b15d4e4", func := "depository/depositorylaw19.QuotaDifferences", spec := "quotaDifferences", inPlace := ["slices.overlaps[depository/api.QuotaOwner]"], unfollowed := true, recurses := true, apart := false, narrowed := true }
def QuotaDifferencesUptoSaid : Prop := quotaDifferencesUptoRow.holds Try.pinned (OpenSpec.upto quotaDifferencesSpec)

/-- 'depositorylaw19.QuotaBytes', WHERE WHAT IT READS IS OF BULK AT MOST 1048576: true; the input reads as it did. -/
def quotaBytesUptoRow : OpenClaim := { program := "ytolfkcmdfgakkaa", sum := "05a169e71cf2f661157d8555618fecc901a95b383cb368cbd36fd8c67b15d4e4", func := "depository/depositorylaw19.QuotaBytes", spec := "quotaBytes", inPlace := ["slices.overlaps[depository/api.QuotaOwner]"], unfollowed := true, recurses := true, apart := false, narrowed := true }
def QuotaBytesUptoSaid : Prop := quotaBytesUptoRow.holds Try.pinned (OpenSpec.upto quotaBytesSpec)

end Rows
end Go.Proofs.Ytolfkcmdfgakkaa
