/-
  NARROWER THAN 'FOR EVERY INPUT', by the rows' own cells (each row's printed sentence says how): ReparseResolves: laid · ReparseSame: laid · ReparseTrees: laid · ReparseNormal: laid · ReparseRelative: laid · ReparsePaths: laid · ReparseWays: laid.
  DERIVED. THE GIVEN ROWS OF THIS SEAT. 7 by the template 'for every input the law returns true; each argument reads behind the call as it read before'; 0 by the template 'total and deterministic' (their statements: YtpfokhdelnlciaaGreatDoorTotals.lean).
  GIVEN WITH THE SEED: the statements are not yours to turn. If you find one false, say at which input.
  Laid BY PROGRAM, IN A SANDBOX (cutbox-rows.mjs): the forced cells as the released guide's own fill.sh prints them over the translation 43dac971987037d1… (all of the seat's roots in one cut). By AI agents, Wed Nov 11 2026. No macro, syntax, notation, axiom, sorry.
-/
import Derived.Test.YtpfokhdelnlciaaGreatDoorChecked
import GoSem.PinnedTables
import GoSem.Claim
import GoSem.ClaimJoined
import GoSem.ClaimMapViews
import Derived.JoinedTies
import Derived.KernelRfl
namespace Go.Proofs.YtpfokhdelnlciaaGreatDoor
/- THE CELL 'sum', in the pinned program and in every row, IS THE sha256 OF THE DUMP (.gsa) THAT YtpfokhdelnlciaaGreatDoorProg.lean LOADS. Nothing in Lean hashes anything: it is a label: what it is worth is what the hold of that sum in a sandbox is worth. -/
noncomputable def Tryz.pinned : Pinned := { name := "ytpfokhdelnlciaagreatdoor", sum := "43dac971987037d1c7e3240df30e853dd4b802a259662c96e41a429fd96135fe", checked := Tryz.checked }
namespace Rows
def none {H : Type} : Left H := { results := [], args := [] }

/- WHAT THE LISTED PACKAGE-LEVEL VARIABLES READ AS WHEN THE CALL BEGINS. Each datum BY PROGRAM (the guide's laid-datum.mjs) off the statement by which the dump's own 'gosem.cut.vars' lays the variable. In a bare row this is a premise. The card (YtpfokhdelnlciaaGreatDoorCards.lean) ties it to the program's text. -/
def laid_unicode_utf8_acceptRanges {H : Type} : DataW H := .agg [.agg [.lit (.int .u8 128), .lit (.int .u8 191)], .agg [.lit (.int .u8 160), .lit (.int .u8 191)], .agg [.lit (.int .u8 128), .lit (.int .u8 159)], .agg [.lit (.int .u8 144), .lit (.int .u8 191)], .agg [.lit (.int .u8 128), .lit (.int .u8 143)], .agg [.lit (.int .u8 0), .lit (.int .u8 0)], .agg [.lit (.int .u8 0), .lit (.int .u8 0)], .agg [.lit (.int .u8 0), .lit (.int .u8 0)], .agg [.lit (.int .u8 0), .lit (.int .u8 0)], .agg [.lit (.int .u8 0), .lit (.int .u8 0)], .agg [.lit (.int .u8 0), .lit (.int .u8 0)], .agg [.lit (.int .u8 0), .lit (.int .u8 0)], .agg [.lit (.int .u8 0), .lit (.int .u8 0)], .agg [.lit (.int .u8 0), .lit (.int .u8 0)], .agg [.lit (.int .u8 0), .lit (.int .u8 0)], .agg [.lit (.int .u8 0), .lit (.int .u8 0)]]
/-- One of Go's own tables, pinned by name: the form's constant. -/
def laid_unicode_utf8_first : DataW Unit := Go.Pinned.utf8First

/-- 'depositorylaw27.ReparseResolves': WHATEVER THE INPUT: true; the input reads as it did. -/
def reparseResolvesSpec : ChangeSpec := { name := "reparseResolves", fn := fun _ => fun
  | [d1, d2, d3] => { results := [.lit (.bool true)], args := [d1, d2, d3] }
  | _ => none }
def reparseResolvesRow : OpenClaim := { program := "ytpfokhdelnlciaagreatdoor", sum := "43dac971987037d1c7e3240df30e853dd4b802a259662c96e41a429fd96135fe", func := "depository/depositorylaw27.ReparseResolves", spec := "reparseResolves", inPlace := ["internal/bytealg.CountString", "internal/bytealg.IndexByteString", "internal/bytealg.IndexString", "internal/abi.NoEscape", "internal/bytealg.MakeNoZero"], unfollowed := true, recurses := true, named := ["unicode/utf8.first", "unicode/utf8.acceptRanges", "internal/bytealg.MaxLen"], apart := false, laid := [("unicode/utf8.acceptRanges", laid_unicode_utf8_acceptRanges), ("unicode/utf8.first", laid_unicode_utf8_first)] }
def ReparseResolvesSaid : Prop := reparseResolvesRow.holds Tryz.pinned (OpenSpec.ofChange reparseResolvesSpec)

/-- ITS FALSE NEIGHBOUR: 'it returns false'. Refute it at one input. -/
def reparseResolvesWrong : ChangeSpec := { name := "reparseResolves", fn := fun _ => fun
  | [d1, d2, d3] => { results := [.lit (.bool false)], args := [d1, d2, d3] }
  | _ => none }
def ReparseResolvesWrongFalsely : Prop := reparseResolvesRow.holds Tryz.pinned (OpenSpec.ofChange reparseResolvesWrong)

/-- 'depositorylaw27.ReparseSame': WHATEVER THE INPUT: true; the input reads as it did. -/
def reparseSameSpec : ChangeSpec := { name := "reparseSame", fn := fun _ => fun
  | [d1, d2] => { results := [.lit (.bool true)], args := [d1, d2] }
  | _ => none }
def reparseSameRow : OpenClaim := { program := "ytpfokhdelnlciaagreatdoor", sum := "43dac971987037d1c7e3240df30e853dd4b802a259662c96e41a429fd96135fe", func := "depository/depositorylaw27.ReparseSame", spec := "reparseSame", inPlace := ["internal/bytealg.CountString", "internal/bytealg.IndexByteString", "internal/bytealg.IndexString", "internal/abi.NoEscape", "internal/bytealg.MakeNoZero"], unfollowed := true, recurses := true, named := ["unicode/utf8.first", "unicode/utf8.acceptRanges", "internal/bytealg.MaxLen"], apart := false, laid := [("unicode/utf8.acceptRanges", laid_unicode_utf8_acceptRanges), ("unicode/utf8.first", laid_unicode_utf8_first)] }
def ReparseSameSaid : Prop := reparseSameRow.holds Tryz.pinned (OpenSpec.ofChange reparseSameSpec)

/-- ITS FALSE NEIGHBOUR: 'it returns false'. Refute it at one input. -/
def reparseSameWrong : ChangeSpec := { name := "reparseSame", fn := fun _ => fun
  | [d1, d2] => { results := [.lit (.bool false)], args := [d1, d2] }
  | _ => none }
def ReparseSameWrongFalsely : Prop := reparseSameRow.holds Tryz.pinned (OpenSpec.ofChange reparseSameWrong)

/-- 'depositorylaw27.ReparseTrees': WHATEVER THE INPUT: true; the input reads as it did. -/
def reparseTreesSpec : ChangeSpec := { name := "reparseTrees", fn := fun _ => fun
  | [d1, d2, d3] => { results := [.lit (.bool true)], args := [d1, d2, d3] }
  | _ => none }
def reparseTreesRow : OpenClaim := { program := "ytpfokhdelnlciaagreatdoor", sum := "43dac971987037d1c7e3240df30e853dd4b802a259662c96e41a429fd96135fe", func := "depository/depositorylaw27.ReparseTrees", spec := "reparseTrees", inPlace := ["internal/bytealg.CountString", "internal/bytealg.IndexByteString", "internal/bytealg.IndexString", "internal/abi.NoEscape", "internal/bytealg.MakeNoZero"], unfollowed := true, recurses := true, named := ["unicode/utf8.first", "unicode/utf8.acceptRanges", "internal/bytealg.MaxLen"], apart := false, laid := [("unicode/utf8.acceptRanges", laid_unicode_utf8_acceptRanges), ("unicode/utf8.first", laid_unicode_utf8_first)] }
def ReparseTreesSaid : Prop := reparseTreesRow.holds Tryz.pinned (OpenSpec.ofChange reparseTreesSpec)

/-- ITS FALSE NEIGHBOUR: 'it returns false'. Refute it at one input. -/
def reparseTreesWrong : ChangeSpec := { name := "reparseTrees", fn := fun _ => fun
  | [d1, d2, d3] => { results := [.lit (.bool false)], args := [d1, d2, d3] }
  | _ => none }
def ReparseTreesWrongFalsely : Prop := reparseTreesRow.holds Tryz.pinned (OpenSpec.ofChange reparseTreesWrong)

/-- 'depositorylaw27.ReparseNormal': WHATEVER THE INPUT: true; the input reads as it did. -/
def reparseNormalSpec : ChangeSpec := { name := "reparseNormal", fn := fun _ => fun
  | [d1, d2] => { results := [.lit (.bool true)], args := [d1, d2] }
  | _ => none }
def reparseNormalRow : OpenClaim := { program := "ytpfokhdelnlciaagreatdoor", sum := "43dac971987037d1c7e3240df30e853dd4b802a259662c96e41a429fd96135fe", func := "depository/depositorylaw27.ReparseNormal", spec := "reparseNormal", inPlace := ["internal/bytealg.CountString", "internal/bytealg.IndexByteString", "internal/bytealg.IndexString", "internal/abi.NoEscape", "internal/bytealg.MakeNoZero"], unfollowed := true, recurses := true, named := ["unicode/utf8.first", "unicode/utf8.acceptRanges", "internal/bytealg.MaxLen"], apart := false, laid := [("unicode/utf8.acceptRanges", laid_unicode_utf8_acceptRanges), ("unicode/utf8.first", laid_unicode_utf8_first)] }
def ReparseNormalSaid : Prop := reparseNormalRow.holds Tryz.pinned (OpenSpec.ofChange reparseNormalSpec)

/-- ITS FALSE NEIGHBOUR: 'it returns false'. Refute it at one input. -/
def reparseNormalWrong : ChangeSpec := { name := "reparseNormal", fn := fun _ => fun
  | [d1, d2] => { results := [.lit (.bool false)], args := [d1, d2] }
  | _ => none }
def ReparseNormalWrongFalsely : Prop := reparseNormalRow.holds Tryz.pinned (OpenSpec.ofChange reparseNormalWrong)

/-- 'depositorylaw27.ReparseRelative': WHATEVER THE INPUT: true; the input reads as it did. -/
def reparseRelativeSpec : ChangeSpec := { name := "reparseRelative", fn := fun _ => fun
  | [d1, d2] => { results := [.lit (.bool true)], args := [d1, d2] }
  | _ => none }
def reparseRelativeRow : OpenClaim := { program := "ytpfokhdelnlciaagreatdoor", sum := "43dac971987037d1c7e3240df30e853dd4b802a259662c96e41a429fd96135fe", func := "depository/depositorylaw27.ReparseRelative", spec := "reparseRelative", inPlace := ["internal/bytealg.CountString", "internal/bytealg.IndexByteString", "internal/bytealg.IndexString", "internal/abi.NoEscape", "internal/bytealg.MakeNoZero"], unfollowed := true, recurses := true, named := ["unicode/utf8.first", "unicode/utf8.acceptRanges", "internal/bytealg.MaxLen"], apart := false, laid := [("unicode/utf8.acceptRanges", laid_unicode_utf8_acceptRanges), ("unicode/utf8.first", laid_unicode_utf8_first)] }
def ReparseRelativeSaid : Prop := reparseRelativeRow.holds Tryz.pinned (OpenSpec.ofChange reparseRelativeSpec)

/-- ITS FALSE NEIGHBOUR: 'it returns false'. Refute it at one input. -/
def reparseRelativeWrong : ChangeSpec := { name := "reparseRelative", fn := fun _ => fun
  | [d1, d2] => { results := [.lit (.bool false)], args := [d1, d2] }
  | _ => none }
def ReparseRelativeWrongFalsely : Prop := reparseRelativeRow.holds Tryz.pinned (OpenSpec.ofChange reparseRelativeWrong)

/-- 'depositorylaw27.ReparsePaths': WHATEVER THE INPUT: true; the input reads as it did. -/
def reparsePathsSpec : ChangeSpec := { name := "reparsePaths", fn := fun _ => fun
  | [d1, d2] => { results := [.lit (.bool true)], args := [d1, d2] }
  | _ => none }
def reparsePathsRow : OpenClaim := { program := "ytpfokhdelnlciaagreatdoor", sum := "43dac971987037d1c7e3240df30e853dd4b802a259662c96e41a429fd96135fe", func := "depository/depositorylaw27.ReparsePaths", spec := "reparsePaths", inPlace := ["internal/bytealg.CountString", "internal/bytealg.IndexByteString", "internal/bytealg.IndexString", "internal/abi.NoEscape", "internal/bytealg.MakeNoZero"], unfollowed := true, recurses := true, named := ["unicode/utf8.first", "unicode/utf8.acceptRanges", "internal/bytealg.MaxLen"], apart := false, laid := [("unicode/utf8.acceptRanges", laid_unicode_utf8_acceptRanges), ("unicode/utf8.first", laid_unicode_utf8_first)] }
def ReparsePathsSaid : Prop := reparsePathsRow.holds Tryz.pinned (OpenSpec.ofChange reparsePathsSpec)

/-- ITS FALSE NEIGHBOUR: 'it returns false'. Refute it at one input. -/
def reparsePathsWrong : ChangeSpec := { name := "reparsePaths", fn := fun _ => fun
  | [d1, d2] => { results := [.lit (.bool false)], args := [d1, d2] }
  | _ => none }
def ReparsePathsWrongFalsely : Prop := reparsePathsRow.holds Tryz.pinned (OpenSpec.ofChange reparsePathsWrong)

/-- 'depositorylaw27.ReparseWays': WHATEVER THE INPUT: true; the input reads as it did. -/
def reparseWaysSpec : ChangeSpec := { name := "reparseWays", fn := fun _ => fun
  | [d1, d2, d3] => { results := [.lit (.bool true)], args := [d1, d2, d3] }
  | _ => none }
def reparseWaysRow : OpenClaim := { program := "ytpfokhdelnlciaagreatdoor", sum := "43dac971987037d1c7e3240df30e853dd4b802a259662c96e41a429fd96135fe", func := "depository/depositorylaw27.ReparseWays", spec := "reparseWays", inPlace := ["internal/bytealg.CountString", "internal/bytealg.IndexByteString", "internal/bytealg.IndexString", "internal/abi.NoEscape", "internal/bytealg.MakeNoZero"], unfollowed := true, recurses := true, named := ["unicode/utf8.first", "unicode/utf8.acceptRanges", "internal/bytealg.MaxLen"], apart := false, laid := [("unicode/utf8.acceptRanges", laid_unicode_utf8_acceptRanges), ("unicode/utf8.first", laid_unicode_utf8_first)] }
def ReparseWaysSaid : Prop := reparseWaysRow.holds Tryz.pinned (OpenSpec.ofChange reparseWaysSpec)

/-- ITS FALSE NEIGHBOUR: 'it returns false'. Refute it at one input. -/
def reparseWaysWrong : ChangeSpec := { name := "reparseWays", fn := fun _ => fun
  | [d1, d2, d3] => { results := [.lit (.bool false)], args := [d1, d2, d3] }
  | _ => none }
def ReparseWaysWrongFalsely : Prop := reparseWaysRow.holds Tryz.pinned (OpenSpec.ofChange reparseWaysWrong)

/- THE SECOND FORM. 'bulk': how many values and letters a reading holds, each counted each time it is reached (what is shared counts as often as it is met; a slice's spare places count too). A statement '..UptoSaid' is the law's where the arguments, and the package variables that the reading takes, are together of bulk at most 1048576: NARROWER than '..Said'. Prove '..Said' where nothing that the law and all that it calls make is longer than what came in: it says more and counts as full. Else prove '..UptoSaid'. A law counts once. -/
mutual
def uptoBulk {H : Type} : DataW H → Nat
  | .lit (.string bytes) => bytes.length + 1
  | .lit _ => 1
  | .nil => 1
  | .ptr d => uptoBulk d + 1
  | .slice elems spare => uptoBulkAll elems + uptoBulkAll spare + 1
  | .agg parts => uptoBulkAll parts + 1
  | .iface _ d => uptoBulk d + 1
  | .map entries => uptoBulkEntries entries + 1
  | .held _ => 1
def uptoBulkAll {H : Type} : List (DataW H) → Nat
  | [] => 0
  | d :: r => uptoBulk d + uptoBulkAll r
def uptoBulkEntries {H : Type} : List (Lit × DataW H) → Nat
  | [] => 0
  | x :: r => uptoBulkEntry x + uptoBulkEntries r
def uptoBulkEntry {H : Type} : Lit × DataW H → Nat
  | (.string bytes, d) => bytes.length + uptoBulk d + 1
  | (_, d) => uptoBulk d + 1
 end
def uptoSmall : (H : Type) → List (DataW H) → Bool := fun _ ds => decide (uptoBulkAll ds ≤ 1048576)
def OpenSpec.upto (s : _root_.Go.ChangeSpec) : _root_.Go.OpenSpec := { _root_.Go.OpenSpec.ofChange s with cond := some uptoSmall }

/-- 'depositorylaw27.ReparseResolves', WHERE WHAT IT READS IS OF BULK AT MOST 1048576: true; the input reads as it did. -/
def reparseResolvesUptoRow : OpenClaim := { program := "ytpfokhdelnlciaagreatdoor", sum := "43dac971987037d1c7e3240df30e853dd4b802a259662c96e41a429fd96135fe", func := "depository/depositorylaw27.ReparseResolves", spec := "reparseResolves", inPlace := ["internal/bytealg.CountString", "internal/bytealg.IndexByteString", "internal/bytealg.IndexString", "internal/abi.NoEscape", "internal/bytealg.MakeNoZero"], unfollowed := true, recurses := true, named := ["unicode/utf8.first", "unicode/utf8.acceptRanges", "internal/bytealg.MaxLen"], apart := false, laid := [("unicode/utf8.acceptRanges", laid_unicode_utf8_acceptRanges), ("unicode/utf8.first", laid_unicode_utf8_first)], narrowed := true }
def ReparseResolvesUptoSaid : Prop := reparseResolvesUptoRow.holds Tryz.pinned (OpenSpec.upto reparseResolvesSpec)

/-- 'depositorylaw27.ReparseSame', WHERE WHAT IT READS IS OF BULK AT MOST 1048576: true; the input reads as it did. -/
def reparseSameUptoRow : OpenClaim := { program := "ytpfokhdelnlciaagreatdoor", sum := "43dac971987037d1c7e3240df30e853dd4b802a259662c96e41a429fd96135fe", func := "depository/depositorylaw27.ReparseSame", spec := "reparseSame", inPlace := ["internal/bytealg.CountString", "internal/bytealg.IndexByteString", "internal/bytealg.IndexString", "internal/abi.NoEscape", "internal/bytealg.MakeNoZero"], unfollowed := true, recurses := true, named := ["unicode/utf8.first", "unicode/utf8.acceptRanges", "internal/bytealg.MaxLen"], apart := false, laid := [("unicode/utf8.acceptRanges", laid_unicode_utf8_acceptRanges), ("unicode/utf8.first", laid_unicode_utf8_first)], narrowed := true }
def ReparseSameUptoSaid : Prop := reparseSameUptoRow.holds Tryz.pinned (OpenSpec.upto reparseSameSpec)

/-- 'depositorylaw27.ReparseTrees', WHERE WHAT IT READS IS OF BULK AT MOST 1048576: true; the input reads as it did. -/
def reparseTreesUptoRow : OpenClaim := { program := "ytpfokhdelnlciaagreatdoor", sum := "43dac971987037d1c7e3240df30e853dd4b802a259662c96e41a429fd96135fe", func := "depository/depositorylaw27.ReparseTrees", spec := "reparseTrees", inPlace := ["internal/bytealg.CountString", "internal/bytealg.IndexByteString", "internal/bytealg.IndexString", "internal/abi.NoEscape", "internal/bytealg.MakeNoZero"], unfollowed := true, recurses := true, named := ["unicode/utf8.first", "unicode/utf8.acceptRanges", "internal/bytealg.MaxLen"], apart := false, laid := [("unicode/utf8.acceptRanges", laid_unicode_utf8_acceptRanges), ("unicode/utf8.first", laid_unicode_utf8_first)], narrowed := true }
def ReparseTreesUptoSaid : Prop := reparseTreesUptoRow.holds Tryz.pinned (OpenSpec.upto reparseTreesSpec)

/-- 'depositorylaw27.ReparseNormal', WHERE WHAT IT READS IS OF BULK AT MOST 1048576: true; the input reads as it did. -/
def reparseNormalUptoRow : OpenClaim := { program := "ytpfokhdelnlciaagreatdoor", sum := "43dac971987037d1c7e3240df30e853dd4b802a259662c96e41a429fd96135fe", func := "depository/depositorylaw27.ReparseNormal", spec := "reparseNormal", inPlace := ["internal/bytealg.CountString", "internal/bytealg.IndexByteString", "internal/bytealg.IndexString", "internal/abi.NoEscape", "internal/bytealg.MakeNoZero"], unfollowed := true, recurses := true, named := ["unicode/utf8.first", "unicode/utf8.acceptRanges", "internal/bytealg.MaxLen"], apart := false, laid := [("unicode/utf8.acceptRanges", laid_unicode_utf8_acceptRanges), ("unicode/utf8.first", laid_unicode_utf8_first)], narrowed := true }
def ReparseNormalUptoSaid : Prop := reparseNormalUptoRow.holds Tryz.pinned (OpenSpec.upto reparseNormalSpec)

/-- 'depositorylaw27.ReparseRelative', WHERE WHAT IT READS IS OF BULK AT MOST 1048576: true; the input reads as it did. -/
def reparseRelativeUptoRow : OpenClaim := { program := "ytpfokhdelnlciaagreatdoor", sum := "43dac971987037d1c7e3240df30e853dd4b802a259662c96e41a429fd96135fe", func := "depository/depositorylaw27.ReparseRelative", spec := "reparseRelative", inPlace := ["internal/bytealg.CountString", "internal/bytealg.IndexByteString", "internal/bytealg.IndexString", "internal/abi.NoEscape", "internal/bytealg.MakeNoZero"], unfollowed := true, recurses := true, named := ["unicode/utf8.first", "unicode/utf8.acceptRanges", "internal/bytealg.MaxLen"], apart := false, laid := [("unicode/utf8.acceptRanges", laid_unicode_utf8_acceptRanges), ("unicode/utf8.first", laid_unicode_utf8_first)], narrowed := true }
def ReparseRelativeUptoSaid : Prop := reparseRelativeUptoRow.holds Tryz.pinned (OpenSpec.upto reparseRelativeSpec)

/-- 'depositorylaw27.ReparsePaths', WHERE WHAT IT READS IS OF BULK AT MOST 1048576: true; the input reads as it did. -/
def reparsePathsUptoRow : OpenClaim := { program := "ytpfokhdelnlciaagreatdoor", sum := "43dac971987037d1c7e3240df30e853dd4b802a259662c96e41a429fd96135fe", func := "depository/depositorylaw27.ReparsePaths", spec := "reparsePaths", inPlace := ["internal/bytealg.CountString", "internal/bytealg.IndexByteString", "internal/bytealg.IndexString", "internal/abi.NoEscape", "internal/bytealg.MakeNoZero"], unfollowed := true, recurses := true, named := ["unicode/utf8.first", "unicode/utf8.acceptRanges", "internal/bytealg.MaxLen"], apart := false, laid := [("unicode/utf8.acceptRanges", laid_unicode_utf8_acceptRanges), ("unicode/utf8.first", laid_unicode_utf8_first)], narrowed := true }
def ReparsePathsUptoSaid : Prop := reparsePathsUptoRow.holds Tryz.pinned (OpenSpec.upto reparsePathsSpec)

/-- 'depositorylaw27.ReparseWays', WHERE WHAT IT READS IS OF BULK AT MOST 1048576: true; the input reads as it did. -/
def reparseWaysUptoRow : OpenClaim := { program := "ytpfokhdelnlciaagreatdoor", sum := "43dac971987037d1c7e3240df30e853dd4b802a259662c96e41a429fd96135fe", func := "depository/depositorylaw27.ReparseWays", spec := "reparseWays", inPlace := ["internal/bytealg.CountString", "internal/bytealg.IndexByteString", "internal/bytealg.IndexString", "internal/abi.NoEscape", "internal/bytealg.MakeNoZero"], unfollowed := true, recurses := true, named := ["unicode/utf8.first", "unicode/utf8.acceptRanges", "internal/bytealg.MaxLen"], apart := false, laid := [("unicode/utf8.acceptRanges", laid_unicode_utf8_acceptRanges), ("unicode/utf8.first", laid_unicode_utf8_first)], narrowed := true }
def ReparseWaysUptoSaid : Prop := reparseWaysUptoRow.holds Tryz.pinned (OpenSpec.upto reparseWaysSpec)

end Rows
end Go.Proofs.YtpfokhdelnlciaaGreatDoor
