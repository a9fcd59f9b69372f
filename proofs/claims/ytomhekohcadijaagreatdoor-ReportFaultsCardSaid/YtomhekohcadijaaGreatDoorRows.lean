/-
  NARROWER THAN 'FOR EVERY INPUT', by the rows' own cells (each row's printed sentence says how): DeltaReads: laid · PolicyParses: laid · ReportPrints: laid · ReportReads: laid · ReportFaults: laid · SessionUndoes: laid.
  DERIVED. THE GIVEN ROWS OF THIS SEAT. 6 by the template 'for every input the law returns true; each argument reads behind the call as it read before'; 0 by the template 'total and deterministic' (their statements: YtomhekohcadijaaGreatDoorTotals.lean).
  GIVEN WITH THE SEED: the statements are not yours to turn. If you find one false, say at which input.
  Laid BY PROGRAM, IN A SANDBOX (cutbox-rows.mjs): the forced cells as the released guide's own fill.sh prints them over the translation d1aac5f18503d7dc… (all of the seat's roots in one cut). By AI agents, Wed Nov 11 2026. No macro, syntax, notation, axiom, sorry.
-/
import Derived.Test.YtomhekohcadijaaGreatDoorChecked
import GoSem.PinnedTables
import GoSem.Claim
import GoSem.ClaimJoined
import GoSem.ClaimMapViews
import Derived.JoinedTies
import Derived.KernelRfl
namespace Go.Proofs.YtomhekohcadijaaGreatDoor
/- THE CELL 'sum', in the pinned program and in every row, IS THE sha256 OF THE DUMP (.gsa) THAT YtomhekohcadijaaGreatDoorProg.lean LOADS. Nothing in Lean hashes anything: it is a label: what it is worth is what the hold of that sum in a sandbox is worth. -/
noncomputable def Tryz.pinned : Pinned := { name := "ytomhekohcadijaagreatdoor", sum := "d1aac5f18503d7dc71ab8bfe48ea99c8b450f5fc25366c3d88b95b7d9d91782d", checked := Tryz.checked }
namespace Rows
def none {H : Type} : Left H := { results := [], args := [] }

/- WHAT THE LISTED PACKAGE-LEVEL VARIABLES READ AS WHEN THE CALL BEGINS. Each datum BY PROGRAM (the guide's laid-datum.mjs) off the statement by which the dump's own 'gosem.cut.vars' lays the variable. In a bare row this is a premise. The card (YtomhekohcadijaaGreatDoorCards.lean) ties it to the program's text. -/
def laid_unicode_utf8_acceptRanges {H : Type} : DataW H := .agg [.agg [.lit (.int .u8 128), .lit (.int .u8 191)], .agg [.lit (.int .u8 160), .lit (.int .u8 191)], .agg [.lit (.int .u8 128), .lit (.int .u8 159)], .agg [.lit (.int .u8 144), .lit (.int .u8 191)], .agg [.lit (.int .u8 128), .lit (.int .u8 143)], .agg [.lit (.int .u8 0), .lit (.int .u8 0)], .agg [.lit (.int .u8 0), .lit (.int .u8 0)], .agg [.lit (.int .u8 0), .lit (.int .u8 0)], .agg [.lit (.int .u8 0), .lit (.int .u8 0)], .agg [.lit (.int .u8 0), .lit (.int .u8 0)], .agg [.lit (.int .u8 0), .lit (.int .u8 0)], .agg [.lit (.int .u8 0), .lit (.int .u8 0)], .agg [.lit (.int .u8 0), .lit (.int .u8 0)], .agg [.lit (.int .u8 0), .lit (.int .u8 0)], .agg [.lit (.int .u8 0), .lit (.int .u8 0)], .agg [.lit (.int .u8 0), .lit (.int .u8 0)]]
/-- One of Go's own tables, pinned by name: the form's constant. -/
def laid_unicode_utf8_first : DataW Unit := Go.Pinned.utf8First

/-- 'crupperlaw32.DeltaReads': WHATEVER THE INPUT: true; the input reads as it did. -/
def deltaReadsSpec : ChangeSpec := { name := "deltaReads", fn := fun _ => fun
  | [d1, d2, d3] => { results := [.lit (.bool true)], args := [d1, d2, d3] }
  | _ => none }
def deltaReadsRow : OpenClaim := { program := "ytomhekohcadijaagreatdoor", sum := "d1aac5f18503d7dc71ab8bfe48ea99c8b450f5fc25366c3d88b95b7d9d91782d", func := "crupper/crupperlaw32.DeltaReads", spec := "deltaReads", inPlace := ["internal/bytealg.abigen_runtime_cmpstring", "internal/bytealg.IndexByteString", "internal/bytealg.IndexString"], unfollowed := true, recurses := true, named := ["internal/bytealg.MaxLen", "unicode/utf8.first", "unicode/utf8.acceptRanges"], plainKeys := false, apart := false, laid := [("unicode/utf8.acceptRanges", laid_unicode_utf8_acceptRanges), ("unicode/utf8.first", laid_unicode_utf8_first)] }
def DeltaReadsSaid : Prop := deltaReadsRow.holds Tryz.pinned (OpenSpec.ofChange deltaReadsSpec)

/-- ITS FALSE NEIGHBOUR: 'it returns false'. Refute it at one input. -/
def deltaReadsWrong : ChangeSpec := { name := "deltaReads", fn := fun _ => fun
  | [d1, d2, d3] => { results := [.lit (.bool false)], args := [d1, d2, d3] }
  | _ => none }
def DeltaReadsWrongFalsely : Prop := deltaReadsRow.holds Tryz.pinned (OpenSpec.ofChange deltaReadsWrong)

/-- 'crupperlaw05.PolicyParses': WHATEVER THE INPUT: true; the input reads as it did. -/
def policyParsesSpec : ChangeSpec := { name := "policyParses", fn := fun _ => fun
  | [d] => { results := [.lit (.bool true)], args := [d] }
  | _ => none }
def policyParsesRow : OpenClaim := { program := "ytomhekohcadijaagreatdoor", sum := "d1aac5f18503d7dc71ab8bfe48ea99c8b450f5fc25366c3d88b95b7d9d91782d", func := "crupper/crupperlaw05.PolicyParses", spec := "policyParses", inPlace := ["internal/bytealg.IndexByteString", "internal/bytealg.IndexString", "slices.overlaps[string]", "internal/bytealg.abigen_runtime_cmpstring", "internal/abi.NoEscape", "internal/bytealg.MakeNoZero"], unfollowed := true, recurses := true, named := ["internal/bytealg.MaxLen", "unicode/utf8.first", "unicode/utf8.acceptRanges"], plainKeys := false, apart := false, laid := [("unicode/utf8.acceptRanges", laid_unicode_utf8_acceptRanges), ("unicode/utf8.first", laid_unicode_utf8_first)] }
def PolicyParsesSaid : Prop := policyParsesRow.holds Tryz.pinned (OpenSpec.ofChange policyParsesSpec)

/-- ITS FALSE NEIGHBOUR: 'it returns false'. Refute it at one input. -/
def policyParsesWrong : ChangeSpec := { name := "policyParses", fn := fun _ => fun
  | [d] => { results := [.lit (.bool false)], args := [d] }
  | _ => none }
def PolicyParsesWrongFalsely : Prop := policyParsesRow.holds Tryz.pinned (OpenSpec.ofChange policyParsesWrong)

/-- 'crupperlaw28.ReportPrints': WHATEVER THE INPUT: true; the input reads as it did. -/
def reportPrintsSpec : ChangeSpec := { name := "reportPrints", fn := fun _ => fun
  | [d1, d2, d3] => { results := [.lit (.bool true)], args := [d1, d2, d3] }
  | _ => none }
def reportPrintsRow : OpenClaim := { program := "ytomhekohcadijaagreatdoor", sum := "d1aac5f18503d7dc71ab8bfe48ea99c8b450f5fc25366c3d88b95b7d9d91782d", func := "crupper/crupperlaw28.ReportPrints", spec := "reportPrints", inPlace := ["internal/bytealg.abigen_runtime_cmpstring", "internal/abi.NoEscape", "internal/bytealg.MakeNoZero", "internal/bytealg.IndexByteString", "internal/bytealg.IndexString"], unfollowed := true, recurses := true, named := ["internal/bytealg.MaxLen", "unicode/utf8.first", "unicode/utf8.acceptRanges"], plainKeys := false, apart := false, laid := [("unicode/utf8.acceptRanges", laid_unicode_utf8_acceptRanges), ("unicode/utf8.first", laid_unicode_utf8_first)] }
def ReportPrintsSaid : Prop := reportPrintsRow.holds Tryz.pinned (OpenSpec.ofChange reportPrintsSpec)

/-- ITS FALSE NEIGHBOUR: 'it returns false'. Refute it at one input. -/
def reportPrintsWrong : ChangeSpec := { name := "reportPrints", fn := fun _ => fun
  | [d1, d2, d3] => { results := [.lit (.bool false)], args := [d1, d2, d3] }
  | _ => none }
def ReportPrintsWrongFalsely : Prop := reportPrintsRow.holds Tryz.pinned (OpenSpec.ofChange reportPrintsWrong)

/-- 'crupperlaw28.ReportReads': WHATEVER THE INPUT: true; the input reads as it did. -/
def reportReadsSpec : ChangeSpec := { name := "reportReads", fn := fun _ => fun
  | [d1, d2, d3] => { results := [.lit (.bool true)], args := [d1, d2, d3] }
  | _ => none }
def reportReadsRow : OpenClaim := { program := "ytomhekohcadijaagreatdoor", sum := "d1aac5f18503d7dc71ab8bfe48ea99c8b450f5fc25366c3d88b95b7d9d91782d", func := "crupper/crupperlaw28.ReportReads", spec := "reportReads", inPlace := ["internal/bytealg.abigen_runtime_cmpstring", "internal/abi.NoEscape", "internal/bytealg.MakeNoZero", "internal/bytealg.IndexByteString", "internal/bytealg.IndexString"], unfollowed := true, recurses := true, named := ["internal/bytealg.MaxLen", "unicode/utf8.first", "unicode/utf8.acceptRanges"], plainKeys := false, apart := false, laid := [("unicode/utf8.acceptRanges", laid_unicode_utf8_acceptRanges), ("unicode/utf8.first", laid_unicode_utf8_first)] }
def ReportReadsSaid : Prop := reportReadsRow.holds Tryz.pinned (OpenSpec.ofChange reportReadsSpec)

/-- ITS FALSE NEIGHBOUR: 'it returns false'. Refute it at one input. -/
def reportReadsWrong : ChangeSpec := { name := "reportReads", fn := fun _ => fun
  | [d1, d2, d3] => { results := [.lit (.bool false)], args := [d1, d2, d3] }
  | _ => none }
def ReportReadsWrongFalsely : Prop := reportReadsRow.holds Tryz.pinned (OpenSpec.ofChange reportReadsWrong)

/-- 'crupperlaw28.ReportFaults': WHATEVER THE INPUT: true; the input reads as it did. -/
def reportFaultsSpec : ChangeSpec := { name := "reportFaults", fn := fun _ => fun
  | [d1, d2] => { results := [.lit (.bool true)], args := [d1, d2] }
  | _ => none }
def reportFaultsRow : OpenClaim := { program := "ytomhekohcadijaagreatdoor", sum := "d1aac5f18503d7dc71ab8bfe48ea99c8b450f5fc25366c3d88b95b7d9d91782d", func := "crupper/crupperlaw28.ReportFaults", spec := "reportFaults", inPlace := ["internal/bytealg.IndexByteString", "internal/bytealg.IndexString", "internal/bytealg.abigen_runtime_cmpstring", "internal/abi.NoEscape", "internal/bytealg.MakeNoZero"], unfollowed := true, recurses := true, named := ["internal/bytealg.MaxLen", "unicode/utf8.first", "unicode/utf8.acceptRanges"], plainKeys := false, apart := false, laid := [("unicode/utf8.acceptRanges", laid_unicode_utf8_acceptRanges), ("unicode/utf8.first", laid_unicode_utf8_first)] }
def ReportFaultsSaid : Prop := reportFaultsRow.holds Tryz.pinned (OpenSpec.ofChange reportFaultsSpec)

/-- ITS FALSE NEIGHBOUR: 'it returns false'. Refute it at one input. -/
def reportFaultsWrong : ChangeSpec := { name := "reportFaults", fn := fun _ => fun
  | [d1, d2] => { results := [.lit (.bool false)], args := [d1, d2] }
  | _ => none }
def ReportFaultsWrongFalsely : Prop := reportFaultsRow.holds Tryz.pinned (OpenSpec.ofChange reportFaultsWrong)

/-- 'crupperlaw35.SessionUndoes': WHATEVER THE INPUT: true; the input reads as it did. -/
def sessionUndoesSpec : ChangeSpec := { name := "sessionUndoes", fn := fun _ => fun
  | [d1, d2] => { results := [.lit (.bool true)], args := [d1, d2] }
  | _ => none }
def sessionUndoesRow : OpenClaim := { program := "ytomhekohcadijaagreatdoor", sum := "d1aac5f18503d7dc71ab8bfe48ea99c8b450f5fc25366c3d88b95b7d9d91782d", func := "crupper/crupperlaw35.SessionUndoes", spec := "sessionUndoes", inPlace := ["internal/bytealg.abigen_runtime_cmpstring", "internal/abi.NoEscape", "internal/bytealg.MakeNoZero", "internal/bytealg.IndexByteString", "internal/bytealg.IndexString", "slices.overlaps[string]"], unfollowed := true, recurses := true, named := ["internal/bytealg.MaxLen", "unicode/utf8.first", "unicode/utf8.acceptRanges"], plainKeys := false, apart := false, laid := [("unicode/utf8.acceptRanges", laid_unicode_utf8_acceptRanges), ("unicode/utf8.first", laid_unicode_utf8_first)] }
def SessionUndoesSaid : Prop := sessionUndoesRow.holds Tryz.pinned (OpenSpec.ofChange sessionUndoesSpec)

/-- ITS FALSE NEIGHBOUR: 'it returns false'. Refute it at one input. -/
def sessionUndoesWrong : ChangeSpec := { name := "sessionUndoes", fn := fun _ => fun
  | [d1, d2] => { results := [.lit (.bool false)], args := [d1, d2] }
  | _ => none }
def SessionUndoesWrongFalsely : Prop := sessionUndoesRow.holds Tryz.pinned (OpenSpec.ofChange sessionUndoesWrong)

/- THE SECOND FORM. 'bulk': how many values and letters a reading holds, each counted each time it is reached (what is shared counts as often as it is met; a slice's spare places count too). A statement '..UptoSaid' is the law's where the arguments, and the package variables that the reading takes, are together of bulk at most 1048576: NARROWER than '..Said'. Prove '..Said' where nothing that the law and all that it calls make is longer than what came in: it says more and counts as full. Else prove '..UptoSaid'. A law counts once. -/
mutual
def uptoBulk {H : Type} : DataW H → Nat
  | .lit (.string bytes) => bytes.length + 1
  | .lit _ => 1
  | .nil => 1
  | .ptr d => uptoBulk d + 1
  | .slice elems spare => uptoBulkAll elems + uptoBulkAll spare + 1
  | .agg parts => uptoBulkAll parts + 1
  | .iface _ d => uptoBulk d + 1
  | .map entries => uptoBulkEntries entries + 1
  | .held _ => 1
def uptoBulkAll {H : Type} : List (DataW H) → Nat
  | [] => 0
  | d :: r => uptoBulk d + uptoBulkAll r
def uptoBulkEntries {H : Type} : List (Lit × DataW H) → Nat
  | [] => 0
  | x :: r => uptoBulkEntry x + uptoBulkEntries r
def uptoBulkEntry {H : Type} : Lit × DataW H → Nat
  | (.string bytes, d) => bytes.length + uptoBulk d + 1
  | (_, d) => uptoBulk d + 1
 end
def uptoSmall : (H : Type) → List (DataW H) → Bool := fun _ ds => decide (uptoBulkAll ds ≤ 1048576)
def OpenSpec.upto (s : _root_.Go.ChangeSpec) : _root_.Go.OpenSpec := { _root_.Go.OpenSpec.ofChange s with cond := some uptoSmall }

/-- 'crupperlaw32.DeltaReads', WHERE WHAT IT READS IS OF BULK AT MOST 1048576: true; the input reads as it did. -/
def deltaReadsUptoRow : OpenClaim := { program := "ytomhekohcadijaagreatdoor", sum := "d1aac5f18503d7dc71ab8bfe48ea99c8b450f5fc25366c3d88b95b7d9d91782d", func := "crupper/crupperlaw32.DeltaReads", spec := "deltaReads", inPlace := ["internal/bytealg.abigen_runtime_cmpstring", "internal/bytealg.IndexByteString", "internal/bytealg.IndexString"], unfollowed := true, recurses := true, named := ["internal/bytealg.MaxLen", "unicode/utf8.first", "unicode/utf8.acceptRanges"], plainKeys := false, apart := false, laid := [("unicode/utf8.acceptRanges", laid_unicode_utf8_acceptRanges), ("unicode/utf8.first", laid_unicode_utf8_first)], narrowed := true }
def DeltaReadsUptoSaid : Prop := deltaReadsUptoRow.holds Tryz.pinned (OpenSpec.upto deltaReadsSpec)

/-- 'crupperlaw05.PolicyParses', WHERE WHAT IT READS IS OF BULK AT MOST 1048576: true; the input reads as it did. -/
def policyParsesUptoRow : OpenClaim := { program := "ytomhekohcadijaagreatdoor", sum := "d1aac5f18503d7dc71ab8bfe48ea99c8b450f5fc25366c3d88b95b7d9d91782d", func := "crupper/crupperlaw05.PolicyParses", spec := "policyParses", inPlace := ["internal/bytealg.IndexByteString", "internal/bytealg.IndexString", "slices.overlaps[string]", "internal/bytealg.abigen_runtime_cmpstring", "internal/abi.NoEscape", "internal/bytealg.MakeNoZero"], unfollowed := true, recurses := true, named := ["internal/bytealg.MaxLen", "unicode/utf8.first", "unicode/utf8.acceptRanges"], plainKeys := false, apart := false, laid := [("unicode/utf8.acceptRanges", laid_unicode_utf8_acceptRanges), ("unicode/utf8.first", laid_unicode_utf8_first)], narrowed := true }
def PolicyParsesUptoSaid : Prop := policyParsesUptoRow.holds Tryz.pinned (OpenSpec.upto policyParsesSpec)

/-- 'crupperlaw28.ReportPrints', WHERE WHAT IT READS IS OF BULK AT MOST 1048576: true; the input reads as it did. -/
def reportPrintsUptoRow : OpenClaim := { program := "ytomhekohcadijaagreatdoor", sum := "d1aac5f18503d7dc71ab8bfe48ea99c8b450f5fc25366c3d88b95b7d9d91782d", func := "crupper/crupperlaw28.ReportPrints", spec := "reportPrints", inPlace := ["internal/bytealg.abigen_runtime_cmpstring", "internal/abi.NoEscape", "internal/bytealg.MakeNoZero", "internal/bytealg.IndexByteString", "internal/bytealg.IndexString"], unfollowed := true, recurses := true, named := ["internal/bytealg.MaxLen", "unicode/utf8.first", "unicode/utf8.acceptRanges"], plainKeys := false, apart := false, laid := [("unicode/utf8.acceptRanges", laid_unicode_utf8_acceptRanges), ("unicode/utf8.first", laid_unicode_utf8_first)], narrowed := true }
def ReportPrintsUptoSaid : Prop := reportPrintsUptoRow.holds Tryz.pinned (OpenSpec.upto reportPrintsSpec)

/-- 'crupperlaw28.ReportReads', WHERE WHAT IT READS IS OF BULK AT MOST 1048576: true; the input reads as it did. -/
def reportReadsUptoRow : OpenClaim := { program := "ytomhekohcadijaagreatdoor", sum := "d1aac5f18503d7dc71ab8bfe48ea99c8b450f5fc25366c3d88b95b7d9d91782d", func := "crupper/crupperlaw28.ReportReads", spec := "reportReads", inPlace := ["internal/bytealg.abigen_runtime_cmpstring", "internal/abi.NoEscape", "internal/bytealg.MakeNoZero", "internal/bytealg.IndexByteString", "internal/bytealg.IndexString"], unfollowed := true, recurses := true, named := ["internal/bytealg.MaxLen", "unicode/utf8.first", "unicode/utf8.acceptRanges"], plainKeys := false, apart := false, laid := [("unicode/utf8.acceptRanges", laid_unicode_utf8_acceptRanges), ("unicode/utf8.first", laid_unicode_utf8_first)], narrowed := true }
def ReportReadsUptoSaid : Prop := reportReadsUptoRow.holds Tryz.pinned (OpenSpec.upto reportReadsSpec)

/-- 'crupperlaw28.ReportFaults', WHERE WHAT IT READS IS OF BULK AT MOST 1048576: true; the input reads as it did. -/
def reportFaultsUptoRow : OpenClaim := { program := "ytomhekohcadijaagreatdoor", sum := "d1aac5f18503d7dc71ab8bfe48ea99c8b450f5fc25366c3d88b95b7d9d91782d", func := "crupper/crupperlaw28.ReportFaults", spec := "reportFaults", inPlace := ["internal/bytealg.IndexByteString", "internal/bytealg.IndexString", "internal/bytealg.abigen_runtime_cmpstring", "internal/abi.NoEscape", "internal/bytealg.MakeNoZero"], unfollowed := true, recurses := true, named := ["internal/bytealg.MaxLen", "unicode/utf8.first", "unicode/utf8.acceptRanges"], plainKeys := false, apart := false, laid := [("unicode/utf8.acceptRanges", laid_unicode_utf8_acceptRanges), ("unicode/utf8.first", laid_unicode_utf8_first)], narrowed := true }
def ReportFaultsUptoSaid : Prop := reportFaultsUptoRow.holds Tryz.pinned (OpenSpec.upto reportFaultsSpec)

/-- 'crupperlaw35.SessionUndoes', WHERE WHAT IT READS IS OF BULK AT MOST 1048576: true; the input reads as it did. -/
def sessionUndoesUptoRow : OpenClaim := { program := "ytomhekohcadijaagreatdoor", sum := "d1aac5f18503d7dc71ab8bfe48ea99c8b450f5fc25366c3d88b95b7d9d91782d", func := "crupper/crupperlaw35.SessionUndoes", spec := "sessionUndoes", inPlace := ["internal/bytealg.abigen_runtime_cmpstring", "internal/abi.NoEscape", "internal/bytealg.MakeNoZero", "internal/bytealg.IndexByteString", "internal/bytealg.IndexString", "slices.overlaps[string]"], unfollowed := true, recurses := true, named := ["internal/bytealg.MaxLen", "unicode/utf8.first", "unicode/utf8.acceptRanges"], plainKeys := false, apart := false, laid := [("unicode/utf8.acceptRanges", laid_unicode_utf8_acceptRanges), ("unicode/utf8.first", laid_unicode_utf8_first)], narrowed := true }
def SessionUndoesUptoSaid : Prop := sessionUndoesUptoRow.holds Tryz.pinned (OpenSpec.upto sessionUndoesSpec)

end Rows
end Go.Proofs.YtomhekohcadijaaGreatDoor
