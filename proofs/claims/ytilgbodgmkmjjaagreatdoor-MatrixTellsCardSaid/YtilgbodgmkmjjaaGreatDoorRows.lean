/-
  NARROWER THAN 'FOR EVERY INPUT', by the rows' own cells (each row's printed sentence says how): MatrixTells: laid · AdviseHolds: laid · AdviseLeast: laid · CostHolds: laid · GraphSpare: laid · GraphIdle: laid · ExplainChecks: laid · ExplainTells: laid.
  DERIVED. THE GIVEN ROWS OF THIS SEAT. 8 by the template 'for every input the law returns true; each argument reads behind the call as it read before'; 0 by the template 'total and deterministic' (their statements: YtilgbodgmkmjjaaGreatDoorTotals.lean).
  GIVEN WITH THE SEED: the statements are not yours to turn. If you find one false, say at which input.
  Laid BY PROGRAM, IN A SANDBOX (cutbox-rows.mjs): the forced cells as the released guide's own fill.sh prints them over the translation c7a4db74385353cb… (all of the seat's roots in one cut). By AI agents, Wed Nov 11 2026. No macro, syntax, notation, axiom, sorry.
-/
import Derived.Test.YtilgbodgmkmjjaaGreatDoorChecked
import GoSem.PinnedTables
import GoSem.Claim
import GoSem.ClaimJoined
import GoSem.ClaimMapViews
import Derived.JoinedTies
import Derived.KernelRfl
namespace Go.Proofs.YtilgbodgmkmjjaaGreatDoor
/- THE CELL 'sum', in the pinned program and in every row, IS THE sha256 OF THE DUMP (.gsa) THAT YtilgbodgmkmjjaaGreatDoorProg.lean LOADS. Nothing in Lean hashes anything: it is a label: what it is worth is what the hold of that sum in a sandbox is worth. -/
noncomputable def Tryz.pinned : Pinned := { name := "ytilgbodgmkmjjaagreatdoor", sum := "c7a4db74385353cbc42a107906519ceb6ad1d700aea220bf4125e3ec7d7f8abf", checked := Tryz.checked }
namespace Rows
def none {H : Type} : Left H := { results := [], args := [] }

/- WHAT THE LISTED PACKAGE-LEVEL VARIABLES READ AS WHEN THE CALL BEGINS. Each datum BY PROGRAM (the guide's laid-datum.mjs) off the statement by which the dump's own 'gosem.cut.vars' lays the variable. In a bare row this is a premise. The card (YtilgbodgmkmjjaaGreatDoorCards.lean) ties it to the program's text. -/
def laid_math_bits_deBruijn64tab {H : Type} : DataW H := .agg [.lit (.int .u8 0), .lit (.int .u8 1), .lit (.int .u8 56), .lit (.int .u8 2), .lit (.int .u8 57), .lit (.int .u8 49), .lit (.int .u8 28), .lit (.int .u8 3), .lit (.int .u8 61), .lit (.int .u8 58), .lit (.int .u8 42), .lit (.int .u8 50), .lit (.int .u8 38), .lit (.int .u8 29), .lit (.int .u8 17), .lit (.int .u8 4), .lit (.int .u8 62), .lit (.int .u8 47), .lit (.int .u8 59), .lit (.int .u8 36), .lit (.int .u8 45), .lit (.int .u8 43), .lit (.int .u8 51), .lit (.int .u8 22), .lit (.int .u8 53), .lit (.int .u8 39), .lit (.int .u8 33), .lit (.int .u8 30), .lit (.int .u8 24), .lit (.int .u8 18), .lit (.int .u8 12), .lit (.int .u8 5), .lit (.int .u8 63), .lit (.int .u8 55), .lit (.int .u8 48), .lit (.int .u8 27), .lit (.int .u8 60), .lit (.int .u8 41), .lit (.int .u8 37), .lit (.int .u8 16), .lit (.int .u8 46), .lit (.int .u8 35), .lit (.int .u8 44), .lit (.int .u8 21), .lit (.int .u8 52), .lit (.int .u8 32), .lit (.int .u8 23), .lit (.int .u8 11), .lit (.int .u8 54), .lit (.int .u8 26), .lit (.int .u8 40), .lit (.int .u8 15), .lit (.int .u8 34), .lit (.int .u8 20), .lit (.int .u8 31), .lit (.int .u8 10), .lit (.int .u8 25), .lit (.int .u8 14), .lit (.int .u8 19), .lit (.int .u8 9), .lit (.int .u8 13), .lit (.int .u8 8), .lit (.int .u8 7), .lit (.int .u8 6)]
def laid_unicode_utf8_acceptRanges {H : Type} : DataW H := .agg [.agg [.lit (.int .u8 128), .lit (.int .u8 191)], .agg [.lit (.int .u8 160), .lit (.int .u8 191)], .agg [.lit (.int .u8 128), .lit (.int .u8 159)], .agg [.lit (.int .u8 144), .lit (.int .u8 191)], .agg [.lit (.int .u8 128), .lit (.int .u8 143)], .agg [.lit (.int .u8 0), .lit (.int .u8 0)], .agg [.lit (.int .u8 0), .lit (.int .u8 0)], .agg [.lit (.int .u8 0), .lit (.int .u8 0)], .agg [.lit (.int .u8 0), .lit (.int .u8 0)], .agg [.lit (.int .u8 0), .lit (.int .u8 0)], .agg [.lit (.int .u8 0), .lit (.int .u8 0)], .agg [.lit (.int .u8 0), .lit (.int .u8 0)], .agg [.lit (.int .u8 0), .lit (.int .u8 0)], .agg [.lit (.int .u8 0), .lit (.int .u8 0)], .agg [.lit (.int .u8 0), .lit (.int .u8 0)], .agg [.lit (.int .u8 0), .lit (.int .u8 0)]]
/-- One of Go's own tables, pinned by name: the form's constant. -/
def laid_unicode_utf8_first : DataW Unit := Go.Pinned.utf8First

/-- 'crupperlaw41.MatrixTells': WHATEVER THE INPUT: true; the input reads as it did. -/
def matrixTellsSpec : ChangeSpec := { name := "matrixTells", fn := fun _ => fun
  | [d1, d2] => { results := [.lit (.bool true)], args := [d1, d2] }
  | _ => none }
def matrixTellsRow : OpenClaim := { program := "ytilgbodgmkmjjaagreatdoor", sum := "c7a4db74385353cbc42a107906519ceb6ad1d700aea220bf4125e3ec7d7f8abf", func := "crupper/crupperlaw41.MatrixTells", spec := "matrixTells", inPlace := ["internal/bytealg.abigen_runtime_cmpstring", "internal/abi.NoEscape", "internal/bytealg.MakeNoZero"], unfollowed := true, recurses := true, named := ["math/bits.deBruijn64tab"], plainKeys := false, apart := false, laid := [("math/bits.deBruijn64tab", laid_math_bits_deBruijn64tab)] }
def MatrixTellsSaid : Prop := matrixTellsRow.holds Tryz.pinned (OpenSpec.ofChange matrixTellsSpec)

/-- ITS FALSE NEIGHBOUR: 'it returns false'. Refute it at one input. -/
def matrixTellsWrong : ChangeSpec := { name := "matrixTells", fn := fun _ => fun
  | [d1, d2] => { results := [.lit (.bool false)], args := [d1, d2] }
  | _ => none }
def MatrixTellsWrongFalsely : Prop := matrixTellsRow.holds Tryz.pinned (OpenSpec.ofChange matrixTellsWrong)

/-- 'crupperlaw42.AdviseHolds': WHATEVER THE INPUT: true; the input reads as it did. -/
def adviseHoldsSpec : ChangeSpec := { name := "adviseHolds", fn := fun _ => fun
  | [d1, d2, d3] => { results := [.lit (.bool true)], args := [d1, d2, d3] }
  | _ => none }
def adviseHoldsRow : OpenClaim := { program := "ytilgbodgmkmjjaagreatdoor", sum := "c7a4db74385353cbc42a107906519ceb6ad1d700aea220bf4125e3ec7d7f8abf", func := "crupper/crupperlaw42.AdviseHolds", spec := "adviseHolds", inPlace := ["internal/bytealg.abigen_runtime_cmpstring"], unfollowed := true, recurses := true, named := ["math/bits.deBruijn64tab"], plainKeys := false, apart := false, laid := [("math/bits.deBruijn64tab", laid_math_bits_deBruijn64tab)] }
def AdviseHoldsSaid : Prop := adviseHoldsRow.holds Tryz.pinned (OpenSpec.ofChange adviseHoldsSpec)

/-- ITS FALSE NEIGHBOUR: 'it returns false'. Refute it at one input. -/
def adviseHoldsWrong : ChangeSpec := { name := "adviseHolds", fn := fun _ => fun
  | [d1, d2, d3] => { results := [.lit (.bool false)], args := [d1, d2, d3] }
  | _ => none }
def AdviseHoldsWrongFalsely : Prop := adviseHoldsRow.holds Tryz.pinned (OpenSpec.ofChange adviseHoldsWrong)

/-- 'crupperlaw42.AdviseLeast': WHATEVER THE INPUT: true; the input reads as it did. -/
def adviseLeastSpec : ChangeSpec := { name := "adviseLeast", fn := fun _ => fun
  | [d1, d2, d3] => { results := [.lit (.bool true)], args := [d1, d2, d3] }
  | _ => none }
def adviseLeastRow : OpenClaim := { program := "ytilgbodgmkmjjaagreatdoor", sum := "c7a4db74385353cbc42a107906519ceb6ad1d700aea220bf4125e3ec7d7f8abf", func := "crupper/crupperlaw42.AdviseLeast", spec := "adviseLeast", inPlace := ["internal/bytealg.abigen_runtime_cmpstring"], unfollowed := true, recurses := true, named := ["math/bits.deBruijn64tab"], plainKeys := false, apart := false, laid := [("math/bits.deBruijn64tab", laid_math_bits_deBruijn64tab)] }
def AdviseLeastSaid : Prop := adviseLeastRow.holds Tryz.pinned (OpenSpec.ofChange adviseLeastSpec)

/-- ITS FALSE NEIGHBOUR: 'it returns false'. Refute it at one input. -/
def adviseLeastWrong : ChangeSpec := { name := "adviseLeast", fn := fun _ => fun
  | [d1, d2, d3] => { results := [.lit (.bool false)], args := [d1, d2, d3] }
  | _ => none }
def AdviseLeastWrongFalsely : Prop := adviseLeastRow.holds Tryz.pinned (OpenSpec.ofChange adviseLeastWrong)

/-- 'crupperlaw29.CostHolds': WHATEVER THE INPUT: true; the input reads as it did. -/
def costHoldsSpec : ChangeSpec := { name := "costHolds", fn := fun _ => fun
  | [d1, d2] => { results := [.lit (.bool true)], args := [d1, d2] }
  | _ => none }
def costHoldsRow : OpenClaim := { program := "ytilgbodgmkmjjaagreatdoor", sum := "c7a4db74385353cbc42a107906519ceb6ad1d700aea220bf4125e3ec7d7f8abf", func := "crupper/crupperlaw29.CostHolds", spec := "costHolds", inPlace := ["internal/bytealg.abigen_runtime_cmpstring"], unfollowed := true, recurses := true, named := ["math/bits.deBruijn64tab"], plainKeys := false, apart := false, laid := [("math/bits.deBruijn64tab", laid_math_bits_deBruijn64tab)] }
def CostHoldsSaid : Prop := costHoldsRow.holds Tryz.pinned (OpenSpec.ofChange costHoldsSpec)

/-- ITS FALSE NEIGHBOUR: 'it returns false'. Refute it at one input. -/
def costHoldsWrong : ChangeSpec := { name := "costHolds", fn := fun _ => fun
  | [d1, d2] => { results := [.lit (.bool false)], args := [d1, d2] }
  | _ => none }
def CostHoldsWrongFalsely : Prop := costHoldsRow.holds Tryz.pinned (OpenSpec.ofChange costHoldsWrong)

/-- 'crupperlaw30.GraphSpare': WHATEVER THE INPUT: true; the input reads as it did. -/
def graphSpareSpec : ChangeSpec := { name := "graphSpare", fn := fun _ => fun
  | [d] => { results := [.lit (.bool true)], args := [d] }
  | _ => none }
def graphSpareRow : OpenClaim := { program := "ytilgbodgmkmjjaagreatdoor", sum := "c7a4db74385353cbc42a107906519ceb6ad1d700aea220bf4125e3ec7d7f8abf", func := "crupper/crupperlaw30.GraphSpare", spec := "graphSpare", inPlace := ["internal/bytealg.abigen_runtime_cmpstring"], unfollowed := true, recurses := true, named := ["math/bits.deBruijn64tab"], plainKeys := false, apart := false, laid := [("math/bits.deBruijn64tab", laid_math_bits_deBruijn64tab)] }
def GraphSpareSaid : Prop := graphSpareRow.holds Tryz.pinned (OpenSpec.ofChange graphSpareSpec)

/-- ITS FALSE NEIGHBOUR: 'it returns false'. Refute it at one input. -/
def graphSpareWrong : ChangeSpec := { name := "graphSpare", fn := fun _ => fun
  | [d] => { results := [.lit (.bool false)], args := [d] }
  | _ => none }
def GraphSpareWrongFalsely : Prop := graphSpareRow.holds Tryz.pinned (OpenSpec.ofChange graphSpareWrong)

/-- 'crupperlaw30.GraphIdle': WHATEVER THE INPUT: true; the input reads as it did. -/
def graphIdleSpec : ChangeSpec := { name := "graphIdle", fn := fun _ => fun
  | [d1, d2] => { results := [.lit (.bool true)], args := [d1, d2] }
  | _ => none }
def graphIdleRow : OpenClaim := { program := "ytilgbodgmkmjjaagreatdoor", sum := "c7a4db74385353cbc42a107906519ceb6ad1d700aea220bf4125e3ec7d7f8abf", func := "crupper/crupperlaw30.GraphIdle", spec := "graphIdle", inPlace := ["internal/bytealg.abigen_runtime_cmpstring"], unfollowed := true, recurses := true, named := ["math/bits.deBruijn64tab"], plainKeys := false, apart := false, laid := [("math/bits.deBruijn64tab", laid_math_bits_deBruijn64tab)] }
def GraphIdleSaid : Prop := graphIdleRow.holds Tryz.pinned (OpenSpec.ofChange graphIdleSpec)

/-- ITS FALSE NEIGHBOUR: 'it returns false'. Refute it at one input. -/
def graphIdleWrong : ChangeSpec := { name := "graphIdle", fn := fun _ => fun
  | [d1, d2] => { results := [.lit (.bool false)], args := [d1, d2] }
  | _ => none }
def GraphIdleWrongFalsely : Prop := graphIdleRow.holds Tryz.pinned (OpenSpec.ofChange graphIdleWrong)

/-- 'crupperlaw33.ExplainChecks': WHATEVER THE INPUT: true; the input reads as it did. -/
def explainChecksSpec : ChangeSpec := { name := "explainChecks", fn := fun _ => fun
  | [d1, d2, d3] => { results := [.lit (.bool true)], args := [d1, d2, d3] }
  | _ => none }
def explainChecksRow : OpenClaim := { program := "ytilgbodgmkmjjaagreatdoor", sum := "c7a4db74385353cbc42a107906519ceb6ad1d700aea220bf4125e3ec7d7f8abf", func := "crupper/crupperlaw33.ExplainChecks", spec := "explainChecks", inPlace := ["internal/bytealg.abigen_runtime_cmpstring", "internal/abi.NoEscape", "internal/bytealg.MakeNoZero", "internal/bytealg.IndexByteString", "internal/bytealg.IndexString", "internal/bytealg.CountString"], unfollowed := true, recurses := true, named := ["internal/bytealg.MaxLen", "unicode/utf8.first", "unicode/utf8.acceptRanges"], plainKeys := false, apart := false, laid := [("unicode/utf8.acceptRanges", laid_unicode_utf8_acceptRanges), ("unicode/utf8.first", laid_unicode_utf8_first)] }
def ExplainChecksSaid : Prop := explainChecksRow.holds Tryz.pinned (OpenSpec.ofChange explainChecksSpec)

/-- ITS FALSE NEIGHBOUR: 'it returns false'. Refute it at one input. -/
def explainChecksWrong : ChangeSpec := { name := "explainChecks", fn := fun _ => fun
  | [d1, d2, d3] => { results := [.lit (.bool false)], args := [d1, d2, d3] }
  | _ => none }
def ExplainChecksWrongFalsely : Prop := explainChecksRow.holds Tryz.pinned (OpenSpec.ofChange explainChecksWrong)

/-- 'crupperlaw33.ExplainTells': WHATEVER THE INPUT: true; the input reads as it did. -/
def explainTellsSpec : ChangeSpec := { name := "explainTells", fn := fun _ => fun
  | [d1, d2, d3] => { results := [.lit (.bool true)], args := [d1, d2, d3] }
  | _ => none }
def explainTellsRow : OpenClaim := { program := "ytilgbodgmkmjjaagreatdoor", sum := "c7a4db74385353cbc42a107906519ceb6ad1d700aea220bf4125e3ec7d7f8abf", func := "crupper/crupperlaw33.ExplainTells", spec := "explainTells", inPlace := ["internal/bytealg.abigen_runtime_cmpstring", "internal/abi.NoEscape", "internal/bytealg.MakeNoZero", "internal/bytealg.IndexByteString", "internal/bytealg.IndexString", "internal/bytealg.CountString"], unfollowed := true, recurses := true, named := ["internal/bytealg.MaxLen", "unicode/utf8.first", "unicode/utf8.acceptRanges"], plainKeys := false, apart := false, laid := [("unicode/utf8.acceptRanges", laid_unicode_utf8_acceptRanges), ("unicode/utf8.first", laid_unicode_utf8_first)] }
def ExplainTellsSaid : Prop := explainTellsRow.holds Tryz.pinned (OpenSpec.ofChange explainTellsSpec)

/-- ITS FALSE NEIGHBOUR: 'it returns false'. Refute it at one input. -/
def explainTellsWrong : ChangeSpec := { name := "explainTells", fn := fun _ => fun
  | [d1, d2, d3] => { results := [.lit (.bool false)], args := [d1, d2, d3] }
  | _ => none }
def ExplainTellsWrongFalsely : Prop := explainTellsRow.holds Tryz.pinned (OpenSpec.ofChange explainTellsWrong)

/- THE SECOND FORM. 'bulk': how many values and letters a reading holds, each counted each time it is reached (what is shared counts as often as it is met; a slice's spare places count too). A statement '..UptoSaid' is the law's where the arguments, and the package variables that the reading takes, are together of bulk at most 1048576: NARROWER than '..Said'. Prove '..Said' where nothing that the law and all that it calls make is longer than what came in: it says more and counts as full. Else prove '..UptoSaid'. A law counts once. -/
mutual
def uptoBulk {H : Type} : DataW H → Nat
  | .lit (.string bytes) => bytes.length + 1
  | .lit _ => 1
  | .nil => 1
  | .ptr d => uptoBulk d + 1
  | .slice elems spare => uptoBulkAll elems + uptoBulkAll spare + 1
  | .agg parts => uptoBulkAll parts + 1
  | .iface _ d => uptoBulk d + 1
  | .map entries => uptoBulkEntries entries + 1
  | .held _ => 1
def uptoBulkAll {H : Type} : List (DataW H) → Nat
  | [] => 0
  | d :: r => uptoBulk d + uptoBulkAll r
def uptoBulkEntries {H : Type} : List (Lit × DataW H) → Nat
  | [] => 0
  | x :: r => uptoBulkEntry x + uptoBulkEntries r
def uptoBulkEntry {H : Type} : Lit × DataW H → Nat
  | (.string bytes, d) => bytes.length + uptoBulk d + 1
  | (_, d) => uptoBulk d + 1
 end
def uptoSmall : (H : Type) → List (DataW H) → Bool := fun _ ds => decide (uptoBulkAll ds ≤ 1048576)
def OpenSpec.upto (s : _root_.Go.ChangeSpec) : _root_.Go.OpenSpec := { _root_.Go.OpenSpec.ofChange s with cond := some uptoSmall }

/-- 'crupperlaw41.MatrixTells', WHERE WHAT IT READS IS OF BULK AT MOST 1048576: true; the input reads as it did. -/
def matrixTellsUptoRow : OpenClaim := { program := "ytilgbodgmkmjjaagreatdoor", sum := "c7a4db74385353cbc42a107906519ceb6ad1d700aea220bf4125e3ec7d7f8abf", func := "crupper/crupperlaw41.MatrixTells", spec := "matrixTells", inPlace := ["internal/bytealg.abigen_runtime_cmpstring", "internal/abi.NoEscape", "internal/bytealg.MakeNoZero"], unfollowed := true, recurses := true, named := ["math/bits.deBruijn64tab"], plainKeys := false, apart := false, laid := [("math/bits.deBruijn64tab", laid_math_bits_deBruijn64tab)], narrowed := true }
def MatrixTellsUptoSaid : Prop := matrixTellsUptoRow.holds Tryz.pinned (OpenSpec.upto matrixTellsSpec)

/-- 'crupperlaw42.AdviseHolds', WHERE WHAT IT READS IS OF BULK AT MOST 1048576: true; the input reads as it did. -/
def adviseHoldsUptoRow : OpenClaim := { program := "ytilgbodgmkmjjaagreatdoor", sum := "c7a4db74385353cbc42a107906519ceb6ad1d700aea220bf4125e3ec7d7f8abf", func := "crupper/crupperlaw42.AdviseHolds", spec := "adviseHolds", inPlace := ["internal/bytealg.abigen_runtime_cmpstring"], unfollowed := true, recurses := true, named := ["math/bits.deBruijn64tab"], plainKeys := false, apart := false, laid := [("math/bits.deBruijn64tab", laid_math_bits_deBruijn64tab)], narrowed := true }
def AdviseHoldsUptoSaid : Prop := adviseHoldsUptoRow.holds Tryz.pinned (OpenSpec.upto adviseHoldsSpec)

/-- 'crupperlaw42.AdviseLeast', WHERE WHAT IT READS IS OF BULK AT MOST 1048576: true; the input reads as it did. -/
def adviseLeastUptoRow : OpenClaim := { program := "ytilgbodgmkmjjaagreatdoor", sum := "c7a4db74385353cbc42a107906519ceb6ad1d700aea220bf4125e3ec7d7f8abf", func := "crupper/crupperlaw42.AdviseLeast", spec := "adviseLeast", inPlace := ["internal/bytealg.abigen_runtime_cmpstring"], unfollowed := true, recurses := true, named := ["math/bits.deBruijn64tab"], plainKeys := false, apart := false, laid := [("math/bits.deBruijn64tab", laid_math_bits_deBruijn64tab)], narrowed := true }
def AdviseLeastUptoSaid : Prop := adviseLeastUptoRow.holds Tryz.pinned (OpenSpec.upto adviseLeastSpec)

/-- 'crupperlaw29.CostHolds', WHERE WHAT IT READS IS OF BULK AT MOST 1048576: true; the input reads as it did. -/
def costHoldsUptoRow : OpenClaim := { program := "ytilgbodgmkmjjaagreatdoor", sum := "c7a4db74385353cbc42a107906519ceb6ad1d700aea220bf4125e3ec7d7f8abf", func := "crupper/crupperlaw29.CostHolds", spec := "costHolds", inPlace := ["internal/bytealg.abigen_runtime_cmpstring"], unfollowed := true, recurses := true, named := ["math/bits.deBruijn64tab"], plainKeys := false, apart := false, laid := [("math/bits.deBruijn64tab", laid_math_bits_deBruijn64tab)], narrowed := true }
def CostHoldsUptoSaid : Prop := costHoldsUptoRow.holds Tryz.pinned (OpenSpec.upto costHoldsSpec)

/-- 'crupperlaw30.GraphSpare', WHERE WHAT IT READS IS OF BULK AT MOST 1048576: true; the input reads as it did. -/
def graphSpareUptoRow : OpenClaim := { program := "ytilgbodgmkmjjaagreatdoor", sum := "c7a4db74385353cbc42a107906519ceb6ad1d700aea220bf4125e3ec7d7f8abf", func := "crupper/crupperlaw30.GraphSpare", spec := "graphSpare", inPlace := ["internal/bytealg.abigen_runtime_cmpstring"], unfollowed := true, recurses := true, named := ["math/bits.deBruijn64tab"], plainKeys := false, apart := false, laid := [("math/bits.deBruijn64tab", laid_math_bits_deBruijn64tab)], narrowed := true }
def GraphSpareUptoSaid : Prop := graphSpareUptoRow.holds Tryz.pinned (OpenSpec.upto graphSpareSpec)

/-- 'crupperlaw30.GraphIdle', WHERE WHAT IT READS IS OF BULK AT MOST 1048576: true; the input reads as it did. -/
def graphIdleUptoRow : OpenClaim := { program := "ytilgbodgmkmjjaagreatdoor", sum := "c7a4db74385353cbc42a107906519ceb6ad1d700aea220bf4125e3ec7d7f8abf", func := "crupper/crupperlaw30.GraphIdle", spec := "graphIdle", inPlace := ["internal/bytealg.abigen_runtime_cmpstring"], unfollowed := true, recurses := true, named := ["math/bits.deBruijn64tab"], plainKeys := false, apart := false, laid := [("math/bits.deBruijn64tab", laid_math_bits_deBruijn64tab)], narrowed := true }
def GraphIdleUptoSaid : Prop := graphIdleUptoRow.holds Tryz.pinned (OpenSpec.upto graphIdleSpec)

/-- 'crupperlaw33.ExplainChecks', WHERE WHAT IT READS IS OF BULK AT MOST 1048576: true; the input reads as it did. -/
def explainChecksUptoRow : OpenClaim := { program := "ytilgbodgmkmjjaagreatdoor", sum := "c7a4db74385353cbc42a107906519ceb6ad1d700aea220bf4125e3ec7d7f8abf", func := "crupper/crupperlaw33.ExplainChecks", spec := "explainChecks", inPlace := ["internal/bytealg.abigen_runtime_cmpstring", "internal/abi.NoEscape", "internal/bytealg.MakeNoZero", "internal/bytealg.IndexByteString", "internal/bytealg.IndexString", "internal/bytealg.CountString"], unfollowed := true, recurses := true, named := ["internal/bytealg.MaxLen", "unicode/utf8.first", "unicode/utf8.acceptRanges"], plainKeys := false, apart := false, laid := [("unicode/utf8.acceptRanges", laid_unicode_utf8_acceptRanges), ("unicode/utf8.first", laid_unicode_utf8_first)], narrowed := true }
def ExplainChecksUptoSaid : Prop := explainChecksUptoRow.holds Tryz.pinned (OpenSpec.upto explainChecksSpec)

/-- 'crupperlaw33.ExplainTells', WHERE WHAT IT READS IS OF BULK AT MOST 1048576: true; the input reads as it did. -/
def explainTellsUptoRow : OpenClaim := { program := "ytilgbodgmkmjjaagreatdoor", sum := "c7a4db74385353cbc42a107906519ceb6ad1d700aea220bf4125e3ec7d7f8abf", func := "crupper/crupperlaw33.ExplainTells", spec := "explainTells", inPlace := ["internal/bytealg.abigen_runtime_cmpstring", "internal/abi.NoEscape", "internal/bytealg.MakeNoZero", "internal/bytealg.IndexByteString", "internal/bytealg.IndexString", "internal/bytealg.CountString"], unfollowed := true, recurses := true, named := ["internal/bytealg.MaxLen", "unicode/utf8.first", "unicode/utf8.acceptRanges"], plainKeys := false, apart := false, laid := [("unicode/utf8.acceptRanges", laid_unicode_utf8_acceptRanges), ("unicode/utf8.first", laid_unicode_utf8_first)], narrowed := true }
def ExplainTellsUptoSaid : Prop := explainTellsUptoRow.holds Tryz.pinned (OpenSpec.upto explainTellsSpec)

end Rows
end Go.Proofs.YtilgbodgmkmjjaaGreatDoor
