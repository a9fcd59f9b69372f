/-
  NARROWER THAN 'FOR EVERY INPUT', by the rows' own cells (each row's printed sentence says how): LowHolds: laid · SimpleDecides: laid · SimpleSatisfies: laid · SimpleSound: laid · SimpleWitness: laid · CostTells: laid · CostHolds: laid · MatrixTells: laid · MatrixHolds: laid · MatrixLines: laid · AdviseHolds: laid · AdviseLeast: laid.
  DERIVED. THE GIVEN ROWS OF THIS SEAT. 12 by the template 'for every input the law returns true; each argument reads behind the call as it read before'; 0 by the template 'total and deterministic' (their statements: YtcmdhfccdkjenaaGreatDoorTotals.lean).
  GIVEN WITH THE SEED: the statements are not yours to turn. If you find one false, say at which input.
  Laid BY PROGRAM, IN A SANDBOX (cutbox-rows.mjs): the forced cells as the released guide's own fill.sh prints them over the translation dcb1aabfe11e299c… (all of the seat's roots in one cut). By AI agents, Wed Nov 11 2026. No macro, syntax, notation, axiom, sorry.
-/
import Derived.Test.YtcmdhfccdkjenaaGreatDoorChecked
import GoSem.Claim
import GoSem.ClaimJoined
import GoSem.ClaimMapViews
import Derived.JoinedTies
import Derived.KernelRfl
namespace Go.Proofs.YtcmdhfccdkjenaaGreatDoor
/- THE CELL 'sum', in the pinned program and in every row, IS THE sha256 OF THE DUMP (.gsa) THAT YtcmdhfccdkjenaaGreatDoorProg.lean LOADS. Nothing in Lean hashes anything: it is a label: what it is worth is what the hold of that sum in a sandbox is worth. -/
noncomputable def Tryz.pinned : Pinned := { name := "ytcmdhfccdkjenaagreatdoor", sum := "dcb1aabfe11e299cb8aa6f63f0f612c6f5f6a8b63945c6f7068c903693b6fef4", checked := Tryz.checked }
namespace Rows
def none {H : Type} : Left H := { results := [], args := [] }

/- WHAT THE LISTED PACKAGE-LEVEL VARIABLES READ AS WHEN THE CALL BEGINS. Each datum BY PROGRAM (the guide's laid-datum.mjs) off the statement by which the dump's own 'gosem.cut.vars' lays the variable. In a bare row this is a premise. The card (YtcmdhfccdkjenaaGreatDoorCards.lean) ties it to the program's text. -/
def laid_math_bits_deBruijn64tab {H : Type} : DataW H := .agg [.lit (.int .u8 0), .lit (.int .u8 1), .lit (.int .u8 56), .lit (.int .u8 2), .lit (.int .u8 57), .lit (.int .u8 49), .lit (.int .u8 28), .lit (.int .u8 3), .lit (.int .u8 61), .lit (.int .u8 58), .lit (.int .u8 42), .lit (.int .u8 50), .lit (.int .u8 38), .lit (.int .u8 29), .lit (.int .u8 17), .lit (.int .u8 4), .lit (.int .u8 62), .lit (.int .u8 47), .lit (.int .u8 59), .lit (.int .u8 36), .lit (.int .u8 45), .lit (.int .u8 43), .lit (.int .u8 51), .lit (.int .u8 22), .lit (.int .u8 53), .lit (.int .u8 39), .lit (.int .u8 33), .lit (.int .u8 30), .lit (.int .u8 24), .lit (.int .u8 18), .lit (.int .u8 12), .lit (.int .u8 5), .lit (.int .u8 63), .lit (.int .u8 55), .lit (.int .u8 48), .lit (.int .u8 27), .lit (.int .u8 60), .lit (.int .u8 41), .lit (.int .u8 37), .lit (.int .u8 16), .lit (.int .u8 46), .lit (.int .u8 35), .lit (.int .u8 44), .lit (.int .u8 21), .lit (.int .u8 52), .lit (.int .u8 32), .lit (.int .u8 23), .lit (.int .u8 11), .lit (.int .u8 54), .lit (.int .u8 26), .lit (.int .u8 40), .lit (.int .u8 15), .lit (.int .u8 34), .lit (.int .u8 20), .lit (.int .u8 31), .lit (.int .u8 10), .lit (.int .u8 25), .lit (.int .u8 14), .lit (.int .u8 19), .lit (.int .u8 9), .lit (.int .u8 13), .lit (.int .u8 8), .lit (.int .u8 7), .lit (.int .u8 6)]

/-- 'crupperlaw11.LowHolds': WHATEVER THE INPUT: true; the input reads as it did. -/
def lowHoldsSpec : ChangeSpec := { name := "lowHolds", fn := fun _ => fun
  | [d1, d2, d3] => { results := [.lit (.bool true)], args := [d1, d2, d3] }
  | _ => none }
def lowHoldsRow : OpenClaim := { program := "ytcmdhfccdkjenaagreatdoor", sum := "dcb1aabfe11e299cb8aa6f63f0f612c6f5f6a8b63945c6f7068c903693b6fef4", func := "crupper/crupperlaw11.LowHolds", spec := "lowHolds", inPlace := ["internal/bytealg.abigen_runtime_cmpstring"], unfollowed := true, recurses := true, named := ["math/bits.deBruijn64tab"], apart := false, laid := [("math/bits.deBruijn64tab", laid_math_bits_deBruijn64tab)] }
def LowHoldsSaid : Prop := lowHoldsRow.holds Tryz.pinned (OpenSpec.ofChange lowHoldsSpec)

/-- ITS FALSE NEIGHBOUR: 'it returns false'. Refute it at one input. -/
def lowHoldsWrong : ChangeSpec := { name := "lowHolds", fn := fun _ => fun
  | [d1, d2, d3] => { results := [.lit (.bool false)], args := [d1, d2, d3] }
  | _ => none }
def LowHoldsWrongFalsely : Prop := lowHoldsRow.holds Tryz.pinned (OpenSpec.ofChange lowHoldsWrong)

/-- 'crupperlaw13.SimpleDecides': WHATEVER THE INPUT: true; the input reads as it did. -/
def simpleDecidesSpec : ChangeSpec := { name := "simpleDecides", fn := fun _ => fun
  | [d1, d2] => { results := [.lit (.bool true)], args := [d1, d2] }
  | _ => none }
def simpleDecidesRow : OpenClaim := { program := "ytcmdhfccdkjenaagreatdoor", sum := "dcb1aabfe11e299cb8aa6f63f0f612c6f5f6a8b63945c6f7068c903693b6fef4", func := "crupper/crupperlaw13.SimpleDecides", spec := "simpleDecides", inPlace := ["internal/bytealg.abigen_runtime_cmpstring"], unfollowed := true, recurses := true, named := ["math/bits.deBruijn64tab"], apart := false, laid := [("math/bits.deBruijn64tab", laid_math_bits_deBruijn64tab)] }
def SimpleDecidesSaid : Prop := simpleDecidesRow.holds Tryz.pinned (OpenSpec.ofChange simpleDecidesSpec)

/-- ITS FALSE NEIGHBOUR: 'it returns false'. Refute it at one input. -/
def simpleDecidesWrong : ChangeSpec := { name := "simpleDecides", fn := fun _ => fun
  | [d1, d2] => { results := [.lit (.bool false)], args := [d1, d2] }
  | _ => none }
def SimpleDecidesWrongFalsely : Prop := simpleDecidesRow.holds Tryz.pinned (OpenSpec.ofChange simpleDecidesWrong)

/-- 'crupperlaw13.SimpleSatisfies': WHATEVER THE INPUT: true; the input reads as it did. -/
def simpleSatisfiesSpec : ChangeSpec := { name := "simpleSatisfies", fn := fun _ => fun
  | [d1, d2] => { results := [.lit (.bool true)], args := [d1, d2] }
  | _ => none }
def simpleSatisfiesRow : OpenClaim := { program := "ytcmdhfccdkjenaagreatdoor", sum := "dcb1aabfe11e299cb8aa6f63f0f612c6f5f6a8b63945c6f7068c903693b6fef4", func := "crupper/crupperlaw13.SimpleSatisfies", spec := "simpleSatisfies", inPlace := ["internal/bytealg.abigen_runtime_cmpstring"], unfollowed := true, recurses := true, named := ["math/bits.deBruijn64tab"], apart := false, laid := [("math/bits.deBruijn64tab", laid_math_bits_deBruijn64tab)] }
def SimpleSatisfiesSaid : Prop := simpleSatisfiesRow.holds Tryz.pinned (OpenSpec.ofChange simpleSatisfiesSpec)

/-- ITS FALSE NEIGHBOUR: 'it returns false'. Refute it at one input. -/
def simpleSatisfiesWrong : ChangeSpec := { name := "simpleSatisfies", fn := fun _ => fun
  | [d1, d2] => { results := [.lit (.bool false)], args := [d1, d2] }
  | _ => none }
def SimpleSatisfiesWrongFalsely : Prop := simpleSatisfiesRow.holds Tryz.pinned (OpenSpec.ofChange simpleSatisfiesWrong)

/-- 'crupperlaw13.SimpleSound': WHATEVER THE INPUT: true; the input reads as it did. -/
def simpleSoundSpec : ChangeSpec := { name := "simpleSound", fn := fun _ => fun
  | [d1, d2, d3] => { results := [.lit (.bool true)], args := [d1, d2, d3] }
  | _ => none }
def simpleSoundRow : OpenClaim := { program := "ytcmdhfccdkjenaagreatdoor", sum := "dcb1aabfe11e299cb8aa6f63f0f612c6f5f6a8b63945c6f7068c903693b6fef4", func := "crupper/crupperlaw13.SimpleSound", spec := "simpleSound", inPlace := ["internal/bytealg.abigen_runtime_cmpstring"], unfollowed := true, recurses := true, named := ["math/bits.deBruijn64tab"], apart := false, laid := [("math/bits.deBruijn64tab", laid_math_bits_deBruijn64tab)] }
def SimpleSoundSaid : Prop := simpleSoundRow.holds Tryz.pinned (OpenSpec.ofChange simpleSoundSpec)

/-- ITS FALSE NEIGHBOUR: 'it returns false'. Refute it at one input. -/
def simpleSoundWrong : ChangeSpec := { name := "simpleSound", fn := fun _ => fun
  | [d1, d2, d3] => { results := [.lit (.bool false)], args := [d1, d2, d3] }
  | _ => none }
def SimpleSoundWrongFalsely : Prop := simpleSoundRow.holds Tryz.pinned (OpenSpec.ofChange simpleSoundWrong)

/-- 'crupperlaw13.SimpleWitness': WHATEVER THE INPUT: true; the input reads as it did. -/
def simpleWitnessSpec : ChangeSpec := { name := "simpleWitness", fn := fun _ => fun
  | [d1, d2] => { results := [.lit (.bool true)], args := [d1, d2] }
  | _ => none }
def simpleWitnessRow : OpenClaim := { program := "ytcmdhfccdkjenaagreatdoor", sum := "dcb1aabfe11e299cb8aa6f63f0f612c6f5f6a8b63945c6f7068c903693b6fef4", func := "crupper/crupperlaw13.SimpleWitness", spec := "simpleWitness", inPlace := ["internal/bytealg.abigen_runtime_cmpstring"], unfollowed := true, recurses := true, named := ["math/bits.deBruijn64tab"], apart := false, laid := [("math/bits.deBruijn64tab", laid_math_bits_deBruijn64tab)] }
def SimpleWitnessSaid : Prop := simpleWitnessRow.holds Tryz.pinned (OpenSpec.ofChange simpleWitnessSpec)

/-- ITS FALSE NEIGHBOUR: 'it returns false'. Refute it at one input. -/
def simpleWitnessWrong : ChangeSpec := { name := "simpleWitness", fn := fun _ => fun
  | [d1, d2] => { results := [.lit (.bool false)], args := [d1, d2] }
  | _ => none }
def SimpleWitnessWrongFalsely : Prop := simpleWitnessRow.holds Tryz.pinned (OpenSpec.ofChange simpleWitnessWrong)

/-- 'crupperlaw29.CostTells': WHATEVER THE INPUT: true; the input reads as it did. -/
def costTellsSpec : ChangeSpec := { name := "costTells", fn := fun _ => fun
  | [d1, d2] => { results := [.lit (.bool true)], args := [d1, d2] }
  | _ => none }
def costTellsRow : OpenClaim := { program := "ytcmdhfccdkjenaagreatdoor", sum := "dcb1aabfe11e299cb8aa6f63f0f612c6f5f6a8b63945c6f7068c903693b6fef4", func := "crupper/crupperlaw29.CostTells", spec := "costTells", inPlace := ["internal/bytealg.abigen_runtime_cmpstring"], unfollowed := true, recurses := true, named := ["math/bits.deBruijn64tab"], apart := false, laid := [("math/bits.deBruijn64tab", laid_math_bits_deBruijn64tab)] }
def CostTellsSaid : Prop := costTellsRow.holds Tryz.pinned (OpenSpec.ofChange costTellsSpec)

/-- ITS FALSE NEIGHBOUR: 'it returns false'. Refute it at one input. -/
def costTellsWrong : ChangeSpec := { name := "costTells", fn := fun _ => fun
  | [d1, d2] => { results := [.lit (.bool false)], args := [d1, d2] }
  | _ => none }
def CostTellsWrongFalsely : Prop := costTellsRow.holds Tryz.pinned (OpenSpec.ofChange costTellsWrong)

/-- 'crupperlaw29.CostHolds': WHATEVER THE INPUT: true; the input reads as it did. -/
def costHoldsSpec : ChangeSpec := { name := "costHolds", fn := fun _ => fun
  | [d1, d2] => { results := [.lit (.bool true)], args := [d1, d2] }
  | _ => none }
def costHoldsRow : OpenClaim := { program := "ytcmdhfccdkjenaagreatdoor", sum := "dcb1aabfe11e299cb8aa6f63f0f612c6f5f6a8b63945c6f7068c903693b6fef4", func := "crupper/crupperlaw29.CostHolds", spec := "costHolds", inPlace := ["internal/bytealg.abigen_runtime_cmpstring"], unfollowed := true, recurses := true, named := ["math/bits.deBruijn64tab"], apart := false, laid := [("math/bits.deBruijn64tab", laid_math_bits_deBruijn64tab)] }
def CostHoldsSaid : Prop := costHoldsRow.holds Tryz.pinned (OpenSpec.ofChange costHoldsSpec)

/-- ITS FALSE NEIGHBOUR: 'it returns false'. Refute it at one input. -/
def costHoldsWrong : ChangeSpec := { name := "costHolds", fn := fun _ => fun
  | [d1, d2] => { results := [.lit (.bool false)], args := [d1, d2] }
  | _ => none }
def CostHoldsWrongFalsely : Prop := costHoldsRow.holds Tryz.pinned (OpenSpec.ofChange costHoldsWrong)

/-- 'crupperlaw41.MatrixTells': WHATEVER THE INPUT: true; the input reads as it did. -/
def matrixTellsSpec : ChangeSpec := { name := "matrixTells", fn := fun _ => fun
  | [d1, d2] => { results := [.lit (.bool true)], args := [d1, d2] }
  | _ => none }
def matrixTellsRow : OpenClaim := { program := "ytcmdhfccdkjenaagreatdoor", sum := "dcb1aabfe11e299cb8aa6f63f0f612c6f5f6a8b63945c6f7068c903693b6fef4", func := "crupper/crupperlaw41.MatrixTells", spec := "matrixTells", inPlace := ["internal/bytealg.abigen_runtime_cmpstring", "internal/abi.NoEscape", "internal/bytealg.MakeNoZero"], unfollowed := true, recurses := true, named := ["math/bits.deBruijn64tab"], apart := false, laid := [("math/bits.deBruijn64tab", laid_math_bits_deBruijn64tab)] }
def MatrixTellsSaid : Prop := matrixTellsRow.holds Tryz.pinned (OpenSpec.ofChange matrixTellsSpec)

/-- ITS FALSE NEIGHBOUR: 'it returns false'. Refute it at one input. -/
def matrixTellsWrong : ChangeSpec := { name := "matrixTells", fn := fun _ => fun
  | [d1, d2] => { results := [.lit (.bool false)], args := [d1, d2] }
  | _ => none }
def MatrixTellsWrongFalsely : Prop := matrixTellsRow.holds Tryz.pinned (OpenSpec.ofChange matrixTellsWrong)

/-- 'crupperlaw41.MatrixHolds': WHATEVER THE INPUT: true; the input reads as it did. -/
def matrixHoldsSpec : ChangeSpec := { name := "matrixHolds", fn := fun _ => fun
  | [d1, d2] => { results := [.lit (.bool true)], args := [d1, d2] }
  | _ => none }
def matrixHoldsRow : OpenClaim := { program := "ytcmdhfccdkjenaagreatdoor", sum := "dcb1aabfe11e299cb8aa6f63f0f612c6f5f6a8b63945c6f7068c903693b6fef4", func := "crupper/crupperlaw41.MatrixHolds", spec := "matrixHolds", inPlace := ["internal/bytealg.abigen_runtime_cmpstring", "internal/abi.NoEscape", "internal/bytealg.MakeNoZero"], unfollowed := true, recurses := true, named := ["math/bits.deBruijn64tab"], apart := false, laid := [("math/bits.deBruijn64tab", laid_math_bits_deBruijn64tab)] }
def MatrixHoldsSaid : Prop := matrixHoldsRow.holds Tryz.pinned (OpenSpec.ofChange matrixHoldsSpec)

/-- ITS FALSE NEIGHBOUR: 'it returns false'. Refute it at one input. -/
def matrixHoldsWrong : ChangeSpec := { name := "matrixHolds", fn := fun _ => fun
  | [d1, d2] => { results := [.lit (.bool false)], args := [d1, d2] }
  | _ => none }
def MatrixHoldsWrongFalsely : Prop := matrixHoldsRow.holds Tryz.pinned (OpenSpec.ofChange matrixHoldsWrong)

/-- 'crupperlaw41.MatrixLines': WHATEVER THE INPUT: true; the input reads as it did. -/
def matrixLinesSpec : ChangeSpec := { name := "matrixLines", fn := fun _ => fun
  | [d1, d2] => { results := [.lit (.bool true)], args := [d1, d2] }
  | _ => none }
def matrixLinesRow : OpenClaim := { program := "ytcmdhfccdkjenaagreatdoor", sum := "dcb1aabfe11e299cb8aa6f63f0f612c6f5f6a8b63945c6f7068c903693b6fef4", func := "crupper/crupperlaw41.MatrixLines", spec := "matrixLines", inPlace := ["internal/bytealg.abigen_runtime_cmpstring", "internal/abi.NoEscape", "internal/bytealg.MakeNoZero"], unfollowed := true, recurses := true, named := ["math/bits.deBruijn64tab"], apart := false, laid := [("math/bits.deBruijn64tab", laid_math_bits_deBruijn64tab)] }
def MatrixLinesSaid : Prop := matrixLinesRow.holds Tryz.pinned (OpenSpec.ofChange matrixLinesSpec)

/-- ITS FALSE NEIGHBOUR: 'it returns false'. Refute it at one input. -/
def matrixLinesWrong : ChangeSpec := { name := "matrixLines", fn := fun _ => fun
  | [d1, d2] => { results := [.lit (.bool false)], args := [d1, d2] }
  | _ => none }
def MatrixLinesWrongFalsely : Prop := matrixLinesRow.holds Tryz.pinned (OpenSpec.ofChange matrixLinesWrong)

/-- 'crupperlaw42.AdviseHolds': WHATEVER THE INPUT: true; the input reads as it did. -/
def adviseHoldsSpec : ChangeSpec := { name := "adviseHolds", fn := fun _ => fun
  | [d1, d2, d3] => { results := [.lit (.bool true)], args := [d1, d2, d3] }
  | _ => none }
def adviseHoldsRow : OpenClaim := { program := "ytcmdhfccdkjenaagreatdoor", sum := "dcb1aabfe11e299cb8aa6f63f0f612c6f5f6a8b63945c6f7068c903693b6fef4", func := "crupper/crupperlaw42.AdviseHolds", spec := "adviseHolds", inPlace := ["internal/bytealg.abigen_runtime_cmpstring"], unfollowed := true, recurses := true, named := ["math/bits.deBruijn64tab"], apart := false, laid := [("math/bits.deBruijn64tab", laid_math_bits_deBruijn64tab)] }
def AdviseHoldsSaid : Prop := adviseHoldsRow.holds Tryz.pinned (OpenSpec.ofChange adviseHoldsSpec)

/-- ITS FALSE NEIGHBOUR: 'it returns false'. Refute it at one input. -/
def adviseHoldsWrong : ChangeSpec := { name := "adviseHolds", fn := fun _ => fun
  | [d1, d2, d3] => { results := [.lit (.bool false)], args := [d1, d2, d3] }
  | _ => none }
def AdviseHoldsWrongFalsely : Prop := adviseHoldsRow.holds Tryz.pinned (OpenSpec.ofChange adviseHoldsWrong)

/-- 'crupperlaw42.AdviseLeast': WHATEVER THE INPUT: true; the input reads as it did. -/
def adviseLeastSpec : ChangeSpec := { name := "adviseLeast", fn := fun _ => fun
  | [d1, d2, d3] => { results := [.lit (.bool true)], args := [d1, d2, d3] }
  | _ => none }
def adviseLeastRow : OpenClaim := { program := "ytcmdhfccdkjenaagreatdoor", sum := "dcb1aabfe11e299cb8aa6f63f0f612c6f5f6a8b63945c6f7068c903693b6fef4", func := "crupper/crupperlaw42.AdviseLeast", spec := "adviseLeast", inPlace := ["internal/bytealg.abigen_runtime_cmpstring"], unfollowed := true, recurses := true, named := ["math/bits.deBruijn64tab"], apart := false, laid := [("math/bits.deBruijn64tab", laid_math_bits_deBruijn64tab)] }
def AdviseLeastSaid : Prop := adviseLeastRow.holds Tryz.pinned (OpenSpec.ofChange adviseLeastSpec)

/-- ITS FALSE NEIGHBOUR: 'it returns false'. Refute it at one input. -/
def adviseLeastWrong : ChangeSpec := { name := "adviseLeast", fn := fun _ => fun
  | [d1, d2, d3] => { results := [.lit (.bool false)], args := [d1, d2, d3] }
  | _ => none }
def AdviseLeastWrongFalsely : Prop := adviseLeastRow.holds Tryz.pinned (OpenSpec.ofChange adviseLeastWrong)

/- THE SECOND FORM. 'bulk': how many values and letters a reading holds, each counted each time it is reached (what is shared counts as often as it is met; a slice's spare places count too). A statement '..UptoSaid' is the law's where the arguments, and the package variables that the reading takes, are together of bulk at most 1048576: NARROWER than '..Said'. Prove '..Said' where nothing that the law and all that it calls make is longer than what came in: it says more and counts as full. Else prove '..UptoSaid'. A law counts once. -/
mutual
def uptoBulk {H : Type} : DataW H → Nat
  | .lit (.string bytes) => bytes.length + 1
  | .lit _ => 1
  | .nil => 1
  | .ptr d => uptoBulk d + 1
  | .slice elems spare => uptoBulkAll elems + uptoBulkAll spare + 1
  | .agg parts => uptoBulkAll parts + 1
  | .iface _ d => uptoBulk d + 1
  | .map entries => uptoBulkEntries entries + 1
  | .held _ => 1
def uptoBulkAll {H : Type} : List (DataW H) → Nat
  | [] => 0
  | d :: r => uptoBulk d + uptoBulkAll r
def uptoBulkEntries {H : Type} : List (Lit × DataW H) → Nat
  | [] => 0
  | x :: r => uptoBulkEntry x + uptoBulkEntries r
def uptoBulkEntry {H : Type} : Lit × DataW H → Nat
  | (.string bytes, d) => bytes.length + uptoBulk d + 1
  | (_, d) => uptoBulk d + 1
 end
def uptoSmall : (H : Type) → List (DataW H) → Bool := fun _ ds => decide (uptoBulkAll ds ≤ 1048576)
def OpenSpec.upto (s : _root_.Go.ChangeSpec) : _root_.Go.OpenSpec := { _root_.Go.OpenSpec.ofChange s with cond := some uptoSmall }

/-- 'crupperlaw11.LowHolds', WHERE WHAT IT READS IS OF BULK AT MOST 1048576: true; the input reads as it did. -/
def lowHoldsUptoRow : OpenClaim := { program := "ytcmdhfccdkjenaagreatdoor", sum := "dcb1aabfe11e299cb8aa6f63f0f612c6f5f6a8b63945c6f7068c903693b6fef4", func := "crupper/crupperlaw11.LowHolds", spec := "lowHolds", inPlace := ["internal/bytealg.abigen_runtime_cmpstring"], unfollowed := true, recurses := true, named := ["math/bits.deBruijn64tab"], apart := false, laid := [("math/bits.deBruijn64tab", laid_math_bits_deBruijn64tab)], narrowed := true }
def LowHoldsUptoSaid : Prop := lowHoldsUptoRow.holds Tryz.pinned (OpenSpec.upto lowHoldsSpec)

/-- 'crupperlaw13.SimpleDecides', WHERE WHAT IT READS IS OF BULK AT MOST 1048576: true; the input reads as it did. -/
def simpleDecidesUptoRow : OpenClaim := { program := "ytcmdhfccdkjenaagreatdoor", sum := "dcb1aabfe11e299cb8aa6f63f0f612c6f5f6a8b63945c6f7068c903693b6fef4", func := "crupper/crupperlaw13.SimpleDecides", spec := "simpleDecides", inPlace := ["internal/bytealg.abigen_runtime_cmpstring"], unfollowed := true, recurses := true, named := ["math/bits.deBruijn64tab"], apart := false, laid := [("math/bits.deBruijn64tab", laid_math_bits_deBruijn64tab)], narrowed := true }
def SimpleDecidesUptoSaid : Prop := simpleDecidesUptoRow.holds Tryz.pinned (OpenSpec.upto simpleDecidesSpec)

/-- 'crupperlaw13.SimpleSatisfies', WHERE WHAT IT READS IS OF BULK AT MOST 1048576: true; the input reads as it did. -/
def simpleSatisfiesUptoRow : OpenClaim := { program := "ytcmdhfccdkjenaagreatdoor", sum := "dcb1aabfe11e299cb8aa6f63f0f612c6f5f6a8b63945c6f7068c903693b6fef4", func := "crupper/crupperlaw13.SimpleSatisfies", spec := "simpleSatisfies", inPlace := ["internal/bytealg.abigen_runtime_cmpstring"], unfollowed := true, recurses := true, named := ["math/bits.deBruijn64tab"], apart := false, laid := [("math/bits.deBruijn64tab", laid_math_bits_deBruijn64tab)], narrowed := true }
def SimpleSatisfiesUptoSaid : Prop := simpleSatisfiesUptoRow.holds Tryz.pinned (OpenSpec.upto simpleSatisfiesSpec)

/-- 'crupperlaw13.SimpleSound', WHERE WHAT IT READS IS OF BULK AT MOST 1048576: true; the input reads as it did. -/
def simpleSoundUptoRow : OpenClaim := { program := "ytcmdhfccdkjenaagreatdoor", sum := "dcb1aabfe11e299cb8aa6f63f0f612c6f5f6a8b63945c6f7068c903693b6fef4", func := "crupper/crupperlaw13.SimpleSound", spec := "simpleSound", inPlace := ["internal/bytealg.abigen_runtime_cmpstring"], unfollowed := true, recurses := true, named := ["math/bits.deBruijn64tab"], apart := false, laid := [("math/bits.deBruijn64tab", laid_math_bits_deBruijn64tab)], narrowed := true }
def SimpleSoundUptoSaid : Prop := simpleSoundUptoRow.holds Tryz.pinned (OpenSpec.upto simpleSoundSpec)

/-- 'crupperlaw13.SimpleWitness', WHERE WHAT IT READS IS OF BULK AT MOST 1048576: true; the input reads as it did. -/
def simpleWitnessUptoRow : OpenClaim := { program := "ytcmdhfccdkjenaagreatdoor", sum := "dcb1aabfe11e299cb8aa6f63f0f612c6f5f6a8b63945c6f7068c903693b6fef4", func := "crupper/crupperlaw13.SimpleWitness", spec := "simpleWitness", inPlace := ["internal/bytealg.abigen_runtime_cmpstring"], unfollowed := true, recurses := true, named := ["math/bits.deBruijn64tab"], apart := false, laid := [("math/bits.deBruijn64tab", laid_math_bits_deBruijn64tab)], narrowed := true }
def SimpleWitnessUptoSaid : Prop := simpleWitnessUptoRow.holds Tryz.pinned (OpenSpec.upto simpleWitnessSpec)

/-- 'crupperlaw29.CostTells', WHERE WHAT IT READS IS OF BULK AT MOST 1048576: true; the input reads as it did. -/
def costTellsUptoRow : OpenClaim := { program := "ytcmdhfccdkjenaagreatdoor", sum := "dcb1aabfe11e299cb8aa6f63f0f612c6f5f6a8b63945c6f7068c903693b6fef4", func := "crupper/crupperlaw29.CostTells", spec := "costTells", inPlace := ["internal/bytealg.abigen_runtime_cmpstring"], unfollowed := true, recurses := true, named := ["math/bits.deBruijn64tab"], apart := false, laid := [("math/bits.deBruijn64tab", laid_math_bits_deBruijn64tab)], narrowed := true }
def CostTellsUptoSaid : Prop := costTellsUptoRow.holds Tryz.pinned (OpenSpec.upto costTellsSpec)

/-- 'crupperlaw29.CostHolds', WHERE WHAT IT READS IS OF BULK AT MOST 1048576: true; the input reads as it did. -/
def costHoldsUptoRow : OpenClaim := { program := "ytcmdhfccdkjenaagreatdoor", sum := "dcb1aabfe11e299cb8aa6f63f0f612c6f5f6a8b63945c6f7068c903693b6fef4", func := "crupper/crupperlaw29.CostHolds", spec := "costHolds", inPlace := ["internal/bytealg.abigen_runtime_cmpstring"], unfollowed := true, recurses := true, named := ["math/bits.deBruijn64tab"], apart := false, laid := [("math/bits.deBruijn64tab", laid_math_bits_deBruijn64tab)], narrowed := true }
def CostHoldsUptoSaid : Prop := costHoldsUptoRow.holds Tryz.pinned (OpenSpec.upto costHoldsSpec)

/-- 'crupperlaw41.MatrixTells', WHERE WHAT IT READS IS OF BULK AT MOST 1048576: true; the input reads as it did. -/
def matrixTellsUptoRow : OpenClaim := { program := "ytcmdhfccdkjenaagreatdoor", sum := "dcb1aabfe11e299cb8aa6f63f0f612c6f5f6a8b63945c6f7068c903693b6fef4", func := "crupper/crupperlaw41.MatrixTells", spec := "matrixTells", inPlace := ["internal/bytealg.abigen_runtime_cmpstring", "internal/abi.NoEscape", "internal/bytealg.MakeNoZero"], unfollowed := true, recurses := true, named := ["math/bits.deBruijn64tab"], apart := false, laid := [("math/bits.deBruijn64tab", laid_math_bits_deBruijn64tab)], narrowed := true }
def MatrixTellsUptoSaid : Prop := matrixTellsUptoRow.holds Tryz.pinned (OpenSpec.upto matrixTellsSpec)

/-- 'crupperlaw41.MatrixHolds', WHERE WHAT IT READS IS OF BULK AT MOST 1048576: true; the input reads as it did. -/
def matrixHoldsUptoRow : OpenClaim := { program := "ytcmdhfccdkjenaagreatdoor", sum := "dcb1aabfe11e299cb8aa6f63f0f612c6f5f6a8b63945c6f7068c903693b6fef4", func := "crupper/crupperlaw41.MatrixHolds", spec := "matrixHolds", inPlace := ["internal/bytealg.abigen_runtime_cmpstring", "internal/abi.NoEscape", "internal/bytealg.MakeNoZero"], unfollowed := true, recurses := true, named := ["math/bits.deBruijn64tab"], apart := false, laid := [("math/bits.deBruijn64tab", laid_math_bits_deBruijn64tab)], narrowed := true }
def MatrixHoldsUptoSaid : Prop := matrixHoldsUptoRow.holds Tryz.pinned (OpenSpec.upto matrixHoldsSpec)

/-- 'crupperlaw41.MatrixLines', WHERE WHAT IT READS IS OF BULK AT MOST 1048576: true; the input reads as it did. -/
def matrixLinesUptoRow : OpenClaim := { program := "ytcmdhfccdkjenaagreatdoor", sum := "dcb1aabfe11e299cb8aa6f63f0f612c6f5f6a8b63945c6f7068c903693b6fef4", func := "crupper/crupperlaw41.MatrixLines", spec := "matrixLines", inPlace := ["internal/bytealg.abigen_runtime_cmpstring", "internal/abi.NoEscape", "internal/bytealg.MakeNoZero"], unfollowed := true, recurses := true, named := ["math/bits.deBruijn64tab"], apart := false, laid := [("math/bits.deBruijn64tab", laid_math_bits_deBruijn64tab)], narrowed := true }
def MatrixLinesUptoSaid : Prop := matrixLinesUptoRow.holds Tryz.pinned (OpenSpec.upto matrixLinesSpec)

/-- 'crupperlaw42.AdviseHolds', WHERE WHAT IT READS IS OF BULK AT MOST 1048576: true; the input reads as it did. -/
def adviseHoldsUptoRow : OpenClaim := { program := "ytcmdhfccdkjenaagreatdoor", sum := "dcb1aabfe11e299cb8aa6f63f0f612c6f5f6a8b63945c6f7068c903693b6fef4", func := "crupper/crupperlaw42.AdviseHolds", spec := "adviseHolds", inPlace := ["internal/bytealg.abigen_runtime_cmpstring"], unfollowed := true, recurses := true, named := ["math/bits.deBruijn64tab"], apart := false, laid := [("math/bits.deBruijn64tab", laid_math_bits_deBruijn64tab)], narrowed := true }
def AdviseHoldsUptoSaid : Prop := adviseHoldsUptoRow.holds Tryz.pinned (OpenSpec.upto adviseHoldsSpec)

/-- 'crupperlaw42.AdviseLeast', WHERE WHAT IT READS IS OF BULK AT MOST 1048576: true; the input reads as it did. -/
def adviseLeastUptoRow : OpenClaim := { program := "ytcmdhfccdkjenaagreatdoor", sum := "dcb1aabfe11e299cb8aa6f63f0f612c6f5f6a8b63945c6f7068c903693b6fef4", func := "crupper/crupperlaw42.AdviseLeast", spec := "adviseLeast", inPlace := ["internal/bytealg.abigen_runtime_cmpstring"], unfollowed := true, recurses := true, named := ["math/bits.deBruijn64tab"], apart := false, laid := [("math/bits.deBruijn64tab", laid_math_bits_deBruijn64tab)], narrowed := true }
def AdviseLeastUptoSaid : Prop := adviseLeastUptoRow.holds Tryz.pinned (OpenSpec.upto adviseLeastSpec)

end Rows
end Go.Proofs.YtcmdhfccdkjenaaGreatDoor
