/-
  NARROWER THAN 'FOR EVERY INPUT', by the rows' own cells (each row's printed sentence says how): LowHolds: laid · LowTells: laid · HighTells: laid · HighHolds: laid · HighSteps: laid · GraphSpare: laid · GraphIdle: laid · SimpleDecides: laid · SimpleSatisfies: laid · SimpleSound: laid · SimpleWitness: laid.
  DERIVED. THE GIVEN ROWS OF THIS SEAT. 11 by the template 'for every input the law returns true; each argument reads behind the call as it read before'; 0 by the template 'total and deterministic' (their statements: YtnnieegddbcfcaaGreatDoorTotals.lean).
  GIVEN WITH THE SEED: the statements are not yours to turn. If you find one false, say at which input.
  Laid BY PROGRAM, IN A SANDBOX (cutbox-rows.mjs): the forced cells as the released guide's own fill.sh prints them over the translation 47aa774b70373992… (all of the seat's roots in one cut). By AI agents, Wed Nov 11 2026. No macro, syntax, notation, axiom, sorry.
-/
import Derived.Test.YtnnieegddbcfcaaGreatDoorChecked
import GoSem.Claim
import GoSem.ClaimJoined
import GoSem.ClaimMapViews
import Derived.JoinedTies
import Derived.KernelRfl
namespace Go.Proofs.YtnnieegddbcfcaaGreatDoor
/- THE CELL 'sum', in the pinned program and in every row, IS THE sha256 OF THE DUMP (.gsa) THAT YtnnieegddbcfcaaGreatDoorProg.lean LOADS. Nothing in Lean hashes anything: it is a label: what it is worth is what the hold of that sum in a sandbox is worth. -/
noncomputable def Tryz.pinned : Pinned := { name := "ytnnieegddbcfcaagreatdoor", sum := "47aa774b70373992bae09bffbb98941bd367366ce184ecd90fb159fd57ec21d3", checked := Tryz.checked }
namespace Rows
def none {H : Type} : Left H := { results := [], args := [] }

/- WHAT THE LISTED PACKAGE-LEVEL VARIABLES READ AS WHEN THE CALL BEGINS. Each datum BY PROGRAM (the guide's laid-datum.mjs) off the statement by which the dump's own 'gosem.cut.vars' lays the variable. In a bare row this is a premise. The card (YtnnieegddbcfcaaGreatDoorCards.lean) ties it to the program's text. -/
def laid_math_bits_deBruijn64tab {H : Type} : DataW H := .agg [.lit (.int .u8 0), .lit (.int .u8 1), .lit (.int .u8 56), .lit (.int .u8 2), .lit (.int .u8 57), .lit (.int .u8 49), .lit (.int .u8 28), .lit (.int .u8 3), .lit (.int .u8 61), .lit (.int .u8 58), .lit (.int .u8 42), .lit (.int .u8 50), .lit (.int .u8 38), .lit (.int .u8 29), .lit (.int .u8 17), .lit (.int .u8 4), .lit (.int .u8 62), .lit (.int .u8 47), .lit (.int .u8 59), .lit (.int .u8 36), .lit (.int .u8 45), .lit (.int .u8 43), .lit (.int .u8 51), .lit (.int .u8 22), .lit (.int .u8 53), .lit (.int .u8 39), .lit (.int .u8 33), .lit (.int .u8 30), .lit (.int .u8 24), .lit (.int .u8 18), .lit (.int .u8 12), .lit (.int .u8 5), .lit (.int .u8 63), .lit (.int .u8 55), .lit (.int .u8 48), .lit (.int .u8 27), .lit (.int .u8 60), .lit (.int .u8 41), .lit (.int .u8 37), .lit (.int .u8 16), .lit (.int .u8 46), .lit (.int .u8 35), .lit (.int .u8 44), .lit (.int .u8 21), .lit (.int .u8 52), .lit (.int .u8 32), .lit (.int .u8 23), .lit (.int .u8 11), .lit (.int .u8 54), .lit (.int .u8 26), .lit (.int .u8 40), .lit (.int .u8 15), .lit (.int .u8 34), .lit (.int .u8 20), .lit (.int .u8 31), .lit (.int .u8 10), .lit (.int .u8 25), .lit (.int .u8 14), .lit (.int .u8 19), .lit (.int .u8 9), .lit (.int .u8 13), .lit (.int .u8 8), .lit (.int .u8 7), .lit (.int .u8 6)]

/-- 'crupperlaw11.LowHolds': WHATEVER THE INPUT: true; the input reads as it did. -/
def lowHoldsSpec : ChangeSpec := { name := "lowHolds", fn := fun _ => fun
  | [d1, d2, d3] => { results := [.lit (.bool true)], args := [d1, d2, d3] }
  | _ => none }
def lowHoldsRow : OpenClaim := { program := "ytnnieegddbcfcaagreatdoor", sum := "47aa774b70373992bae09bffbb98941bd367366ce184ecd90fb159fd57ec21d3", func := "crupper/crupperlaw11.LowHolds", spec := "lowHolds", inPlace := ["internal/bytealg.abigen_runtime_cmpstring"], unfollowed := true, recurses := true, named := ["math/bits.deBruijn64tab"], plainKeys := false, apart := false, laid := [("math/bits.deBruijn64tab", laid_math_bits_deBruijn64tab)] }
def LowHoldsSaid : Prop := lowHoldsRow.holds Tryz.pinned (OpenSpec.ofChange lowHoldsSpec)

/-- ITS FALSE NEIGHBOUR: 'it returns false'. Refute it at one input. -/
def lowHoldsWrong : ChangeSpec := { name := "lowHolds", fn := fun _ => fun
  | [d1, d2, d3] => { results := [.lit (.bool false)], args := [d1, d2, d3] }
  | _ => none }
def LowHoldsWrongFalsely : Prop := lowHoldsRow.holds Tryz.pinned (OpenSpec.ofChange lowHoldsWrong)

/-- 'crupperlaw11.LowTells': WHATEVER THE INPUT: true; the input reads as it did. -/
def lowTellsSpec : ChangeSpec := { name := "lowTells", fn := fun _ => fun
  | [d1, d2] => { results := [.lit (.bool true)], args := [d1, d2] }
  | _ => none }
def lowTellsRow : OpenClaim := { program := "ytnnieegddbcfcaagreatdoor", sum := "47aa774b70373992bae09bffbb98941bd367366ce184ecd90fb159fd57ec21d3", func := "crupper/crupperlaw11.LowTells", spec := "lowTells", inPlace := ["internal/bytealg.abigen_runtime_cmpstring"], unfollowed := true, recurses := true, named := ["math/bits.deBruijn64tab"], plainKeys := false, apart := false, laid := [("math/bits.deBruijn64tab", laid_math_bits_deBruijn64tab)] }
def LowTellsSaid : Prop := lowTellsRow.holds Tryz.pinned (OpenSpec.ofChange lowTellsSpec)

/-- ITS FALSE NEIGHBOUR: 'it returns false'. Refute it at one input. -/
def lowTellsWrong : ChangeSpec := { name := "lowTells", fn := fun _ => fun
  | [d1, d2] => { results := [.lit (.bool false)], args := [d1, d2] }
  | _ => none }
def LowTellsWrongFalsely : Prop := lowTellsRow.holds Tryz.pinned (OpenSpec.ofChange lowTellsWrong)

/-- 'crupperlaw12.HighTells': WHATEVER THE INPUT: true; the input reads as it did. -/
def highTellsSpec : ChangeSpec := { name := "highTells", fn := fun _ => fun
  | [d1, d2] => { results := [.lit (.bool true)], args := [d1, d2] }
  | _ => none }
def highTellsRow : OpenClaim := { program := "ytnnieegddbcfcaagreatdoor", sum := "47aa774b70373992bae09bffbb98941bd367366ce184ecd90fb159fd57ec21d3", func := "crupper/crupperlaw12.HighTells", spec := "highTells", inPlace := ["internal/bytealg.abigen_runtime_cmpstring"], unfollowed := true, recurses := true, named := ["math/bits.deBruijn64tab"], plainKeys := false, apart := false, laid := [("math/bits.deBruijn64tab", laid_math_bits_deBruijn64tab)] }
def HighTellsSaid : Prop := highTellsRow.holds Tryz.pinned (OpenSpec.ofChange highTellsSpec)

/-- ITS FALSE NEIGHBOUR: 'it returns false'. Refute it at one input. -/
def highTellsWrong : ChangeSpec := { name := "highTells", fn := fun _ => fun
  | [d1, d2] => { results := [.lit (.bool false)], args := [d1, d2] }
  | _ => none }
def HighTellsWrongFalsely : Prop := highTellsRow.holds Tryz.pinned (OpenSpec.ofChange highTellsWrong)

/-- 'crupperlaw12.HighHolds': WHATEVER THE INPUT: true; the input reads as it did. -/
def highHoldsSpec : ChangeSpec := { name := "highHolds", fn := fun _ => fun
  | [d1, d2] => { results := [.lit (.bool true)], args := [d1, d2] }
  | _ => none }
def highHoldsRow : OpenClaim := { program := "ytnnieegddbcfcaagreatdoor", sum := "47aa774b70373992bae09bffbb98941bd367366ce184ecd90fb159fd57ec21d3", func := "crupper/crupperlaw12.HighHolds", spec := "highHolds", inPlace := ["internal/bytealg.abigen_runtime_cmpstring"], unfollowed := true, recurses := true, named := ["math/bits.deBruijn64tab"], plainKeys := false, apart := false, laid := [("math/bits.deBruijn64tab", laid_math_bits_deBruijn64tab)] }
def HighHoldsSaid : Prop := highHoldsRow.holds Tryz.pinned (OpenSpec.ofChange highHoldsSpec)

/-- ITS FALSE NEIGHBOUR: 'it returns false'. Refute it at one input. -/
def highHoldsWrong : ChangeSpec := { name := "highHolds", fn := fun _ => fun
  | [d1, d2] => { results := [.lit (.bool false)], args := [d1, d2] }
  | _ => none }
def HighHoldsWrongFalsely : Prop := highHoldsRow.holds Tryz.pinned (OpenSpec.ofChange highHoldsWrong)

/-- 'crupperlaw12.HighSteps': WHATEVER THE INPUT: true; the input reads as it did. -/
def highStepsSpec : ChangeSpec := { name := "highSteps", fn := fun _ => fun
  | [d1, d2, d3] => { results := [.lit (.bool true)], args := [d1, d2, d3] }
  | _ => none }
def highStepsRow : OpenClaim := { program := "ytnnieegddbcfcaagreatdoor", sum := "47aa774b70373992bae09bffbb98941bd367366ce184ecd90fb159fd57ec21d3", func := "crupper/crupperlaw12.HighSteps", spec := "highSteps", inPlace := ["internal/bytealg.abigen_runtime_cmpstring"], unfollowed := true, recurses := true, named := ["math/bits.deBruijn64tab"], plainKeys := false, apart := false, laid := [("math/bits.deBruijn64tab", laid_math_bits_deBruijn64tab)] }
def HighStepsSaid : Prop := highStepsRow.holds Tryz.pinned (OpenSpec.ofChange highStepsSpec)

/-- ITS FALSE NEIGHBOUR: 'it returns false'. Refute it at one input. -/
def highStepsWrong : ChangeSpec := { name := "highSteps", fn := fun _ => fun
  | [d1, d2, d3] => { results := [.lit (.bool false)], args := [d1, d2, d3] }
  | _ => none }
def HighStepsWrongFalsely : Prop := highStepsRow.holds Tryz.pinned (OpenSpec.ofChange highStepsWrong)

/-- 'crupperlaw30.GraphSpare': WHATEVER THE INPUT: true; the input reads as it did. -/
def graphSpareSpec : ChangeSpec := { name := "graphSpare", fn := fun _ => fun
  | [d] => { results := [.lit (.bool true)], args := [d] }
  | _ => none }
def graphSpareRow : OpenClaim := { program := "ytnnieegddbcfcaagreatdoor", sum := "47aa774b70373992bae09bffbb98941bd367366ce184ecd90fb159fd57ec21d3", func := "crupper/crupperlaw30.GraphSpare", spec := "graphSpare", inPlace := ["internal/bytealg.abigen_runtime_cmpstring"], unfollowed := true, recurses := true, named := ["math/bits.deBruijn64tab"], plainKeys := false, apart := false, laid := [("math/bits.deBruijn64tab", laid_math_bits_deBruijn64tab)] }
def GraphSpareSaid : Prop := graphSpareRow.holds Tryz.pinned (OpenSpec.ofChange graphSpareSpec)

/-- ITS FALSE NEIGHBOUR: 'it returns false'. Refute it at one input. -/
def graphSpareWrong : ChangeSpec := { name := "graphSpare", fn := fun _ => fun
  | [d] => { results := [.lit (.bool false)], args := [d] }
  | _ => none }
def GraphSpareWrongFalsely : Prop := graphSpareRow.holds Tryz.pinned (OpenSpec.ofChange graphSpareWrong)

/-- 'crupperlaw30.GraphIdle': WHATEVER THE INPUT: true; the input reads as it did. -/
def graphIdleSpec : ChangeSpec := { name := "graphIdle", fn := fun _ => fun
  | [d1, d2] => { results := [.lit (.bool true)], args := [d1, d2] }
  | _ => none }
def graphIdleRow : OpenClaim := { program := "ytnnieegddbcfcaagreatdoor", sum := "47aa774b70373992bae09bffbb98941bd367366ce184ecd90fb159fd57ec21d3", func := "crupper/crupperlaw30.GraphIdle", spec := "graphIdle", inPlace := ["internal/bytealg.abigen_runtime_cmpstring"], unfollowed := true, recurses := true, named := ["math/bits.deBruijn64tab"], plainKeys := false, apart := false, laid := [("math/bits.deBruijn64tab", laid_math_bits_deBruijn64tab)] }
def GraphIdleSaid : Prop := graphIdleRow.holds Tryz.pinned (OpenSpec.ofChange graphIdleSpec)

/-- ITS FALSE NEIGHBOUR: 'it returns false'. Refute it at one input. -/
def graphIdleWrong : ChangeSpec := { name := "graphIdle", fn := fun _ => fun
  | [d1, d2] => { results := [.lit (.bool false)], args := [d1, d2] }
  | _ => none }
def GraphIdleWrongFalsely : Prop := graphIdleRow.holds Tryz.pinned (OpenSpec.ofChange graphIdleWrong)

/-- 'crupperlaw13.SimpleDecides': WHATEVER THE INPUT: true; the input reads as it did. -/
def simpleDecidesSpec : ChangeSpec := { name := "simpleDecides", fn := fun _ => fun
  | [d1, d2] => { results := [.lit (.bool true)], args := [d1, d2] }
  | _ => none }
def simpleDecidesRow : OpenClaim := { program := "ytnnieegddbcfcaagreatdoor", sum := "47aa774b70373992bae09bffbb98941bd367366ce184ecd90fb159fd57ec21d3", func := "crupper/crupperlaw13.SimpleDecides", spec := "simpleDecides", inPlace := ["internal/bytealg.abigen_runtime_cmpstring"], unfollowed := true, recurses := true, named := ["math/bits.deBruijn64tab"], plainKeys := false, apart := false, laid := [("math/bits.deBruijn64tab", laid_math_bits_deBruijn64tab)] }
def SimpleDecidesSaid : Prop := simpleDecidesRow.holds Tryz.pinned (OpenSpec.ofChange simpleDecidesSpec)

/-- ITS FALSE NEIGHBOUR: 'it returns false'. Refute it at one input. -/
def simpleDecidesWrong : ChangeSpec := { name := "simpleDecides", fn := fun _ => fun
  | [d1, d2] => { results := [.lit (.bool false)], args := [d1, d2] }
  | _ => none }
def SimpleDecidesWrongFalsely : Prop := simpleDecidesRow.holds Tryz.pinned (OpenSpec.ofChange simpleDecidesWrong)

/-- 'crupperlaw13.SimpleSatisfies': WHATEVER THE INPUT: true; the input reads as it did. -/
def simpleSatisfiesSpec : ChangeSpec := { name := "simpleSatisfies", fn := fun _ => fun
  | [d1, d2] => { results := [.lit (.bool true)], args := [d1, d2] }
  | _ => none }
def simpleSatisfiesRow : OpenClaim := { program := "ytnnieegddbcfcaagreatdoor", sum := "47aa774b70373992bae09bffbb98941bd367366ce184ecd90fb159fd57ec21d3", func := "crupper/crupperlaw13.SimpleSatisfies", spec := "simpleSatisfies", inPlace := ["internal/bytealg.abigen_runtime_cmpstring"], unfollowed := true, recurses := true, named := ["math/bits.deBruijn64tab"], plainKeys := false, apart := false, laid := [("math/bits.deBruijn64tab", laid_math_bits_deBruijn64tab)] }
def SimpleSatisfiesSaid : Prop := simpleSatisfiesRow.holds Tryz.pinned (OpenSpec.ofChange simpleSatisfiesSpec)

/-- ITS FALSE NEIGHBOUR: 'it returns false'. Refute it at one input. -/
def simpleSatisfiesWrong : ChangeSpec := { name := "simpleSatisfies", fn := fun _ => fun
  | [d1, d2] => { results := [.lit (.bool false)], args := [d1, d2] }
  | _ => none }
def SimpleSatisfiesWrongFalsely : Prop := simpleSatisfiesRow.holds Tryz.pinned (OpenSpec.ofChange simpleSatisfiesWrong)

/-- 'crupperlaw13.SimpleSound': WHATEVER THE INPUT: true; the input reads as it did. -/
def simpleSoundSpec : ChangeSpec := { name := "simpleSound", fn := fun _ => fun
  | [d1, d2, d3] => { results := [.lit (.bool true)], args := [d1, d2, d3] }
  | _ => none }
def simpleSoundRow : OpenClaim := { program := "ytnnieegddbcfcaagreatdoor", sum := "47aa774b70373992bae09bffbb98941bd367366ce184ecd90fb159fd57ec21d3", func := "crupper/crupperlaw13.SimpleSound", spec := "simpleSound", inPlace := ["internal/bytealg.abigen_runtime_cmpstring"], unfollowed := true, recurses := true, named := ["math/bits.deBruijn64tab"], plainKeys := false, apart := false, laid := [("math/bits.deBruijn64tab", laid_math_bits_deBruijn64tab)] }
def SimpleSoundSaid : Prop := simpleSoundRow.holds Tryz.pinned (OpenSpec.ofChange simpleSoundSpec)

/-- ITS FALSE NEIGHBOUR: 'it returns false'. Refute it at one input. -/
def simpleSoundWrong : ChangeSpec := { name := "simpleSound", fn := fun _ => fun
  | [d1, d2, d3] => { results := [.lit (.bool false)], args := [d1, d2, d3] }
  | _ => none }
def SimpleSoundWrongFalsely : Prop := simpleSoundRow.holds Tryz.pinned (OpenSpec.ofChange simpleSoundWrong)

/-- 'crupperlaw13.SimpleWitness': WHATEVER THE INPUT: true; the input reads as it did. -/
def simpleWitnessSpec : ChangeSpec := { name := "simpleWitness", fn := fun _ => fun
  | [d1, d2] => { results := [.lit (.bool true)], args := [d1, d2] }
  | _ => none }
def simpleWitnessRow : OpenClaim := { program := "ytnnieegddbcfcaagreatdoor", sum := "47aa774b70373992bae09bffbb98941bd367366ce184ecd90fb159fd57ec21d3", func := "crupper/crupperlaw13.SimpleWitness", spec := "simpleWitness", inPlace := ["internal/bytealg.abigen_runtime_cmpstring"], unfollowed := true, recurses := true, named := ["math/bits.deBruijn64tab"], plainKeys := false, apart := false, laid := [("math/bits.deBruijn64tab", laid_math_bits_deBruijn64tab)] }
def SimpleWitnessSaid : Prop := simpleWitnessRow.holds Tryz.pinned (OpenSpec.ofChange simpleWitnessSpec)

/-- ITS FALSE NEIGHBOUR: 'it returns false'. Refute it at one input. -/
def simpleWitnessWrong : ChangeSpec := { name := "simpleWitness", fn := fun _ => fun
  | [d1, d2] => { results := [.lit (.bool false)], args := [d1, d2] }
  | _ => none }
def SimpleWitnessWrongFalsely : Prop := simpleWitnessRow.holds Tryz.pinned (OpenSpec.ofChange simpleWitnessWrong)

/- THE SECOND FORM. 'bulk': how many values and letters a reading holds, each counted each time it is reached (what is shared counts as often as it is met; a slice's spare places count too). A statement '..UptoSaid' is the law's where the arguments, and the package variables that the reading takes, are together of bulk at most 1048576: NARROWER than '..Said'. Prove '..Said' where nothing that the law and all that it calls make is longer than what came in: it says more and counts as full. Else prove '..UptoSaid'. A law counts once. -/
mutual
def uptoBulk {H : Type} : DataW H → Nat
  | .lit (.string bytes) => bytes.length + 1
  | .lit _ => 1
  | .nil => 1
  | .ptr d => uptoBulk d + 1
  | .slice elems spare => uptoBulkAll elems + uptoBulkAll spare + 1
  | .agg parts => uptoBulkAll parts + 1
  | .iface _ d => uptoBulk d + 1
  | .map entries => uptoBulkEntries entries + 1
  | .held _ => 1
def uptoBulkAll {H : Type} : List (DataW H) → Nat
  | [] => 0
  | d :: r => uptoBulk d + uptoBulkAll r
def uptoBulkEntries {H : Type} : List (Lit × DataW H) → Nat
  | [] => 0
  | x :: r => uptoBulkEntry x + uptoBulkEntries r
def uptoBulkEntry {H : Type} : Lit × DataW H → Nat
  | (.string bytes, d) => bytes.length + uptoBulk d + 1
  | (_, d) => uptoBulk d + 1
 end
def uptoSmall : (H : Type) → List (DataW H) → Bool := fun _ ds => decide (uptoBulkAll ds ≤ 1048576)
def OpenSpec.upto (s : _root_.Go.ChangeSpec) : _root_.Go.OpenSpec := { _root_.Go.OpenSpec.ofChange s with cond := some uptoSmall }

/-- 'crupperlaw11.LowHolds', WHERE WHAT IT READS IS OF BULK AT MOST 1048576: true; the input reads as it did. -/
def lowHoldsUptoRow : OpenClaim := { program := "ytnnieegddbcfcaagreatdoor", sum := "47aa774b70373992bae09bffbb98941bd367366ce184ecd90fb159fd57ec21d3", func := "crupper/crupperlaw11.LowHolds", spec := "lowHolds", inPlace := ["internal/bytealg.abigen_runtime_cmpstring"], unfollowed := true, recurses := true, named := ["math/bits.deBruijn64tab"], plainKeys := false, apart := false, laid := [("math/bits.deBruijn64tab", laid_math_bits_deBruijn64tab)], narrowed := true }
def LowHoldsUptoSaid : Prop := lowHoldsUptoRow.holds Tryz.pinned (OpenSpec.upto lowHoldsSpec)

/-- 'crupperlaw11.LowTells', WHERE WHAT IT READS IS OF BULK AT MOST 1048576: true; the input reads as it did. -/
def lowTellsUptoRow : OpenClaim := { program := "ytnnieegddbcfcaagreatdoor", sum := "47aa774b70373992bae09bffbb98941bd367366ce184ecd90fb159fd57ec21d3", func := "crupper/crupperlaw11.LowTells", spec := "lowTells", inPlace := ["internal/bytealg.abigen_runtime_cmpstring"], unfollowed := true, recurses := true, named := ["math/bits.deBruijn64tab"], plainKeys := false, apart := false, laid := [("math/bits.deBruijn64tab", laid_math_bits_deBruijn64tab)], narrowed := true }
def LowTellsUptoSaid : Prop := lowTellsUptoRow.holds Tryz.pinned (OpenSpec.upto lowTellsSpec)

/-- 'crupperlaw12.HighTells', WHERE WHAT IT READS IS OF BULK AT MOST 1048576: true; the input reads as it did. -/
def highTellsUptoRow : OpenClaim := { program := "ytnnieegddbcfcaagreatdoor", sum := "47aa774b70373992bae09bffbb98941bd367366ce184ecd90fb159fd57ec21d3", func := "crupper/crupperlaw12.HighTells", spec := "highTells", inPlace := ["internal/bytealg.abigen_runtime_cmpstring"], unfollowed := true, recurses := true, named := ["math/bits.deBruijn64tab"], plainKeys := false, apart := false, laid := [("math/bits.deBruijn64tab", laid_math_bits_deBruijn64tab)], narrowed := true }
def HighTellsUptoSaid : Prop := highTellsUptoRow.holds Tryz.pinned (OpenSpec.upto highTellsSpec)

/-- 'crupperlaw12.HighHolds', WHERE WHAT IT READS IS OF BULK AT MOST 1048576: true; the input reads as it did. -/
def highHoldsUptoRow : OpenClaim := { program := "ytnnieegddbcfcaagreatdoor", sum := "47aa774b70373992bae09bffbb98941bd367366ce184ecd90fb159fd57ec21d3", func := "crupper/crupperlaw12.HighHolds", spec := "highHolds", inPlace := ["internal/bytealg.abigen_runtime_cmpstring"], unfollowed := true, recurses := true, named := ["math/bits.deBruijn64tab"], plainKeys := false, apart := false, laid := [("math/bits.deBruijn64tab", laid_math_bits_deBruijn64tab)], narrowed := true }
def HighHoldsUptoSaid : Prop := highHoldsUptoRow.holds Tryz.pinned (OpenSpec.upto highHoldsSpec)

/-- 'crupperlaw12.HighSteps', WHERE WHAT IT READS IS OF BULK AT MOST 1048576: true; the input reads as it did. -/
def highStepsUptoRow : OpenClaim := { program := "ytnnieegddbcfcaagreatdoor", sum := "47aa774b70373992bae09bffbb98941bd367366ce184ecd90fb159fd57ec21d3", func := "crupper/crupperlaw12.HighSteps", spec := "highSteps", inPlace := ["internal/bytealg.abigen_runtime_cmpstring"], unfollowed := true, recurses := true, named := ["math/bits.deBruijn64tab"], plainKeys := false, apart := false, laid := [("math/bits.deBruijn64tab", laid_math_bits_deBruijn64tab)], narrowed := true }
def HighStepsUptoSaid : Prop := highStepsUptoRow.holds Tryz.pinned (OpenSpec.upto highStepsSpec)

/-- 'crupperlaw30.GraphSpare', WHERE WHAT IT READS IS OF BULK AT MOST 1048576: true; the input reads as it did. -/
def graphSpareUptoRow : OpenClaim := { program := "ytnnieegddbcfcaagreatdoor", sum := "47aa774b70373992bae09bffbb98941bd367366ce184ecd90fb159fd57ec21d3", func := "crupper/crupperlaw30.GraphSpare", spec := "graphSpare", inPlace := ["internal/bytealg.abigen_runtime_cmpstring"], unfollowed := true, recurses := true, named := ["math/bits.deBruijn64tab"], plainKeys := false, apart := false, laid := [("math/bits.deBruijn64tab", laid_math_bits_deBruijn64tab)], narrowed := true }
def GraphSpareUptoSaid : Prop := graphSpareUptoRow.holds Tryz.pinned (OpenSpec.upto graphSpareSpec)

/-- 'crupperlaw30.GraphIdle', WHERE WHAT IT READS IS OF BULK AT MOST 1048576: true; the input reads as it did. -/
def graphIdleUptoRow : OpenClaim := { program := "ytnnieegddbcfcaagreatdoor", sum := "47aa774b70373992bae09bffbb98941bd367366ce184ecd90fb159fd57ec21d3", func := "crupper/crupperlaw30.GraphIdle", spec := "graphIdle", inPlace := ["internal/bytealg.abigen_runtime_cmpstring"], unfollowed := true, recurses := true, named := ["math/bits.deBruijn64tab"], plainKeys := false, apart := false, laid := [("math/bits.deBruijn64tab", laid_math_bits_deBruijn64tab)], narrowed := true }
def GraphIdleUptoSaid : Prop := graphIdleUptoRow.holds Tryz.pinned (OpenSpec.upto graphIdleSpec)

/-- 'crupperlaw13.SimpleDecides', WHERE WHAT IT READS IS OF BULK AT MOST 1048576: true; the input reads as it did. -/
def simpleDecidesUptoRow : OpenClaim := { program := "ytnnieegddbcfcaagreatdoor", sum := "47aa774b70373992bae09bffbb98941bd367366ce184ecd90fb159fd57ec21d3", func := "crupper/crupperlaw13.SimpleDecides", spec := "simpleDecides", inPlace := ["internal/bytealg.abigen_runtime_cmpstring"], unfollowed := true, recurses := true, named := ["math/bits.deBruijn64tab"], plainKeys := false, apart := false, laid := [("math/bits.deBruijn64tab", laid_math_bits_deBruijn64tab)], narrowed := true }
def SimpleDecidesUptoSaid : Prop := simpleDecidesUptoRow.holds Tryz.pinned (OpenSpec.upto simpleDecidesSpec)

/-- 'crupperlaw13.SimpleSatisfies', WHERE WHAT IT READS IS OF BULK AT MOST 1048576: true; the input reads as it did. -/
def simpleSatisfiesUptoRow : OpenClaim := { program := "ytnnieegddbcfcaagreatdoor", sum := "47aa774b70373992bae09bffbb98941bd367366ce184ecd90fb159fd57ec21d3", func := "crupper/crupperlaw13.SimpleSatisfies", spec := "simpleSatisfies", inPlace := ["internal/bytealg.abigen_runtime_cmpstring"], unfollowed := true, recurses := true, named := ["math/bits.deBruijn64tab"], plainKeys := false, apart := false, laid := [("math/bits.deBruijn64tab", laid_math_bits_deBruijn64tab)], narrowed := true }
def SimpleSatisfiesUptoSaid : Prop := simpleSatisfiesUptoRow.holds Tryz.pinned (OpenSpec.upto simpleSatisfiesSpec)

/-- 'crupperlaw13.SimpleSound', WHERE WHAT IT READS IS OF BULK AT MOST 1048576: true; the input reads as it did. -/
def simpleSoundUptoRow : OpenClaim := { program := "ytnnieegddbcfcaagreatdoor", sum := "47aa774b70373992bae09bffbb98941bd367366ce184ecd90fb159fd57ec21d3", func := "crupper/crupperlaw13.SimpleSound", spec := "simpleSound", inPlace := ["internal/bytealg.abigen_runtime_cmpstring"], unfollowed := true, recurses := true, named := ["math/bits.deBruijn64tab"], plainKeys := false, apart := false, laid := [("math/bits.deBruijn64tab", laid_math_bits_deBruijn64tab)], narrowed := true }
def SimpleSoundUptoSaid : Prop := simpleSoundUptoRow.holds Tryz.pinned (OpenSpec.upto simpleSoundSpec)

/-- 'crupperlaw13.SimpleWitness', WHERE WHAT IT READS IS OF BULK AT MOST 1048576: true; the input reads as it did. -/
def simpleWitnessUptoRow : OpenClaim := { program := "ytnnieegddbcfcaagreatdoor", sum := "47aa774b70373992bae09bffbb98941bd367366ce184ecd90fb159fd57ec21d3", func := "crupper/crupperlaw13.SimpleWitness", spec := "simpleWitness", inPlace := ["internal/bytealg.abigen_runtime_cmpstring"], unfollowed := true, recurses := true, named := ["math/bits.deBruijn64tab"], plainKeys := false, apart := false, laid := [("math/bits.deBruijn64tab", laid_math_bits_deBruijn64tab)], narrowed := true }
def SimpleWitnessUptoSaid : Prop := simpleWitnessUptoRow.holds Tryz.pinned (OpenSpec.upto simpleWitnessSpec)

end Rows
end Go.Proofs.YtnnieegddbcfcaaGreatDoor
