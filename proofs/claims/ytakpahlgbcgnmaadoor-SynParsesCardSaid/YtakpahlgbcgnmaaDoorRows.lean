/-
  NARROWER THAN 'FOR EVERY INPUT', by the rows' own cells (each row's printed sentence says how): ScanLines: laid · SynBack: laid · SynParses: laid · SynRight: laid · QueryParses: laid · QueryBack: laid · QueryRight: laid · SynOrder: laid.
  DERIVED. THE GIVEN ROWS OF THIS SEAT. 8 by the template 'for every input the law returns true; each argument reads behind the call as it read before'; 0 by the template 'total and deterministic' (their statements: YtakpahlgbcgnmaaDoorTotals.lean).
  GIVEN WITH THE SEED: the statements are not yours to turn. If you find one false, say at which input.
  Laid BY PROGRAM, IN A SANDBOX (cutbox-rows.mjs): the forced cells as the released guide's own fill.sh prints them over the translation 8990b70fce9885ae… (all of the seat's roots in one cut). By AI agents, Wed Nov 11 2026. No macro, syntax, notation, axiom, sorry.
-/
import Derived.Test.YtakpahlgbcgnmaaDoorChecked
import GoSem.PinnedTables
import GoSem.Claim
import GoSem.ClaimJoined
import GoSem.ClaimMapViews
import Derived.JoinedTies
import Derived.KernelRfl
namespace Go.Proofs.YtakpahlgbcgnmaaDoor
/- THE CELL 'sum', in the pinned program and in every row, IS THE sha256 OF THE DUMP (.gsa) THAT YtakpahlgbcgnmaaDoorProg.lean LOADS. Nothing in Lean hashes anything: it is a label: what it is worth is what the hold of that sum in a sandbox is worth. -/
noncomputable def Tryd.pinned : Pinned := { name := "ytakpahlgbcgnmaadoor", sum := "8990b70fce9885ae82ccd3b9485e916af60f8e2b3115aa12b6f26954fc8f8ad2", checked := Tryd.checked }
namespace Rows
def none {H : Type} : Left H := { results := [], args := [] }

/- WHAT THE LISTED PACKAGE-LEVEL VARIABLES READ AS WHEN THE CALL BEGINS. Each datum BY PROGRAM (the guide's laid-datum.mjs) off the statement by which the dump's own 'gosem.cut.vars' lays the variable. In a bare row this is a premise. The card (YtakpahlgbcgnmaaDoorCards.lean) ties it to the program's text. -/
def laid_unicode_utf8_acceptRanges {H : Type} : DataW H := .agg [.agg [.lit (.int .u8 128), .lit (.int .u8 191)], .agg [.lit (.int .u8 160), .lit (.int .u8 191)], .agg [.lit (.int .u8 128), .lit (.int .u8 159)], .agg [.lit (.int .u8 144), .lit (.int .u8 191)], .agg [.lit (.int .u8 128), .lit (.int .u8 143)], .agg [.lit (.int .u8 0), .lit (.int .u8 0)], .agg [.lit (.int .u8 0), .lit (.int .u8 0)], .agg [.lit (.int .u8 0), .lit (.int .u8 0)], .agg [.lit (.int .u8 0), .lit (.int .u8 0)], .agg [.lit (.int .u8 0), .lit (.int .u8 0)], .agg [.lit (.int .u8 0), .lit (.int .u8 0)], .agg [.lit (.int .u8 0), .lit (.int .u8 0)], .agg [.lit (.int .u8 0), .lit (.int .u8 0)], .agg [.lit (.int .u8 0), .lit (.int .u8 0)], .agg [.lit (.int .u8 0), .lit (.int .u8 0)], .agg [.lit (.int .u8 0), .lit (.int .u8 0)]]
/-- One of Go's own tables, pinned by name: the form's constant. -/
def laid_unicode_utf8_first : DataW Unit := Go.Pinned.utf8First

/-- 'crupperlaw02.ScanLines': WHATEVER THE INPUT: true; the input reads as it did. -/
def scanLinesSpec : ChangeSpec := { name := "scanLines", fn := fun _ => fun
  | [d] => { results := [.lit (.bool true)], args := [d] }
  | _ => none }
def scanLinesRow : OpenClaim := { program := "ytakpahlgbcgnmaadoor", sum := "8990b70fce9885ae82ccd3b9485e916af60f8e2b3115aa12b6f26954fc8f8ad2", func := "crupper/crupperlaw02.ScanLines", spec := "scanLines", inPlace := ["internal/bytealg.IndexByteString", "internal/bytealg.IndexString", "internal/abi.NoEscape"], unfollowed := true, recurses := true, named := ["internal/bytealg.MaxLen", "unicode/utf8.first", "unicode/utf8.acceptRanges"], apart := false, laid := [("unicode/utf8.acceptRanges", laid_unicode_utf8_acceptRanges), ("unicode/utf8.first", laid_unicode_utf8_first)] }
def ScanLinesSaid : Prop := scanLinesRow.holds Tryd.pinned (OpenSpec.ofChange scanLinesSpec)

/-- ITS FALSE NEIGHBOUR: 'it returns false'. Refute it at one input. -/
def scanLinesWrong : ChangeSpec := { name := "scanLines", fn := fun _ => fun
  | [d] => { results := [.lit (.bool false)], args := [d] }
  | _ => none }
def ScanLinesWrongFalsely : Prop := scanLinesRow.holds Tryd.pinned (OpenSpec.ofChange scanLinesWrong)

/-- 'crupperlaw03.SynBack': WHATEVER THE INPUT: true; the input reads as it did. -/
def synBackSpec : ChangeSpec := { name := "synBack", fn := fun _ => fun
  | [d1, d2, d3] => { results := [.lit (.bool true)], args := [d1, d2, d3] }
  | _ => none }
def synBackRow : OpenClaim := { program := "ytakpahlgbcgnmaadoor", sum := "8990b70fce9885ae82ccd3b9485e916af60f8e2b3115aa12b6f26954fc8f8ad2", func := "crupper/crupperlaw03.SynBack", spec := "synBack", inPlace := ["internal/bytealg.IndexByteString", "internal/bytealg.IndexString", "internal/bytealg.abigen_runtime_cmpstring"], unfollowed := true, recurses := true, named := ["internal/bytealg.MaxLen", "unicode/utf8.first", "unicode/utf8.acceptRanges"], apart := false, laid := [("unicode/utf8.acceptRanges", laid_unicode_utf8_acceptRanges), ("unicode/utf8.first", laid_unicode_utf8_first)] }
def SynBackSaid : Prop := synBackRow.holds Tryd.pinned (OpenSpec.ofChange synBackSpec)

/-- ITS FALSE NEIGHBOUR: 'it returns false'. Refute it at one input. -/
def synBackWrong : ChangeSpec := { name := "synBack", fn := fun _ => fun
  | [d1, d2, d3] => { results := [.lit (.bool false)], args := [d1, d2, d3] }
  | _ => none }
def SynBackWrongFalsely : Prop := synBackRow.holds Tryd.pinned (OpenSpec.ofChange synBackWrong)

/-- 'crupperlaw03.SynParses': WHATEVER THE INPUT: true; the input reads as it did. -/
def synParsesSpec : ChangeSpec := { name := "synParses", fn := fun _ => fun
  | [d] => { results := [.lit (.bool true)], args := [d] }
  | _ => none }
def synParsesRow : OpenClaim := { program := "ytakpahlgbcgnmaadoor", sum := "8990b70fce9885ae82ccd3b9485e916af60f8e2b3115aa12b6f26954fc8f8ad2", func := "crupper/crupperlaw03.SynParses", spec := "synParses", inPlace := ["internal/bytealg.IndexByteString", "internal/bytealg.IndexString", "internal/bytealg.abigen_runtime_cmpstring"], unfollowed := true, recurses := true, named := ["internal/bytealg.MaxLen", "unicode/utf8.first", "unicode/utf8.acceptRanges"], apart := false, laid := [("unicode/utf8.acceptRanges", laid_unicode_utf8_acceptRanges), ("unicode/utf8.first", laid_unicode_utf8_first)] }
def SynParsesSaid : Prop := synParsesRow.holds Tryd.pinned (OpenSpec.ofChange synParsesSpec)

/-- ITS FALSE NEIGHBOUR: 'it returns false'. Refute it at one input. -/
def synParsesWrong : ChangeSpec := { name := "synParses", fn := fun _ => fun
  | [d] => { results := [.lit (.bool false)], args := [d] }
  | _ => none }
def SynParsesWrongFalsely : Prop := synParsesRow.holds Tryd.pinned (OpenSpec.ofChange synParsesWrong)

/-- 'crupperlaw03.SynRight': WHATEVER THE INPUT: true; the input reads as it did. -/
def synRightSpec : ChangeSpec := { name := "synRight", fn := fun _ => fun
  | [d] => { results := [.lit (.bool true)], args := [d] }
  | _ => none }
def synRightRow : OpenClaim := { program := "ytakpahlgbcgnmaadoor", sum := "8990b70fce9885ae82ccd3b9485e916af60f8e2b3115aa12b6f26954fc8f8ad2", func := "crupper/crupperlaw03.SynRight", spec := "synRight", inPlace := ["internal/bytealg.IndexByteString", "internal/bytealg.IndexString", "internal/bytealg.abigen_runtime_cmpstring"], unfollowed := true, recurses := true, named := ["internal/bytealg.MaxLen", "unicode/utf8.first", "unicode/utf8.acceptRanges"], apart := false, laid := [("unicode/utf8.acceptRanges", laid_unicode_utf8_acceptRanges), ("unicode/utf8.first", laid_unicode_utf8_first)] }
def SynRightSaid : Prop := synRightRow.holds Tryd.pinned (OpenSpec.ofChange synRightSpec)

/-- ITS FALSE NEIGHBOUR: 'it returns false'. Refute it at one input. -/
def synRightWrong : ChangeSpec := { name := "synRight", fn := fun _ => fun
  | [d] => { results := [.lit (.bool false)], args := [d] }
  | _ => none }
def SynRightWrongFalsely : Prop := synRightRow.holds Tryd.pinned (OpenSpec.ofChange synRightWrong)

/-- 'crupperlaw04.QueryParses': WHATEVER THE INPUT: true; the input reads as it did. -/
def queryParsesSpec : ChangeSpec := { name := "queryParses", fn := fun _ => fun
  | [d] => { results := [.lit (.bool true)], args := [d] }
  | _ => none }
def queryParsesRow : OpenClaim := { program := "ytakpahlgbcgnmaadoor", sum := "8990b70fce9885ae82ccd3b9485e916af60f8e2b3115aa12b6f26954fc8f8ad2", func := "crupper/crupperlaw04.QueryParses", spec := "queryParses", inPlace := ["internal/bytealg.IndexByteString", "internal/bytealg.IndexString", "slices.overlaps[string]", "internal/abi.NoEscape", "internal/bytealg.MakeNoZero"], unfollowed := true, recurses := true, named := ["internal/bytealg.MaxLen", "unicode/utf8.first", "unicode/utf8.acceptRanges"], apart := false, laid := [("unicode/utf8.acceptRanges", laid_unicode_utf8_acceptRanges), ("unicode/utf8.first", laid_unicode_utf8_first)] }
def QueryParsesSaid : Prop := queryParsesRow.holds Tryd.pinned (OpenSpec.ofChange queryParsesSpec)

/-- ITS FALSE NEIGHBOUR: 'it returns false'. Refute it at one input. -/
def queryParsesWrong : ChangeSpec := { name := "queryParses", fn := fun _ => fun
  | [d] => { results := [.lit (.bool false)], args := [d] }
  | _ => none }
def QueryParsesWrongFalsely : Prop := queryParsesRow.holds Tryd.pinned (OpenSpec.ofChange queryParsesWrong)

/-- 'crupperlaw04.QueryBack': WHATEVER THE INPUT: true; the input reads as it did. -/
def queryBackSpec : ChangeSpec := { name := "queryBack", fn := fun _ => fun
  | [d1, d2, d3] => { results := [.lit (.bool true)], args := [d1, d2, d3] }
  | _ => none }
def queryBackRow : OpenClaim := { program := "ytakpahlgbcgnmaadoor", sum := "8990b70fce9885ae82ccd3b9485e916af60f8e2b3115aa12b6f26954fc8f8ad2", func := "crupper/crupperlaw04.QueryBack", spec := "queryBack", inPlace := ["internal/bytealg.IndexByteString", "internal/bytealg.IndexString", "slices.overlaps[string]", "internal/abi.NoEscape", "internal/bytealg.MakeNoZero"], unfollowed := true, recurses := true, named := ["internal/bytealg.MaxLen", "unicode/utf8.first", "unicode/utf8.acceptRanges"], apart := false, laid := [("unicode/utf8.acceptRanges", laid_unicode_utf8_acceptRanges), ("unicode/utf8.first", laid_unicode_utf8_first)] }
def QueryBackSaid : Prop := queryBackRow.holds Tryd.pinned (OpenSpec.ofChange queryBackSpec)

/-- ITS FALSE NEIGHBOUR: 'it returns false'. Refute it at one input. -/
def queryBackWrong : ChangeSpec := { name := "queryBack", fn := fun _ => fun
  | [d1, d2, d3] => { results := [.lit (.bool false)], args := [d1, d2, d3] }
  | _ => none }
def QueryBackWrongFalsely : Prop := queryBackRow.holds Tryd.pinned (OpenSpec.ofChange queryBackWrong)

/-- 'crupperlaw04.QueryRight': WHATEVER THE INPUT: true; the input reads as it did. -/
def queryRightSpec : ChangeSpec := { name := "queryRight", fn := fun _ => fun
  | [d] => { results := [.lit (.bool true)], args := [d] }
  | _ => none }
def queryRightRow : OpenClaim := { program := "ytakpahlgbcgnmaadoor", sum := "8990b70fce9885ae82ccd3b9485e916af60f8e2b3115aa12b6f26954fc8f8ad2", func := "crupper/crupperlaw04.QueryRight", spec := "queryRight", inPlace := ["internal/bytealg.IndexByteString", "internal/bytealg.IndexString", "slices.overlaps[string]", "internal/abi.NoEscape", "internal/bytealg.MakeNoZero"], unfollowed := true, recurses := true, named := ["internal/bytealg.MaxLen", "unicode/utf8.first", "unicode/utf8.acceptRanges"], apart := false, laid := [("unicode/utf8.acceptRanges", laid_unicode_utf8_acceptRanges), ("unicode/utf8.first", laid_unicode_utf8_first)] }
def QueryRightSaid : Prop := queryRightRow.holds Tryd.pinned (OpenSpec.ofChange queryRightSpec)

/-- ITS FALSE NEIGHBOUR: 'it returns false'. Refute it at one input. -/
def queryRightWrong : ChangeSpec := { name := "queryRight", fn := fun _ => fun
  | [d] => { results := [.lit (.bool false)], args := [d] }
  | _ => none }
def QueryRightWrongFalsely : Prop := queryRightRow.holds Tryd.pinned (OpenSpec.ofChange queryRightWrong)

/-- 'crupperlaw03.SynOrder': WHATEVER THE INPUT: true; the input reads as it did. -/
def synOrderSpec : ChangeSpec := { name := "synOrder", fn := fun _ => fun
  | [d1, d2, d3] => { results := [.lit (.bool true)], args := [d1, d2, d3] }
  | _ => none }
def synOrderRow : OpenClaim := { program := "ytakpahlgbcgnmaadoor", sum := "8990b70fce9885ae82ccd3b9485e916af60f8e2b3115aa12b6f26954fc8f8ad2", func := "crupper/crupperlaw03.SynOrder", spec := "synOrder", inPlace := ["internal/bytealg.IndexByteString", "internal/bytealg.IndexString", "internal/bytealg.abigen_runtime_cmpstring"], unfollowed := true, recurses := true, named := ["internal/bytealg.MaxLen", "unicode/utf8.first", "unicode/utf8.acceptRanges"], apart := false, laid := [("unicode/utf8.acceptRanges", laid_unicode_utf8_acceptRanges), ("unicode/utf8.first", laid_unicode_utf8_first)] }
def SynOrderSaid : Prop := synOrderRow.holds Tryd.pinned (OpenSpec.ofChange synOrderSpec)

/-- ITS FALSE NEIGHBOUR: 'it returns false'. Refute it at one input. -/
def synOrderWrong : ChangeSpec := { name := "synOrder", fn := fun _ => fun
  | [d1, d2, d3] => { results := [.lit (.bool false)], args := [d1, d2, d3] }
  | _ => none }
def SynOrderWrongFalsely : Prop := synOrderRow.holds Tryd.pinned (OpenSpec.ofChange synOrderWrong)

/- THE SECOND FORM. 'bulk': how many values and letters a reading holds, each counted each time it is reached (what is shared counts as often as it is met; a slice's spare places count too). A statement '..UptoSaid' is the law's where the arguments, and the package variables that the reading takes, are together of bulk at most 1048576: NARROWER than '..Said'. Prove '..Said' where nothing that the law and all that it calls make is longer than what came in: it says more and counts as full. Else prove '..UptoSaid'. A law counts once. -/
mutual
def uptoBulk {H : Type} : DataW H → Nat
  | .lit (.string bytes) => bytes.length + 1
  | .lit _ => 1
  | .nil => 1
  | .ptr d => uptoBulk d + 1
  | .slice elems spare => uptoBulkAll elems + uptoBulkAll spare + 1
  | .agg parts => uptoBulkAll parts + 1
  | .iface _ d => uptoBulk d + 1
  | .map entries => uptoBulkEntries entries + 1
  | .held _ => 1
def uptoBulkAll {H : Type} : List (DataW H) → Nat
  | [] => 0
  | d :: r => uptoBulk d + uptoBulkAll r
def uptoBulkEntries {H : Type} : List (Lit × DataW H) → Nat
  | [] => 0
  | x :: r => uptoBulkEntry x + uptoBulkEntries r
def uptoBulkEntry {H : Type} : Lit × DataW H → Nat
  | (.string bytes, d) => bytes.length + uptoBulk d + 1
  | (_, d) => uptoBulk d + 1
 end
def uptoSmall : (H : Type) → List (DataW H) → Bool := fun _ ds => decide (uptoBulkAll ds ≤ 1048576)
def OpenSpec.upto (s : _root_.Go.ChangeSpec) : _root_.Go.OpenSpec := { _root_.Go.OpenSpec.ofChange s with cond := some uptoSmall }

/-- 'crupperlaw02.ScanLines', WHERE WHAT IT READS IS OF BULK AT MOST 1048576: true; the input reads as it did. -/
def scanLinesUptoRow : OpenClaim := { program := "ytakpahlgbcgnmaadoor", sum := "8990b70fce9885ae82ccd3b9485e916af60f8e2b3115aa12b6f26954fc8f8ad2", func := "crupper/crupperlaw02.ScanLines", spec := "scanLines", inPlace := ["internal/bytealg.IndexByteString", "internal/bytealg.IndexString", "internal/abi.NoEscape"], unfollowed := true, recurses := true, named := ["internal/bytealg.MaxLen", "unicode/utf8.first", "unicode/utf8.acceptRanges"], apart := false, laid := [("unicode/utf8.acceptRanges", laid_unicode_utf8_acceptRanges), ("unicode/utf8.first", laid_unicode_utf8_first)], narrowed := true }
def ScanLinesUptoSaid : Prop := scanLinesUptoRow.holds Tryd.pinned (OpenSpec.upto scanLinesSpec)

/-- 'crupperlaw03.SynBack', WHERE WHAT IT READS IS OF BULK AT MOST 1048576: true; the input reads as it did. -/
def synBackUptoRow : OpenClaim := { program := "ytakpahlgbcgnmaadoor", sum := "8990b70fce9885ae82ccd3b9485e916af60f8e2b3115aa12b6f26954fc8f8ad2", func := "crupper/crupperlaw03.SynBack", spec := "synBack", inPlace := ["internal/bytealg.IndexByteString", "internal/bytealg.IndexString", "internal/bytealg.abigen_runtime_cmpstring"], unfollowed := true, recurses := true, named := ["internal/bytealg.MaxLen", "unicode/utf8.first", "unicode/utf8.acceptRanges"], apart := false, laid := [("unicode/utf8.acceptRanges", laid_unicode_utf8_acceptRanges), ("unicode/utf8.first", laid_unicode_utf8_first)], narrowed := true }
def SynBackUptoSaid : Prop := synBackUptoRow.holds Tryd.pinned (OpenSpec.upto synBackSpec)

/-- 'crupperlaw03.SynParses', WHERE WHAT IT READS IS OF BULK AT MOST 1048576: true; the input reads as it did. -/
def synParsesUptoRow : OpenClaim := { program := "ytakpahlgbcgnmaadoor", sum := "8990b70fce9885ae82ccd3b9485e916af60f8e2b3115aa12b6f26954fc8f8ad2", func := "crupper/crupperlaw03.SynParses", spec := "synParses", inPlace := ["internal/bytealg.IndexByteString", "internal/bytealg.IndexString", "internal/bytealg.abigen_runtime_cmpstring"], unfollowed := true, recurses := true, named := ["internal/bytealg.MaxLen", "unicode/utf8.first", "unicode/utf8.acceptRanges"], apart := false, laid := [("unicode/utf8.acceptRanges", laid_unicode_utf8_acceptRanges), ("unicode/utf8.first", laid_unicode_utf8_first)], narrowed := true }
def SynParsesUptoSaid : Prop := synParsesUptoRow.holds Tryd.pinned (OpenSpec.upto synParsesSpec)

/-- 'crupperlaw03.SynRight', WHERE WHAT IT READS IS OF BULK AT MOST 1048576: true; the input reads as it did. -/
def synRightUptoRow : OpenClaim := { program := "ytakpahlgbcgnmaadoor", sum := "8990b70fce9885ae82ccd3b9485e916af60f8e2b3115aa12b6f26954fc8f8ad2", func := "crupper/crupperlaw03.SynRight", spec := "synRight", inPlace := ["internal/bytealg.IndexByteString", "internal/bytealg.IndexString", "internal/bytealg.abigen_runtime_cmpstring"], unfollowed := true, recurses := true, named := ["internal/bytealg.MaxLen", "unicode/utf8.first", "unicode/utf8.acceptRanges"], apart := false, laid := [("unicode/utf8.acceptRanges", laid_unicode_utf8_acceptRanges), ("unicode/utf8.first", laid_unicode_utf8_first)], narrowed := true }
def SynRightUptoSaid : Prop := synRightUptoRow.holds Tryd.pinned (OpenSpec.upto synRightSpec)

/-- 'crupperlaw04.QueryParses', WHERE WHAT IT READS IS OF BULK AT MOST 1048576: true; the input reads as it did. -/
def queryParsesUptoRow : OpenClaim := { program := "ytakpahlgbcgnmaadoor", sum := "8990b70fce9885ae82ccd3b9485e916af60f8e2b3115aa12b6f26954fc8f8ad2", func := "crupper/crupperlaw04.QueryParses", spec := "queryParses", inPlace := ["internal/bytealg.IndexByteString", "internal/bytealg.IndexString", "slices.overlaps[string]", "internal/abi.NoEscape", "internal/bytealg.MakeNoZero"], unfollowed := true, recurses := true, named := ["internal/bytealg.MaxLen", "unicode/utf8.first", "unicode/utf8.acceptRanges"], apart := false, laid := [("unicode/utf8.acceptRanges", laid_unicode_utf8_acceptRanges), ("unicode/utf8.first", laid_unicode_utf8_first)], narrowed := true }
def QueryParsesUptoSaid : Prop := queryParsesUptoRow.holds Tryd.pinned (OpenSpec.upto queryParsesSpec)

/-- 'crupperlaw04.QueryBack', WHERE WHAT IT READS IS OF BULK AT MOST 1048576: true; the input reads as it did. -/
def queryBackUptoRow : OpenClaim := { program := "ytakpahlgbcgnmaadoor", sum := "8990b70fce9885ae82ccd3b9485e916af60f8e2b3115aa12b6f26954fc8f8ad2", func := "crupper/crupperlaw04.QueryBack", spec := "queryBack", inPlace := ["internal/bytealg.IndexByteString", "internal/bytealg.IndexString", "slices.overlaps[string]", "internal/abi.NoEscape", "internal/bytealg.MakeNoZero"], unfollowed := true, recurses := true, named := ["internal/bytealg.MaxLen", "unicode/utf8.first", "unicode/utf8.acceptRanges"], apart := false, laid := [("unicode/utf8.acceptRanges", laid_unicode_utf8_acceptRanges), ("unicode/utf8.first", laid_unicode_utf8_first)], narrowed := true }
def QueryBackUptoSaid : Prop := queryBackUptoRow.holds Tryd.pinned (OpenSpec.upto queryBackSpec)

/-- 'crupperlaw04.QueryRight', WHERE WHAT IT READS IS OF BULK AT MOST 1048576: true; the input reads as it did. -/
def queryRightUptoRow : OpenClaim := { program := "ytakpahlgbcgnmaadoor", sum := "8990b70fce9885ae82ccd3b9485e916af60f8e2b3115aa12b6f26954fc8f8ad2", func := "crupper/crupperlaw04.QueryRight", spec := "queryRight", inPlace := ["internal/bytealg.IndexByteString", "internal/bytealg.IndexString", "slices.overlaps[string]", "internal/abi.NoEscape", "internal/bytealg.MakeNoZero"], unfollowed := true, recurses := true, named := ["internal/bytealg.MaxLen", "unicode/utf8.first", "unicode/utf8.acceptRanges"], apart := false, laid := [("unicode/utf8.acceptRanges", laid_unicode_utf8_acceptRanges), ("unicode/utf8.first", laid_unicode_utf8_first)], narrowed := true }
def QueryRightUptoSaid : Prop := queryRightUptoRow.holds Tryd.pinned (OpenSpec.upto queryRightSpec)

/-- 'crupperlaw03.SynOrder', WHERE WHAT IT READS IS OF BULK AT MOST 1048576: true; the input reads as it did. -/
def synOrderUptoRow : OpenClaim := { program := "ytakpahlgbcgnmaadoor", sum := "8990b70fce9885ae82ccd3b9485e916af60f8e2b3115aa12b6f26954fc8f8ad2", func := "crupper/crupperlaw03.SynOrder", spec := "synOrder", inPlace := ["internal/bytealg.IndexByteString", "internal/bytealg.IndexString", "internal/bytealg.abigen_runtime_cmpstring"], unfollowed := true, recurses := true, named := ["internal/bytealg.MaxLen", "unicode/utf8.first", "unicode/utf8.acceptRanges"], apart := false, laid := [("unicode/utf8.acceptRanges", laid_unicode_utf8_acceptRanges), ("unicode/utf8.first", laid_unicode_utf8_first)], narrowed := true }
def SynOrderUptoSaid : Prop := synOrderUptoRow.holds Tryd.pinned (OpenSpec.upto synOrderSpec)

end Rows
end Go.Proofs.YtakpahlgbcgnmaaDoor
