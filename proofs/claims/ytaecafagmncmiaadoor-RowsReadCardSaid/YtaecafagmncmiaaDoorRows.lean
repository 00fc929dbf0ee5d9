/-
  NARROWER THAN 'FOR EVERY INPUT', by the rows' own cells (each row's printed sentence says how): RowsRead: laid · RowsDiff: laid · RowsBack: laid · RowsApart: laid · RowsMake: laid · RowsOrder: laid · RowsOut: laid · RowsOf: laid.
  DERIVED. THE GIVEN ROWS OF THIS SEAT. 8 by the template 'for every input the law returns true; each argument reads behind the call as it read before'; 0 by the template 'total and deterministic' (their statements: YtaecafagmncmiaaDoorTotals.lean).
  GIVEN WITH THE SEED: the statements are not yours to turn. If you find one false, say at which input.
  Laid BY PROGRAM, IN A SANDBOX (cutbox-rows.mjs): the forced cells as the released guide's own fill.sh prints them over the translation f1d610ab87fc60e1… (all of the seat's roots in one cut). By AI agents, Wed Nov 11 2026. No macro, syntax, notation, axiom, sorry.
-/
import Derived.Test.YtaecafagmncmiaaDoorChecked
import GoSem.PinnedTables
import GoSem.Claim
import GoSem.ClaimJoined
import GoSem.ClaimMapViews
import Derived.JoinedTies
import Derived.KernelRfl
namespace Go.Proofs.YtaecafagmncmiaaDoor
/- THE CELL 'sum', in the pinned program and in every row, IS THE sha256 OF THE DUMP (.gsa) THAT YtaecafagmncmiaaDoorProg.lean LOADS. Nothing in Lean hashes anything: it is a label: what it is worth is what the hold of that sum in a sandbox is worth. -/
noncomputable def Tryd.pinned : Pinned := { name := "ytaecafagmncmiaadoor", sum := "f1d610ab87fc60e1cda7b1804103e8646fb8e28a4f7cc0a1414a5154b4bbf398", checked := Tryd.checked }
namespace Rows
def none {H : Type} : Left H := { results := [], args := [] }

/- WHAT THE LISTED PACKAGE-LEVEL VARIABLES READ AS WHEN THE CALL BEGINS. Each datum BY PROGRAM (the guide's laid-datum.mjs) off the statement by which the dump's own 'gosem.cut.vars' lays the variable. In a bare row this is a premise. The card (YtaecafagmncmiaaDoorCards.lean) ties it to the program's text. -/
def laid_unicode_utf8_acceptRanges {H : Type} : DataW H := .agg [.agg [.lit (.int .u8 128), .lit (.int .u8 191)], .agg [.lit (.int .u8 160), .lit (.int .u8 191)], .agg [.lit (.int .u8 128), .lit (.int .u8 159)], .agg [.lit (.int .u8 144), .lit (.int .u8 191)], .agg [.lit (.int .u8 128), .lit (.int .u8 143)], .agg [.lit (.int .u8 0), .lit (.int .u8 0)], .agg [.lit (.int .u8 0), .lit (.int .u8 0)], .agg [.lit (.int .u8 0), .lit (.int .u8 0)], .agg [.lit (.int .u8 0), .lit (.int .u8 0)], .agg [.lit (.int .u8 0), .lit (.int .u8 0)], .agg [.lit (.int .u8 0), .lit (.int .u8 0)], .agg [.lit (.int .u8 0), .lit (.int .u8 0)], .agg [.lit (.int .u8 0), .lit (.int .u8 0)], .agg [.lit (.int .u8 0), .lit (.int .u8 0)], .agg [.lit (.int .u8 0), .lit (.int .u8 0)], .agg [.lit (.int .u8 0), .lit (.int .u8 0)]]
/-- One of Go's own tables, pinned by name: the form's constant. -/
def laid_unicode_utf8_first : DataW Unit := Go.Pinned.utf8First

/-- 'palinodelaw20.RowsRead': WHATEVER THE INPUT: true; the input reads as it did. -/
def rowsReadSpec : ChangeSpec := { name := "rowsRead", fn := fun _ => fun
  | [d1, d2, d3, d4] => { results := [.lit (.bool true)], args := [d1, d2, d3, d4] }
  | _ => none }
def rowsReadRow : OpenClaim := { program := "ytaecafagmncmiaadoor", sum := "f1d610ab87fc60e1cda7b1804103e8646fb8e28a4f7cc0a1414a5154b4bbf398", func := "palinode/palinodelaw20.RowsRead", spec := "rowsRead", inPlace := ["internal/bytealg.CountString", "internal/bytealg.IndexByteString", "internal/bytealg.IndexString", "internal/abi.NoEscape", "internal/bytealg.MakeNoZero", "internal/bytealg.abigen_runtime_cmpstring"], unfollowed := true, recurses := true, named := ["internal/bytealg.MaxLen", "unicode/utf8.first", "unicode/utf8.acceptRanges"], apart := false, laid := [("unicode/utf8.acceptRanges", laid_unicode_utf8_acceptRanges), ("unicode/utf8.first", laid_unicode_utf8_first)] }
def RowsReadSaid : Prop := rowsReadRow.holds Tryd.pinned (OpenSpec.ofChange rowsReadSpec)

/-- ITS FALSE NEIGHBOUR: 'it returns false'. Refute it at one input. -/
def rowsReadWrong : ChangeSpec := { name := "rowsRead", fn := fun _ => fun
  | [d1, d2, d3, d4] => { results := [.lit (.bool false)], args := [d1, d2, d3, d4] }
  | _ => none }
def RowsReadWrongFalsely : Prop := rowsReadRow.holds Tryd.pinned (OpenSpec.ofChange rowsReadWrong)

/-- 'palinodelaw20.RowsDiff': WHATEVER THE INPUT: true; the input reads as it did. -/
def rowsDiffSpec : ChangeSpec := { name := "rowsDiff", fn := fun _ => fun
  | [d1, d2] => { results := [.lit (.bool true)], args := [d1, d2] }
  | _ => none }
def rowsDiffRow : OpenClaim := { program := "ytaecafagmncmiaadoor", sum := "f1d610ab87fc60e1cda7b1804103e8646fb8e28a4f7cc0a1414a5154b4bbf398", func := "palinode/palinodelaw20.RowsDiff", spec := "rowsDiff", inPlace := ["internal/bytealg.CountString", "internal/bytealg.IndexByteString", "internal/bytealg.IndexString", "internal/abi.NoEscape", "internal/bytealg.MakeNoZero", "internal/bytealg.abigen_runtime_cmpstring"], unfollowed := true, recurses := true, named := ["internal/bytealg.MaxLen", "unicode/utf8.first", "unicode/utf8.acceptRanges"], apart := false, laid := [("unicode/utf8.acceptRanges", laid_unicode_utf8_acceptRanges), ("unicode/utf8.first", laid_unicode_utf8_first)] }
def RowsDiffSaid : Prop := rowsDiffRow.holds Tryd.pinned (OpenSpec.ofChange rowsDiffSpec)

/-- ITS FALSE NEIGHBOUR: 'it returns false'. Refute it at one input. -/
def rowsDiffWrong : ChangeSpec := { name := "rowsDiff", fn := fun _ => fun
  | [d1, d2] => { results := [.lit (.bool false)], args := [d1, d2] }
  | _ => none }
def RowsDiffWrongFalsely : Prop := rowsDiffRow.holds Tryd.pinned (OpenSpec.ofChange rowsDiffWrong)

/-- 'palinodelaw20.RowsBack': WHATEVER THE INPUT: true; the input reads as it did. -/
def rowsBackSpec : ChangeSpec := { name := "rowsBack", fn := fun _ => fun
  | [d1, d2] => { results := [.lit (.bool true)], args := [d1, d2] }
  | _ => none }
def rowsBackRow : OpenClaim := { program := "ytaecafagmncmiaadoor", sum := "f1d610ab87fc60e1cda7b1804103e8646fb8e28a4f7cc0a1414a5154b4bbf398", func := "palinode/palinodelaw20.RowsBack", spec := "rowsBack", inPlace := ["internal/bytealg.CountString", "internal/bytealg.IndexByteString", "internal/bytealg.IndexString", "internal/abi.NoEscape", "internal/bytealg.MakeNoZero", "internal/bytealg.abigen_runtime_cmpstring"], unfollowed := true, recurses := true, named := ["internal/bytealg.MaxLen", "unicode/utf8.first", "unicode/utf8.acceptRanges"], apart := false, laid := [("unicode/utf8.acceptRanges", laid_unicode_utf8_acceptRanges), ("unicode/utf8.first", laid_unicode_utf8_first)] }
def RowsBackSaid : Prop := rowsBackRow.holds Tryd.pinned (OpenSpec.ofChange rowsBackSpec)

/-- ITS FALSE NEIGHBOUR: 'it returns false'. Refute it at one input. -/
def rowsBackWrong : ChangeSpec := { name := "rowsBack", fn := fun _ => fun
  | [d1, d2] => { results := [.lit (.bool false)], args := [d1, d2] }
  | _ => none }
def RowsBackWrongFalsely : Prop := rowsBackRow.holds Tryd.pinned (OpenSpec.ofChange rowsBackWrong)

/-- 'palinodelaw20.RowsApart': WHATEVER THE INPUT: true; the input reads as it did. -/
def rowsApartSpec : ChangeSpec := { name := "rowsApart", fn := fun _ => fun
  | [d1, d2] => { results := [.lit (.bool true)], args := [d1, d2] }
  | _ => none }
def rowsApartRow : OpenClaim := { program := "ytaecafagmncmiaadoor", sum := "f1d610ab87fc60e1cda7b1804103e8646fb8e28a4f7cc0a1414a5154b4bbf398", func := "palinode/palinodelaw20.RowsApart", spec := "rowsApart", inPlace := ["internal/bytealg.CountString", "internal/bytealg.IndexByteString", "internal/bytealg.IndexString", "internal/abi.NoEscape", "internal/bytealg.MakeNoZero", "internal/bytealg.abigen_runtime_cmpstring"], unfollowed := true, recurses := true, named := ["internal/bytealg.MaxLen", "unicode/utf8.first", "unicode/utf8.acceptRanges"], apart := false, laid := [("unicode/utf8.acceptRanges", laid_unicode_utf8_acceptRanges), ("unicode/utf8.first", laid_unicode_utf8_first)] }
def RowsApartSaid : Prop := rowsApartRow.holds Tryd.pinned (OpenSpec.ofChange rowsApartSpec)

/-- ITS FALSE NEIGHBOUR: 'it returns false'. Refute it at one input. -/
def rowsApartWrong : ChangeSpec := { name := "rowsApart", fn := fun _ => fun
  | [d1, d2] => { results := [.lit (.bool false)], args := [d1, d2] }
  | _ => none }
def RowsApartWrongFalsely : Prop := rowsApartRow.holds Tryd.pinned (OpenSpec.ofChange rowsApartWrong)

/-- 'palinodelaw20.RowsMake': WHATEVER THE INPUT: true; the input reads as it did. -/
def rowsMakeSpec : ChangeSpec := { name := "rowsMake", fn := fun _ => fun
  | [d1, d2] => { results := [.lit (.bool true)], args := [d1, d2] }
  | _ => none }
def rowsMakeRow : OpenClaim := { program := "ytaecafagmncmiaadoor", sum := "f1d610ab87fc60e1cda7b1804103e8646fb8e28a4f7cc0a1414a5154b4bbf398", func := "palinode/palinodelaw20.RowsMake", spec := "rowsMake", inPlace := ["internal/bytealg.CountString", "internal/bytealg.IndexByteString", "internal/bytealg.IndexString", "internal/abi.NoEscape", "internal/bytealg.MakeNoZero", "internal/bytealg.abigen_runtime_cmpstring"], unfollowed := true, recurses := true, named := ["internal/bytealg.MaxLen", "unicode/utf8.first", "unicode/utf8.acceptRanges"], apart := false, laid := [("unicode/utf8.acceptRanges", laid_unicode_utf8_acceptRanges), ("unicode/utf8.first", laid_unicode_utf8_first)] }
def RowsMakeSaid : Prop := rowsMakeRow.holds Tryd.pinned (OpenSpec.ofChange rowsMakeSpec)

/-- ITS FALSE NEIGHBOUR: 'it returns false'. Refute it at one input. -/
def rowsMakeWrong : ChangeSpec := { name := "rowsMake", fn := fun _ => fun
  | [d1, d2] => { results := [.lit (.bool false)], args := [d1, d2] }
  | _ => none }
def RowsMakeWrongFalsely : Prop := rowsMakeRow.holds Tryd.pinned (OpenSpec.ofChange rowsMakeWrong)

/-- 'palinodelaw20.RowsOrder': WHATEVER THE INPUT: true; the input reads as it did. -/
def rowsOrderSpec : ChangeSpec := { name := "rowsOrder", fn := fun _ => fun
  | [d1, d2] => { results := [.lit (.bool true)], args := [d1, d2] }
  | _ => none }
def rowsOrderRow : OpenClaim := { program := "ytaecafagmncmiaadoor", sum := "f1d610ab87fc60e1cda7b1804103e8646fb8e28a4f7cc0a1414a5154b4bbf398", func := "palinode/palinodelaw20.RowsOrder", spec := "rowsOrder", inPlace := ["internal/bytealg.CountString", "internal/bytealg.IndexByteString", "internal/bytealg.IndexString", "internal/abi.NoEscape", "internal/bytealg.MakeNoZero", "internal/bytealg.abigen_runtime_cmpstring"], unfollowed := true, recurses := true, named := ["internal/bytealg.MaxLen", "unicode/utf8.first", "unicode/utf8.acceptRanges"], apart := false, laid := [("unicode/utf8.acceptRanges", laid_unicode_utf8_acceptRanges), ("unicode/utf8.first", laid_unicode_utf8_first)] }
def RowsOrderSaid : Prop := rowsOrderRow.holds Tryd.pinned (OpenSpec.ofChange rowsOrderSpec)

/-- ITS FALSE NEIGHBOUR: 'it returns false'. Refute it at one input. -/
def rowsOrderWrong : ChangeSpec := { name := "rowsOrder", fn := fun _ => fun
  | [d1, d2] => { results := [.lit (.bool false)], args := [d1, d2] }
  | _ => none }
def RowsOrderWrongFalsely : Prop := rowsOrderRow.holds Tryd.pinned (OpenSpec.ofChange rowsOrderWrong)

/-- 'palinodelaw20.RowsOut': WHATEVER THE INPUT: true; the input reads as it did. -/
def rowsOutSpec : ChangeSpec := { name := "rowsOut", fn := fun _ => fun
  | [d] => { results := [.lit (.bool true)], args := [d] }
  | _ => none }
def rowsOutRow : OpenClaim := { program := "ytaecafagmncmiaadoor", sum := "f1d610ab87fc60e1cda7b1804103e8646fb8e28a4f7cc0a1414a5154b4bbf398", func := "palinode/palinodelaw20.RowsOut", spec := "rowsOut", inPlace := ["internal/bytealg.CountString", "internal/bytealg.IndexByteString", "internal/bytealg.IndexString", "internal/abi.NoEscape", "internal/bytealg.MakeNoZero", "internal/bytealg.abigen_runtime_cmpstring"], unfollowed := true, recurses := true, named := ["internal/bytealg.MaxLen", "unicode/utf8.first", "unicode/utf8.acceptRanges"], apart := false, laid := [("unicode/utf8.acceptRanges", laid_unicode_utf8_acceptRanges), ("unicode/utf8.first", laid_unicode_utf8_first)] }
def RowsOutSaid : Prop := rowsOutRow.holds Tryd.pinned (OpenSpec.ofChange rowsOutSpec)

/-- ITS FALSE NEIGHBOUR: 'it returns false'. Refute it at one input. -/
def rowsOutWrong : ChangeSpec := { name := "rowsOut", fn := fun _ => fun
  | [d] => { results := [.lit (.bool false)], args := [d] }
  | _ => none }
def RowsOutWrongFalsely : Prop := rowsOutRow.holds Tryd.pinned (OpenSpec.ofChange rowsOutWrong)

/-- 'palinodelaw20.RowsOf': WHATEVER THE INPUT: true; the input reads as it did. -/
def rowsOfSpec : ChangeSpec := { name := "rowsOf", fn := fun _ => fun
  | [d1, d2] => { results := [.lit (.bool true)], args := [d1, d2] }
  | _ => none }
def rowsOfRow : OpenClaim := { program := "ytaecafagmncmiaadoor", sum := "f1d610ab87fc60e1cda7b1804103e8646fb8e28a4f7cc0a1414a5154b4bbf398", func := "palinode/palinodelaw20.RowsOf", spec := "rowsOf", inPlace := ["internal/bytealg.CountString", "internal/bytealg.IndexByteString", "internal/bytealg.IndexString", "internal/abi.NoEscape", "internal/bytealg.MakeNoZero", "internal/bytealg.abigen_runtime_cmpstring"], unfollowed := true, recurses := true, named := ["internal/bytealg.MaxLen", "unicode/utf8.first", "unicode/utf8.acceptRanges"], apart := false, laid := [("unicode/utf8.acceptRanges", laid_unicode_utf8_acceptRanges), ("unicode/utf8.first", laid_unicode_utf8_first)] }
def RowsOfSaid : Prop := rowsOfRow.holds Tryd.pinned (OpenSpec.ofChange rowsOfSpec)

/-- ITS FALSE NEIGHBOUR: 'it returns false'. Refute it at one input. -/
def rowsOfWrong : ChangeSpec := { name := "rowsOf", fn := fun _ => fun
  | [d1, d2] => { results := [.lit (.bool false)], args := [d1, d2] }
  | _ => none }
def RowsOfWrongFalsely : Prop := rowsOfRow.holds Tryd.pinned (OpenSpec.ofChange rowsOfWrong)

/- THE SECOND FORM. 'bulk': how many values and letters a reading holds, each counted each time it is reached (what is shared counts as often as it is met; a slice's spare places count too). A statement '..UptoSaid' is the law's where the arguments, and the package variables that the reading takes, are together of bulk at most 1048576: NARROWER than '..Said'. Prove '..Said' where nothing that the law and all that it calls make is longer than what came in: it says more and counts as full. Else prove '..UptoSaid'. A law counts once. -/
mutual
def uptoBulk {H : Type} : DataW H → Nat
  | .lit (.string bytes) => bytes.length + 1
  | .lit _ => 1
  | .nil => 1
  | .ptr d => uptoBulk d + 1
  | .slice elems spare => uptoBulkAll elems + uptoBulkAll spare + 1
  | .agg parts => uptoBulkAll parts + 1
  | .iface _ d => uptoBulk d + 1
  | .map entries => uptoBulkEntries entries + 1
  | .held _ => 1
def uptoBulkAll {H : Type} : List (DataW H) → Nat
  | [] => 0
  | d :: r => uptoBulk d + uptoBulkAll r
def uptoBulkEntries {H : Type} : List (Lit × DataW H) → Nat
  | [] => 0
  | x :: r => uptoBulkEntry x + uptoBulkEntries r
def uptoBulkEntry {H : Type} : Lit × DataW H → Nat
  | (.string bytes, d) => bytes.length + uptoBulk d + 1
  | (_, d) => uptoBulk d + 1
 end
def uptoSmall : (H : Type) → List (DataW H) → Bool := fun _ ds => decide (uptoBulkAll ds ≤ 1048576)
def OpenSpec.upto (s : _root_.Go.ChangeSpec) : _root_.Go.OpenSpec := { _root_.Go.OpenSpec.ofChange s with cond := some uptoSmall }

/-- 'palinodelaw20.RowsRead', WHERE WHAT IT READS IS OF BULK AT MOST 1048576: true; the input reads as it did. -/
def rowsReadUptoRow : OpenClaim := { program := "ytaecafagmncmiaadoor", sum := "f1d610ab87fc60e1cda7b1804103e8646fb8e28a4f7cc0a1414a5154b4bbf398", func := "palinode/palinodelaw20.RowsRead", spec := "rowsRead", inPlace := ["internal/bytealg.CountString", "internal/bytealg.IndexByteString", "internal/bytealg.IndexString", "internal/abi.NoEscape", "internal/bytealg.MakeNoZero", "internal/bytealg.abigen_runtime_cmpstring"], unfollowed := true, recurses := true, named := ["internal/bytealg.MaxLen", "unicode/utf8.first", "unicode/utf8.acceptRanges"], apart := false, laid := [("unicode/utf8.acceptRanges", laid_unicode_utf8_acceptRanges), ("unicode/utf8.first", laid_unicode_utf8_first)], narrowed := true }
def RowsReadUptoSaid : Prop := rowsReadUptoRow.holds Tryd.pinned (OpenSpec.upto rowsReadSpec)

/-- 'palinodelaw20.RowsDiff', WHERE WHAT IT READS IS OF BULK AT MOST 1048576: true; the input reads as it did. -/
def rowsDiffUptoRow : OpenClaim := { program := "ytaecafagmncmiaadoor", sum := "f1d610ab87fc60e1cda7b1804103e8646fb8e28a4f7cc0a1414a5154b4bbf398", func := "palinode/palinodelaw20.RowsDiff", spec := "rowsDiff", inPlace := ["internal/bytealg.CountString", "internal/bytealg.IndexByteString", "internal/bytealg.IndexString", "internal/abi.NoEscape", "internal/bytealg.MakeNoZero", "internal/bytealg.abigen_runtime_cmpstring"], unfollowed := true, recurses := true, named := ["internal/bytealg.MaxLen", "unicode/utf8.first", "unicode/utf8.acceptRanges"], apart := false, laid := [("unicode/utf8.acceptRanges", laid_unicode_utf8_acceptRanges), ("unicode/utf8.first", laid_unicode_utf8_first)], narrowed := true }
def RowsDiffUptoSaid : Prop := rowsDiffUptoRow.holds Tryd.pinned (OpenSpec.upto rowsDiffSpec)

/-- 'palinodelaw20.RowsBack', WHERE WHAT IT READS IS OF BULK AT MOST 1048576: true; the input reads as it did. -/
def rowsBackUptoRow : OpenClaim := { program := "ytaecafagmncmiaadoor", sum := "f1d610ab87fc60e1cda7b1804103e8646fb8e28a4f7cc0a1414a5154b4bbf398", func := "palinode/palinodelaw20.RowsBack", spec := "rowsBack", inPlace := ["internal/bytealg.CountString", "internal/bytealg.IndexByteString", "internal/bytealg.IndexString", "internal/abi.NoEscape", "internal/bytealg.MakeNoZero", "internal/bytealg.abigen_runtime_cmpstring"], unfollowed := true, recurses := true, named := ["internal/bytealg.MaxLen", "unicode/utf8.first", "unicode/utf8.acceptRanges"], apart := false, laid := [("unicode/utf8.acceptRanges", laid_unicode_utf8_acceptRanges), ("unicode/utf8.first", laid_unicode_utf8_first)], narrowed := true }
def RowsBackUptoSaid : Prop := rowsBackUptoRow.holds Tryd.pinned (OpenSpec.upto rowsBackSpec)

/-- 'palinodelaw20.RowsApart', WHERE WHAT IT READS IS OF BULK AT MOST 1048576: true; the input reads as it did. -/
def rowsApartUptoRow : OpenClaim := { program := "ytaecafagmncmiaadoor", sum := "f1d610ab87fc60e1cda7b1804103e8646fb8e28a4f7cc0a1414a5154b4bbf398", func := "palinode/palinodelaw20.RowsApart", spec := "rowsApart", inPlace := ["internal/bytealg.CountString", "internal/bytealg.IndexByteString", "internal/bytealg.IndexString", "internal/abi.NoEscape", "internal/bytealg.MakeNoZero", "internal/bytealg.abigen_runtime_cmpstring"], unfollowed := true, recurses := true, named := ["internal/bytealg.MaxLen", "unicode/utf8.first", "unicode/utf8.acceptRanges"], apart := false, laid := [("unicode/utf8.acceptRanges", laid_unicode_utf8_acceptRanges), ("unicode/utf8.first", laid_unicode_utf8_first)], narrowed := true }
def RowsApartUptoSaid : Prop := rowsApartUptoRow.holds Tryd.pinned (OpenSpec.upto rowsApartSpec)

/-- 'palinodelaw20.RowsMake', WHERE WHAT IT READS IS OF BULK AT MOST 1048576: true; the input reads as it did. -/
def rowsMakeUptoRow : OpenClaim := { program := "ytaecafagmncmiaadoor", sum := "f1d610ab87fc60e1cda7b1804103e8646fb8e28a4f7cc0a1414a5154b4bbf398", func := "palinode/palinodelaw20.RowsMake", spec := "rowsMake", inPlace := ["internal/bytealg.CountString", "internal/bytealg.IndexByteString", "internal/bytealg.IndexString", "internal/abi.NoEscape", "internal/bytealg.MakeNoZero", "internal/bytealg.abigen_runtime_cmpstring"], unfollowed := true, recurses := true, named := ["internal/bytealg.MaxLen", "unicode/utf8.first", "unicode/utf8.acceptRanges"], apart := false, laid := [("unicode/utf8.acceptRanges", laid_unicode_utf8_acceptRanges), ("unicode/utf8.first", laid_unicode_utf8_first)], narrowed := true }
def RowsMakeUptoSaid : Prop := rowsMakeUptoRow.holds Tryd.pinned (OpenSpec.upto rowsMakeSpec)

/-- 'palinodelaw20.RowsOrder', WHERE WHAT IT READS IS OF BULK AT MOST 1048576: true; the input reads as it did. -/
def rowsOrderUptoRow : OpenClaim := { program := "ytaecafagmncmiaadoor", sum := "f1d610ab87fc60e1cda7b1804103e8646fb8e28a4f7cc0a1414a5154b4bbf398", func := "palinode/palinodelaw20.RowsOrder", spec := "rowsOrder", inPlace := ["internal/bytealg.CountString", "internal/bytealg.IndexByteString", "internal/bytealg.IndexString", "internal/abi.NoEscape", "internal/bytealg.MakeNoZero", "internal/bytealg.abigen_runtime_cmpstring"], unfollowed := true, recurses := true, named := ["internal/bytealg.MaxLen", "unicode/utf8.first", "unicode/utf8.acceptRanges"], apart := false, laid := [("unicode/utf8.acceptRanges", laid_unicode_utf8_acceptRanges), ("unicode/utf8.first", laid_unicode_utf8_first)], narrowed := true }
def RowsOrderUptoSaid : Prop := rowsOrderUptoRow.holds Tryd.pinned (OpenSpec.upto rowsOrderSpec)

/-- 'palinodelaw20.RowsOut', WHERE WHAT IT READS IS OF BULK AT MOST 1048576: true; the input reads as it did. -/
def rowsOutUptoRow : OpenClaim := { program := "ytaecafagmncmiaadoor", sum := "f1d610ab87fc60e1cda7b1804103e8646fb8e28a4f7cc0a1414a5154b4bbf398", func := "palinode/palinodelaw20.RowsOut", spec := "rowsOut", inPlace := ["internal/bytealg.CountString", "internal/bytealg.IndexByteString", "internal/bytealg.IndexString", "internal/abi.NoEscape", "internal/bytealg.MakeNoZero", "internal/bytealg.abigen_runtime_cmpstring"], unfollowed := true, recurses := true, named := ["internal/bytealg.MaxLen", "unicode/utf8.first", "unicode/utf8.acceptRanges"], apart := false, laid := [("unicode/utf8.acceptRanges", laid_unicode_utf8_acceptRanges), ("unicode/utf8.first", laid_unicode_utf8_first)], narrowed := true }
def RowsOutUptoSaid : Prop := rowsOutUptoRow.holds Tryd.pinned (OpenSpec.upto rowsOutSpec)

/-- 'palinodelaw20.RowsOf', WHERE WHAT IT READS IS OF BULK AT MOST 1048576: true; the input reads as it did. -/
def rowsOfUptoRow : OpenClaim := { program := "ytaecafagmncmiaadoor", sum := "f1d610ab87fc60e1cda7b1804103e8646fb8e28a4f7cc0a1414a5154b4bbf398", func := "palinode/palinodelaw20.RowsOf", spec := "rowsOf", inPlace := ["internal/bytealg.CountString", "internal/bytealg.IndexByteString", "internal/bytealg.IndexString", "internal/abi.NoEscape", "internal/bytealg.MakeNoZero", "internal/bytealg.abigen_runtime_cmpstring"], unfollowed := true, recurses := true, named := ["internal/bytealg.MaxLen", "unicode/utf8.first", "unicode/utf8.acceptRanges"], apart := false, laid := [("unicode/utf8.acceptRanges", laid_unicode_utf8_acceptRanges), ("unicode/utf8.first", laid_unicode_utf8_first)], narrowed := true }
def RowsOfUptoSaid : Prop := rowsOfUptoRow.holds Tryd.pinned (OpenSpec.upto rowsOfSpec)

end Rows
end Go.Proofs.YtaecafagmncmiaaDoor
