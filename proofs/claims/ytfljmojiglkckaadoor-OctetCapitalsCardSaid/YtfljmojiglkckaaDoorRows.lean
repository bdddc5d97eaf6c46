/-
  NARROWER THAN 'FOR EVERY INPUT', by the rows' own cells (each row's printed sentence says how): OctetClasses: laid · OctetSpan: laid · OctetBad: laid · OctetReads: laid · OctetHexes: laid · OctetKinds: laid · OctetRows: laid · OctetCapitals: laid · OctetBack: laid · OctetPairs: laid.
  DERIVED. THE GIVEN ROWS OF THIS SEAT. 10 by the template 'for every input the law returns true; each argument reads behind the call as it read before'; 0 by the template 'total and deterministic' (their statements: YtfljmojiglkckaaDoorTotals.lean).
  GIVEN WITH THE SEED: the statements are not yours to turn. If you find one false, say at which input.
  Laid BY PROGRAM, IN A SANDBOX (cutbox-rows.mjs): the forced cells as the released guide's own fill.sh prints them over the translation e1263efe6e39cdd0… (all of the seat's roots in one cut). By AI agents, Wed Nov 11 2026. No macro, syntax, notation, axiom, sorry.
-/
import Derived.Test.YtfljmojiglkckaaDoorChecked
import GoSem.Claim
import GoSem.ClaimJoined
import GoSem.ClaimMapViews
import Derived.JoinedTies
import Derived.KernelRfl
namespace Go.Proofs.YtfljmojiglkckaaDoor
/- THE CELL 'sum', in the pinned program and in every row, IS THE sha256 OF THE DUMP (.gsa) THAT YtfljmojiglkckaaDoorProg.lean LOADS. Nothing in Lean hashes anything: it is a label: what it is worth is what the hold of that sum in a sandbox is worth. -/
noncomputable def Tryd.pinned : Pinned := { name := "ytfljmojiglkckaadoor", sum := "e1263efe6e39cdd04cacdde69c384d30473b1b4e6274b8b36bf608c2dea7b8f5", checked := Tryd.checked }
namespace Rows
def none {H : Type} : Left H := { results := [], args := [] }

/- WHAT THE LISTED PACKAGE-LEVEL VARIABLES READ AS WHEN THE CALL BEGINS. Each datum BY PROGRAM (the guide's laid-datum.mjs) off the statement by which the dump's own 'gosem.cut.vars' lays the variable. In a bare row this is a premise. The card (YtfljmojiglkckaaDoorCards.lean) ties it to the program's text. -/
def laid_posthorn_octet_stretches {H : Type} : DataW H := .agg [.agg [.lit (.int .i64 1), .lit (.int .u8 65), .lit (.int .u8 90)], .agg [.lit (.int .i64 1), .lit (.int .u8 97), .lit (.int .u8 122)], .agg [.lit (.int .i64 2), .lit (.int .u8 48), .lit (.int .u8 57)], .agg [.lit (.int .i64 3), .lit (.int .u8 65), .lit (.int .u8 90)], .agg [.lit (.int .i64 3), .lit (.int .u8 97), .lit (.int .u8 122)], .agg [.lit (.int .i64 3), .lit (.int .u8 48), .lit (.int .u8 57)], .agg [.lit (.int .i64 4), .lit (.int .u8 48), .lit (.int .u8 57)], .agg [.lit (.int .i64 4), .lit (.int .u8 65), .lit (.int .u8 70)], .agg [.lit (.int .i64 4), .lit (.int .u8 97), .lit (.int .u8 102)], .agg [.lit (.int .i64 5), .lit (.int .u8 33), .lit (.int .u8 33)], .agg [.lit (.int .i64 5), .lit (.int .u8 35), .lit (.int .u8 39)], .agg [.lit (.int .i64 5), .lit (.int .u8 42), .lit (.int .u8 43)], .agg [.lit (.int .i64 5), .lit (.int .u8 45), .lit (.int .u8 45)], .agg [.lit (.int .i64 5), .lit (.int .u8 47), .lit (.int .u8 47)], .agg [.lit (.int .i64 5), .lit (.int .u8 61), .lit (.int .u8 61)], .agg [.lit (.int .i64 5), .lit (.int .u8 63), .lit (.int .u8 63)], .agg [.lit (.int .i64 5), .lit (.int .u8 94), .lit (.int .u8 96)], .agg [.lit (.int .i64 5), .lit (.int .u8 123), .lit (.int .u8 126)], .agg [.lit (.int .i64 6), .lit (.int .u8 32), .lit (.int .u8 33)], .agg [.lit (.int .i64 6), .lit (.int .u8 35), .lit (.int .u8 91)], .agg [.lit (.int .i64 6), .lit (.int .u8 93), .lit (.int .u8 126)], .agg [.lit (.int .i64 7), .lit (.int .u8 33), .lit (.int .u8 90)], .agg [.lit (.int .i64 7), .lit (.int .u8 94), .lit (.int .u8 126)], .agg [.lit (.int .i64 8), .lit (.int .u8 33), .lit (.int .u8 60)], .agg [.lit (.int .i64 8), .lit (.int .u8 62), .lit (.int .u8 126)], .agg [.lit (.int .i64 9), .lit (.int .u8 33), .lit (.int .u8 42)], .agg [.lit (.int .i64 9), .lit (.int .u8 44), .lit (.int .u8 60)], .agg [.lit (.int .i64 9), .lit (.int .u8 62), .lit (.int .u8 126)], .agg [.lit (.int .i64 10), .lit (.int .u8 45), .lit (.int .u8 45)], .agg [.lit (.int .i64 11), .lit (.int .u8 33), .lit (.int .u8 57)], .agg [.lit (.int .i64 11), .lit (.int .u8 59), .lit (.int .u8 126)], .agg [.lit (.int .i64 12), .lit (.int .u8 9), .lit (.int .u8 9)], .agg [.lit (.int .i64 12), .lit (.int .u8 32), .lit (.int .u8 126)], .agg [.lit (.int .i64 13), .lit (.int .u8 0), .lit (.int .u8 127)], .agg [.lit (.int .i64 14), .lit (.int .u8 128), .lit (.int .u8 255)]]

/-- 'posthornlaw01.OctetClasses': WHATEVER THE INPUT: true; the input reads as it did. -/
def octetClassesSpec : ChangeSpec := { name := "octetClasses", fn := fun _ => fun
  | [d] => { results := [.lit (.bool true)], args := [d] }
  | _ => none }
def octetClassesRow : OpenClaim := { program := "ytfljmojiglkckaadoor", sum := "e1263efe6e39cdd04cacdde69c384d30473b1b4e6274b8b36bf608c2dea7b8f5", func := "posthorn/posthornlaw01.OctetClasses", spec := "octetClasses", recurses := true, named := ["posthorn/octet.stretches"], apart := false, laid := [("posthorn/octet.stretches", laid_posthorn_octet_stretches)] }
def OctetClassesSaid : Prop := octetClassesRow.holds Tryd.pinned (OpenSpec.ofChange octetClassesSpec)

/-- ITS FALSE NEIGHBOUR: 'it returns false'. Refute it at one input. -/
def octetClassesWrong : ChangeSpec := { name := "octetClasses", fn := fun _ => fun
  | [d] => { results := [.lit (.bool false)], args := [d] }
  | _ => none }
def OctetClassesWrongFalsely : Prop := octetClassesRow.holds Tryd.pinned (OpenSpec.ofChange octetClassesWrong)

/-- 'posthornlaw01.OctetSpan': WHATEVER THE INPUT: true; the input reads as it did. -/
def octetSpanSpec : ChangeSpec := { name := "octetSpan", fn := fun _ => fun
  | [d1, d2, d3] => { results := [.lit (.bool true)], args := [d1, d2, d3] }
  | _ => none }
def octetSpanRow : OpenClaim := { program := "ytfljmojiglkckaadoor", sum := "e1263efe6e39cdd04cacdde69c384d30473b1b4e6274b8b36bf608c2dea7b8f5", func := "posthorn/posthornlaw01.OctetSpan", spec := "octetSpan", recurses := true, named := ["posthorn/octet.stretches"], apart := false, laid := [("posthorn/octet.stretches", laid_posthorn_octet_stretches)] }
def OctetSpanSaid : Prop := octetSpanRow.holds Tryd.pinned (OpenSpec.ofChange octetSpanSpec)

/-- ITS FALSE NEIGHBOUR: 'it returns false'. Refute it at one input. -/
def octetSpanWrong : ChangeSpec := { name := "octetSpan", fn := fun _ => fun
  | [d1, d2, d3] => { results := [.lit (.bool false)], args := [d1, d2, d3] }
  | _ => none }
def OctetSpanWrongFalsely : Prop := octetSpanRow.holds Tryd.pinned (OpenSpec.ofChange octetSpanWrong)

/-- 'posthornlaw01.OctetBad': WHATEVER THE INPUT: true; the input reads as it did. -/
def octetBadSpec : ChangeSpec := { name := "octetBad", fn := fun _ => fun
  | [d1, d2] => { results := [.lit (.bool true)], args := [d1, d2] }
  | _ => none }
def octetBadRow : OpenClaim := { program := "ytfljmojiglkckaadoor", sum := "e1263efe6e39cdd04cacdde69c384d30473b1b4e6274b8b36bf608c2dea7b8f5", func := "posthorn/posthornlaw01.OctetBad", spec := "octetBad", recurses := true, named := ["posthorn/octet.stretches"], apart := false, laid := [("posthorn/octet.stretches", laid_posthorn_octet_stretches)] }
def OctetBadSaid : Prop := octetBadRow.holds Tryd.pinned (OpenSpec.ofChange octetBadSpec)

/-- ITS FALSE NEIGHBOUR: 'it returns false'. Refute it at one input. -/
def octetBadWrong : ChangeSpec := { name := "octetBad", fn := fun _ => fun
  | [d1, d2] => { results := [.lit (.bool false)], args := [d1, d2] }
  | _ => none }
def OctetBadWrongFalsely : Prop := octetBadRow.holds Tryd.pinned (OpenSpec.ofChange octetBadWrong)

/-- 'posthornlaw01.OctetReads': WHATEVER THE INPUT: true; the input reads as it did. -/
def octetReadsSpec : ChangeSpec := { name := "octetReads", fn := fun _ => fun
  | [d1, d2] => { results := [.lit (.bool true)], args := [d1, d2] }
  | _ => none }
def octetReadsRow : OpenClaim := { program := "ytfljmojiglkckaadoor", sum := "e1263efe6e39cdd04cacdde69c384d30473b1b4e6274b8b36bf608c2dea7b8f5", func := "posthorn/posthornlaw01.OctetReads", spec := "octetReads", recurses := true, named := ["posthorn/octet.stretches"], apart := false, laid := [("posthorn/octet.stretches", laid_posthorn_octet_stretches)] }
def OctetReadsSaid : Prop := octetReadsRow.holds Tryd.pinned (OpenSpec.ofChange octetReadsSpec)

/-- ITS FALSE NEIGHBOUR: 'it returns false'. Refute it at one input. -/
def octetReadsWrong : ChangeSpec := { name := "octetReads", fn := fun _ => fun
  | [d1, d2] => { results := [.lit (.bool false)], args := [d1, d2] }
  | _ => none }
def OctetReadsWrongFalsely : Prop := octetReadsRow.holds Tryd.pinned (OpenSpec.ofChange octetReadsWrong)

/-- 'posthornlaw01.OctetHexes': WHATEVER THE INPUT: true; the input reads as it did. -/
def octetHexesSpec : ChangeSpec := { name := "octetHexes", fn := fun _ => fun
  | [d] => { results := [.lit (.bool true)], args := [d] }
  | _ => none }
def octetHexesRow : OpenClaim := { program := "ytfljmojiglkckaadoor", sum := "e1263efe6e39cdd04cacdde69c384d30473b1b4e6274b8b36bf608c2dea7b8f5", func := "posthorn/posthornlaw01.OctetHexes", spec := "octetHexes", recurses := true, named := ["posthorn/octet.stretches"], apart := false, laid := [("posthorn/octet.stretches", laid_posthorn_octet_stretches)] }
def OctetHexesSaid : Prop := octetHexesRow.holds Tryd.pinned (OpenSpec.ofChange octetHexesSpec)

/-- ITS FALSE NEIGHBOUR: 'it returns false'. Refute it at one input. -/
def octetHexesWrong : ChangeSpec := { name := "octetHexes", fn := fun _ => fun
  | [d] => { results := [.lit (.bool false)], args := [d] }
  | _ => none }
def OctetHexesWrongFalsely : Prop := octetHexesRow.holds Tryd.pinned (OpenSpec.ofChange octetHexesWrong)

/-- 'posthornlaw01.OctetKinds': WHATEVER THE INPUT: true; the input reads as it did. -/
def octetKindsSpec : ChangeSpec := { name := "octetKinds", fn := fun _ => fun
  | [d1, d2] => { results := [.lit (.bool true)], args := [d1, d2] }
  | _ => none }
def octetKindsRow : OpenClaim := { program := "ytfljmojiglkckaadoor", sum := "e1263efe6e39cdd04cacdde69c384d30473b1b4e6274b8b36bf608c2dea7b8f5", func := "posthorn/posthornlaw01.OctetKinds", spec := "octetKinds", recurses := true, named := ["posthorn/octet.stretches"], apart := false, laid := [("posthorn/octet.stretches", laid_posthorn_octet_stretches)] }
def OctetKindsSaid : Prop := octetKindsRow.holds Tryd.pinned (OpenSpec.ofChange octetKindsSpec)

/-- ITS FALSE NEIGHBOUR: 'it returns false'. Refute it at one input. -/
def octetKindsWrong : ChangeSpec := { name := "octetKinds", fn := fun _ => fun
  | [d1, d2] => { results := [.lit (.bool false)], args := [d1, d2] }
  | _ => none }
def OctetKindsWrongFalsely : Prop := octetKindsRow.holds Tryd.pinned (OpenSpec.ofChange octetKindsWrong)

/-- 'posthornlaw01.OctetRows': WHATEVER THE INPUT: true; the input reads as it did. -/
def octetRowsSpec : ChangeSpec := { name := "octetRows", fn := fun _ => fun
  | [d1, d2, d3] => { results := [.lit (.bool true)], args := [d1, d2, d3] }
  | _ => none }
def octetRowsRow : OpenClaim := { program := "ytfljmojiglkckaadoor", sum := "e1263efe6e39cdd04cacdde69c384d30473b1b4e6274b8b36bf608c2dea7b8f5", func := "posthorn/posthornlaw01.OctetRows", spec := "octetRows", recurses := true, named := ["posthorn/octet.stretches"], apart := false, laid := [("posthorn/octet.stretches", laid_posthorn_octet_stretches)] }
def OctetRowsSaid : Prop := octetRowsRow.holds Tryd.pinned (OpenSpec.ofChange octetRowsSpec)

/-- ITS FALSE NEIGHBOUR: 'it returns false'. Refute it at one input. -/
def octetRowsWrong : ChangeSpec := { name := "octetRows", fn := fun _ => fun
  | [d1, d2, d3] => { results := [.lit (.bool false)], args := [d1, d2, d3] }
  | _ => none }
def OctetRowsWrongFalsely : Prop := octetRowsRow.holds Tryd.pinned (OpenSpec.ofChange octetRowsWrong)

/-- 'posthornlaw01.OctetCapitals': WHATEVER THE INPUT: true; the input reads as it did. -/
def octetCapitalsSpec : ChangeSpec := { name := "octetCapitals", fn := fun _ => fun
  | [d1, d2] => { results := [.lit (.bool true)], args := [d1, d2] }
  | _ => none }
def octetCapitalsRow : OpenClaim := { program := "ytfljmojiglkckaadoor", sum := "e1263efe6e39cdd04cacdde69c384d30473b1b4e6274b8b36bf608c2dea7b8f5", func := "posthorn/posthornlaw01.OctetCapitals", spec := "octetCapitals", recurses := true, named := ["posthorn/octet.stretches"], apart := false, laid := [("posthorn/octet.stretches", laid_posthorn_octet_stretches)] }
def OctetCapitalsSaid : Prop := octetCapitalsRow.holds Tryd.pinned (OpenSpec.ofChange octetCapitalsSpec)

/-- ITS FALSE NEIGHBOUR: 'it returns false'. Refute it at one input. -/
def octetCapitalsWrong : ChangeSpec := { name := "octetCapitals", fn := fun _ => fun
  | [d1, d2] => { results := [.lit (.bool false)], args := [d1, d2] }
  | _ => none }
def OctetCapitalsWrongFalsely : Prop := octetCapitalsRow.holds Tryd.pinned (OpenSpec.ofChange octetCapitalsWrong)

/-- 'posthornlaw01.OctetBack': WHATEVER THE INPUT: true; the input reads as it did. -/
def octetBackSpec : ChangeSpec := { name := "octetBack", fn := fun _ => fun
  | [d1, d2, d3] => { results := [.lit (.bool true)], args := [d1, d2, d3] }
  | _ => none }
def octetBackRow : OpenClaim := { program := "ytfljmojiglkckaadoor", sum := "e1263efe6e39cdd04cacdde69c384d30473b1b4e6274b8b36bf608c2dea7b8f5", func := "posthorn/posthornlaw01.OctetBack", spec := "octetBack", recurses := true, named := ["posthorn/octet.stretches"], apart := false, laid := [("posthorn/octet.stretches", laid_posthorn_octet_stretches)] }
def OctetBackSaid : Prop := octetBackRow.holds Tryd.pinned (OpenSpec.ofChange octetBackSpec)

/-- ITS FALSE NEIGHBOUR: 'it returns false'. Refute it at one input. -/
def octetBackWrong : ChangeSpec := { name := "octetBack", fn := fun _ => fun
  | [d1, d2, d3] => { results := [.lit (.bool false)], args := [d1, d2, d3] }
  | _ => none }
def OctetBackWrongFalsely : Prop := octetBackRow.holds Tryd.pinned (OpenSpec.ofChange octetBackWrong)

/-- 'posthornlaw01.OctetPairs': WHATEVER THE INPUT: true; the input reads as it did. -/
def octetPairsSpec : ChangeSpec := { name := "octetPairs", fn := fun _ => fun
  | [d] => { results := [.lit (.bool true)], args := [d] }
  | _ => none }
def octetPairsRow : OpenClaim := { program := "ytfljmojiglkckaadoor", sum := "e1263efe6e39cdd04cacdde69c384d30473b1b4e6274b8b36bf608c2dea7b8f5", func := "posthorn/posthornlaw01.OctetPairs", spec := "octetPairs", recurses := true, named := ["posthorn/octet.stretches"], apart := false, laid := [("posthorn/octet.stretches", laid_posthorn_octet_stretches)] }
def OctetPairsSaid : Prop := octetPairsRow.holds Tryd.pinned (OpenSpec.ofChange octetPairsSpec)

/-- ITS FALSE NEIGHBOUR: 'it returns false'. Refute it at one input. -/
def octetPairsWrong : ChangeSpec := { name := "octetPairs", fn := fun _ => fun
  | [d] => { results := [.lit (.bool false)], args := [d] }
  | _ => none }
def OctetPairsWrongFalsely : Prop := octetPairsRow.holds Tryd.pinned (OpenSpec.ofChange octetPairsWrong)

/- THE SECOND FORM. 'bulk': how many values and letters a reading holds, each counted each time it is reached (what is shared counts as often as it is met; a slice's spare places count too). A statement '..UptoSaid' is the law's where the arguments, and the package variables that the reading takes, are together of bulk at most 1048576: NARROWER than '..Said'. Prove '..Said' where nothing that the law and all that it calls make is longer than what came in: it says more and counts as full. Else prove '..UptoSaid'. A law counts once. -/
mutual
def uptoBulk {H : Type} : DataW H → Nat
  | .lit (.string bytes) => bytes.length + 1
  | .lit _ => 1
  | .nil => 1
  | .ptr d => uptoBulk d + 1
  | .slice elems spare => uptoBulkAll elems + uptoBulkAll spare + 1
  | .agg parts => uptoBulkAll parts + 1
  | .iface _ d => uptoBulk d + 1
  | .map entries => uptoBulkEntries entries + 1
  | .held _ => 1
def uptoBulkAll {H : Type} : List (DataW H) → Nat
  | [] => 0
  | d :: r => uptoBulk d + uptoBulkAll r
def uptoBulkEntries {H : Type} : List (Lit × DataW H) → Nat
  | [] => 0
  | x :: r => uptoBulkEntry x + uptoBulkEntries r
def uptoBulkEntry {H : Type} : Lit × DataW H → Nat
  | (.string bytes, d) => bytes.length + uptoBulk d + 1
  | (_, d) => uptoBulk d + 1
 end
def uptoSmall : (H : Type) → List (DataW H) → Bool := fun _ ds => decide (uptoBulkAll ds ≤ 1048576)
def OpenSpec.upto (s : _root_.Go.ChangeSpec) : _root_.Go.OpenSpec := { _root_.Go.OpenSpec.ofChange s with cond := some uptoSmall }

/-- 'posthornlaw01.OctetClasses', WHERE WHAT IT READS IS OF BULK AT MOST 1048576: true; the input reads as it did. -/
def octetClassesUptoRow : OpenClaim := { program := "ytfljmojiglkckaadoor", sum := "e1263efe6e39cdd04cacdde69c384d30473b1b4e6274b8b36bf608c2dea7b8f5", func := "posthorn/posthornlaw01.OctetClasses", spec := "octetClasses", recurses := true, named := ["posthorn/octet.stretches"], apart := false, laid := [("posthorn/octet.stretches", laid_posthorn_octet_stretches)], narrowed := true }
def OctetClassesUptoSaid : Prop := octetClassesUptoRow.holds Tryd.pinned (OpenSpec.upto octetClassesSpec)

/-- 'posthornlaw01.OctetSpan', WHERE WHAT IT READS IS OF BULK AT MOST 1048576: true; the input reads as it did. -/
def octetSpanUptoRow : OpenClaim := { program := "ytfljmojiglkckaadoor", sum := "e1263efe6e39cdd04cacdde69c384d30473b1b4e6274b8b36bf608c2dea7b8f5", func := "posthorn/posthornlaw01.OctetSpan", spec := "octetSpan", recurses := true, named := ["posthorn/octet.stretches"], apart := false, laid := [("posthorn/octet.stretches", laid_posthorn_octet_stretches)], narrowed := true }
def OctetSpanUptoSaid : Prop := octetSpanUptoRow.holds Tryd.pinned (OpenSpec.upto octetSpanSpec)

/-- 'posthornlaw01.OctetBad', WHERE WHAT IT READS IS OF BULK AT MOST 1048576: true; the input reads as it did. -/
def octetBadUptoRow : OpenClaim := { program := "ytfljmojiglkckaadoor", sum := "e1263efe6e39cdd04cacdde69c384d30473b1b4e6274b8b36bf608c2dea7b8f5", func := "posthorn/posthornlaw01.OctetBad", spec := "octetBad", recurses := true, named := ["posthorn/octet.stretches"], apart := false, laid := [("posthorn/octet.stretches", laid_posthorn_octet_stretches)], narrowed := true }
def OctetBadUptoSaid : Prop := octetBadUptoRow.holds Tryd.pinned (OpenSpec.upto octetBadSpec)

/-- 'posthornlaw01.OctetReads', WHERE WHAT IT READS IS OF BULK AT MOST 1048576: true; the input reads as it did. -/
def octetReadsUptoRow : OpenClaim := { program := "ytfljmojiglkckaadoor", sum := "e1263efe6e39cdd04cacdde69c384d30473b1b4e6274b8b36bf608c2dea7b8f5", func := "posthorn/posthornlaw01.OctetReads", spec := "octetReads", recurses := true, named := ["posthorn/octet.stretches"], apart := false, laid := [("posthorn/octet.stretches", laid_posthorn_octet_stretches)], narrowed := true }
def OctetReadsUptoSaid : Prop := octetReadsUptoRow.holds Tryd.pinned (OpenSpec.upto octetReadsSpec)

/-- 'posthornlaw01.OctetHexes', WHERE WHAT IT READS IS OF BULK AT MOST 1048576: true; the input reads as it did. -/
def octetHexesUptoRow : OpenClaim := { program := "ytfljmojiglkckaadoor", sum := "e1263efe6e39cdd04cacdde69c384d30473b1b4e6274b8b36bf608c2dea7b8f5", func := "posthorn/posthornlaw01.OctetHexes", spec := "octetHexes", recurses := true, named := ["posthorn/octet.stretches"], apart := false, laid := [("posthorn/octet.stretches", laid_posthorn_octet_stretches)], narrowed := true }
def OctetHexesUptoSaid : Prop := octetHexesUptoRow.holds Tryd.pinned (OpenSpec.upto octetHexesSpec)

/-- 'posthornlaw01.OctetKinds', WHERE WHAT IT READS IS OF BULK AT MOST 1048576: true; the input reads as it did. -/
def octetKindsUptoRow : OpenClaim := { program := "ytfljmojiglkckaadoor", sum := "e1263efe6e39cdd04cacdde69c384d30473b1b4e6274b8b36bf608c2dea7b8f5", func := "posthorn/posthornlaw01.OctetKinds", spec := "octetKinds", recurses := true, named := ["posthorn/octet.stretches"], apart := false, laid := [("posthorn/octet.stretches", laid_posthorn_octet_stretches)], narrowed := true }
def OctetKindsUptoSaid : Prop := octetKindsUptoRow.holds Tryd.pinned (OpenSpec.upto octetKindsSpec)

/-- 'posthornlaw01.OctetRows', WHERE WHAT IT READS IS OF BULK AT MOST 1048576: true; the input reads as it did. -/
def octetRowsUptoRow : OpenClaim := { program := "ytfljmojiglkckaadoor", sum := "e1263efe6e39cdd04cacdde69c384d30473b1b4e6274b8b36bf608c2dea7b8f5", func := "posthorn/posthornlaw01.OctetRows", spec := "octetRows", recurses := true, named := ["posthorn/octet.stretches"], apart := false, laid := [("posthorn/octet.stretches", laid_posthorn_octet_stretches)], narrowed := true }
def OctetRowsUptoSaid : Prop := octetRowsUptoRow.holds Tryd.pinned (OpenSpec.upto octetRowsSpec)

/-- 'posthornlaw01.OctetCapitals', WHERE WHAT IT READS IS OF BULK AT MOST 1048576: true; the input reads as it did. -/
def octetCapitalsUptoRow : OpenClaim := { program := "ytfljmojiglkckaadoor", sum := "e1263efe6e39cdd04cacdde69c384d30473b1b4e6274b8b36bf608c2dea7b8f5", func := "posthorn/posthornlaw01.OctetCapitals", spec := "octetCapitals", recurses := true, named := ["posthorn/octet.stretches"], apart := false, laid := [("posthorn/octet.stretches", laid_posthorn_octet_stretches)], narrowed := true }
def OctetCapitalsUptoSaid : Prop := octetCapitalsUptoRow.holds Tryd.pinned (OpenSpec.upto octetCapitalsSpec)

/-- 'posthornlaw01.OctetBack', WHERE WHAT IT READS IS OF BULK AT MOST 1048576: true; the input reads as it did. -/
def octetBackUptoRow : OpenClaim := { program := "ytfljmojiglkckaadoor", sum := "e1263efe6e39cdd04cacdde69c384d30473b1b4e6274b8b36bf608c2dea7b8f5", func := "posthorn/posthornlaw01.OctetBack", spec := "octetBack", recurses := true, named := ["posthorn/octet.stretches"], apart := false, laid := [("posthorn/octet.stretches", laid_posthorn_octet_stretches)], narrowed := true }
def OctetBackUptoSaid : Prop := octetBackUptoRow.holds Tryd.pinned (OpenSpec.upto octetBackSpec)

/-- 'posthornlaw01.OctetPairs', WHERE WHAT IT READS IS OF BULK AT MOST 1048576: true; the input reads as it did. -/
def octetPairsUptoRow : OpenClaim := { program := "ytfljmojiglkckaadoor", sum := "e1263efe6e39cdd04cacdde69c384d30473b1b4e6274b8b36bf608c2dea7b8f5", func := "posthorn/posthornlaw01.OctetPairs", spec := "octetPairs", recurses := true, named := ["posthorn/octet.stretches"], apart := false, laid := [("posthorn/octet.stretches", laid_posthorn_octet_stretches)], narrowed := true }
def OctetPairsUptoSaid : Prop := octetPairsUptoRow.holds Tryd.pinned (OpenSpec.upto octetPairsSpec)

end Rows
end Go.Proofs.YtfljmojiglkckaaDoor
