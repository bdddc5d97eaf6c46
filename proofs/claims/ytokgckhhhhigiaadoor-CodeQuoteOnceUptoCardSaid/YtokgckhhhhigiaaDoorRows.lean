/-
  NARROWER THAN 'FOR EVERY INPUT', by the rows' own cells (each row's printed sentence says how): CodeQuotes: laid · CodeUnquotes: laid · CodeBack: laid · CodeOnce: laid · CodeQuoteBack: laid · CodeQuoteOnce: laid · CodeCuts: laid · CodeRowsBack: laid.
  DERIVED. THE GIVEN ROWS OF THIS SEAT. 8 by the template 'for every input the law returns true; each argument reads behind the call as it read before'; 0 by the template 'total and deterministic' (their statements: YtokgckhhhhigiaaDoorTotals.lean).
  GIVEN WITH THE SEED: the statements are not yours to turn. If you find one false, say at which input.
  Laid BY PROGRAM, IN A SANDBOX (cutbox-rows.mjs): the forced cells as the released guide's own fill.sh prints them over the translation b5a1510de9ac70c1… (all of the seat's roots in one cut). By AI agents, Wed Nov 11 2026. No macro, syntax, notation, axiom, sorry.
-/
import Derived.Test.YtokgckhhhhigiaaDoorChecked
import GoSem.Claim
import GoSem.ClaimJoined
import GoSem.ClaimMapViews
import Derived.JoinedTies
import Derived.KernelRfl
namespace Go.Proofs.YtokgckhhhhigiaaDoor
/- THE CELL 'sum', in the pinned program and in every row, IS THE sha256 OF THE DUMP (.gsa) THAT YtokgckhhhhigiaaDoorProg.lean LOADS. Nothing in Lean hashes anything: it is a label: what it is worth is what the hold of that sum in a sandbox is worth. -/
noncomputable def Tryd.pinned : Pinned := { name := "ytokgckhhhhigiaadoor", sum := "b5a1510de9ac70c14fa88700cd5542146cc487cc6396882699300cefcb7f45b6", checked := Tryd.checked }
namespace Rows
def none {H : Type} : Left H := { results := [], args := [] }

/- WHAT THE LISTED PACKAGE-LEVEL VARIABLES READ AS WHEN THE CALL BEGINS. Each datum BY PROGRAM (the guide's laid-datum.mjs) off the statement by which the dump's own 'gosem.cut.vars' lays the variable. In a bare row this is a premise. The card (YtokgckhhhhigiaaDoorCards.lean) ties it to the program's text. -/
def laid_posthorn_octet_stretches {H : Type} : DataW H := .agg [.agg [.lit (.int .i64 1), .lit (.int .u8 65), .lit (.int .u8 90)], .agg [.lit (.int .i64 1), .lit (.int .u8 97), .lit (.int .u8 122)], .agg [.lit (.int .i64 2), .lit (.int .u8 48), .lit (.int .u8 57)], .agg [.lit (.int .i64 3), .lit (.int .u8 65), .lit (.int .u8 90)], .agg [.lit (.int .i64 3), .lit (.int .u8 97), .lit (.int .u8 122)], .agg [.lit (.int .i64 3), .lit (.int .u8 48), .lit (.int .u8 57)], .agg [.lit (.int .i64 4), .lit (.int .u8 48), .lit (.int .u8 57)], .agg [.lit (.int .i64 4), .lit (.int .u8 65), .lit (.int .u8 70)], .agg [.lit (.int .i64 4), .lit (.int .u8 97), .lit (.int .u8 102)], .agg [.lit (.int .i64 5), .lit (.int .u8 33), .lit (.int .u8 33)], .agg [.lit (.int .i64 5), .lit (.int .u8 35), .lit (.int .u8 39)], .agg [.lit (.int .i64 5), .lit (.int .u8 42), .lit (.int .u8 43)], .agg [.lit (.int .i64 5), .lit (.int .u8 45), .lit (.int .u8 45)], .agg [.lit (.int .i64 5), .lit (.int .u8 47), .lit (.int .u8 47)], .agg [.lit (.int .i64 5), .lit (.int .u8 61), .lit (.int .u8 61)], .agg [.lit (.int .i64 5), .lit (.int .u8 63), .lit (.int .u8 63)], .agg [.lit (.int .i64 5), .lit (.int .u8 94), .lit (.int .u8 96)], .agg [.lit (.int .i64 5), .lit (.int .u8 123), .lit (.int .u8 126)], .agg [.lit (.int .i64 6), .lit (.int .u8 32), .lit (.int .u8 33)], .agg [.lit (.int .i64 6), .lit (.int .u8 35), .lit (.int .u8 91)], .agg [.lit (.int .i64 6), .lit (.int .u8 93), .lit (.int .u8 126)], .agg [.lit (.int .i64 7), .lit (.int .u8 33), .lit (.int .u8 90)], .agg [.lit (.int .i64 7), .lit (.int .u8 94), .lit (.int .u8 126)], .agg [.lit (.int .i64 8), .lit (.int .u8 33), .lit (.int .u8 60)], .agg [.lit (.int .i64 8), .lit (.int .u8 62), .lit (.int .u8 126)], .agg [.lit (.int .i64 9), .lit (.int .u8 33), .lit (.int .u8 42)], .agg [.lit (.int .i64 9), .lit (.int .u8 44), .lit (.int .u8 60)], .agg [.lit (.int .i64 9), .lit (.int .u8 62), .lit (.int .u8 126)], .agg [.lit (.int .i64 10), .lit (.int .u8 45), .lit (.int .u8 45)], .agg [.lit (.int .i64 11), .lit (.int .u8 33), .lit (.int .u8 57)], .agg [.lit (.int .i64 11), .lit (.int .u8 59), .lit (.int .u8 126)], .agg [.lit (.int .i64 12), .lit (.int .u8 9), .lit (.int .u8 9)], .agg [.lit (.int .i64 12), .lit (.int .u8 32), .lit (.int .u8 126)], .agg [.lit (.int .i64 13), .lit (.int .u8 0), .lit (.int .u8 127)], .agg [.lit (.int .i64 14), .lit (.int .u8 128), .lit (.int .u8 255)]]

/-- 'posthornlaw04.CodeQuotes': WHATEVER THE INPUT: true; the input reads as it did. -/
def codeQuotesSpec : ChangeSpec := { name := "codeQuotes", fn := fun _ => fun
  | [d] => { results := [.lit (.bool true)], args := [d] }
  | _ => none }
def codeQuotesRow : OpenClaim := { program := "ytokgckhhhhigiaadoor", sum := "b5a1510de9ac70c14fa88700cd5542146cc487cc6396882699300cefcb7f45b6", func := "posthorn/posthornlaw04.CodeQuotes", spec := "codeQuotes", recurses := true, named := ["posthorn/octet.stretches"], apart := false, laid := [("posthorn/octet.stretches", laid_posthorn_octet_stretches)] }
def CodeQuotesSaid : Prop := codeQuotesRow.holds Tryd.pinned (OpenSpec.ofChange codeQuotesSpec)

/-- ITS FALSE NEIGHBOUR: 'it returns false'. Refute it at one input. -/
def codeQuotesWrong : ChangeSpec := { name := "codeQuotes", fn := fun _ => fun
  | [d] => { results := [.lit (.bool false)], args := [d] }
  | _ => none }
def CodeQuotesWrongFalsely : Prop := codeQuotesRow.holds Tryd.pinned (OpenSpec.ofChange codeQuotesWrong)

/-- 'posthornlaw04.CodeUnquotes': WHATEVER THE INPUT: true; the input reads as it did. -/
def codeUnquotesSpec : ChangeSpec := { name := "codeUnquotes", fn := fun _ => fun
  | [d] => { results := [.lit (.bool true)], args := [d] }
  | _ => none }
def codeUnquotesRow : OpenClaim := { program := "ytokgckhhhhigiaadoor", sum := "b5a1510de9ac70c14fa88700cd5542146cc487cc6396882699300cefcb7f45b6", func := "posthorn/posthornlaw04.CodeUnquotes", spec := "codeUnquotes", unfollowed := true, recurses := true, named := ["posthorn/octet.stretches"], apart := false, laid := [("posthorn/octet.stretches", laid_posthorn_octet_stretches)] }
def CodeUnquotesSaid : Prop := codeUnquotesRow.holds Tryd.pinned (OpenSpec.ofChange codeUnquotesSpec)

/-- ITS FALSE NEIGHBOUR: 'it returns false'. Refute it at one input. -/
def codeUnquotesWrong : ChangeSpec := { name := "codeUnquotes", fn := fun _ => fun
  | [d] => { results := [.lit (.bool false)], args := [d] }
  | _ => none }
def CodeUnquotesWrongFalsely : Prop := codeUnquotesRow.holds Tryd.pinned (OpenSpec.ofChange codeUnquotesWrong)

/-- 'posthornlaw04.CodeBack': WHATEVER THE INPUT: true; the input reads as it did. -/
def codeBackSpec : ChangeSpec := { name := "codeBack", fn := fun _ => fun
  | [d] => { results := [.lit (.bool true)], args := [d] }
  | _ => none }
def codeBackRow : OpenClaim := { program := "ytokgckhhhhigiaadoor", sum := "b5a1510de9ac70c14fa88700cd5542146cc487cc6396882699300cefcb7f45b6", func := "posthorn/posthornlaw04.CodeBack", spec := "codeBack", unfollowed := true, recurses := true, named := ["posthorn/octet.stretches"], apart := false, laid := [("posthorn/octet.stretches", laid_posthorn_octet_stretches)] }
def CodeBackSaid : Prop := codeBackRow.holds Tryd.pinned (OpenSpec.ofChange codeBackSpec)

/-- ITS FALSE NEIGHBOUR: 'it returns false'. Refute it at one input. -/
def codeBackWrong : ChangeSpec := { name := "codeBack", fn := fun _ => fun
  | [d] => { results := [.lit (.bool false)], args := [d] }
  | _ => none }
def CodeBackWrongFalsely : Prop := codeBackRow.holds Tryd.pinned (OpenSpec.ofChange codeBackWrong)

/-- 'posthornlaw04.CodeOnce': WHATEVER THE INPUT: true; the input reads as it did. -/
def codeOnceSpec : ChangeSpec := { name := "codeOnce", fn := fun _ => fun
  | [d1, d2, d3] => { results := [.lit (.bool true)], args := [d1, d2, d3] }
  | _ => none }
def codeOnceRow : OpenClaim := { program := "ytokgckhhhhigiaadoor", sum := "b5a1510de9ac70c14fa88700cd5542146cc487cc6396882699300cefcb7f45b6", func := "posthorn/posthornlaw04.CodeOnce", spec := "codeOnce", unfollowed := true, recurses := true, named := ["posthorn/octet.stretches"], apart := false, laid := [("posthorn/octet.stretches", laid_posthorn_octet_stretches)] }
def CodeOnceSaid : Prop := codeOnceRow.holds Tryd.pinned (OpenSpec.ofChange codeOnceSpec)

/-- ITS FALSE NEIGHBOUR: 'it returns false'. Refute it at one input. -/
def codeOnceWrong : ChangeSpec := { name := "codeOnce", fn := fun _ => fun
  | [d1, d2, d3] => { results := [.lit (.bool false)], args := [d1, d2, d3] }
  | _ => none }
def CodeOnceWrongFalsely : Prop := codeOnceRow.holds Tryd.pinned (OpenSpec.ofChange codeOnceWrong)

/-- 'posthornlaw04.CodeQuoteBack': WHATEVER THE INPUT: true; the input reads as it did. -/
def codeQuoteBackSpec : ChangeSpec := { name := "codeQuoteBack", fn := fun _ => fun
  | [d] => { results := [.lit (.bool true)], args := [d] }
  | _ => none }
def codeQuoteBackRow : OpenClaim := { program := "ytokgckhhhhigiaadoor", sum := "b5a1510de9ac70c14fa88700cd5542146cc487cc6396882699300cefcb7f45b6", func := "posthorn/posthornlaw04.CodeQuoteBack", spec := "codeQuoteBack", unfollowed := true, recurses := true, named := ["posthorn/octet.stretches"], apart := false, laid := [("posthorn/octet.stretches", laid_posthorn_octet_stretches)] }
def CodeQuoteBackSaid : Prop := codeQuoteBackRow.holds Tryd.pinned (OpenSpec.ofChange codeQuoteBackSpec)

/-- ITS FALSE NEIGHBOUR: 'it returns false'. Refute it at one input. -/
def codeQuoteBackWrong : ChangeSpec := { name := "codeQuoteBack", fn := fun _ => fun
  | [d] => { results := [.lit (.bool false)], args := [d] }
  | _ => none }
def CodeQuoteBackWrongFalsely : Prop := codeQuoteBackRow.holds Tryd.pinned (OpenSpec.ofChange codeQuoteBackWrong)

/-- 'posthornlaw04.CodeQuoteOnce': WHATEVER THE INPUT: true; the input reads as it did. -/
def codeQuoteOnceSpec : ChangeSpec := { name := "codeQuoteOnce", fn := fun _ => fun
  | [d1, d2] => { results := [.lit (.bool true)], args := [d1, d2] }
  | _ => none }
def codeQuoteOnceRow : OpenClaim := { program := "ytokgckhhhhigiaadoor", sum := "b5a1510de9ac70c14fa88700cd5542146cc487cc6396882699300cefcb7f45b6", func := "posthorn/posthornlaw04.CodeQuoteOnce", spec := "codeQuoteOnce", unfollowed := true, recurses := true, named := ["posthorn/octet.stretches"], apart := false, laid := [("posthorn/octet.stretches", laid_posthorn_octet_stretches)] }
def CodeQuoteOnceSaid : Prop := codeQuoteOnceRow.holds Tryd.pinned (OpenSpec.ofChange codeQuoteOnceSpec)

/-- ITS FALSE NEIGHBOUR: 'it returns false'. Refute it at one input. -/
def codeQuoteOnceWrong : ChangeSpec := { name := "codeQuoteOnce", fn := fun _ => fun
  | [d1, d2] => { results := [.lit (.bool false)], args := [d1, d2] }
  | _ => none }
def CodeQuoteOnceWrongFalsely : Prop := codeQuoteOnceRow.holds Tryd.pinned (OpenSpec.ofChange codeQuoteOnceWrong)

/-- 'posthornlaw04.CodeCuts': WHATEVER THE INPUT: true; the input reads as it did. -/
def codeCutsSpec : ChangeSpec := { name := "codeCuts", fn := fun _ => fun
  | [d1, d2, d3] => { results := [.lit (.bool true)], args := [d1, d2, d3] }
  | _ => none }
def codeCutsRow : OpenClaim := { program := "ytokgckhhhhigiaadoor", sum := "b5a1510de9ac70c14fa88700cd5542146cc487cc6396882699300cefcb7f45b6", func := "posthorn/posthornlaw04.CodeCuts", spec := "codeCuts", unfollowed := true, recurses := true, named := ["posthorn/octet.stretches"], apart := false, laid := [("posthorn/octet.stretches", laid_posthorn_octet_stretches)] }
def CodeCutsSaid : Prop := codeCutsRow.holds Tryd.pinned (OpenSpec.ofChange codeCutsSpec)

/-- ITS FALSE NEIGHBOUR: 'it returns false'. Refute it at one input. -/
def codeCutsWrong : ChangeSpec := { name := "codeCuts", fn := fun _ => fun
  | [d1, d2, d3] => { results := [.lit (.bool false)], args := [d1, d2, d3] }
  | _ => none }
def CodeCutsWrongFalsely : Prop := codeCutsRow.holds Tryd.pinned (OpenSpec.ofChange codeCutsWrong)

/-- 'posthornlaw04.CodeRowsBack': WHATEVER THE INPUT: true; the input reads as it did. -/
def codeRowsBackSpec : ChangeSpec := { name := "codeRowsBack", fn := fun _ => fun
  | [d1, d2, d3] => { results := [.lit (.bool true)], args := [d1, d2, d3] }
  | _ => none }
def codeRowsBackRow : OpenClaim := { program := "ytokgckhhhhigiaadoor", sum := "b5a1510de9ac70c14fa88700cd5542146cc487cc6396882699300cefcb7f45b6", func := "posthorn/posthornlaw04.CodeRowsBack", spec := "codeRowsBack", unfollowed := true, recurses := true, named := ["posthorn/octet.stretches"], apart := false, laid := [("posthorn/octet.stretches", laid_posthorn_octet_stretches)] }
def CodeRowsBackSaid : Prop := codeRowsBackRow.holds Tryd.pinned (OpenSpec.ofChange codeRowsBackSpec)

/-- ITS FALSE NEIGHBOUR: 'it returns false'. Refute it at one input. -/
def codeRowsBackWrong : ChangeSpec := { name := "codeRowsBack", fn := fun _ => fun
  | [d1, d2, d3] => { results := [.lit (.bool false)], args := [d1, d2, d3] }
  | _ => none }
def CodeRowsBackWrongFalsely : Prop := codeRowsBackRow.holds Tryd.pinned (OpenSpec.ofChange codeRowsBackWrong)

/- THE SECOND FORM. 'bulk': how many values and letters a reading holds, each counted each time it is reached (what is shared counts as often as it is met; a slice's spare places count too). A statement '..UptoSaid' is the law's where the arguments, and the package variables that the reading takes, are together of bulk at most 1048576: NARROWER than '..Said'. Prove '..Said' where nothing that the law and all that it calls make is longer than what came in: it says more and counts as full. Else prove '..UptoSaid'. A law counts once. -/
mutual
def uptoBulk {H : Type} : DataW H → Nat
  | .lit (.string bytes) => bytes.length + 1
  | .lit _ => 1
  | .nil => 1
  | .ptr d => uptoBulk d + 1
  | .slice elems spare => uptoBulkAll elems + uptoBulkAll spare + 1
  | .agg parts => uptoBulkAll parts + 1
  | .iface _ d => uptoBulk d + 1
  | .map entries => uptoBulkEntries entries + 1
  | .held _ => 1
def uptoBulkAll {H : Type} : List (DataW H) → Nat
  | [] => 0
  | d :: r => uptoBulk d + uptoBulkAll r
def uptoBulkEntries {H : Type} : List (Lit × DataW H) → Nat
  | [] => 0
  | x :: r => uptoBulkEntry x + uptoBulkEntries r
def uptoBulkEntry {H : Type} : Lit × DataW H → Nat
  | (.string bytes, d) => bytes.length + uptoBulk d + 1
  | (_, d) => uptoBulk d + 1
 end
def uptoSmall : (H : Type) → List (DataW H) → Bool := fun _ ds => decide (uptoBulkAll ds ≤ 1048576)
def OpenSpec.upto (s : _root_.Go.ChangeSpec) : _root_.Go.OpenSpec := { _root_.Go.OpenSpec.ofChange s with cond := some uptoSmall }

/-- 'posthornlaw04.CodeQuotes', WHERE WHAT IT READS IS OF BULK AT MOST 1048576: true; the input reads as it did. -/
def codeQuotesUptoRow : OpenClaim := { program := "ytokgckhhhhigiaadoor", sum := "b5a1510de9ac70c14fa88700cd5542146cc487cc6396882699300cefcb7f45b6", func := "posthorn/posthornlaw04.CodeQuotes", spec := "codeQuotes", recurses := true, named := ["posthorn/octet.stretches"], apart := false, laid := [("posthorn/octet.stretches", laid_posthorn_octet_stretches)], narrowed := true }
def CodeQuotesUptoSaid : Prop := codeQuotesUptoRow.holds Tryd.pinned (OpenSpec.upto codeQuotesSpec)

/-- 'posthornlaw04.CodeUnquotes', WHERE WHAT IT READS IS OF BULK AT MOST 1048576: true; the input reads as it did. -/
def codeUnquotesUptoRow : OpenClaim := { program := "ytokgckhhhhigiaadoor", sum := "b5a1510de9ac70c14fa88700cd5542146cc487cc6396882699300cefcb7f45b6", func := "posthorn/posthornlaw04.CodeUnquotes", spec := "codeUnquotes", unfollowed := true, recurses := true, named := ["posthorn/octet.stretches"], apart := false, laid := [("posthorn/octet.stretches", laid_posthorn_octet_stretches)], narrowed := true }
def CodeUnquotesUptoSaid : Prop := codeUnquotesUptoRow.holds Tryd.pinned (OpenSpec.upto codeUnquotesSpec)

/-- 'posthornlaw04.CodeBack', WHERE WHAT IT READS IS OF BULK AT MOST 1048576: true; the input reads as it did. -/
def codeBackUptoRow : OpenClaim := { program := "ytokgckhhhhigiaadoor", sum := "b5a1510de9ac70c14fa88700cd5542146cc487cc6396882699300cefcb7f45b6", func := "posthorn/posthornlaw04.CodeBack", spec := "codeBack", unfollowed := true, recurses := true, named := ["posthorn/octet.stretches"], apart := false, laid := [("posthorn/octet.stretches", laid_posthorn_octet_stretches)], narrowed := true }
def CodeBackUptoSaid : Prop := codeBackUptoRow.holds Tryd.pinned (OpenSpec.upto codeBackSpec)

/-- 'posthornlaw04.CodeOnce', WHERE WHAT IT READS IS OF BULK AT MOST 1048576: true; the input reads as it did. -/
def codeOnceUptoRow : OpenClaim := { program := "ytokgckhhhhigiaadoor", sum := "b5a1510de9ac70c14fa88700cd5542146cc487cc6396882699300cefcb7f45b6", func := "posthorn/posthornlaw04.CodeOnce", spec := "codeOnce", unfollowed := true, recurses := true, named := ["posthorn/octet.stretches"], apart := false, laid := [("posthorn/octet.stretches", laid_posthorn_octet_stretches)], narrowed := true }
def CodeOnceUptoSaid : Prop := codeOnceUptoRow.holds Tryd.pinned (OpenSpec.upto codeOnceSpec)

/-- 'posthornlaw04.CodeQuoteBack', WHERE WHAT IT READS IS OF BULK AT MOST 1048576: true; the input reads as it did. -/
def codeQuoteBackUptoRow : OpenClaim := { program := "ytokgckhhhhigiaadoor", sum := "b5a1510de9ac70c14fa88700cd5542146cc487cc6396882699300cefcb7f45b6", func := "posthorn/posthornlaw04.CodeQuoteBack", spec := "codeQuoteBack", unfollowed := true, recurses := true, named := ["posthorn/octet.stretches"], apart := false, laid := [("posthorn/octet.stretches", laid_posthorn_octet_stretches)], narrowed := true }
def CodeQuoteBackUptoSaid : Prop := codeQuoteBackUptoRow.holds Tryd.pinned (OpenSpec.upto codeQuoteBackSpec)

/-- 'posthornlaw04.CodeQuoteOnce', WHERE WHAT IT READS IS OF BULK AT MOST 1048576: true; the input reads as it did. -/
def codeQuoteOnceUptoRow : OpenClaim := { program := "ytokgckhhhhigiaadoor", sum := "b5a1510de9ac70c14fa88700cd5542146cc487cc6396882699300cefcb7f45b6", func := "posthorn/posthornlaw04.CodeQuoteOnce", spec := "codeQuoteOnce", unfollowed := true, recurses := true, named := ["posthorn/octet.stretches"], apart := false, laid := [("posthorn/octet.stretches", laid_posthorn_octet_stretches)], narrowed := true }
def CodeQuoteOnceUptoSaid : Prop := codeQuoteOnceUptoRow.holds Tryd.pinned (OpenSpec.upto codeQuoteOnceSpec)

/-- 'posthornlaw04.CodeCuts', WHERE WHAT IT READS IS OF BULK AT MOST 1048576: true; the input reads as it did. -/
def codeCutsUptoRow : OpenClaim := { program := "ytokgckhhhhigiaadoor", sum := "b5a1510de9ac70c14fa88700cd5542146cc487cc6396882699300cefcb7f45b6", func := "posthorn/posthornlaw04.CodeCuts", spec := "codeCuts", unfollowed := true, recurses := true, named := ["posthorn/octet.stretches"], apart := false, laid := [("posthorn/octet.stretches", laid_posthorn_octet_stretches)], narrowed := true }
def CodeCutsUptoSaid : Prop := codeCutsUptoRow.holds Tryd.pinned (OpenSpec.upto codeCutsSpec)

/-- 'posthornlaw04.CodeRowsBack', WHERE WHAT IT READS IS OF BULK AT MOST 1048576: true; the input reads as it did. -/
def codeRowsBackUptoRow : OpenClaim := { program := "ytokgckhhhhigiaadoor", sum := "b5a1510de9ac70c14fa88700cd5542146cc487cc6396882699300cefcb7f45b6", func := "posthorn/posthornlaw04.CodeRowsBack", spec := "codeRowsBack", unfollowed := true, recurses := true, named := ["posthorn/octet.stretches"], apart := false, laid := [("posthorn/octet.stretches", laid_posthorn_octet_stretches)], narrowed := true }
def CodeRowsBackUptoSaid : Prop := codeRowsBackUptoRow.holds Tryd.pinned (OpenSpec.upto codeRowsBackSpec)

end Rows
end Go.Proofs.YtokgckhhhhigiaaDoor
