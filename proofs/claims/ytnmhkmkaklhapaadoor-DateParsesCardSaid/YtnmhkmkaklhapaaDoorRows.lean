/-
  NARROWER THAN 'FOR EVERY INPUT', by the rows' own cells (each row's printed sentence says how): DateDays: laid · DateParses: laid · DateCivils: laid · DateNext: laid · DateOrders: laid · DateChecks: laid · DateOfs: laid · DateMoments: laid · DateDressed: laid · DateBack: laid.
  DERIVED. THE GIVEN ROWS OF THIS SEAT. 10 by the template 'for every input the law returns true; each argument reads behind the call as it read before'; 0 by the template 'total and deterministic' (their statements: YtnmhkmkaklhapaaDoorTotals.lean).
  GIVEN WITH THE SEED: the statements are not yours to turn. If you find one false, say at which input.
  Laid BY PROGRAM, IN A SANDBOX (cutbox-rows.mjs): the forced cells as the released guide's own fill.sh prints them over the translation e960a82510100f7e… (all of the seat's roots in one cut). By AI agents, Wed Nov 11 2026. No macro, syntax, notation, axiom, sorry.
-/
import Derived.Test.YtnmhkmkaklhapaaDoorChecked
import GoSem.Claim
import GoSem.ClaimJoined
import GoSem.ClaimMapViews
import Derived.JoinedTies
import Derived.KernelRfl
namespace Go.Proofs.YtnmhkmkaklhapaaDoor
/- THE CELL 'sum', in the pinned program and in every row, IS THE sha256 OF THE DUMP (.gsa) THAT YtnmhkmkaklhapaaDoorProg.lean LOADS. Nothing in Lean hashes anything: it is a label: what it is worth is what the hold of that sum in a sandbox is worth. -/
noncomputable def Tryd.pinned : Pinned := { name := "ytnmhkmkaklhapaadoor", sum := "e960a82510100f7e4fe6860c175b03bd3e9798f1054f88ec30566d220d527e48", checked := Tryd.checked }
namespace Rows
def none {H : Type} : Left H := { results := [], args := [] }

/- WHAT THE LISTED PACKAGE-LEVEL VARIABLES READ AS WHEN THE CALL BEGINS. Each datum BY PROGRAM (the guide's laid-datum.mjs) off the statement by which the dump's own 'gosem.cut.vars' lays the variable. In a bare row this is a premise. The card (YtnmhkmkaklhapaaDoorCards.lean) ties it to the program's text. -/
def laid_posthorn_octet_stretches {H : Type} : DataW H := .agg [.agg [.lit (.int .i64 1), .lit (.int .u8 65), .lit (.int .u8 90)], .agg [.lit (.int .i64 1), .lit (.int .u8 97), .lit (.int .u8 122)], .agg [.lit (.int .i64 2), .lit (.int .u8 48), .lit (.int .u8 57)], .agg [.lit (.int .i64 3), .lit (.int .u8 65), .lit (.int .u8 90)], .agg [.lit (.int .i64 3), .lit (.int .u8 97), .lit (.int .u8 122)], .agg [.lit (.int .i64 3), .lit (.int .u8 48), .lit (.int .u8 57)], .agg [.lit (.int .i64 4), .lit (.int .u8 48), .lit (.int .u8 57)], .agg [.lit (.int .i64 4), .lit (.int .u8 65), .lit (.int .u8 70)], .agg [.lit (.int .i64 4), .lit (.int .u8 97), .lit (.int .u8 102)], .agg [.lit (.int .i64 5), .lit (.int .u8 33), .lit (.int .u8 33)], .agg [.lit (.int .i64 5), .lit (.int .u8 35), .lit (.int .u8 39)], .agg [.lit (.int .i64 5), .lit (.int .u8 42), .lit (.int .u8 43)], .agg [.lit (.int .i64 5), .lit (.int .u8 45), .lit (.int .u8 45)], .agg [.lit (.int .i64 5), .lit (.int .u8 47), .lit (.int .u8 47)], .agg [.lit (.int .i64 5), .lit (.int .u8 61), .lit (.int .u8 61)], .agg [.lit (.int .i64 5), .lit (.int .u8 63), .lit (.int .u8 63)], .agg [.lit (.int .i64 5), .lit (.int .u8 94), .lit (.int .u8 96)], .agg [.lit (.int .i64 5), .lit (.int .u8 123), .lit (.int .u8 126)], .agg [.lit (.int .i64 6), .lit (.int .u8 32), .lit (.int .u8 33)], .agg [.lit (.int .i64 6), .lit (.int .u8 35), .lit (.int .u8 91)], .agg [.lit (.int .i64 6), .lit (.int .u8 93), .lit (.int .u8 126)], .agg [.lit (.int .i64 7), .lit (.int .u8 33), .lit (.int .u8 90)], .agg [.lit (.int .i64 7), .lit (.int .u8 94), .lit (.int .u8 126)], .agg [.lit (.int .i64 8), .lit (.int .u8 33), .lit (.int .u8 60)], .agg [.lit (.int .i64 8), .lit (.int .u8 62), .lit (.int .u8 126)], .agg [.lit (.int .i64 9), .lit (.int .u8 33), .lit (.int .u8 42)], .agg [.lit (.int .i64 9), .lit (.int .u8 44), .lit (.int .u8 60)], .agg [.lit (.int .i64 9), .lit (.int .u8 62), .lit (.int .u8 126)], .agg [.lit (.int .i64 10), .lit (.int .u8 45), .lit (.int .u8 45)], .agg [.lit (.int .i64 11), .lit (.int .u8 33), .lit (.int .u8 57)], .agg [.lit (.int .i64 11), .lit (.int .u8 59), .lit (.int .u8 126)], .agg [.lit (.int .i64 12), .lit (.int .u8 9), .lit (.int .u8 9)], .agg [.lit (.int .i64 12), .lit (.int .u8 32), .lit (.int .u8 126)], .agg [.lit (.int .i64 13), .lit (.int .u8 0), .lit (.int .u8 127)], .agg [.lit (.int .i64 14), .lit (.int .u8 128), .lit (.int .u8 255)]]

/-- 'posthornlaw06.DateDays': WHATEVER THE INPUT: true; the input reads as it did. -/
def dateDaysSpec : ChangeSpec := { name := "dateDays", fn := fun _ => fun
  | [d1, d2, d3] => { results := [.lit (.bool true)], args := [d1, d2, d3] }
  | _ => none }
def dateDaysRow : OpenClaim := { program := "ytnmhkmkaklhapaadoor", sum := "e960a82510100f7e4fe6860c175b03bd3e9798f1054f88ec30566d220d527e48", func := "posthorn/posthornlaw06.DateDays", spec := "dateDays", recurses := true, named := ["posthorn/octet.stretches"], apart := false, laid := [("posthorn/octet.stretches", laid_posthorn_octet_stretches)] }
def DateDaysSaid : Prop := dateDaysRow.holds Tryd.pinned (OpenSpec.ofChange dateDaysSpec)

/-- ITS FALSE NEIGHBOUR: 'it returns false'. Refute it at one input. -/
def dateDaysWrong : ChangeSpec := { name := "dateDays", fn := fun _ => fun
  | [d1, d2, d3] => { results := [.lit (.bool false)], args := [d1, d2, d3] }
  | _ => none }
def DateDaysWrongFalsely : Prop := dateDaysRow.holds Tryd.pinned (OpenSpec.ofChange dateDaysWrong)

/-- 'posthornlaw06.DateParses': WHATEVER THE INPUT: true; the input reads as it did. -/
def dateParsesSpec : ChangeSpec := { name := "dateParses", fn := fun _ => fun
  | [d] => { results := [.lit (.bool true)], args := [d] }
  | _ => none }
def dateParsesRow : OpenClaim := { program := "ytnmhkmkaklhapaadoor", sum := "e960a82510100f7e4fe6860c175b03bd3e9798f1054f88ec30566d220d527e48", func := "posthorn/posthornlaw06.DateParses", spec := "dateParses", recurses := true, named := ["posthorn/octet.stretches"], apart := false, laid := [("posthorn/octet.stretches", laid_posthorn_octet_stretches)] }
def DateParsesSaid : Prop := dateParsesRow.holds Tryd.pinned (OpenSpec.ofChange dateParsesSpec)

/-- ITS FALSE NEIGHBOUR: 'it returns false'. Refute it at one input. -/
def dateParsesWrong : ChangeSpec := { name := "dateParses", fn := fun _ => fun
  | [d] => { results := [.lit (.bool false)], args := [d] }
  | _ => none }
def DateParsesWrongFalsely : Prop := dateParsesRow.holds Tryd.pinned (OpenSpec.ofChange dateParsesWrong)

/-- 'posthornlaw06.DateCivils': WHATEVER THE INPUT: true; the input reads as it did. -/
def dateCivilsSpec : ChangeSpec := { name := "dateCivils", fn := fun _ => fun
  | [d] => { results := [.lit (.bool true)], args := [d] }
  | _ => none }
def dateCivilsRow : OpenClaim := { program := "ytnmhkmkaklhapaadoor", sum := "e960a82510100f7e4fe6860c175b03bd3e9798f1054f88ec30566d220d527e48", func := "posthorn/posthornlaw06.DateCivils", spec := "dateCivils", recurses := true, named := ["posthorn/octet.stretches"], apart := false, laid := [("posthorn/octet.stretches", laid_posthorn_octet_stretches)] }
def DateCivilsSaid : Prop := dateCivilsRow.holds Tryd.pinned (OpenSpec.ofChange dateCivilsSpec)

/-- ITS FALSE NEIGHBOUR: 'it returns false'. Refute it at one input. -/
def dateCivilsWrong : ChangeSpec := { name := "dateCivils", fn := fun _ => fun
  | [d] => { results := [.lit (.bool false)], args := [d] }
  | _ => none }
def DateCivilsWrongFalsely : Prop := dateCivilsRow.holds Tryd.pinned (OpenSpec.ofChange dateCivilsWrong)

/-- 'posthornlaw06.DateNext': WHATEVER THE INPUT: true; the input reads as it did. -/
def dateNextSpec : ChangeSpec := { name := "dateNext", fn := fun _ => fun
  | [d] => { results := [.lit (.bool true)], args := [d] }
  | _ => none }
def dateNextRow : OpenClaim := { program := "ytnmhkmkaklhapaadoor", sum := "e960a82510100f7e4fe6860c175b03bd3e9798f1054f88ec30566d220d527e48", func := "posthorn/posthornlaw06.DateNext", spec := "dateNext", recurses := true, named := ["posthorn/octet.stretches"], apart := false, laid := [("posthorn/octet.stretches", laid_posthorn_octet_stretches)] }
def DateNextSaid : Prop := dateNextRow.holds Tryd.pinned (OpenSpec.ofChange dateNextSpec)

/-- ITS FALSE NEIGHBOUR: 'it returns false'. Refute it at one input. -/
def dateNextWrong : ChangeSpec := { name := "dateNext", fn := fun _ => fun
  | [d] => { results := [.lit (.bool false)], args := [d] }
  | _ => none }
def DateNextWrongFalsely : Prop := dateNextRow.holds Tryd.pinned (OpenSpec.ofChange dateNextWrong)

/-- 'posthornlaw06.DateOrders': WHATEVER THE INPUT: true; the input reads as it did. -/
def dateOrdersSpec : ChangeSpec := { name := "dateOrders", fn := fun _ => fun
  | [d1, d2] => { results := [.lit (.bool true)], args := [d1, d2] }
  | _ => none }
def dateOrdersRow : OpenClaim := { program := "ytnmhkmkaklhapaadoor", sum := "e960a82510100f7e4fe6860c175b03bd3e9798f1054f88ec30566d220d527e48", func := "posthorn/posthornlaw06.DateOrders", spec := "dateOrders", recurses := true, named := ["posthorn/octet.stretches"], apart := false, laid := [("posthorn/octet.stretches", laid_posthorn_octet_stretches)] }
def DateOrdersSaid : Prop := dateOrdersRow.holds Tryd.pinned (OpenSpec.ofChange dateOrdersSpec)

/-- ITS FALSE NEIGHBOUR: 'it returns false'. Refute it at one input. -/
def dateOrdersWrong : ChangeSpec := { name := "dateOrders", fn := fun _ => fun
  | [d1, d2] => { results := [.lit (.bool false)], args := [d1, d2] }
  | _ => none }
def DateOrdersWrongFalsely : Prop := dateOrdersRow.holds Tryd.pinned (OpenSpec.ofChange dateOrdersWrong)

/-- 'posthornlaw06.DateChecks': WHATEVER THE INPUT: true; the input reads as it did. -/
def dateChecksSpec : ChangeSpec := { name := "dateChecks", fn := fun _ => fun
  | [d] => { results := [.lit (.bool true)], args := [d] }
  | _ => none }
def dateChecksRow : OpenClaim := { program := "ytnmhkmkaklhapaadoor", sum := "e960a82510100f7e4fe6860c175b03bd3e9798f1054f88ec30566d220d527e48", func := "posthorn/posthornlaw06.DateChecks", spec := "dateChecks", recurses := true, named := ["posthorn/octet.stretches"], apart := false, laid := [("posthorn/octet.stretches", laid_posthorn_octet_stretches)] }
def DateChecksSaid : Prop := dateChecksRow.holds Tryd.pinned (OpenSpec.ofChange dateChecksSpec)

/-- ITS FALSE NEIGHBOUR: 'it returns false'. Refute it at one input. -/
def dateChecksWrong : ChangeSpec := { name := "dateChecks", fn := fun _ => fun
  | [d] => { results := [.lit (.bool false)], args := [d] }
  | _ => none }
def DateChecksWrongFalsely : Prop := dateChecksRow.holds Tryd.pinned (OpenSpec.ofChange dateChecksWrong)

/-- 'posthornlaw06.DateOfs': WHATEVER THE INPUT: true; the input reads as it did. -/
def dateOfsSpec : ChangeSpec := { name := "dateOfs", fn := fun _ => fun
  | [d1, d2] => { results := [.lit (.bool true)], args := [d1, d2] }
  | _ => none }
def dateOfsRow : OpenClaim := { program := "ytnmhkmkaklhapaadoor", sum := "e960a82510100f7e4fe6860c175b03bd3e9798f1054f88ec30566d220d527e48", func := "posthorn/posthornlaw06.DateOfs", spec := "dateOfs", recurses := true, named := ["posthorn/octet.stretches"], apart := false, laid := [("posthorn/octet.stretches", laid_posthorn_octet_stretches)] }
def DateOfsSaid : Prop := dateOfsRow.holds Tryd.pinned (OpenSpec.ofChange dateOfsSpec)

/-- ITS FALSE NEIGHBOUR: 'it returns false'. Refute it at one input. -/
def dateOfsWrong : ChangeSpec := { name := "dateOfs", fn := fun _ => fun
  | [d1, d2] => { results := [.lit (.bool false)], args := [d1, d2] }
  | _ => none }
def DateOfsWrongFalsely : Prop := dateOfsRow.holds Tryd.pinned (OpenSpec.ofChange dateOfsWrong)

/-- 'posthornlaw06.DateMoments': WHATEVER THE INPUT: true; the input reads as it did. -/
def dateMomentsSpec : ChangeSpec := { name := "dateMoments", fn := fun _ => fun
  | [d1, d2, d3] => { results := [.lit (.bool true)], args := [d1, d2, d3] }
  | _ => none }
def dateMomentsRow : OpenClaim := { program := "ytnmhkmkaklhapaadoor", sum := "e960a82510100f7e4fe6860c175b03bd3e9798f1054f88ec30566d220d527e48", func := "posthorn/posthornlaw06.DateMoments", spec := "dateMoments", recurses := true, named := ["posthorn/octet.stretches"], apart := false, laid := [("posthorn/octet.stretches", laid_posthorn_octet_stretches)] }
def DateMomentsSaid : Prop := dateMomentsRow.holds Tryd.pinned (OpenSpec.ofChange dateMomentsSpec)

/-- ITS FALSE NEIGHBOUR: 'it returns false'. Refute it at one input. -/
def dateMomentsWrong : ChangeSpec := { name := "dateMoments", fn := fun _ => fun
  | [d1, d2, d3] => { results := [.lit (.bool false)], args := [d1, d2, d3] }
  | _ => none }
def DateMomentsWrongFalsely : Prop := dateMomentsRow.holds Tryd.pinned (OpenSpec.ofChange dateMomentsWrong)

/-- 'posthornlaw06.DateDressed': WHATEVER THE INPUT: true; the input reads as it did. -/
def dateDressedSpec : ChangeSpec := { name := "dateDressed", fn := fun _ => fun
  | [d] => { results := [.lit (.bool true)], args := [d] }
  | _ => none }
def dateDressedRow : OpenClaim := { program := "ytnmhkmkaklhapaadoor", sum := "e960a82510100f7e4fe6860c175b03bd3e9798f1054f88ec30566d220d527e48", func := "posthorn/posthornlaw06.DateDressed", spec := "dateDressed", recurses := true, named := ["posthorn/octet.stretches"], apart := false, laid := [("posthorn/octet.stretches", laid_posthorn_octet_stretches)] }
def DateDressedSaid : Prop := dateDressedRow.holds Tryd.pinned (OpenSpec.ofChange dateDressedSpec)

/-- ITS FALSE NEIGHBOUR: 'it returns false'. Refute it at one input. -/
def dateDressedWrong : ChangeSpec := { name := "dateDressed", fn := fun _ => fun
  | [d] => { results := [.lit (.bool false)], args := [d] }
  | _ => none }
def DateDressedWrongFalsely : Prop := dateDressedRow.holds Tryd.pinned (OpenSpec.ofChange dateDressedWrong)

/-- 'posthornlaw06.DateBack': WHATEVER THE INPUT: true; the input reads as it did. -/
def dateBackSpec : ChangeSpec := { name := "dateBack", fn := fun _ => fun
  | [d] => { results := [.lit (.bool true)], args := [d] }
  | _ => none }
def dateBackRow : OpenClaim := { program := "ytnmhkmkaklhapaadoor", sum := "e960a82510100f7e4fe6860c175b03bd3e9798f1054f88ec30566d220d527e48", func := "posthorn/posthornlaw06.DateBack", spec := "dateBack", recurses := true, named := ["posthorn/octet.stretches"], apart := false, laid := [("posthorn/octet.stretches", laid_posthorn_octet_stretches)] }
def DateBackSaid : Prop := dateBackRow.holds Tryd.pinned (OpenSpec.ofChange dateBackSpec)

/-- ITS FALSE NEIGHBOUR: 'it returns false'. Refute it at one input. -/
def dateBackWrong : ChangeSpec := { name := "dateBack", fn := fun _ => fun
  | [d] => { results := [.lit (.bool false)], args := [d] }
  | _ => none }
def DateBackWrongFalsely : Prop := dateBackRow.holds Tryd.pinned (OpenSpec.ofChange dateBackWrong)

/- THE SECOND FORM. 'bulk': how many values and letters a reading holds, each counted each time it is reached (what is shared counts as often as it is met; a slice's spare places count too). A statement '..UptoSaid' is the law's where the arguments, and the package variables that the reading takes, are together of bulk at most 1048576: NARROWER than '..Said'. Prove '..Said' where nothing that the law and all that it calls make is longer than what came in: it says more and counts as full. Else prove '..UptoSaid'. A law counts once. -/
mutual
def uptoBulk {H : Type} : DataW H → Nat
  | .lit (.string bytes) => bytes.length + 1
  | .lit _ => 1
  | .nil => 1
  | .ptr d => uptoBulk d + 1
  | .slice elems spare => uptoBulkAll elems + uptoBulkAll spare + 1
  | .agg parts => uptoBulkAll parts + 1
  | .iface _ d => uptoBulk d + 1
  | .map entries => uptoBulkEntries entries + 1
  | .held _ => 1
def uptoBulkAll {H : Type} : List (DataW H) → Nat
  | [] => 0
  | d :: r => uptoBulk d + uptoBulkAll r
def uptoBulkEntries {H : Type} : List (Lit × DataW H) → Nat
  | [] => 0
  | x :: r => uptoBulkEntry x + uptoBulkEntries r
def uptoBulkEntry {H : Type} : Lit × DataW H → Nat
  | (.string bytes, d) => bytes.length + uptoBulk d + 1
  | (_, d) => uptoBulk d + 1
 end
def uptoSmall : (H : Type) → List (DataW H) → Bool := fun _ ds => decide (uptoBulkAll ds ≤ 1048576)
def OpenSpec.upto (s : _root_.Go.ChangeSpec) : _root_.Go.OpenSpec := { _root_.Go.OpenSpec.ofChange s with cond := some uptoSmall }

/-- 'posthornlaw06.DateDays', WHERE WHAT IT READS IS OF BULK AT MOST 1048576: true; the input reads as it did. -/
def dateDaysUptoRow : OpenClaim := { program := "ytnmhkmkaklhapaadoor", sum := "e960a82510100f7e4fe6860c175b03bd3e9798f1054f88ec30566d220d527e48", func := "posthorn/posthornlaw06.DateDays", spec := "dateDays", recurses := true, named := ["posthorn/octet.stretches"], apart := false, laid := [("posthorn/octet.stretches", laid_posthorn_octet_stretches)], narrowed := true }
def DateDaysUptoSaid : Prop := dateDaysUptoRow.holds Tryd.pinned (OpenSpec.upto dateDaysSpec)

/-- 'posthornlaw06.DateParses', WHERE WHAT IT READS IS OF BULK AT MOST 1048576: true; the input reads as it did. -/
def dateParsesUptoRow : OpenClaim := { program := "ytnmhkmkaklhapaadoor", sum := "e960a82510100f7e4fe6860c175b03bd3e9798f1054f88ec30566d220d527e48", func := "posthorn/posthornlaw06.DateParses", spec := "dateParses", recurses := true, named := ["posthorn/octet.stretches"], apart := false, laid := [("posthorn/octet.stretches", laid_posthorn_octet_stretches)], narrowed := true }
def DateParsesUptoSaid : Prop := dateParsesUptoRow.holds Tryd.pinned (OpenSpec.upto dateParsesSpec)

/-- 'posthornlaw06.DateCivils', WHERE WHAT IT READS IS OF BULK AT MOST 1048576: true; the input reads as it did. -/
def dateCivilsUptoRow : OpenClaim := { program := "ytnmhkmkaklhapaadoor", sum := "e960a82510100f7e4fe6860c175b03bd3e9798f1054f88ec30566d220d527e48", func := "posthorn/posthornlaw06.DateCivils", spec := "dateCivils", recurses := true, named := ["posthorn/octet.stretches"], apart := false, laid := [("posthorn/octet.stretches", laid_posthorn_octet_stretches)], narrowed := true }
def DateCivilsUptoSaid : Prop := dateCivilsUptoRow.holds Tryd.pinned (OpenSpec.upto dateCivilsSpec)

/-- 'posthornlaw06.DateNext', WHERE WHAT IT READS IS OF BULK AT MOST 1048576: true; the input reads as it did. -/
def dateNextUptoRow : OpenClaim := { program := "ytnmhkmkaklhapaadoor", sum := "e960a82510100f7e4fe6860c175b03bd3e9798f1054f88ec30566d220d527e48", func := "posthorn/posthornlaw06.DateNext", spec := "dateNext", recurses := true, named := ["posthorn/octet.stretches"], apart := false, laid := [("posthorn/octet.stretches", laid_posthorn_octet_stretches)], narrowed := true }
def DateNextUptoSaid : Prop := dateNextUptoRow.holds Tryd.pinned (OpenSpec.upto dateNextSpec)

/-- 'posthornlaw06.DateOrders', WHERE WHAT IT READS IS OF BULK AT MOST 1048576: true; the input reads as it did. -/
def dateOrdersUptoRow : OpenClaim := { program := "ytnmhkmkaklhapaadoor", sum := "e960a82510100f7e4fe6860c175b03bd3e9798f1054f88ec30566d220d527e48", func := "posthorn/posthornlaw06.DateOrders", spec := "dateOrders", recurses := true, named := ["posthorn/octet.stretches"], apart := false, laid := [("posthorn/octet.stretches", laid_posthorn_octet_stretches)], narrowed := true }
def DateOrdersUptoSaid : Prop := dateOrdersUptoRow.holds Tryd.pinned (OpenSpec.upto dateOrdersSpec)

/-- 'posthornlaw06.DateChecks', WHERE WHAT IT READS IS OF BULK AT MOST 1048576: true; the input reads as it did. -/
def dateChecksUptoRow : OpenClaim := { program := "ytnmhkmkaklhapaadoor", sum := "e960a82510100f7e4fe6860c175b03bd3e9798f1054f88ec30566d220d527e48", func := "posthorn/posthornlaw06.DateChecks", spec := "dateChecks", recurses := true, named := ["posthorn/octet.stretches"], apart := false, laid := [("posthorn/octet.stretches", laid_posthorn_octet_stretches)], narrowed := true }
def DateChecksUptoSaid : Prop := dateChecksUptoRow.holds Tryd.pinned (OpenSpec.upto dateChecksSpec)

/-- 'posthornlaw06.DateOfs', WHERE WHAT IT READS IS OF BULK AT MOST 1048576: true; the input reads as it did. -/
def dateOfsUptoRow : OpenClaim := { program := "ytnmhkmkaklhapaadoor", sum := "e960a82510100f7e4fe6860c175b03bd3e9798f1054f88ec30566d220d527e48", func := "posthorn/posthornlaw06.DateOfs", spec := "dateOfs", recurses := true, named := ["posthorn/octet.stretches"], apart := false, laid := [("posthorn/octet.stretches", laid_posthorn_octet_stretches)], narrowed := true }
def DateOfsUptoSaid : Prop := dateOfsUptoRow.holds Tryd.pinned (OpenSpec.upto dateOfsSpec)

/-- 'posthornlaw06.DateMoments', WHERE WHAT IT READS IS OF BULK AT MOST 1048576: true; the input reads as it did. -/
def dateMomentsUptoRow : OpenClaim := { program := "ytnmhkmkaklhapaadoor", sum := "e960a82510100f7e4fe6860c175b03bd3e9798f1054f88ec30566d220d527e48", func := "posthorn/posthornlaw06.DateMoments", spec := "dateMoments", recurses := true, named := ["posthorn/octet.stretches"], apart := false, laid := [("posthorn/octet.stretches", laid_posthorn_octet_stretches)], narrowed := true }
def DateMomentsUptoSaid : Prop := dateMomentsUptoRow.holds Tryd.pinned (OpenSpec.upto dateMomentsSpec)

/-- 'posthornlaw06.DateDressed', WHERE WHAT IT READS IS OF BULK AT MOST 1048576: true; the input reads as it did. -/
def dateDressedUptoRow : OpenClaim := { program := "ytnmhkmkaklhapaadoor", sum := "e960a82510100f7e4fe6860c175b03bd3e9798f1054f88ec30566d220d527e48", func := "posthorn/posthornlaw06.DateDressed", spec := "dateDressed", recurses := true, named := ["posthorn/octet.stretches"], apart := false, laid := [("posthorn/octet.stretches", laid_posthorn_octet_stretches)], narrowed := true }
def DateDressedUptoSaid : Prop := dateDressedUptoRow.holds Tryd.pinned (OpenSpec.upto dateDressedSpec)

/-- 'posthornlaw06.DateBack', WHERE WHAT IT READS IS OF BULK AT MOST 1048576: true; the input reads as it did. -/
def dateBackUptoRow : OpenClaim := { program := "ytnmhkmkaklhapaadoor", sum := "e960a82510100f7e4fe6860c175b03bd3e9798f1054f88ec30566d220d527e48", func := "posthorn/posthornlaw06.DateBack", spec := "dateBack", recurses := true, named := ["posthorn/octet.stretches"], apart := false, laid := [("posthorn/octet.stretches", laid_posthorn_octet_stretches)], narrowed := true }
def DateBackUptoSaid : Prop := dateBackUptoRow.holds Tryd.pinned (OpenSpec.upto dateBackSpec)

end Rows
end Go.Proofs.YtnmhkmkaklhapaaDoor
