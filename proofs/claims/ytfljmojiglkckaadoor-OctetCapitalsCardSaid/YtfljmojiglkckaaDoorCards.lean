/-
  DERIVED. GIVEN WITH THE SEED: THE CARDS: each row of YtfljmojiglkckaaDoorRows.lean that lists a variable, with what it lists TIED to the program's text (the seventh form; the later family's looks); each row that meets fmt, with fmt's text TOLD by the authors' own Lean function (tested against real Go, not proved from fmt's source: count such statements apart). THE CARD IS WHAT COUNTS. Prove the row's statement (the work); the ties are given (YtfljmojiglkckaaDoorTie.lean); close each card by the builder's one call (the guide's Derived/Test/ToyasCard.lean, 'card_holds'). Laid BY PROGRAM, IN A SANDBOX (cutbox-door.mjs). By AI agents, Wed Nov 11 2026. No macro, syntax, notation, axiom, sorry.
-/
import Derived.Test.YtfljmojiglkckaaDoorRows
import GoSem.ClaimSeven
namespace Go.Proofs.YtfljmojiglkckaaDoor
namespace Rows

/-- THE TIED CARD OF 'posthornlaw01.OctetClasses'. -/
def octetClassesCard : Claim7 := { stood := { row := octetClassesRow, standIns := [], harness := (true, "0d410b111c26b631bd5f0523b5443e27b0e685b32f5d799d2d18dcfa0c35f311"), looks := false }, kinds := [], alts := [], laidByText := true, laidKinds := [.data], laidTests := true, laidLooks := .later }
def OctetClassesCardSaid : Prop := Claim7.holds Tryd.pinned (.plain (OpenSpec.ofChange octetClassesSpec)) octetClassesCard

/-- THE TIED CARD OF 'posthornlaw01.OctetSpan'. -/
def octetSpanCard : Claim7 := { stood := { row := octetSpanRow, standIns := [], harness := (true, "0d410b111c26b631bd5f0523b5443e27b0e685b32f5d799d2d18dcfa0c35f311"), looks := false }, kinds := [], alts := [], laidByText := true, laidKinds := [.data], laidTests := true, laidLooks := .later }
def OctetSpanCardSaid : Prop := Claim7.holds Tryd.pinned (.plain (OpenSpec.ofChange octetSpanSpec)) octetSpanCard

/-- THE TIED CARD OF 'posthornlaw01.OctetBad'. -/
def octetBadCard : Claim7 := { stood := { row := octetBadRow, standIns := [], harness := (true, "0d410b111c26b631bd5f0523b5443e27b0e685b32f5d799d2d18dcfa0c35f311"), looks := false }, kinds := [], alts := [], laidByText := true, laidKinds := [.data], laidTests := true, laidLooks := .later }
def OctetBadCardSaid : Prop := Claim7.holds Tryd.pinned (.plain (OpenSpec.ofChange octetBadSpec)) octetBadCard

/-- THE TIED CARD OF 'posthornlaw01.OctetReads'. -/
def octetReadsCard : Claim7 := { stood := { row := octetReadsRow, standIns := [], harness := (true, "0d410b111c26b631bd5f0523b5443e27b0e685b32f5d799d2d18dcfa0c35f311"), looks := false }, kinds := [], alts := [], laidByText := true, laidKinds := [.data], laidTests := true, laidLooks := .later }
def OctetReadsCardSaid : Prop := Claim7.holds Tryd.pinned (.plain (OpenSpec.ofChange octetReadsSpec)) octetReadsCard

/-- THE TIED CARD OF 'posthornlaw01.OctetHexes'. -/
def octetHexesCard : Claim7 := { stood := { row := octetHexesRow, standIns := [], harness := (true, "0d410b111c26b631bd5f0523b5443e27b0e685b32f5d799d2d18dcfa0c35f311"), looks := false }, kinds := [], alts := [], laidByText := true, laidKinds := [.data], laidTests := true, laidLooks := .later }
def OctetHexesCardSaid : Prop := Claim7.holds Tryd.pinned (.plain (OpenSpec.ofChange octetHexesSpec)) octetHexesCard

/-- THE TIED CARD OF 'posthornlaw01.OctetKinds'. -/
def octetKindsCard : Claim7 := { stood := { row := octetKindsRow, standIns := [], harness := (true, "0d410b111c26b631bd5f0523b5443e27b0e685b32f5d799d2d18dcfa0c35f311"), looks := false }, kinds := [], alts := [], laidByText := true, laidKinds := [.data], laidTests := true, laidLooks := .later }
def OctetKindsCardSaid : Prop := Claim7.holds Tryd.pinned (.plain (OpenSpec.ofChange octetKindsSpec)) octetKindsCard

/-- THE TIED CARD OF 'posthornlaw01.OctetRows'. -/
def octetRowsCard : Claim7 := { stood := { row := octetRowsRow, standIns := [], harness := (true, "0d410b111c26b631bd5f0523b5443e27b0e685b32f5d799d2d18dcfa0c35f311"), looks := false }, kinds := [], alts := [], laidByText := true, laidKinds := [.data], laidTests := true, laidLooks := .later }
def OctetRowsCardSaid : Prop := Claim7.holds Tryd.pinned (.plain (OpenSpec.ofChange octetRowsSpec)) octetRowsCard

/-- THE TIED CARD OF 'posthornlaw01.OctetCapitals'. -/
def octetCapitalsCard : Claim7 := { stood := { row := octetCapitalsRow, standIns := [], harness := (true, "0d410b111c26b631bd5f0523b5443e27b0e685b32f5d799d2d18dcfa0c35f311"), looks := false }, kinds := [], alts := [], laidByText := true, laidKinds := [.data], laidTests := true, laidLooks := .later }
def OctetCapitalsCardSaid : Prop := Claim7.holds Tryd.pinned (.plain (OpenSpec.ofChange octetCapitalsSpec)) octetCapitalsCard

/-- THE TIED CARD OF 'posthornlaw01.OctetBack'. -/
def octetBackCard : Claim7 := { stood := { row := octetBackRow, standIns := [], harness := (true, "0d410b111c26b631bd5f0523b5443e27b0e685b32f5d799d2d18dcfa0c35f311"), looks := false }, kinds := [], alts := [], laidByText := true, laidKinds := [.data], laidTests := true, laidLooks := .later }
def OctetBackCardSaid : Prop := Claim7.holds Tryd.pinned (.plain (OpenSpec.ofChange octetBackSpec)) octetBackCard

/-- THE TIED CARD OF 'posthornlaw01.OctetPairs'. -/
def octetPairsCard : Claim7 := { stood := { row := octetPairsRow, standIns := [], harness := (true, "0d410b111c26b631bd5f0523b5443e27b0e685b32f5d799d2d18dcfa0c35f311"), looks := false }, kinds := [], alts := [], laidByText := true, laidKinds := [.data], laidTests := true, laidLooks := .later }
def OctetPairsCardSaid : Prop := Claim7.holds Tryd.pinned (.plain (OpenSpec.ofChange octetPairsSpec)) octetPairsCard

/-- THE SECOND FORM's CARD OF 'posthornlaw01.OctetClasses'. -/
def octetClassesUptoCard : Claim7 := { stood := { row := octetClassesUptoRow, standIns := [], harness := (true, "0d410b111c26b631bd5f0523b5443e27b0e685b32f5d799d2d18dcfa0c35f311"), looks := false }, kinds := [], alts := [], laidByText := true, laidKinds := [.data], laidTests := true, laidLooks := .later }
def OctetClassesUptoCardSaid : Prop := Claim7.holds Tryd.pinned (.plain (OpenSpec.upto octetClassesSpec)) octetClassesUptoCard

/-- THE SECOND FORM's CARD OF 'posthornlaw01.OctetSpan'. -/
def octetSpanUptoCard : Claim7 := { stood := { row := octetSpanUptoRow, standIns := [], harness := (true, "0d410b111c26b631bd5f0523b5443e27b0e685b32f5d799d2d18dcfa0c35f311"), looks := false }, kinds := [], alts := [], laidByText := true, laidKinds := [.data], laidTests := true, laidLooks := .later }
def OctetSpanUptoCardSaid : Prop := Claim7.holds Tryd.pinned (.plain (OpenSpec.upto octetSpanSpec)) octetSpanUptoCard

/-- THE SECOND FORM's CARD OF 'posthornlaw01.OctetBad'. -/
def octetBadUptoCard : Claim7 := { stood := { row := octetBadUptoRow, standIns := [], harness := (true, "0d410b111c26b631bd5f0523b5443e27b0e685b32f5d799d2d18dcfa0c35f311"), looks := false }, kinds := [], alts := [], laidByText := true, laidKinds := [.data], laidTests := true, laidLooks := .later }
def OctetBadUptoCardSaid : Prop := Claim7.holds Tryd.pinned (.plain (OpenSpec.upto octetBadSpec)) octetBadUptoCard

/-- THE SECOND FORM's CARD OF 'posthornlaw01.OctetReads'. -/
def octetReadsUptoCard : Claim7 := { stood := { row := octetReadsUptoRow, standIns := [], harness := (true, "0d410b111c26b631bd5f0523b5443e27b0e685b32f5d799d2d18dcfa0c35f311"), looks := false }, kinds := [], alts := [], laidByText := true, laidKinds := [.data], laidTests := true, laidLooks := .later }
def OctetReadsUptoCardSaid : Prop := Claim7.holds Tryd.pinned (.plain (OpenSpec.upto octetReadsSpec)) octetReadsUptoCard

/-- THE SECOND FORM's CARD OF 'posthornlaw01.OctetHexes'. -/
def octetHexesUptoCard : Claim7 := { stood := { row := octetHexesUptoRow, standIns := [], harness := (true, "0d410b111c26b631bd5f0523b5443e27b0e685b32f5d799d2d18dcfa0c35f311"), looks := false }, kinds := [], alts := [], laidByText := true, laidKinds := [.data], laidTests := true, laidLooks := .later }
def OctetHexesUptoCardSaid : Prop := Claim7.holds Tryd.pinned (.plain (OpenSpec.upto octetHexesSpec)) octetHexesUptoCard

/-- THE SECOND FORM's CARD OF 'posthornlaw01.OctetKinds'. -/
def octetKindsUptoCard : Claim7 := { stood := { row := octetKindsUptoRow, standIns := [], harness := (true, "0d410b111c26b631bd5f0523b5443e27b0e685b32f5d799d2d18dcfa0c35f311"), looks := false }, kinds := [], alts := [], laidByText := true, laidKinds := [.data], laidTests := true, laidLooks := .later }
def OctetKindsUptoCardSaid : Prop := Claim7.holds Tryd.pinned (.plain (OpenSpec.upto octetKindsSpec)) octetKindsUptoCard

/-- THE SECOND FORM's CARD OF 'posthornlaw01.OctetRows'. -/
def octetRowsUptoCard : Claim7 := { stood := { row := octetRowsUptoRow, standIns := [], harness := (true, "0d410b111c26b631bd5f0523b5443e27b0e685b32f5d799d2d18dcfa0c35f311"), looks := false }, kinds := [], alts := [], laidByText := true, laidKinds := [.data], laidTests := true, laidLooks := .later }
def OctetRowsUptoCardSaid : Prop := Claim7.holds Tryd.pinned (.plain (OpenSpec.upto octetRowsSpec)) octetRowsUptoCard

/-- THE SECOND FORM's CARD OF 'posthornlaw01.OctetCapitals'. -/
def octetCapitalsUptoCard : Claim7 := { stood := { row := octetCapitalsUptoRow, standIns := [], harness := (true, "0d410b111c26b631bd5f0523b5443e27b0e685b32f5d799d2d18dcfa0c35f311"), looks := false }, kinds := [], alts := [], laidByText := true, laidKinds := [.data], laidTests := true, laidLooks := .later }
def OctetCapitalsUptoCardSaid : Prop := Claim7.holds Tryd.pinned (.plain (OpenSpec.upto octetCapitalsSpec)) octetCapitalsUptoCard

/-- THE SECOND FORM's CARD OF 'posthornlaw01.OctetBack'. -/
def octetBackUptoCard : Claim7 := { stood := { row := octetBackUptoRow, standIns := [], harness := (true, "0d410b111c26b631bd5f0523b5443e27b0e685b32f5d799d2d18dcfa0c35f311"), looks := false }, kinds := [], alts := [], laidByText := true, laidKinds := [.data], laidTests := true, laidLooks := .later }
def OctetBackUptoCardSaid : Prop := Claim7.holds Tryd.pinned (.plain (OpenSpec.upto octetBackSpec)) octetBackUptoCard

/-- THE SECOND FORM's CARD OF 'posthornlaw01.OctetPairs'. -/
def octetPairsUptoCard : Claim7 := { stood := { row := octetPairsUptoRow, standIns := [], harness := (true, "0d410b111c26b631bd5f0523b5443e27b0e685b32f5d799d2d18dcfa0c35f311"), looks := false }, kinds := [], alts := [], laidByText := true, laidKinds := [.data], laidTests := true, laidLooks := .later }
def OctetPairsUptoCardSaid : Prop := Claim7.holds Tryd.pinned (.plain (OpenSpec.upto octetPairsSpec)) octetPairsUptoCard
end Rows
end Go.Proofs.YtfljmojiglkckaaDoor
