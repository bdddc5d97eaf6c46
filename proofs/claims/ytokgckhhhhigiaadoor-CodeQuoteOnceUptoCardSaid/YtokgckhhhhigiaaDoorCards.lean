/-
  DERIVED. GIVEN WITH THE SEED: THE CARDS: each row of YtokgckhhhhigiaaDoorRows.lean that lists a variable, with what it lists TIED to the program's text (the seventh form; the later family's looks); each row that meets fmt, with fmt's text TOLD by the authors' own Lean function (tested against real Go, not proved from fmt's source: count such statements apart). THE CARD IS WHAT COUNTS. Prove the row's statement (the work); the ties are given (YtokgckhhhhigiaaDoorTie.lean); close each card by the builder's one call (the guide's Derived/Test/ToyasCard.lean, 'card_holds'). Laid BY PROGRAM, IN A SANDBOX (cutbox-door.mjs). By AI agents, Wed Nov 11 2026. No macro, syntax, notation, axiom, sorry.
-/
import Derived.Test.YtokgckhhhhigiaaDoorRows
import GoSem.ClaimSeven
namespace Go.Proofs.YtokgckhhhhigiaaDoor
namespace Rows

/-- THE TIED CARD OF 'posthornlaw04.CodeQuotes'. -/
def codeQuotesCard : Claim7 := { stood := { row := codeQuotesRow, standIns := [], harness := (true, "ae30b8cbd8da65907a7417f5dea52aab50edcee64f71b759b8750c4846118581"), looks := false }, kinds := [], alts := [], laidByText := true, laidKinds := [.data], laidTests := true, laidLooks := .later }
def CodeQuotesCardSaid : Prop := Claim7.holds Tryd.pinned (.plain (OpenSpec.ofChange codeQuotesSpec)) codeQuotesCard

/-- THE TIED CARD OF 'posthornlaw04.CodeUnquotes'. -/
def codeUnquotesCard : Claim7 := { stood := { row := codeUnquotesRow, standIns := [], harness := (true, "ae30b8cbd8da65907a7417f5dea52aab50edcee64f71b759b8750c4846118581"), looks := false }, kinds := [], alts := [], laidByText := true, laidKinds := [.data], laidTests := true, laidLooks := .later }
def CodeUnquotesCardSaid : Prop := Claim7.holds Tryd.pinned (.plain (OpenSpec.ofChange codeUnquotesSpec)) codeUnquotesCard

/-- THE TIED CARD OF 'posthornlaw04.CodeBack'. -/
def codeBackCard : Claim7 := { stood := { row := codeBackRow, standIns := [], harness := (true, "ae30b8cbd8da65907a7417f5dea52aab50edcee64f71b759b8750c4846118581"), looks := false }, kinds := [], alts := [], laidByText := true, laidKinds := [.data], laidTests := true, laidLooks := .later }
def CodeBackCardSaid : Prop := Claim7.holds Tryd.pinned (.plain (OpenSpec.ofChange codeBackSpec)) codeBackCard

/-- THE TIED CARD OF 'posthornlaw04.CodeOnce'. -/
def codeOnceCard : Claim7 := { stood := { row := codeOnceRow, standIns := [], harness := (true, "ae30b8cbd8da65907a7417f5dea52aab50edcee64f71b759b8750c4846118581"), looks := false }, kinds := [], alts := [], laidByText := true, laidKinds := [.data], laidTests := true, laidLooks := .later }
def CodeOnceCardSaid : Prop := Claim7.holds Tryd.pinned (.plain (OpenSpec.ofChange codeOnceSpec)) codeOnceCard

/-- THE TIED CARD OF 'posthornlaw04.CodeQuoteBack'. -/
def codeQuoteBackCard : Claim7 := { stood := { row := codeQuoteBackRow, standIns := [], harness := (true, "ae30b8cbd8da65907a7417f5dea52aab50edcee64f71b759b8750c4846118581"), looks := false }, kinds := [], alts := [], laidByText := true, laidKinds := [.data], laidTests := true, laidLooks := .later }
def CodeQuoteBackCardSaid : Prop := Claim7.holds Tryd.pinned (.plain (OpenSpec.ofChange codeQuoteBackSpec)) codeQuoteBackCard

/-- THE TIED CARD OF 'posthornlaw04.CodeQuoteOnce'. -/
def codeQuoteOnceCard : Claim7 := { stood := { row := codeQuoteOnceRow, standIns := [], harness := (true, "ae30b8cbd8da65907a7417f5dea52aab50edcee64f71b759b8750c4846118581"), looks := false }, kinds := [], alts := [], laidByText := true, laidKinds := [.data], laidTests := true, laidLooks := .later }
def CodeQuoteOnceCardSaid : Prop := Claim7.holds Tryd.pinned (.plain (OpenSpec.ofChange codeQuoteOnceSpec)) codeQuoteOnceCard

/-- THE TIED CARD OF 'posthornlaw04.CodeCuts'. -/
def codeCutsCard : Claim7 := { stood := { row := codeCutsRow, standIns := [], harness := (true, "ae30b8cbd8da65907a7417f5dea52aab50edcee64f71b759b8750c4846118581"), looks := false }, kinds := [], alts := [], laidByText := true, laidKinds := [.data], laidTests := true, laidLooks := .later }
def CodeCutsCardSaid : Prop := Claim7.holds Tryd.pinned (.plain (OpenSpec.ofChange codeCutsSpec)) codeCutsCard

/-- THE TIED CARD OF 'posthornlaw04.CodeRowsBack'. -/
def codeRowsBackCard : Claim7 := { stood := { row := codeRowsBackRow, standIns := [], harness := (true, "ae30b8cbd8da65907a7417f5dea52aab50edcee64f71b759b8750c4846118581"), looks := false }, kinds := [], alts := [], laidByText := true, laidKinds := [.data], laidTests := true, laidLooks := .later }
def CodeRowsBackCardSaid : Prop := Claim7.holds Tryd.pinned (.plain (OpenSpec.ofChange codeRowsBackSpec)) codeRowsBackCard

/-- THE SECOND FORM's CARD OF 'posthornlaw04.CodeQuotes'. -/
def codeQuotesUptoCard : Claim7 := { stood := { row := codeQuotesUptoRow, standIns := [], harness := (true, "ae30b8cbd8da65907a7417f5dea52aab50edcee64f71b759b8750c4846118581"), looks := false }, kinds := [], alts := [], laidByText := true, laidKinds := [.data], laidTests := true, laidLooks := .later }
def CodeQuotesUptoCardSaid : Prop := Claim7.holds Tryd.pinned (.plain (OpenSpec.upto codeQuotesSpec)) codeQuotesUptoCard

/-- THE SECOND FORM's CARD OF 'posthornlaw04.CodeUnquotes'. -/
def codeUnquotesUptoCard : Claim7 := { stood := { row := codeUnquotesUptoRow, standIns := [], harness := (true, "ae30b8cbd8da65907a7417f5dea52aab50edcee64f71b759b8750c4846118581"), looks := false }, kinds := [], alts := [], laidByText := true, laidKinds := [.data], laidTests := true, laidLooks := .later }
def CodeUnquotesUptoCardSaid : Prop := Claim7.holds Tryd.pinned (.plain (OpenSpec.upto codeUnquotesSpec)) codeUnquotesUptoCard

/-- THE SECOND FORM's CARD OF 'posthornlaw04.CodeBack'. -/
def codeBackUptoCard : Claim7 := { stood := { row := codeBackUptoRow, standIns := [], harness := (true, "ae30b8cbd8da65907a7417f5dea52aab50edcee64f71b759b8750c4846118581"), looks := false }, kinds := [], alts := [], laidByText := true, laidKinds := [.data], laidTests := true, laidLooks := .later }
def CodeBackUptoCardSaid : Prop := Claim7.holds Tryd.pinned (.plain (OpenSpec.upto codeBackSpec)) codeBackUptoCard

/-- THE SECOND FORM's CARD OF 'posthornlaw04.CodeOnce'. -/
def codeOnceUptoCard : Claim7 := { stood := { row := codeOnceUptoRow, standIns := [], harness := (true, "ae30b8cbd8da65907a7417f5dea52aab50edcee64f71b759b8750c4846118581"), looks := false }, kinds := [], alts := [], laidByText := true, laidKinds := [.data], laidTests := true, laidLooks := .later }
def CodeOnceUptoCardSaid : Prop := Claim7.holds Tryd.pinned (.plain (OpenSpec.upto codeOnceSpec)) codeOnceUptoCard

/-- THE SECOND FORM's CARD OF 'posthornlaw04.CodeQuoteBack'. -/
def codeQuoteBackUptoCard : Claim7 := { stood := { row := codeQuoteBackUptoRow, standIns := [], harness := (true, "ae30b8cbd8da65907a7417f5dea52aab50edcee64f71b759b8750c4846118581"), looks := false }, kinds := [], alts := [], laidByText := true, laidKinds := [.data], laidTests := true, laidLooks := .later }
def CodeQuoteBackUptoCardSaid : Prop := Claim7.holds Tryd.pinned (.plain (OpenSpec.upto codeQuoteBackSpec)) codeQuoteBackUptoCard

/-- THE SECOND FORM's CARD OF 'posthornlaw04.CodeQuoteOnce'. -/
def codeQuoteOnceUptoCard : Claim7 := { stood := { row := codeQuoteOnceUptoRow, standIns := [], harness := (true, "ae30b8cbd8da65907a7417f5dea52aab50edcee64f71b759b8750c4846118581"), looks := false }, kinds := [], alts := [], laidByText := true, laidKinds := [.data], laidTests := true, laidLooks := .later }
def CodeQuoteOnceUptoCardSaid : Prop := Claim7.holds Tryd.pinned (.plain (OpenSpec.upto codeQuoteOnceSpec)) codeQuoteOnceUptoCard

/-- THE SECOND FORM's CARD OF 'posthornlaw04.CodeCuts'. -/
def codeCutsUptoCard : Claim7 := { stood := { row := codeCutsUptoRow, standIns := [], harness := (true, "ae30b8cbd8da65907a7417f5dea52aab50edcee64f71b759b8750c4846118581"), looks := false }, kinds := [], alts := [], laidByText := true, laidKinds := [.data], laidTests := true, laidLooks := .later }
def CodeCutsUptoCardSaid : Prop := Claim7.holds Tryd.pinned (.plain (OpenSpec.upto codeCutsSpec)) codeCutsUptoCard

/-- THE SECOND FORM's CARD OF 'posthornlaw04.CodeRowsBack'. -/
def codeRowsBackUptoCard : Claim7 := { stood := { row := codeRowsBackUptoRow, standIns := [], harness := (true, "ae30b8cbd8da65907a7417f5dea52aab50edcee64f71b759b8750c4846118581"), looks := false }, kinds := [], alts := [], laidByText := true, laidKinds := [.data], laidTests := true, laidLooks := .later }
def CodeRowsBackUptoCardSaid : Prop := Claim7.holds Tryd.pinned (.plain (OpenSpec.upto codeRowsBackSpec)) codeRowsBackUptoCard
end Rows
end Go.Proofs.YtokgckhhhhigiaaDoor
