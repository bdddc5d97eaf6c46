/-
  DERIVED. GIVEN WITH THE SEED: THE CARDS: each row of YtnmhkmkaklhapaaDoorRows.lean that lists a variable, with what it lists TIED to the program's text (the seventh form; the later family's looks); each row that meets fmt, with fmt's text TOLD by the authors' own Lean function (tested against real Go, not proved from fmt's source: count such statements apart). THE CARD IS WHAT COUNTS. Prove the row's statement (the work); the ties are given (YtnmhkmkaklhapaaDoorTie.lean); close each card by the builder's one call (the guide's Derived/Test/ToyasCard.lean, 'card_holds'). Laid BY PROGRAM, IN A SANDBOX (cutbox-door.mjs). By AI agents, Wed Nov 11 2026. No macro, syntax, notation, axiom, sorry.
-/
import Derived.Test.YtnmhkmkaklhapaaDoorRows
import GoSem.ClaimSeven
namespace Go.Proofs.YtnmhkmkaklhapaaDoor
namespace Rows

/-- THE TIED CARD OF 'posthornlaw06.DateDays'. -/
def dateDaysCard : Claim7 := { stood := { row := dateDaysRow, standIns := [], harness := (true, "6e87771a25270e9f2e25b29049f1b407ff80f2ba8f4453e7489a80e85269ae9f"), looks := false }, kinds := [], alts := [], laidByText := true, laidKinds := [.data], laidTests := true, laidLooks := .later }
def DateDaysCardSaid : Prop := Claim7.holds Tryd.pinned (.plain (OpenSpec.ofChange dateDaysSpec)) dateDaysCard

/-- THE TIED CARD OF 'posthornlaw06.DateParses'. -/
def dateParsesCard : Claim7 := { stood := { row := dateParsesRow, standIns := [], harness := (true, "6e87771a25270e9f2e25b29049f1b407ff80f2ba8f4453e7489a80e85269ae9f"), looks := false }, kinds := [], alts := [], laidByText := true, laidKinds := [.data], laidTests := true, laidLooks := .later }
def DateParsesCardSaid : Prop := Claim7.holds Tryd.pinned (.plain (OpenSpec.ofChange dateParsesSpec)) dateParsesCard

/-- THE TIED CARD OF 'posthornlaw06.DateCivils'. -/
def dateCivilsCard : Claim7 := { stood := { row := dateCivilsRow, standIns := [], harness := (true, "6e87771a25270e9f2e25b29049f1b407ff80f2ba8f4453e7489a80e85269ae9f"), looks := false }, kinds := [], alts := [], laidByText := true, laidKinds := [.data], laidTests := true, laidLooks := .later }
def DateCivilsCardSaid : Prop := Claim7.holds Tryd.pinned (.plain (OpenSpec.ofChange dateCivilsSpec)) dateCivilsCard

/-- THE TIED CARD OF 'posthornlaw06.DateNext'. -/
def dateNextCard : Claim7 := { stood := { row := dateNextRow, standIns := [], harness := (true, "6e87771a25270e9f2e25b29049f1b407ff80f2ba8f4453e7489a80e85269ae9f"), looks := false }, kinds := [], alts := [], laidByText := true, laidKinds := [.data], laidTests := true, laidLooks := .later }
def DateNextCardSaid : Prop := Claim7.holds Tryd.pinned (.plain (OpenSpec.ofChange dateNextSpec)) dateNextCard

/-- THE TIED CARD OF 'posthornlaw06.DateOrders'. -/
def dateOrdersCard : Claim7 := { stood := { row := dateOrdersRow, standIns := [], harness := (true, "6e87771a25270e9f2e25b29049f1b407ff80f2ba8f4453e7489a80e85269ae9f"), looks := false }, kinds := [], alts := [], laidByText := true, laidKinds := [.data], laidTests := true, laidLooks := .later }
def DateOrdersCardSaid : Prop := Claim7.holds Tryd.pinned (.plain (OpenSpec.ofChange dateOrdersSpec)) dateOrdersCard

/-- THE TIED CARD OF 'posthornlaw06.DateChecks'. -/
def dateChecksCard : Claim7 := { stood := { row := dateChecksRow, standIns := [], harness := (true, "6e87771a25270e9f2e25b29049f1b407ff80f2ba8f4453e7489a80e85269ae9f"), looks := false }, kinds := [], alts := [], laidByText := true, laidKinds := [.data], laidTests := true, laidLooks := .later }
def DateChecksCardSaid : Prop := Claim7.holds Tryd.pinned (.plain (OpenSpec.ofChange dateChecksSpec)) dateChecksCard

/-- THE TIED CARD OF 'posthornlaw06.DateOfs'. -/
def dateOfsCard : Claim7 := { stood := { row := dateOfsRow, standIns := [], harness := (true, "6e87771a25270e9f2e25b29049f1b407ff80f2ba8f4453e7489a80e85269ae9f"), looks := false }, kinds := [], alts := [], laidByText := true, laidKinds := [.data], laidTests := true, laidLooks := .later }
def DateOfsCardSaid : Prop := Claim7.holds Tryd.pinned (.plain (OpenSpec.ofChange dateOfsSpec)) dateOfsCard

/-- THE TIED CARD OF 'posthornlaw06.DateMoments'. -/
def dateMomentsCard : Claim7 := { stood := { row := dateMomentsRow, standIns := [], harness := (true, "6e87771a25270e9f2e25b29049f1b407ff80f2ba8f4453e7489a80e85269ae9f"), looks := false }, kinds := [], alts := [], laidByText := true, laidKinds := [.data], laidTests := true, laidLooks := .later }
def DateMomentsCardSaid : Prop := Claim7.holds Tryd.pinned (.plain (OpenSpec.ofChange dateMomentsSpec)) dateMomentsCard

/-- THE TIED CARD OF 'posthornlaw06.DateDressed'. -/
def dateDressedCard : Claim7 := { stood := { row := dateDressedRow, standIns := [], harness := (true, "6e87771a25270e9f2e25b29049f1b407ff80f2ba8f4453e7489a80e85269ae9f"), looks := false }, kinds := [], alts := [], laidByText := true, laidKinds := [.data], laidTests := true, laidLooks := .later }
def DateDressedCardSaid : Prop := Claim7.holds Tryd.pinned (.plain (OpenSpec.ofChange dateDressedSpec)) dateDressedCard

/-- THE TIED CARD OF 'posthornlaw06.DateBack'. -/
def dateBackCard : Claim7 := { stood := { row := dateBackRow, standIns := [], harness := (true, "6e87771a25270e9f2e25b29049f1b407ff80f2ba8f4453e7489a80e85269ae9f"), looks := false }, kinds := [], alts := [], laidByText := true, laidKinds := [.data], laidTests := true, laidLooks := .later }
def DateBackCardSaid : Prop := Claim7.holds Tryd.pinned (.plain (OpenSpec.ofChange dateBackSpec)) dateBackCard

/-- THE SECOND FORM's CARD OF 'posthornlaw06.DateDays'. -/
def dateDaysUptoCard : Claim7 := { stood := { row := dateDaysUptoRow, standIns := [], harness := (true, "6e87771a25270e9f2e25b29049f1b407ff80f2ba8f4453e7489a80e85269ae9f"), looks := false }, kinds := [], alts := [], laidByText := true, laidKinds := [.data], laidTests := true, laidLooks := .later }
def DateDaysUptoCardSaid : Prop := Claim7.holds Tryd.pinned (.plain (OpenSpec.upto dateDaysSpec)) dateDaysUptoCard

/-- THE SECOND FORM's CARD OF 'posthornlaw06.DateParses'. -/
def dateParsesUptoCard : Claim7 := { stood := { row := dateParsesUptoRow, standIns := [], harness := (true, "6e87771a25270e9f2e25b29049f1b407ff80f2ba8f4453e7489a80e85269ae9f"), looks := false }, kinds := [], alts := [], laidByText := true, laidKinds := [.data], laidTests := true, laidLooks := .later }
def DateParsesUptoCardSaid : Prop := Claim7.holds Tryd.pinned (.plain (OpenSpec.upto dateParsesSpec)) dateParsesUptoCard

/-- THE SECOND FORM's CARD OF 'posthornlaw06.DateCivils'. -/
def dateCivilsUptoCard : Claim7 := { stood := { row := dateCivilsUptoRow, standIns := [], harness := (true, "6e87771a25270e9f2e25b29049f1b407ff80f2ba8f4453e7489a80e85269ae9f"), looks := false }, kinds := [], alts := [], laidByText := true, laidKinds := [.data], laidTests := true, laidLooks := .later }
def DateCivilsUptoCardSaid : Prop := Claim7.holds Tryd.pinned (.plain (OpenSpec.upto dateCivilsSpec)) dateCivilsUptoCard

/-- THE SECOND FORM's CARD OF 'posthornlaw06.DateNext'. -/
def dateNextUptoCard : Claim7 := { stood := { row := dateNextUptoRow, standIns := [], harness := (true, "6e87771a25270e9f2e25b29049f1b407ff80f2ba8f4453e7489a80e85269ae9f"), looks := false }, kinds := [], alts := [], laidByText := true, laidKinds := [.data], laidTests := true, laidLooks := .later }
def DateNextUptoCardSaid : Prop := Claim7.holds Tryd.pinned (.plain (OpenSpec.upto dateNextSpec)) dateNextUptoCard

/-- THE SECOND FORM's CARD OF 'posthornlaw06.DateOrders'. -/
def dateOrdersUptoCard : Claim7 := { stood := { row := dateOrdersUptoRow, standIns := [], harness := (true, "6e87771a25270e9f2e25b29049f1b407ff80f2ba8f4453e7489a80e85269ae9f"), looks := false }, kinds := [], alts := [], laidByText := true, laidKinds := [.data], laidTests := true, laidLooks := .later }
def DateOrdersUptoCardSaid : Prop := Claim7.holds Tryd.pinned (.plain (OpenSpec.upto dateOrdersSpec)) dateOrdersUptoCard

/-- THE SECOND FORM's CARD OF 'posthornlaw06.DateChecks'. -/
def dateChecksUptoCard : Claim7 := { stood := { row := dateChecksUptoRow, standIns := [], harness := (true, "6e87771a25270e9f2e25b29049f1b407ff80f2ba8f4453e7489a80e85269ae9f"), looks := false }, kinds := [], alts := [], laidByText := true, laidKinds := [.data], laidTests := true, laidLooks := .later }
def DateChecksUptoCardSaid : Prop := Claim7.holds Tryd.pinned (.plain (OpenSpec.upto dateChecksSpec)) dateChecksUptoCard

/-- THE SECOND FORM's CARD OF 'posthornlaw06.DateOfs'. -/
def dateOfsUptoCard : Claim7 := { stood := { row := dateOfsUptoRow, standIns := [], harness := (true, "6e87771a25270e9f2e25b29049f1b407ff80f2ba8f4453e7489a80e85269ae9f"), looks := false }, kinds := [], alts := [], laidByText := true, laidKinds := [.data], laidTests := true, laidLooks := .later }
def DateOfsUptoCardSaid : Prop := Claim7.holds Tryd.pinned (.plain (OpenSpec.upto dateOfsSpec)) dateOfsUptoCard

/-- THE SECOND FORM's CARD OF 'posthornlaw06.DateMoments'. -/
def dateMomentsUptoCard : Claim7 := { stood := { row := dateMomentsUptoRow, standIns := [], harness := (true, "6e87771a25270e9f2e25b29049f1b407ff80f2ba8f4453e7489a80e85269ae9f"), looks := false }, kinds := [], alts := [], laidByText := true, laidKinds := [.data], laidTests := true, laidLooks := .later }
def DateMomentsUptoCardSaid : Prop := Claim7.holds Tryd.pinned (.plain (OpenSpec.upto dateMomentsSpec)) dateMomentsUptoCard

/-- THE SECOND FORM's CARD OF 'posthornlaw06.DateDressed'. -/
def dateDressedUptoCard : Claim7 := { stood := { row := dateDressedUptoRow, standIns := [], harness := (true, "6e87771a25270e9f2e25b29049f1b407ff80f2ba8f4453e7489a80e85269ae9f"), looks := false }, kinds := [], alts := [], laidByText := true, laidKinds := [.data], laidTests := true, laidLooks := .later }
def DateDressedUptoCardSaid : Prop := Claim7.holds Tryd.pinned (.plain (OpenSpec.upto dateDressedSpec)) dateDressedUptoCard

/-- THE SECOND FORM's CARD OF 'posthornlaw06.DateBack'. -/
def dateBackUptoCard : Claim7 := { stood := { row := dateBackUptoRow, standIns := [], harness := (true, "6e87771a25270e9f2e25b29049f1b407ff80f2ba8f4453e7489a80e85269ae9f"), looks := false }, kinds := [], alts := [], laidByText := true, laidKinds := [.data], laidTests := true, laidLooks := .later }
def DateBackUptoCardSaid : Prop := Claim7.holds Tryd.pinned (.plain (OpenSpec.upto dateBackSpec)) dateBackUptoCard
end Rows
end Go.Proofs.YtnmhkmkaklhapaaDoor
