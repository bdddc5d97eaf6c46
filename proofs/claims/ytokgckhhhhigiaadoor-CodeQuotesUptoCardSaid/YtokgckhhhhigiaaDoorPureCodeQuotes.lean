/- CodeQuotes, where what it reads is of bulk at most 1048576: Quote of any bytes; they stay. -/
import Derived.Test.YtokgckhhhhigiaaDoorQuotesLaw
namespace Go.Proofs.YtokgckhhhhigiaaDoor.Pure
set_option linter.unusedVariables false
set_option linter.unusedSimpArgs false
open Go.RowKit Go.Proofs.YtokgckhhhhigiaaDoor.E Go.Proofs.YtokgckhhhhigiaaDoorW.PrintWords
open Go.Proofs.YtokgckhhhhigiaaDoor.B Go.Proofs.YtokgckhhhhigiaaDoor.Q Go.Proofs.YtokgckhhhhigiaaDoor.Glob Go.Proofs.YtokgckhhhhigiaaDoor.RQ

theorem CodeQuotes (a0 : Option Addr) (len0 cap0 : Nat) (z0 : List Int) (w : World) (w0 : (a0 = none ∧ len0 = 0 ∧ cap0 = 0 ∧ z0 = []) ∨ ∃ x, a0 = some x ∧ len0 ≤ cap0 ∧ cap0 ≤ maxLen ∧ z0.length = cap0 ∧ (∀ i, i < z0.length → w.cell? (x.add i) = some (.int .u8 (z0.getD i 0))) ∧ ∀ n ∈ z0, (Lit.int .u8 n).wf = true) (_y0 : len0 * 1 ≤ 140737488351232) (b0 : len0 ≤ 1048576) (HG : GOk w) :
    Calls Tryd.prog 3 #[.slice a0 len0 cap0] w fun e w' => e = .returned (.bool true) ∧ Below w.heap.size w w' := by
  obtain ⟨l0, rfl, hr0, hm0, hw0, hc0⟩ := ReadsInt.ofRowC w0
  have hin : InB l0 := fun x hx => wf_u8 (hw0 x hx)
  obtain ⟨k, h⟩ := refQuote_ev l0 hin (by omega)
  exact QL.CodeQuotes_true k a0 cap0 l0 w HG (Kd.C_of_reads (d := (0 : Int)) (h1 := fun _ => rfl) hr0) hc0 b0 hin ⟨h k (Nat.le_refl _)⟩
end Go.Proofs.YtokgckhhhhigiaaDoor.Pure
