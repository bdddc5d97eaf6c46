/- CodeReads, where what it reads is of bulk at most 1048576: Unbase64 of any text tells the bytes, or the error and its place; new memory. -/
import Derived.Test.YtokgckhhhhigiaaUnbP
import Derived.Test.YtokgckhhhhigiaaReadsLaw
namespace Go.Proofs.Ytokgckhhhhigiaa.Pure
set_option linter.unusedVariables false
set_option linter.unusedSimpArgs false
open Go.RowKit Go.Proofs.Ytokgckhhhhigiaa.G Go.Proofs.YtokgckhhhhigiaaW.PrintWords Go.Proofs.YtokgckhhhhigiaaW.PrintLast Go.Proofs.YtokgckhhhhigiaaW.PrintMore
open Go.Proofs.Ytokgckhhhhigiaa.B Go.Proofs.Ytokgckhhhhigiaa.Rd Go.Proofs.Ytokgckhhhhigiaa.Turn Go.Proofs.Ytokgckhhhhigiaa.UnbP

theorem CodeReads (a0 : ByteArray) (w : World) (w0 : a0.size ≤ 140737488351232) (b0 : a0.size ≤ 1048576) :
    Calls Try.prog 4 #[.string a0] w fun e w' => e = .returned (.bool true) ∧ Below w.heap.size w w' := by
  obtain ⟨K1, h1⟩ := Unbase64_ev a0 (by omega)
  have hl := unbL_len (bytesOf a0) St.new [] 0
  have hbl := bytesOf_len a0
  have e6 : unbL (bytesOf (⟨#[84, 81, 61, 61]⟩ : ByteArray)) St.new [] 0 = ([77], 0, 0) := by decide +kernel
  exact CodeReads_true K1 a0 (unbL (bytesOf a0) St.new [] 0).1 (unbL (bytesOf a0) St.new [] 0).2.1 (unbL (bytesOf a0) St.new [] 0).2.2 w (by omega) (by rw [hbl] at hl; simp at hl; omega) ⟨h1 _ (by omega)⟩ ⟨rfl⟩ ⟨e6⟩
end Go.Proofs.Ytokgckhhhhigiaa.Pure
