/- CodeUnquotes, where what it reads is of bulk at most 1048576: Unquote of any text tells the bytes, or the error and its place; new memory. -/
import Derived.Test.YtokgckhhhhigiaaDoorURef
import Derived.Test.YtokgckhhhhigiaaDoorUnqLaw
namespace Go.Proofs.YtokgckhhhhigiaaDoor.Pure
set_option linter.unusedVariables false
set_option linter.unusedSimpArgs false
open Go.RowKit Go.Proofs.YtokgckhhhhigiaaDoorW.PrintWords Go.Proofs.YtokgckhhhhigiaaDoorW.PrintLast Go.Proofs.YtokgckhhhhigiaaDoorW.PrintMore
open Go.Proofs.YtokgckhhhhigiaaDoor.B Go.Proofs.YtokgckhhhhigiaaDoor.Q Go.Proofs.YtokgckhhhhigiaaDoor.Turn Go.Proofs.YtokgckhhhhigiaaDoor.UR Go.Proofs.YtokgckhhhhigiaaDoor.UF Go.Proofs.YtokgckhhhhigiaaDoor.Glob

theorem CodeUnquotes (a0 : ByteArray) (w : World) (w0 : a0.size ≤ 140737488351232) (b0 : a0.size ≤ 1048576) (HG : GOk w) :
    Calls Tryd.prog 4 #[.string a0] w fun e w' => e = .returned (.bool true) ∧ Below w.heap.size w w' := by
  have hbl := bytesOf_len a0
  obtain ⟨K1, h1⟩ := refUnq_ev (bytesOf a0) (bytesOf_in a0) (by omega)
  rw [strOfNums_bytesOf] at h1
  have hl := unq_len (bytesOf a0)
  have e6 : unq (bytesOf (⟨#[61, 52, 100]⟩ : ByteArray)) = ([77], 0, 0) := by decide +kernel
  exact CodeUnquotes_true K1 a0 (unq (bytesOf a0)).1 (unq (bytesOf a0)).2.1 (unq (bytesOf a0)).2.2 w HG (by omega) (by omega) ⟨h1 _ (by omega)⟩ ⟨rfl⟩ ⟨e6⟩
end Go.Proofs.YtokgckhhhhigiaaDoor.Pure
