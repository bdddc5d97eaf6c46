/- OctetBad: Bad of every text, as a text, as bytes, and of kinds made of them, tells what the reference tells; the bytes stay. -/
import Derived.Test.YtfljmojiglkckaaDoorSpanW
import Derived.Test.YtfljmojiglkckaaDoorBadLaw
namespace Go.Proofs.YtfljmojiglkckaaDoor.Pure
set_option linter.unusedVariables false
set_option linter.unusedSimpArgs false
open Go.RowKit Go.Proofs.YtfljmojiglkckaaDoor.G Go.Proofs.YtfljmojiglkckaaDoorW.PrintWords
open Go.Proofs.YtfljmojiglkckaaDoor.B Go.Proofs.YtfljmojiglkckaaDoor.I Go.Proofs.YtfljmojiglkckaaDoor.Glob Go.Proofs.YtfljmojiglkckaaDoor.Lent

theorem OctetBad (c : Int) (s : ByteArray) (w : World) (_w0 : (Lit.int .i64 c).wf = true) (hs : s.size ≤ 140737488351232) (HG : GOk w) :
    Calls Tryd.prog 5 #[.int .i64 c, .string s] w fun e w' => e = .returned (.bool true) ∧ Below w.heap.size w w' := by
  obtain ⟨K1, h1⟩ := refBad_ev c s (by omega)
  obtain ⟨K2, h2⟩ := Bad_str_ev c s (by omega)
  obtain ⟨K3, h3⟩ := Bad_byte_ev c (bytesOf s) (by rw [bytesOf_len]; omega)
  obtain ⟨K4, h4⟩ := Bad_word_ev c s (by omega)
  obtain ⟨K5, h5⟩ := Bad_row_ev c (bytesOf s) (by rw [bytesOf_len]; omega)
  obtain ⟨K6, h6⟩ : Ev (fun k => octet_Bad_string.f k 2 (⟨#[49, 97]⟩ : ByteArray)) 1 := Ev.of (octet_Bad_string.mono _ _) (k := 20) (by decide +kernel)
  have k := K1 + K2 + K3 + K4 + K5 + K6
  exact OctetBad_true (K1 + K2 + K3 + K4 + K5 + K6) c s _ w HG hs ⟨h1 _ (by omega)⟩ ⟨h2 _ (by omega)⟩ ⟨h3 _ (by omega)⟩ ⟨h4 _ (by omega)⟩ ⟨h5 _ (by omega)⟩ ⟨h6 _ (by omega)⟩
end Go.Proofs.YtfljmojiglkckaaDoor.Pure
