/- OctetSpan: Span of every text, as a text, as bytes, and of kinds made of them, tells what the reference tells; the bytes stay. -/
import Derived.Test.YtfljmojiglkckaaDoorSpanW
import Derived.Test.YtfljmojiglkckaaDoorSpanLaw
namespace Go.Proofs.YtfljmojiglkckaaDoor.Pure
set_option linter.unusedVariables false
set_option linter.unusedSimpArgs false
open Go.RowKit Go.Proofs.YtfljmojiglkckaaDoor.G Go.Proofs.YtfljmojiglkckaaDoorW.PrintWords
open Go.Proofs.YtfljmojiglkckaaDoor.B Go.Proofs.YtfljmojiglkckaaDoor.I Go.Proofs.YtfljmojiglkckaaDoor.Glob Go.Proofs.YtfljmojiglkckaaDoor.Lent

theorem OctetSpan (c : Int) (s : ByteArray) (i : Int) (w : World) (_w0 : (Lit.int .i64 c).wf = true) (hs : s.size ≤ 140737488351232) (w2 : (Lit.int .i64 i).wf = true) (HG : GOk w) :
    Calls Tryd.prog 4 #[.int .i64 c, .string s, .int .i64 i] w fun e w' => e = .returned (.bool true) ∧ Below w.heap.size w w' := by
  have hi := wf_i64 w2
  obtain ⟨K1, h1⟩ := refSpan_ev c s i (by omega)
  obtain ⟨K2, h2⟩ := Span_str_ev c s i (by omega) (by omega)
  obtain ⟨K3, h3⟩ := Span_byte_ev c (bytesOf s) i (by rw [bytesOf_len]; omega) (by omega)
  obtain ⟨K4, h4⟩ := Span_word_ev c s i (by omega) (by omega)
  obtain ⟨K5, h5⟩ := Span_row_ev c (bytesOf s) i (by rw [bytesOf_len]; omega) (by omega)
  obtain ⟨K6, h6⟩ : Ev (fun k => octet_Span_string.f k 2 (⟨#[97, 49, 98]⟩ : ByteArray) 1) 2 := Ev.of (octet_Span_string.mono _ _ _) (k := 20) (by decide +kernel)
  have k := K1 + K2 + K3 + K4 + K5 + K6
  exact OctetSpan_true (K1 + K2 + K3 + K4 + K5 + K6) c s i _ w HG hs ⟨h1 _ (by omega)⟩ ⟨h2 _ (by omega)⟩ ⟨h3 _ (by omega)⟩ ⟨h4 _ (by omega)⟩ ⟨h5 _ (by omega)⟩ ⟨h6 _ (by omega)⟩
end Go.Proofs.YtfljmojiglkckaaDoor.Pure
