/- OctetUppers: octet.Upper and octet.Same tell what the reference tells, of every two texts (each of at most 140737488351232 bytes, as the row says). -/
import Derived.Test.YtfljmojiglkckaaPOctetUppersx1
import Derived.Test.YtfljmojiglkckaaUpRef
namespace Go.Proofs.Ytfljmojiglkckaa.Pure
open Go.RowKit Go.Proofs.Ytfljmojiglkckaa.POctetUppers Go.Proofs.YtfljmojiglkckaaW.PrintWords Go.Proofs.YtfljmojiglkckaaW.PrintLast
open Go.Proofs.Ytfljmojiglkckaa.B Go.Proofs.Ytfljmojiglkckaa.U

theorem OctetUppers : posthornlaw01_OctetUppers.Pure := by
  intro s t hs ht
  apply Ev.rounds
  unfold posthornlaw01_OctetUppers.f
  refine Ev.bind (Upper_ev s hs) (Ev.bind (refUpper_ev s hs) ?_)
  simp only [if_true]
  refine Ev.bind (Same_ev s t hs) (Ev.bind (refSame_ev s t hs ht) ?_)
  simp only [beq_self_eq_true, if_true]
  refine Ev.bind (Upper_ev s hs) (Ev.bind (Same_ev s (upS s) hs) ?_)
  have h1 : sameB s (upS s) = true := by
    unfold sameB
    rw [upS_bytes, upL_upL, decide_eq_true rfl]
  simp only [h1, if_true]
  refine Ev.bind (Upper_ev (⟨#[113]⟩ : ByteArray) (by decide)) (Ev.val fun k => ?_)
  rw [toList_data]
  decide

end Go.Proofs.Ytfljmojiglkckaa.Pure
