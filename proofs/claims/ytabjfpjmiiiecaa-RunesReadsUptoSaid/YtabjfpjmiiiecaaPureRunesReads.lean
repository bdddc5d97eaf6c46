/- RunesReads, where what it reads is of bulk at most 1048576: Bad and Decode of any text tell what the document tells. -/
import Derived.Test.YtabjfpjmiiiecaaE2
import Derived.Test.YtabjfpjmiiiecaaRunEq
namespace Go.Proofs.Ytabjfpjmiiiecaa.Pure
set_option linter.unusedVariables false
set_option linter.unusedSimpArgs false
open Go.RowKit Go.Proofs.Ytabjfpjmiiiecaa.E Go.Proofs.YtabjfpjmiiiecaaW.PrintWords Go.Proofs.YtabjfpjmiiiecaaW.PrintLast Go.Proofs.YtabjfpjmiiiecaaW.PrintMore
open Go.Proofs.Ytabjfpjmiiiecaa.B Go.Proofs.Ytabjfpjmiiiecaa.MN Go.Proofs.Ytabjfpjmiiiecaa.WK Go.Proofs.Ytabjfpjmiiiecaa.DE Go.Proofs.Ytabjfpjmiiiecaa.CK Go.Proofs.Ytabjfpjmiiiecaa.RQ

theorem RunesReads (a0 : ByteArray) (w : World) (w0 : a0.size ≤ 140737488351232) (b0 : a0.size ≤ 1048576) :
    Calls Try.prog 4 #[.string a0] w fun e w' => e = .returned (.bool true) ∧ Below w.heap.size w w' := by
  obtain ⟨k, hk⟩ : Ev (fun k => posthornlaw05_RunesReads.f k a0) true := by
    unfold posthornlaw05_RunesReads.f
    have hb := refBad_ev (bytesOf a0) (bytesOf_in a0) (by rw [bytesOf_len]; omega)
    have hb2 := badB_same (bytesOf a0) (by rw [bytesOf_len]; omega)
    rw [bytesOf_len] at hb hb2
    refine Ev.congr (fun k => by rw [if_pos (by omega)]) ?_
    refine Ev.bind hb ?_
    refine Ev.bind (refDecode_ev a0 (by omega)) ?_
    have e1 : runes_Decode.f a0 = some (decodeV a0) := by unfold runes_Decode.f; rw [if_pos (by omega)]
    refine Ev.congr (fun k => by rw [e1, bind_some']) ?_
    refine Ev.bind (bad_same a0 (by omega)) ?_
    refine Ev.congr (fun k => by rw [if_pos rfl]) ?_
    refine Ev.bind hb2 ?_
    refine Ev.congr (fun k => by rw [if_pos rfl, if_pos (by rw [beq_self_eq_true, beq_self_eq_true]; rfl)]) ?_
    refine Ev.bind (eq_ev (decodeV a0).1 (by have := decodeV_len a0; omega)) ?_
    exact Ev.val fun k => rfl
  exact posthornlaw05_RunesReads.calls k a0 true w (hk k (Nat.le_refl _))
end Go.Proofs.Ytabjfpjmiiiecaa.Pure
