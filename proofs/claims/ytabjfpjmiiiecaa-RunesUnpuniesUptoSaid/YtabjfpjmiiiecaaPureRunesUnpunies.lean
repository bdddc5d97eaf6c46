/- RunesUnpunies, where what it reads is of bulk at most 1048576: Unpuny of any text tells the runes, or the error and its place. -/
import Derived.Test.YtabjfpjmiiiecaaE2
import Derived.Test.YtabjfpjmiiiecaaRunEq
namespace Go.Proofs.Ytabjfpjmiiiecaa.Pure
set_option linter.unusedVariables false
set_option linter.unusedSimpArgs false
open Go.RowKit Go.Proofs.Ytabjfpjmiiiecaa.E Go.Proofs.YtabjfpjmiiiecaaW.PrintWords Go.Proofs.YtabjfpjmiiiecaaW.PrintLast Go.Proofs.YtabjfpjmiiiecaaW.PrintMore
open Go.Proofs.Ytabjfpjmiiiecaa.B Go.Proofs.Ytabjfpjmiiiecaa.MN Go.Proofs.Ytabjfpjmiiiecaa.WK Go.Proofs.Ytabjfpjmiiiecaa.UN Go.Proofs.Ytabjfpjmiiiecaa.RQ

theorem RunesUnpunies (a0 : ByteArray) (w : World) (w0 : a0.size ≤ 140737488351232) (b0 : a0.size ≤ 1048576) :
    Calls Try.prog 6 #[.string a0] w fun e w' => e = .returned (.bool true) ∧ Below w.heap.size w w' := by
  obtain ⟨k, hk⟩ : Ev (fun k => posthornlaw05_RunesUnpunies.f k a0) true := by
    unfold posthornlaw05_RunesUnpunies.f
    refine Ev.bind (refUnpuny_ev a0 (by omega)) ?_
    have e1 : runes_Unpuny.f a0 = some (unpunyV a0) := by unfold runes_Unpuny.f; rw [if_pos (by omega)]
    refine Ev.congr (fun k => by rw [e1, bind_some', if_pos (by rw [beq_self_eq_true, beq_self_eq_true]; rfl)]) ?_
    refine Ev.bind (eq_ev (unpunyV a0).1 (by have := unpunyV_len a0; omega)) ?_
    exact Ev.val fun k => rfl
  exact posthornlaw05_RunesUnpunies.calls k a0 true w (hk k (Nat.le_refl _))
end Go.Proofs.Ytabjfpjmiiiecaa.Pure
