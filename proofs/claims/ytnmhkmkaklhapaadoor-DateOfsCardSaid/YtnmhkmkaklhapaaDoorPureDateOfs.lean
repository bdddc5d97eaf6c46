/- DateOfs: the date of any second in any zone is what the document says. -/
import Derived.Test.YtnmhkmkaklhapaaDoorOfs
import Derived.Test.YtnmhkmkaklhapaaDoorH3
namespace Go.Proofs.YtnmhkmkaklhapaaDoor.Pure
set_option linter.unusedVariables false
set_option linter.unusedSimpArgs false
open Go.RowKit Go.Proofs.YtnmhkmkaklhapaaDoorW.PrintWords Go.Proofs.YtnmhkmkaklhapaaDoorW.PrintLast Go.Proofs.YtnmhkmkaklhapaaDoorW.PrintMore Go.Proofs.YtnmhkmkaklhapaaDoor.B Go.Proofs.YtnmhkmkaklhapaaDoor.H Go.Proofs.YtnmhkmkaklhapaaDoor.MN Go.Proofs.YtnmhkmkaklhapaaDoor.DP
theorem DateOfs : posthornlaw06_DateOfs.Pure := by
  intro s z hs hz
  have hs := wf_i64 hs
  have hz := wf_i16 hz
  have h : Ev (fun k => posthornlaw06_DateOfs.f k s z) true := by
    unfold posthornlaw06_DateOfs.f
    refine Ev.bind (refOf_ev s z hs hz) (Ev.bind (Of_ev s z hs hz) (Ev.val fun k => ?_))
    simp only [beq_self_eq_true, Bool.and_self, if_true]
    rfl
  exact h.rounds
end Go.Proofs.YtnmhkmkaklhapaaDoor.Pure
