/- DateDays: the number of any three numbers is what the document says. -/
import Derived.Test.YtnmhkmkaklhapaaDoorCiv
import Derived.Test.YtnmhkmkaklhapaaDoorHead
import Derived.Test.YtnmhkmkaklhapaaDoorG2
namespace Go.Proofs.YtnmhkmkaklhapaaDoor.Pure
set_option linter.unusedVariables false
set_option linter.unusedSimpArgs false
open Go.RowKit Go.Proofs.YtnmhkmkaklhapaaDoorW.PrintWords Go.Proofs.YtnmhkmkaklhapaaDoorW.PrintLast Go.Proofs.YtnmhkmkaklhapaaDoorW.PrintMore Go.Proofs.YtnmhkmkaklhapaaDoor.B Go.Proofs.YtnmhkmkaklhapaaDoor.G Go.Proofs.YtnmhkmkaklhapaaDoor.Chk Go.Proofs.YtnmhkmkaklhapaaDoor.T Go.Proofs.YtnmhkmkaklhapaaDoor.D Go.Proofs.YtnmhkmkaklhapaaDoor.DP
theorem DateDays : posthornlaw06_DateDays.Pure := by
  intro y m d hy hm hd
  have hy := wf_i16 hy
  have hm := wf_i8 hm
  have hd := wf_i8 hd
  have h : Ev (fun k => posthornlaw06_DateDays.f k y m d) true := by
    unfold posthornlaw06_DateDays.f
    refine Ev.bind (refDays_ev y m d (by omega) (by omega) (by omega) (by omega) (by omega) (by omega)) (Ev.bind (Days_ev y m d (by omega) (by omega) (by omega) (by omega) (by omega) (by omega)) ?_)
    refine Ev.congr (fun k => by rw [if_pos rfl, if_pos rfl]) (Ev.same head_ev)
  exact h.rounds
end Go.Proofs.YtnmhkmkaklhapaaDoor.Pure
