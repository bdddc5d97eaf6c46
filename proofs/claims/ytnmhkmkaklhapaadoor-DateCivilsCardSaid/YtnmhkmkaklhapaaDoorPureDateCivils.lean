/- DateCivils: the day and the weekday of any number are what the document says. -/
import Derived.Test.YtnmhkmkaklhapaaDoorCiv
import Derived.Test.YtnmhkmkaklhapaaDoorHead
import Derived.Test.YtnmhkmkaklhapaaDoorG3
namespace Go.Proofs.YtnmhkmkaklhapaaDoor.Pure
set_option linter.unusedVariables false
set_option linter.unusedSimpArgs false
open Go.RowKit Go.Proofs.YtnmhkmkaklhapaaDoorW.PrintWords Go.Proofs.YtnmhkmkaklhapaaDoorW.PrintLast Go.Proofs.YtnmhkmkaklhapaaDoorW.PrintMore Go.Proofs.YtnmhkmkaklhapaaDoor.B Go.Proofs.YtnmhkmkaklhapaaDoor.G Go.Proofs.YtnmhkmkaklhapaaDoor.Chk Go.Proofs.YtnmhkmkaklhapaaDoor.T Go.Proofs.YtnmhkmkaklhapaaDoor.D Go.Proofs.YtnmhkmkaklhapaaDoor.DP
theorem DateCivils : posthornlaw06_DateCivils.Pure := by
  intro n hn
  have hn := wf_i64 hn
  have h : Ev (fun k => posthornlaw06_DateCivils.f k n) true := by
    unfold posthornlaw06_DateCivils.f
    refine Ev.bind (refCivil_ev n) (Ev.bind (Civil_ev n hn.1 hn.2) ?_)
    refine Ev.congr (fun k => by rw [if_pos rfl, if_pos rfl, if_pos rfl, if_pos rfl, Weekday_f, bind_some', refWeekday_f, bind_some', if_pos rfl]) (Ev.same head_ev)
  exact h.rounds
end Go.Proofs.YtnmhkmkaklhapaaDoor.Pure
