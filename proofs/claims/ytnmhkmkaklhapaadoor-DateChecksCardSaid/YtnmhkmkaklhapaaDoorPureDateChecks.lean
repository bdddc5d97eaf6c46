/- DateChecks: of any date: whether it may be, its second, its text. -/
import Derived.Test.YtnmhkmkaklhapaaDoorChkW
namespace Go.Proofs.YtnmhkmkaklhapaaDoor.Pure
set_option linter.unusedVariables false
set_option linter.unusedSimpArgs false
open Go.RowKit Go.Proofs.YtnmhkmkaklhapaaDoorW.PrintWords Go.Proofs.YtnmhkmkaklhapaaDoorW.PrintLast Go.Proofs.YtnmhkmkaklhapaaDoorW.PrintMore Go.Proofs.YtnmhkmkaklhapaaDoor.B Go.Proofs.YtnmhkmkaklhapaaDoor.Cal Go.Proofs.YtnmhkmkaklhapaaDoor.Chk Go.Proofs.YtnmhkmkaklhapaaDoor.MN Go.Proofs.YtnmhkmkaklhapaaDoor.DP Go.Proofs.YtnmhkmkaklhapaaDoor.T Go.Proofs.YtnmhkmkaklhapaaDoor.Glob
theorem DateChecks (a0_0 a0_1 a0_2 a0_3 a0_4 a0_5 a0_6 : Int) (w : World) (w0_0 : (Lit.int .i16 a0_0).wf = true) (w0_1 : (Lit.int .i8 a0_1).wf = true) (w0_2 : (Lit.int .i8 a0_2).wf = true) (w0_3 : (Lit.int .i8 a0_3).wf = true) (w0_4 : (Lit.int .i8 a0_4).wf = true) (w0_5 : (Lit.int .i8 a0_5).wf = true) (w0_6 : (Lit.int .i16 a0_6).wf = true) (HG : GOk w) :
    Calls Tryd.prog 8 #[.agg #[.int .i16 a0_0, .int .i8 a0_1, .int .i8 a0_2, .int .i8 a0_3, .int .i8 a0_4, .int .i8 a0_5, .int .i16 a0_6]] w fun e w' => e = .returned (.bool true) ∧ Below w.heap.size w w' := by
  have hI : allI a0_0 a0_1 a0_2 a0_3 a0_4 a0_5 a0_6 := ⟨wf_i16 w0_0, wf_i8 w0_1, wf_i8 w0_2, wf_i8 w0_3, wf_i8 w0_4, wf_i8 w0_5, wf_i16 w0_6⟩
  obtain ⟨c, hc⟩ : ∃ c, chkV a0_0 a0_1 a0_2 a0_3 a0_4 a0_5 a0_6 = c := ⟨_, rfl⟩
  obtain ⟨sc, hs⟩ : ∃ sc, secT a0_0 a0_1 a0_2 a0_3 a0_4 a0_5 a0_6 = (sc, c) := by
    unfold secT
    by_cases h0 : chkV a0_0 a0_1 a0_2 a0_3 a0_4 a0_5 a0_6 = 0
    · rw [if_pos h0]; exact ⟨_, by rw [← hc, h0]⟩
    · rw [if_neg h0]; exact ⟨_, by rw [hc]⟩
  have hck : date_Check.f a0_0 a0_1 a0_2 a0_3 a0_4 a0_5 a0_6 = some c := by unfold date_Check.f; rw [if_pos ⟨hI.1, hI.2.1, hI.2.2.1⟩, hc]
  have hsec : date_Seconds.f a0_0 a0_1 a0_2 a0_3 a0_4 a0_5 a0_6 = some (sc, c) := by unfold date_Seconds.f; rw [if_pos hI, hs]
  have hrck := fun w => refCheck_calls a0_0 a0_1 a0_2 a0_3 a0_4 a0_5 a0_6 hI w
  have hrsec := fun w => refSeconds_calls a0_0 a0_1 a0_2 a0_3 a0_4 a0_5 a0_6 hI w
  rw [hc] at hrck
  rw [hs] at hrsec
  exact checks_walk a0_0 a0_1 a0_2 a0_3 a0_4 a0_5 a0_6 c sc _ hck hsec hrck hrsec (fun w => print_all _ _ _ _ _ _ _ c hI hc w) (fun w => rprint_all _ _ _ _ _ _ _ c hI hc w) w HG
end Go.Proofs.YtnmhkmkaklhapaaDoor.Pure
