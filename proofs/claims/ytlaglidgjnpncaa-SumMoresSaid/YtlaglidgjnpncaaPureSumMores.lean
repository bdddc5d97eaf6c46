/- SumMores: the sum of any bytes, and behind any number, is the document's. -/
import Derived.Test.YtlaglidgjnpncaaSumQ
import Derived.Test.YtlaglidgjnpncaaG1
namespace Go.Proofs.Ytlaglidgjnpncaa.Pure
set_option linter.unusedVariables false
set_option linter.unusedSimpArgs false
open Go.RowKit Go.Proofs.Ytlaglidgjnpncaa.G Go.Proofs.YtlaglidgjnpncaaW.PrintWords Go.Proofs.YtlaglidgjnpncaaW.PrintLast Go.Proofs.YtlaglidgjnpncaaW.PrintMore
open Go.Proofs.Ytlaglidgjnpncaa.B Go.Proofs.Ytlaglidgjnpncaa.SumF Go.Proofs.Ytlaglidgjnpncaa.SumP Go.Proofs.Ytlaglidgjnpncaa.Crc

theorem SumMores : posthornlaw02_SumMores.Pure := by
  intro a0 l1 ha hl hz hb
  have hin : InB l1 := fun x hx => wf_u8 (hb x hx)
  obtain ⟨K1, h1⟩ := refOf_ev l1 (by omega) hin
  obtain ⟨K2, h2⟩ := refMore_ev a0 l1 (by omega) hin
  have h1 : posthornref02_Of.f (K1 + K2) l1 = _ := h1 _ (by omega)
  have h2 : posthornref02_More.f (K1 + K2) a0 l1 = _ := h2 _ (by omega)
  refine ⟨K1 + K2, ?_⟩
  unfold posthornlaw02_SumMores.f
  rw [Of_w l1 hin, bind_some', h1, bind_some', if_pos rfl, More_w a0 l1 hin, bind_some', h2, bind_some', if_pos rfl]
  rfl
end Go.Proofs.Ytlaglidgjnpncaa.Pure
