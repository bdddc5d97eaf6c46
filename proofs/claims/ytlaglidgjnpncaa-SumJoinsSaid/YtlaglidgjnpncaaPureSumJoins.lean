/- SumJoins: two sums joined, of any numbers, are as the document joins them. -/
import Derived.Test.YtlaglidgjnpncaaSumJ
namespace Go.Proofs.Ytlaglidgjnpncaa.Pure
set_option linter.unusedVariables false
set_option linter.unusedSimpArgs false
open Go.RowKit Go.Proofs.Ytlaglidgjnpncaa.G Go.Proofs.YtlaglidgjnpncaaW.PrintWords Go.Proofs.YtlaglidgjnpncaaW.PrintLast Go.Proofs.YtlaglidgjnpncaaW.PrintMore
open Go.Proofs.Ytlaglidgjnpncaa.B Go.Proofs.Ytlaglidgjnpncaa.SumF Go.Proofs.Ytlaglidgjnpncaa.SumP Go.Proofs.Ytlaglidgjnpncaa.Crc

theorem SumJoins (a0 a1 a2 : Int) (w : World) (w0 : (Lit.int .u32 a0).wf = true) (w1 : (Lit.int .u32 a1).wf = true) (w2 : (Lit.int .i64 a2).wf = true) :
    Calls Try.prog 4 #[.int .u32 a0, .int .u32 a1, .int .i64 a2] w fun e w' => e = .returned (.bool true) ∧ Below w.heap.size w w' := by
  have h0 := wf_u32 w0
  have h1 := wf_u32 w1
  have h2 := wf_i64 w2
  by_cases hn : a2 < 0
  · exact Joins_no 0 a0 a1 a2 w ⟨by unfold posthornref02_Join.f; rw [if_pos hn]⟩ ⟨by unfold sum_Join.f; rw [if_pos hn]⟩
  · obtain ⟨n, rfl⟩ := Int.eq_ofNat_of_zero_le (by omega : 0 ≤ a2)
    have e0 : a0 = ofW (toW a0) := (ofW_toW a0 ⟨by omega, by omega⟩).symm
    have e1 : a1 = ofW (toW a1) := (ofW_toW a1 ⟨by omega, by omega⟩).symm
    obtain ⟨K, hK⟩ := refJoin_ev (toW a0) (toW a1) n (by omega)
    have hJ := Join_w (toW a0) (toW a1) n (by omega)
    rw [← e0, ← e1] at hJ
    have hK := hK K (Nat.le_refl _)
    rw [← e0, ← e1] at hK
    exact Joins_ok K a0 a1 _ _ w ⟨hK⟩ ⟨hJ⟩
end Go.Proofs.Ytlaglidgjnpncaa.Pure
