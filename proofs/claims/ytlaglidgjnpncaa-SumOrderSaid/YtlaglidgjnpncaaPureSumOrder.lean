/- SumOrder: three sums joined from the left are the same as from the right. -/
import Derived.Test.YtlaglidgjnpncaaSumQ
import Derived.Test.YtlaglidgjnpncaaG1
namespace Go.Proofs.Ytlaglidgjnpncaa.Pure
set_option linter.unusedVariables false
set_option linter.unusedSimpArgs false
open Go.RowKit Go.Proofs.Ytlaglidgjnpncaa.G Go.Proofs.YtlaglidgjnpncaaW.PrintWords Go.Proofs.YtlaglidgjnpncaaW.PrintLast Go.Proofs.YtlaglidgjnpncaaW.PrintMore
open Go.Proofs.Ytlaglidgjnpncaa.B Go.Proofs.Ytlaglidgjnpncaa.SumF Go.Proofs.Ytlaglidgjnpncaa.SumP Go.Proofs.Ytlaglidgjnpncaa.Crc

theorem jn_assoc (a b c : W) (n m : Nat) : jn (jn a b n) c m = jn a (jn b c m) (n + m) := by
  unfold jn
  rw [(Lin.D.it _).xor, ← it_add, BitVec.xor_assoc, Nat.mul_add]
theorem jn_zero (a : W) : jn a 0#32 0 = a := by unfold jn; rw [BitVec.xor_zero]; rfl
theorem order_wakes (a b c n m : Int) : posthornlaw02_SumOrder.j0 1 a b c n m true = some true := by
  simp only [posthornlaw02_SumOrder.j0]
  rw [if_pos trivial]; rfl
theorem SumOrder : posthornlaw02_SumOrder.Pure := by
  intro a b c n m ha hb hc hn hm
  have ha := wf_u32 ha
  have hb := wf_u32 hb
  have hc := wf_u32 hc
  have hn := wf_i64 hn
  have hm := wf_i64 hm
  refine ⟨1, ?_⟩
  unfold posthornlaw02_SumOrder.f
  by_cases h1 : n < 0
  · rw [if_pos h1]; exact order_wakes _ _ _ _ _
  · rw [if_neg h1]
    by_cases h2 : m < 0
    · rw [if_pos h2]; exact order_wakes _ _ _ _ _
    · rw [if_neg h2]
      by_cases h3 : n > wrap64 (9223372036854775807 - m)
      · rw [decide_eq_true h3]; exact order_wakes _ _ _ _ _
      · rw [decide_eq_false h3]
        rw [wrap_id _ (by omega) (by omega)] at h3
        obtain ⟨n, rfl⟩ := Int.eq_ofNat_of_zero_le (by omega : 0 ≤ n)
        obtain ⟨m, rfl⟩ := Int.eq_ofNat_of_zero_le (by omega : 0 ≤ m)
        have ea : a = ofW (toW a) := (ofW_toW a ⟨by omega, by omega⟩).symm
        have eb : b = ofW (toW b) := (ofW_toW b ⟨by omega, by omega⟩).symm
        have ec : c = ofW (toW c) := (ofW_toW c ⟨by omega, by omega⟩).symm
        have e0 : (0 : Int) = ofW 0#32 := rfl
        generalize toW a = A at ea
        generalize toW b = B at eb
        generalize toW c = C at ec
        subst ea eb ec
        have hs : wrap64 ((n : Int) + (m : Int)) = ((n + m : Nat) : Int) := by rw [wrap_id _ (by omega) (by omega)]; omega
        have j1 := Join_w A B n (by omega)
        have j2 := Join_w (jn A B n) C m (by omega)
        have j3 := Join_w B C m (by omega)
        have j4 := Join_w A (jn B C m) (n + m) (by omega)
        have j5 := Join_w A 0#32 0 (by omega)
        rw [jn_zero] at j5
        have j5 : sum_Join.f (ofW A) 0 0 = some (ofW A, 0) := j5
        simp only [posthornlaw02_SumOrder.j0]
        rw [if_neg (by decide), hs, j1, bind_some', j2, bind_some', j3, bind_some', j4, bind_some', j5, bind_some', if_pos rfl, if_pos rfl, if_pos rfl, if_pos rfl, if_pos rfl, if_pos (by rw [jn_assoc]), if_pos rfl]
        rfl
end Go.Proofs.Ytlaglidgjnpncaa.Pure
