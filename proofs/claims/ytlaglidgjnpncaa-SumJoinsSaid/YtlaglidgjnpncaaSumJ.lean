/- SumJoins: the walk of the statement (by hand), along the way on which all tests hold. -/
import Derived.Test.YtlaglidgjnpncaaSumQ
import Derived.Test.YtlaglidgjnpncaaG1
namespace Go.Proofs.Ytlaglidgjnpncaa.SumF
set_option linter.unusedVariables false
set_option linter.unusedSimpArgs false
set_option linter.unusedVariables false
set_option linter.unusedSimpArgs false
open Go.RowKit Go.Proofs.YtlaglidgjnpncaaW.PrintWords Go.Proofs.YtlaglidgjnpncaaW.PrintLast Go.Proofs.YtlaglidgjnpncaaW.PrintMore Go.Proofs.Ytlaglidgjnpncaa.B Go.Proofs.Ytlaglidgjnpncaa.M Go.Proofs.Ytlaglidgjnpncaa.G

set_option maxHeartbeats 4000000 in
set_option maxRecDepth 100000 in
theorem Joins_ok (k : Nat) (a b n x : Int) (w : World) (A1 : Aside0 (posthornref02_Join.f k a b n = some (x, true))) (A2 : Aside0 (sum_Join.f a b n = some (x, 0))) :
    Calls Try.prog 4 #[.int .u32 a, .int .u32 b, .int .i64 n] w fun e w' => e = .returned (.bool true) ∧ Below w.heap.size w w' := by
  go_enter Try.func4, Try.ntmps4
  go_wp2_with (first
    | (go_at_call 17; refine (posthornref02_Join.calls k a b n x true _ A1.out).mono ?_; rintro e w1 ⟨rfl, ⟨nd, rfl⟩⟩)
    | (go_at_call 18; refine (sum_Join.calls a b n x 0 _ A2.out).mono ?_; rintro e w1 ⟨rfl, hb1⟩)
    | (go_at_call 16; refine (posthornlaw02_wakes.calls true _ rfl).mono ?_; rintro e w2 ⟨rfl, hb2⟩))
  go_ret
  exact ⟨rfl, below_step (below_step (by repeat (first | exact Below.refl _ _ | apply pw_below_drewN | apply below_drew1)) hb1) hb2⟩
set_option maxHeartbeats 4000000 in
set_option maxRecDepth 100000 in
theorem Joins_no (k : Nat) (a b n : Int) (w : World) (A1 : Aside0 (posthornref02_Join.f k a b n = some (0, false))) (A2 : Aside0 (sum_Join.f a b n = some (0, 2))) :
    Calls Try.prog 4 #[.int .u32 a, .int .u32 b, .int .i64 n] w fun e w' => e = .returned (.bool true) ∧ Below w.heap.size w w' := by
  go_enter Try.func4, Try.ntmps4
  go_wp2_with (first
    | (go_at_call 17; refine (posthornref02_Join.calls k a b n 0 false _ A1.out).mono ?_; rintro e w1 ⟨rfl, ⟨nd, rfl⟩⟩)
    | (go_at_call 18; refine (sum_Join.calls a b n 0 2 _ A2.out).mono ?_; rintro e w1 ⟨rfl, hb1⟩)
    | (go_at_call 16; refine (posthornlaw02_wakes.calls true _ rfl).mono ?_; rintro e w2 ⟨rfl, hb2⟩))
  go_ret
  exact ⟨rfl, below_step (below_step (by repeat (first | exact Below.refl _ _ | apply pw_below_drewN | apply below_drew1)) hb1) hb2⟩
end Go.Proofs.Ytlaglidgjnpncaa.SumF
