/- What each statement asks first is told. -/
import Derived.Test.YtfljmojiglkckaaDoorBase
import Derived.Test.YtfljmojiglkckaaDoorGlob
import Derived.Test.YtfljmojiglkckaaDoorDec
import Derived.Test.YtfljmojiglkckaaDoorC1
namespace Go.Proofs.YtfljmojiglkckaaDoor.I
set_option linter.unusedVariables false
set_option linter.unusedSimpArgs false
open Go.RowKit Go.Proofs.YtfljmojiglkckaaDoorW.PrintWords Go.Proofs.YtfljmojiglkckaaDoor.B Go.Proofs.YtfljmojiglkckaaDoor.Glob Go.Proofs.YtfljmojiglkckaaDoor.Dec Go.Proofs.YtfljmojiglkckaaDoor.C

theorem dec_ten : decS 10 = ⟨#[49, 48]⟩ := by
  unfold decS
  rw [decN_big (by decide), decN_small (by decide)]
  rfl
theorem Decimal_f (n : Int) (h : (Lit.int .u64 n).wf = true) : octet_Decimal.f n = some (decS n.toNat) := by
  unfold octet_Decimal.f
  rw [if_pos (wf_u64 h)]

theorem wakes_ev : Ev (fun k => posthornlaw01_wakes.f k) true := by
  unfold posthornlaw01_wakes.f
  refine Ev.bind (Ev.of (octet_Number.mono _ _) (k := 40) (show octet_Number.f 40 ⟨#[49, 50]⟩ 99 = some (12, 0) by decide +kernel)) ?_
  have h1 : octet_Is.f 2 55 = some true := by decide +kernel
  have h2 : octet_Is.f 2 97 = some false := by decide +kernel
  simp only [h1, h2, Option.bind_some, if_true, Bool.false_eq_true, if_false]
  refine Ev.bind (Ev.of (octet_Upper.mono _) (k := 40) (show octet_Upper.f 40 ⟨#[97, 45, 98]⟩ = some ⟨#[65, 45, 66]⟩ by decide +kernel)) (Ev.val fun k => ?_)
  have h3 : octet_Decimal.f 10 = some ⟨#[49, 48]⟩ := by
    rw [Decimal_f 10 (by decide), show Int.toNat 10 = 10 from rfl, dec_ten]
  rw [toList_data, if_pos rfl, h3]
  simp only [Option.bind_some]
  rw [toList_data]
  decide
end Go.Proofs.YtfljmojiglkckaaDoor.I
