/- OctetReads: Number of every text and every bound, and Decimal of every number, tell what the reference tells. -/
import Derived.Test.YtfljmojiglkckaaDoorNumRef
import Derived.Test.YtfljmojiglkckaaDoorG5
namespace Go.Proofs.YtfljmojiglkckaaDoor.Pure
set_option linter.unusedVariables false
set_option linter.unusedSimpArgs false
open Go.RowKit Go.Proofs.YtfljmojiglkckaaDoor.G Go.Proofs.YtfljmojiglkckaaDoorW.PrintWords
open Go.Proofs.YtfljmojiglkckaaDoor.B Go.Proofs.YtfljmojiglkckaaDoor.I Go.Proofs.YtfljmojiglkckaaDoor.Nm Go.Proofs.YtfljmojiglkckaaDoor.Dec Go.Proofs.YtfljmojiglkckaaDoor.Glob

theorem OctetReads : posthornlaw01_OctetReads.Pure := by
  intro s most hs hm
  have hr : 0 ≤ most ∧ most ≤ 18446744073709551615 := wf_u64 hm
  obtain ⟨m, rfl⟩ := Int.eq_ofNat_of_zero_le hr.1
  apply Ev.rounds
  unfold posthornlaw01_OctetReads.f
  refine Ev.bind (Number_ev s m hs hr) (Ev.bind (refNumber_ev s m hs (by omega)) (Ev.bind (Ev.of (octet_Number.mono _ _) (k := 40) (show octet_Number.f 40 ⟨#[48, 55]⟩ 7 = some (7, 0) by decide +kernel)) ?_))
  simp only [if_true, Decimal_f _ hm, Int.toNat_natCast, Option.bind_some]
  refine Ev.bind (refDecimal_ev m (by omega)) (Ev.val fun k => ?_)
  rw [if_pos rfl, Decimal_f 10 (by decide), show Int.toNat 10 = 10 from rfl, dec_ten]
  simp only [Option.bind_some]
  rw [toList_data]
  decide
end Go.Proofs.YtfljmojiglkckaaDoor.Pure
