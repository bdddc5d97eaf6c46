/- OctetClasses: octet.Is tells what the reference tells, of every class and every byte. -/
import Derived.Test.YtfljmojiglkckaaDoorG2
import Derived.Test.YtfljmojiglkckaaDoorIs
namespace Go.Proofs.YtfljmojiglkckaaDoor.Pure
open Go.RowKit Go.Proofs.YtfljmojiglkckaaDoor.G Go.Proofs.YtfljmojiglkckaaDoorW.PrintWords
open Go.Proofs.YtfljmojiglkckaaDoor.B Go.Proofs.YtfljmojiglkckaaDoor.I Go.Proofs.YtfljmojiglkckaaDoor.Glob

theorem classes_loop (c : Int) (d : Nat) : ∀ i : Nat, i ≤ 256 → 256 - i = d → Ev (fun k => posthornlaw01_OctetClasses.l0 k c (i : Int)) true := by
  induction d with
  | zero =>
    intro i h1 hd
    obtain rfl : i = 256 := by omega
    refine Ev.last fun k => ?_
    simp only [posthornlaw01_OctetClasses.l0, octet_Is.f]
    rw [if_neg (by omega)]
    decide +kernel
  | succ d ih =>
    intro i h1 hd
    have key := ih (i + 1) (by omega) (by omega)
    have e := refIs_ev c ((i : Int) % 256) (by omega)
    refine Ev.round (f := fun k => (posthornref01_Is.f k c ((i : Int) % 256)).bind fun t => if (isB c ((i : Int) % 256) != t) = true then some false else posthornlaw01_OctetClasses.l0 k c (wrap64 ((i : Int) + 1))) (fun k => ?_) (Ev.bind e ?_)
    · simp only [posthornlaw01_OctetClasses.l0, octet_Is.f, Option.bind_some]
      rw [if_pos (by omega)]
    · simp only [bne_self_eq_false, Bool.false_eq_true, if_false]
      rw [wrap_id _ (by omega) (by omega)]
      exact key

theorem OctetClasses : posthornlaw01_OctetClasses.Pure := by
  intro c hc
  apply Ev.rounds
  exact classes_loop c 256 0 (by omega) (by omega)

end Go.Proofs.YtfljmojiglkckaaDoor.Pure
