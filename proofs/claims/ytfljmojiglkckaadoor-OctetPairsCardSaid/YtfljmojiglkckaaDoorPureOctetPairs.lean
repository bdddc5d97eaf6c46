/- OctetPairs: what Unhex takes HexOf writes again, in capitals; what it doesn't take has its place. -/
import Derived.Test.YtfljmojiglkckaaDoorHex
import Derived.Test.YtfljmojiglkckaaDoorWakes
import Derived.Test.YtfljmojiglkckaaDoorG12
namespace Go.Proofs.YtfljmojiglkckaaDoor.Pure
set_option linter.unusedVariables false
set_option linter.unusedSimpArgs false
open Go.RowKit Go.Proofs.YtfljmojiglkckaaDoor.G Go.Proofs.YtfljmojiglkckaaDoorW.PrintWords
open Go.Proofs.YtfljmojiglkckaaDoor.B Go.Proofs.YtfljmojiglkckaaDoor.I Go.Proofs.YtfljmojiglkckaaDoor.U Go.Proofs.YtfljmojiglkckaaDoor.H Go.Proofs.YtfljmojiglkckaaDoor.Glob

theorem OctetPairs : posthornlaw01_OctetPairs.Pure := by
  intro s hs
  apply Ev.rounds
  unfold posthornlaw01_OctetPairs.f
  refine Ev.bind wakes_ev ?_
  simp only [if_true]
  refine Ev.bind (Unhex_ev s hs) (Ev.bind (refUnhex_ev s hs) ?_)
  simp only [beq_self_eq_true, Bool.not_true, Bool.or_self, Bool.false_eq_true, if_false]
  have hr := run_le 4 (bytesOf s)
  rw [bytesOf_len] at hr
  by_cases h : run 4 (bytesOf s) < s.size ∨ s.size % 2 = 1
  · have e : unhexR s = ([], 10, (run 4 (bytesOf s) : Int)) := by unfold unhexR; rw [if_pos h]
    simp only [e, show ((10 : Int) = 0) = False from eq_false (by decide), if_false, if_true, List.length_nil, show (((0 : Nat) : Int) = 0) = True from eq_true rfl]
    refine Ev.bind (Bad_str_ev 4 s hs) (Ev.val fun k => ?_)
    rw [if_pos rfl]
    by_cases h2 : run 4 (bytesOf s) < s.size
    · rw [if_pos (by omega)]
    · rw [if_neg (by omega), show ((s.size : Int) % 2 == 1) = true from beq_iff_eq.2 (by omega)]
  · have e : unhexR s = (unhexL (bytesOf s), 0, 0) := by unfold unhexR; rw [if_neg h]
    simp only [e, if_true]
    obtain ⟨h1, h2, h3⟩ := hex_unhex (s.size / 2) (bytesOf s) (by rw [bytesOf_len]; omega) (bytesOf_in s) (run_all (by rw [bytesOf_len]; omega))
    refine Ev.bind (HexOf_ev _ h2 (by omega)) (Ev.bind (Upper_ev s hs) (Ev.val fun k => ?_))
    rw [h1, beq_toList]
    exact congrArg some (decide_eq_true rfl)
end Go.Proofs.YtfljmojiglkckaaDoor.Pure
