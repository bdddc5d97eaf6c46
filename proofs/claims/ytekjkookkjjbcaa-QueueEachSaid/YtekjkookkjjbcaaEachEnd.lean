/- QueueEach: both kinds of row. -/
import Derived.Test.YtekjkookkjjbcaaPureQueueEach
import Derived.Test.YtekjkookkjjbcaaEachBad
namespace Go.Proofs.Ytekjkookkjjbcaa.Pure
set_option linter.unusedVariables false
set_option linter.unusedSimpArgs false
open Go.RowKit
theorem QueueEach (a0 : Option Addr) (len0 cap0 : Nat) (z0 : List Int) (a1 a2 : Int) (w : World)
    (w0 : (a0 = none ∧ len0 = 0 ∧ cap0 = 0 ∧ z0 = []) ∨ ∃ x, a0 = some x ∧ len0 ≤ cap0 ∧ cap0 ≤ maxLen ∧ z0.length = cap0 ∧ (∀ i, i < z0.length → w.cell? (x.add i) = some (.int .i64 (z0.getD i 0))) ∧ ∀ n ∈ z0, (Lit.int .i64 n).wf = true) (_y0 : len0 * 8 ≤ 140737488351232) (_w1 : (Lit.int .i64 a1).wf = true) (_w2 : (Lit.int .i64 a2).wf = true) :
    Calls Try.prog 7 #[.slice a0 len0 cap0, .int .i64 a1, .int .i64 a2] w fun e w' => e = .returned (.bool true) ∧ Below w.heap.size w w' := by
  by_cases hn : len0 + 3 ≤ 1048576
  · have hl : len0 ≤ z0.length := by
      rcases w0 with ⟨_, rfl, _⟩ | ⟨x, e, h1, h2, h3, h4, _⟩
      · exact Nat.zero_le _
      · omega
    refine each_good a0 len0 cap0 a1 a2 w (z0.take len0) (by rw [List.length_take]; omega) hn ?_
    intro i hi
    rcases w0 with ⟨_, rfl, _⟩ | ⟨x, e, h1, h2, h3, h4, _⟩
    · omega
    · refine ⟨x, e, ?_⟩
      have : (z0.take len0).getD i 0 = z0.getD i 0 := by
        rw [List.getD_eq_getElem?_getD, List.getD_eq_getElem?_getD, List.getElem?_take_of_lt hi]
      rw [this]
      exact h4 i (by omega)
  · exact EC.each_bad a0 len0 cap0 a1 a2 w (by omega) (by omega)
end Go.Proofs.Ytekjkookkjjbcaa.Pure
