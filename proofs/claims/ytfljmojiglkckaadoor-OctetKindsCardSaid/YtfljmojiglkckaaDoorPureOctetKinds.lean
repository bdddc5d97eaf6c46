/- OctetKinds: each byte is of just one of Ascii and High, of LetDig just if of Alpha or Digit; no class lies outside of Ascii but High, and none beyond 14 or below 1 has a byte. -/
import Derived.Test.YtfljmojiglkckaaDoorWakes
import Derived.Test.YtfljmojiglkckaaDoorG9
namespace Go.Proofs.YtfljmojiglkckaaDoor.Pure
set_option linter.unusedVariables false
set_option linter.unusedSimpArgs false
open Go.RowKit Go.Proofs.YtfljmojiglkckaaDoor.G Go.Proofs.YtfljmojiglkckaaDoorW.PrintWords
open Go.Proofs.YtfljmojiglkckaaDoor.B Go.Proofs.YtfljmojiglkckaaDoor.I Go.Proofs.YtfljmojiglkckaaDoor.Glob

theorem k_parts : ∀ b : Fin 256, isB 13 b.val = !isB 14 b.val ∧ isB 3 b.val = (isB 1 b.val || isB 2 b.val) := by decide +kernel
theorem k_ascii : ∀ c : Fin 14, ∀ b : Fin 256, isB c.val b.val = true → isB 13 b.val = true := by decide +kernel
theorem k_out {c : Int} (b : Int) (hc : c < 1 ∨ 14 < c) : isB c b = false := by
  unfold isB
  rw [hits_out hc, show (c == 5) = false from beq_eq_false_iff_ne.2 (by omega), show (c == 10) = false from beq_eq_false_iff_ne.2 (by omega)]
  rfl

theorem kinds_j1 (c b : Int) (q : Bool) (hb : 0 ≤ b ∧ b ≤ 255) (hq : q = decide (c < 1 ∨ 14 < c)) : Ev (fun k => posthornlaw01_OctetKinds.j1 k c b q) true := by
  refine Ev.last fun k => ?_
  simp only [posthornlaw01_OctetKinds.j1, octet_Is.f, Option.bind_some]
  by_cases hc : c < 1 ∨ 14 < c
  · rw [hq, decide_eq_true hc, if_pos rfl, k_out b hc]; rfl
  · rw [hq, decide_eq_false hc, if_neg (by decide)]
    by_cases h14 : c = 14
    · rw [if_pos h14]
    · rw [if_neg h14]
      by_cases h : isB c b = true
      · rw [if_pos h]
        have := k_ascii ⟨c.toNat, by omega⟩ ⟨b.toNat, by omega⟩
        simp only at this
        rw [Int.toNat_of_nonneg (by omega), Int.toNat_of_nonneg (by omega)] at this
        rw [this h]
      · rw [if_neg h]

theorem kinds_j0 (c b : Int) (hb : 0 ≤ b ∧ b ≤ 255) : Ev (fun k => posthornlaw01_OctetKinds.j0 k c b false) true := by
  by_cases h1 : c < 1
  · refine Ev.round (fun k => ?_) (kinds_j1 c b true hb (decide_eq_true (Or.inl h1)).symm)
    simp only [posthornlaw01_OctetKinds.j0]
    rw [if_neg (by decide), if_pos h1]
  · refine Ev.round (fun k => ?_) (kinds_j1 c b (decide (c > 14)) hb (by rw [decide_eq_decide]; omega))
    simp only [posthornlaw01_OctetKinds.j0]
    rw [if_neg (by decide), if_neg h1]

theorem OctetKinds : posthornlaw01_OctetKinds.Pure := by
  intro c b hc hb0
  have hb : 0 ≤ b ∧ b ≤ 255 := wf_u8 hb0
  apply Ev.rounds
  obtain ⟨p1, p2⟩ := k_parts ⟨b.toNat, by omega⟩
  simp only at p1 p2
  rw [Int.toNat_of_nonneg hb.1] at p1 p2
  unfold posthornlaw01_OctetKinds.f
  refine Ev.bind wakes_ev ?_
  simp only [if_true, octet_Is.f, Option.bind_some]
  refine Ev.congr (fun k => ?_) (kinds_j0 c b hb)
  rw [if_neg (by rw [p1]; cases isB 14 b <;> decide)]
  cases h1 : isB 1 b
  · rw [if_neg (by decide), p2, h1, Bool.false_or, bne_self_eq_false]
  · rw [if_pos rfl, p2, h1, Bool.true_or]; rfl

end Go.Proofs.YtfljmojiglkckaaDoor.Pure
