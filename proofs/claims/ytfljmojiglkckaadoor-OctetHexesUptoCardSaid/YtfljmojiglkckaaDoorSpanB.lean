/- Span and Bad over bytes (the instance @F@), as plain functions on lists. -/
import Derived.Test.YtfljmojiglkckaaDoorSpan
import Derived.Test.YtfljmojiglkckaaDoorG3
namespace Go.Proofs.YtfljmojiglkckaaDoor.I
set_option linter.unusedVariables false
set_option linter.unusedSimpArgs false
open Go.RowKit Go.Proofs.YtfljmojiglkckaaDoorW.PrintWords Go.Proofs.YtfljmojiglkckaaDoor.B Go.Proofs.YtfljmojiglkckaaDoor.Glob Go.Proofs.YtfljmojiglkckaaDoor.G

theorem Span_byte_loop (c : Int) (l : List Int) (hs : l.length ≤ 140737488351232) (d : Nat) : ∀ i : Nat, l.length - i = d → i ≤ 9223372036854775807 →
    Ev (fun k => octet_Span_byte.l0 k c l (i : Int)) ((i + run c (l.drop i) : Nat) : Int) := by
  induction d with
  | zero =>
    intro i hd h63
    refine Ev.last fun k => ?_
    simp only [octet_Span_byte.l0]
    rw [if_neg (by omega), List.drop_eq_nil_of_le (by omega), run_nil]
    rfl
  | succ d ih =>
    intro i hd h63
    have hb : i < l.length := by omega
    rw [drop_cons _ i hb, run_cons, ← rd_nat l i hb]
    by_cases hc : isB c (rd l (i : Int)) = true
    · rw [if_pos hc]
      have key := ih (i + 1) (by omega) (by omega)
      rw [show i + (run c (l.drop (i + 1)) + 1) = i + 1 + run c (l.drop (i + 1)) from by omega]
      refine Ev.round (f := fun k => octet_Span_byte.l0 k c l ((i + 1 : Nat) : Int)) (fun k => ?_) key
      simp only [octet_Span_byte.l0, octet_Is.f, Option.bind_some]
      rw [if_pos (by omega), if_pos (by omega), if_pos hc, wrap_id _ (by omega) (by omega)]
      rfl
    · rw [if_neg hc]
      refine Ev.last fun k => ?_
      simp only [octet_Span_byte.l0, octet_Is.f, Option.bind_some]
      rw [if_pos (by omega), if_pos (by omega), if_neg hc]
      rfl

theorem Span_byte_ev (c : Int) (l : List Int) (i : Int) (hs : l.length ≤ 140737488351232) (hi : i ≤ 9223372036854775807) : Ev (fun k => octet_Span_byte.f k c l i) (spanI c l i) := by
  unfold octet_Span_byte.f spanI
  by_cases h1 : i < 0
  · exact Ev.val fun k => by rw [if_pos h1, if_pos h1]
  · obtain ⟨n, rfl⟩ := Int.eq_ofNat_of_zero_le (show 0 ≤ i by omega)
    rw [if_neg h1, Int.toNat_natCast]
    refine Ev.congr (fun k => ?_) (Span_byte_loop c l hs (l.length - n) n rfl (by omega))
    rw [if_neg h1]
end Go.Proofs.YtfljmojiglkckaaDoor.I
