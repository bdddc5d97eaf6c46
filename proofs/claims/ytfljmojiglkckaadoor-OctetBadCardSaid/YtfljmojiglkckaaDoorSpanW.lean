/- Span and Bad of kinds made of texts and bytes. -/
import Derived.Test.YtfljmojiglkckaaDoorSpanB
import Derived.Test.YtfljmojiglkckaaDoorG3
namespace Go.Proofs.YtfljmojiglkckaaDoor.I
set_option linter.unusedVariables false
set_option linter.unusedSimpArgs false
open Go.RowKit Go.Proofs.YtfljmojiglkckaaDoorW.PrintWords Go.Proofs.YtfljmojiglkckaaDoor.B Go.Proofs.YtfljmojiglkckaaDoor.Glob Go.Proofs.YtfljmojiglkckaaDoor.G

theorem Span_word_loop (c : Int) (s : ByteArray) (hs : s.size ≤ 4611686018427387903) (d : Nat) : ∀ i : Nat, s.size - i = d → i ≤ 9223372036854775807 →
    Ev (fun k => posthornlaw01_word_19.l0 k c s (i : Int)) ((i + run c ((bytesOf s).drop i) : Nat) : Int) := by
  induction d with
  | zero =>
    intro i hd h63
    refine Ev.last fun k => ?_
    simp only [posthornlaw01_word_19.l0]
    rw [if_neg (by omega), List.drop_eq_nil_of_le (by rw [bytesOf_len]; omega), run_nil]
    rfl
  | succ d ih =>
    intro i hd h63
    have hb : i < (bytesOf s).length := by rw [bytesOf_len]; omega
    rw [drop_cons _ i hb, run_cons, ← bt_bytes s i hb]
    by_cases hc : isB c (bt s (i : Int)) = true
    · rw [if_pos hc]
      have key := ih (i + 1) (by omega) (by omega)
      rw [show i + (run c ((bytesOf s).drop (i + 1)) + 1) = i + 1 + run c ((bytesOf s).drop (i + 1)) from by omega]
      refine Ev.round (f := fun k => posthornlaw01_word_19.l0 k c s ((i + 1 : Nat) : Int)) (fun k => ?_) key
      simp only [posthornlaw01_word_19.l0, octet_Is.f, Option.bind_some]
      rw [if_pos (by omega), if_pos (by omega), if_pos hc, wrap_id _ (by omega) (by omega)]
      rfl
    · rw [if_neg hc]
      refine Ev.last fun k => ?_
      simp only [posthornlaw01_word_19.l0, octet_Is.f, Option.bind_some]
      rw [if_pos (by omega), if_pos (by omega), if_neg hc]
      rfl

theorem Span_word_ev (c : Int) (s : ByteArray) (i : Int) (hs : s.size ≤ 4611686018427387903) (hi : i ≤ 9223372036854775807) : Ev (fun k => posthornlaw01_word_19.f k c s i) (spanI c (bytesOf s) i) := by
  unfold posthornlaw01_word_19.f spanI
  by_cases h1 : i < 0
  · exact Ev.val fun k => by rw [if_pos h1, if_pos h1]
  · obtain ⟨n, rfl⟩ := Int.eq_ofNat_of_zero_le (show 0 ≤ i by omega)
    rw [if_neg h1, Int.toNat_natCast]
    refine Ev.congr (fun k => ?_) (Span_word_loop c s hs (s.size - n) n rfl (by omega))
    rw [if_neg h1]

theorem Bad_word_ev (c : Int) (s : ByteArray) (hs : s.size ≤ 4611686018427387903) : Ev (fun k => posthornlaw01_word_25.f k c s) (run c (bytesOf s) : Int) := by
  unfold posthornlaw01_word_25.f
  have := Span_word_ev c s 0 hs (by omega)
  unfold spanI at this
  rw [if_neg (by omega), Int.toNat_zero, List.drop_zero, Int.zero_add] at this
  exact Ev.same this

theorem Span_row_loop (c : Int) (l : List Int) (hs : l.length ≤ 140737488351232) (d : Nat) : ∀ i : Nat, l.length - i = d → i ≤ 9223372036854775807 →
    Ev (fun k => posthornlaw01_row_20.l0 k c l (i : Int)) ((i + run c (l.drop i) : Nat) : Int) := by
  induction d with
  | zero =>
    intro i hd h63
    refine Ev.last fun k => ?_
    simp only [posthornlaw01_row_20.l0]
    rw [if_neg (by omega), List.drop_eq_nil_of_le (by omega), run_nil]
    rfl
  | succ d ih =>
    intro i hd h63
    have hb : i < l.length := by omega
    rw [drop_cons _ i hb, run_cons, ← rd_nat l i hb]
    by_cases hc : isB c (rd l (i : Int)) = true
    · rw [if_pos hc]
      have key := ih (i + 1) (by omega) (by omega)
      rw [show i + (run c (l.drop (i + 1)) + 1) = i + 1 + run c (l.drop (i + 1)) from by omega]
      refine Ev.round (f := fun k => posthornlaw01_row_20.l0 k c l ((i + 1 : Nat) : Int)) (fun k => ?_) key
      simp only [posthornlaw01_row_20.l0, octet_Is.f, Option.bind_some]
      rw [if_pos (by omega), if_pos (by omega), if_pos hc, wrap_id _ (by omega) (by omega)]
      rfl
    · rw [if_neg hc]
      refine Ev.last fun k => ?_
      simp only [posthornlaw01_row_20.l0, octet_Is.f, Option.bind_some]
      rw [if_pos (by omega), if_pos (by omega), if_neg hc]
      rfl

theorem Span_row_ev (c : Int) (l : List Int) (i : Int) (hs : l.length ≤ 140737488351232) (hi : i ≤ 9223372036854775807) : Ev (fun k => posthornlaw01_row_20.f k c l i) (spanI c l i) := by
  unfold posthornlaw01_row_20.f spanI
  by_cases h1 : i < 0
  · exact Ev.val fun k => by rw [if_pos h1, if_pos h1]
  · obtain ⟨n, rfl⟩ := Int.eq_ofNat_of_zero_le (show 0 ≤ i by omega)
    rw [if_neg h1, Int.toNat_natCast]
    refine Ev.congr (fun k => ?_) (Span_row_loop c l hs (l.length - n) n rfl (by omega))
    rw [if_neg h1]

theorem spanI_zero (c : Int) (l : List Int) : spanI c l 0 = (run c l : Int) := by
  unfold spanI
  rw [if_neg (by omega), Int.toNat_zero, List.drop_zero, Int.zero_add]
theorem Bad_byte_ev (c : Int) (l : List Int) (hs : l.length ≤ 140737488351232) : Ev (fun k => octet_Bad_byte.f k c l) (run c l : Int) := by
  unfold octet_Bad_byte.f
  have := Span_byte_ev c l 0 hs (by omega)
  rw [spanI_zero] at this
  exact Ev.same this
theorem Bad_row_ev (c : Int) (l : List Int) (hs : l.length ≤ 140737488351232) : Ev (fun k => posthornlaw01_row_26.f k c l) (run c l : Int) := by
  unfold posthornlaw01_row_26.f
  have := Span_row_ev c l 0 hs (by omega)
  rw [spanI_zero] at this
  exact Ev.same this
theorem Ev.both {α β : Type} {g : Nat → Option α} {h : Nat → Option β} {x : α} {y : β} (e : Ev g x) (f : Ev h y) : ∃ K, ∀ k, K ≤ k → g k = some x ∧ h k = some y := by
  obtain ⟨K, e⟩ := e
  obtain ⟨K', f⟩ := f
  exact ⟨max K K', fun k hk => ⟨e k (by omega), f k (by omega)⟩⟩
end Go.Proofs.YtfljmojiglkckaaDoor.I
