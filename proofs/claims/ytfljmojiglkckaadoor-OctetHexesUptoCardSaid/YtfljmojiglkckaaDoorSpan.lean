/- Span and Bad, the program's and the reference's, as plain functions on lists. -/
import Derived.Test.YtfljmojiglkckaaDoorIs
import Derived.Test.YtfljmojiglkckaaDoorG2
import Derived.Test.YtfljmojiglkckaaDoorG3
namespace Go.Proofs.YtfljmojiglkckaaDoor.I
set_option linter.unusedVariables false
set_option linter.unusedSimpArgs false
open Go.RowKit Go.Proofs.YtfljmojiglkckaaDoorW.PrintWords Go.Proofs.YtfljmojiglkckaaDoor.B Go.Proofs.YtfljmojiglkckaaDoor.Glob Go.Proofs.YtfljmojiglkckaaDoor.G

/-- How many bytes of the class stand ahead. -/
def run (c : Int) (xs : List Int) : Nat := (xs.takeWhile (isB c)).length
theorem run_le (c : Int) (xs : List Int) : run c xs ≤ xs.length := (List.takeWhile_sublist _).length_le
theorem run_nil (c : Int) : run c [] = 0 := rfl
theorem run_cons (c x : Int) (xs : List Int) : run c (x :: xs) = if isB c x = true then run c xs + 1 else 0 := by
  unfold run
  rw [List.takeWhile_cons]
  split <;> simp

def spanI (c : Int) (xs : List Int) (i : Int) : Int := if i < 0 then i else i + (run c (xs.drop i.toNat) : Int)

theorem rd_nat (xs : List Int) (i : Nat) (h : i < xs.length) : rd xs (i : Int) = xs[i] := by
  unfold rd
  simp [List.getD_eq_getElem?_getD, h]

theorem refBad_loop (c : Int) (s : ByteArray) (hs : s.size ≤ 4611686018427387903) (d : Nat) : ∀ i : Nat, i ≤ s.size → s.size - i = d →
    Ev (fun k => posthornref01_Bad.l0 k c s (i : Int)) ((i + run c ((bytesOf s).drop i) : Nat) : Int) := by
  induction d with
  | zero =>
    intro i h1 hd
    obtain rfl : i = s.size := by omega
    refine Ev.last fun k => ?_
    simp only [posthornref01_Bad.l0]
    rw [if_neg (by omega), List.drop_eq_nil_of_le (by rw [bytesOf_len]; exact Nat.le_refl _), run_nil]
    rfl
  | succ d ih =>
    intro i h1 hd
    have hb : i < (bytesOf s).length := by rw [bytesOf_len]; omega
    rw [drop_cons _ i hb, run_cons, ← bt_bytes s i hb]
    have e := refIs_ev c (bt s (i : Int)) (bt_range s _)
    by_cases hc : isB c (bt s (i : Int)) = true
    · rw [if_pos hc]
      rw [hc] at e
      have key := ih (i + 1) (by omega) (by omega)
      rw [show i + (run c ((bytesOf s).drop (i + 1)) + 1) = i + 1 + run c ((bytesOf s).drop (i + 1)) from by omega]
      refine Ev.round (fun k => by simp only [posthornref01_Bad.l0]; rw [if_pos (by omega), if_pos (by omega)]) (Ev.bind e (Ev.congr (fun k => ?_) key))
      rw [if_pos rfl, wrap_id _ (by omega) (by omega)]
      rfl
    · rw [if_neg hc]
      have hc' : isB c (bt s (i : Int)) = false := by simpa using hc
      rw [hc'] at e
      refine Ev.round (fun k => by simp only [posthornref01_Bad.l0]; rw [if_pos (by omega), if_pos (by omega)]) (Ev.bind e (Ev.val fun k => ?_))
      rw [if_neg (by decide)]
      rfl

theorem refBad_ev (c : Int) (s : ByteArray) (hs : s.size ≤ 4611686018427387903) : Ev (fun k => posthornref01_Bad.f k c s) (run c (bytesOf s) : Int) := by
  have := refBad_loop c s hs s.size 0 (by omega) (by omega)
  rw [List.drop_zero, Nat.zero_add] at this
  exact this

theorem extract_bytes (s : ByteArray) (a b : Nat) : bytesOf (s.extract a b) = ((bytesOf s).drop a).take (b - a) := by
  unfold bytesOf
  rw [Lib.extract_data, List.map_take, List.map_drop]

theorem spanI_beyond (c : Int) (xs : List Int) (i : Int) (h : (xs.length : Int) ≤ i) : spanI c xs i = i := by
  unfold spanI
  split
  · rfl
  · rw [List.drop_eq_nil_of_le (by omega), run_nil]; omega

theorem refSpan_ev (c : Int) (s : ByteArray) (i : Int) (hs : s.size ≤ 4611686018427387903) : Ev (fun k => posthornref01_Span.f k c s i) (spanI c (bytesOf s) i) := by
  unfold posthornref01_Span.f
  by_cases h1 : i < 0
  · refine Ev.val fun k => ?_
    rw [if_pos h1]
    unfold spanI
    rw [if_pos h1]
  by_cases h2 : i ≥ (s.size : Int)
  · refine Ev.val fun k => ?_
    rw [if_neg h1, if_pos h2, spanI_beyond _ _ _ (by rw [bytesOf_len]; exact h2)]
  · obtain ⟨n, rfl⟩ := Int.eq_ofNat_of_zero_le (show 0 ≤ i by omega)
    have hz : (s.extract n s.size).size = s.size - n := by simp
    have e := refBad_ev c (s.extract n s.size) (by rw [hz]; omega)
    refine Ev.congr (f := fun k => (posthornref01_Bad.f k c (s.extract n s.size)).bind fun t => some (wrap64 ((n : Int) + t))) (fun k => ?_) (Ev.bind e (Ev.val fun k => ?_))
    · rw [if_neg h1, if_neg h2, if_pos (by omega), if_pos (by omega), Int.toNat_natCast]
    · have hr := run_le c (bytesOf (s.extract n s.size))
      rw [bytesOf_len, hz] at hr
      have hb : bytesOf (s.extract n s.size) = (bytesOf s).drop n := by
        rw [extract_bytes, List.take_of_length_le (by rw [List.length_drop, bytesOf_len]; exact Nat.le_refl _)]
      rw [wrap_id _ (by omega) (by omega), hb]
      unfold spanI
      rw [if_neg h1, Int.toNat_natCast]

theorem Span_str_loop (c : Int) (s : ByteArray) (hs : s.size ≤ 4611686018427387903) (d : Nat) : ∀ i : Nat, s.size - i = d → i ≤ 9223372036854775807 →
    Ev (fun k => octet_Span_string.l0 k c s (i : Int)) ((i + run c ((bytesOf s).drop i) : Nat) : Int) := by
  induction d with
  | zero =>
    intro i hd h63
    refine Ev.last fun k => ?_
    simp only [octet_Span_string.l0]
    rw [if_neg (by omega), List.drop_eq_nil_of_le (by rw [bytesOf_len]; omega), run_nil]
    rfl
  | succ d ih =>
    intro i hd h63
    have hb : i < (bytesOf s).length := by rw [bytesOf_len]; omega
    rw [drop_cons _ i hb, run_cons, ← bt_bytes s i hb]
    by_cases hc : isB c (bt s (i : Int)) = true
    · rw [if_pos hc]
      have key := ih (i + 1) (by omega) (by omega)
      rw [show i + (run c ((bytesOf s).drop (i + 1)) + 1) = i + 1 + run c ((bytesOf s).drop (i + 1)) from by omega]
      refine Ev.round (f := fun k => octet_Span_string.l0 k c s ((i + 1 : Nat) : Int)) (fun k => ?_) key
      simp only [octet_Span_string.l0, octet_Is.f, Option.bind_some]
      rw [if_pos (by omega), if_pos (by omega), if_pos hc, wrap_id _ (by omega) (by omega)]
      rfl
    · rw [if_neg hc]
      refine Ev.last fun k => ?_
      simp only [octet_Span_string.l0, octet_Is.f, Option.bind_some]
      rw [if_pos (by omega), if_pos (by omega), if_neg hc]
      rfl

theorem Span_str_ev (c : Int) (s : ByteArray) (i : Int) (hs : s.size ≤ 4611686018427387903) (hi : i ≤ 9223372036854775807) : Ev (fun k => octet_Span_string.f k c s i) (spanI c (bytesOf s) i) := by
  unfold octet_Span_string.f spanI
  by_cases h1 : i < 0
  · exact Ev.val fun k => by rw [if_pos h1, if_pos h1]
  · obtain ⟨n, rfl⟩ := Int.eq_ofNat_of_zero_le (show 0 ≤ i by omega)
    rw [if_neg h1, Int.toNat_natCast]
    refine Ev.congr (fun k => ?_) (Span_str_loop c s hs (s.size - n) n rfl (by omega))
    rw [if_neg h1]

theorem Bad_str_ev (c : Int) (s : ByteArray) (hs : s.size ≤ 4611686018427387903) : Ev (fun k => octet_Bad_string.f k c s) (run c (bytesOf s) : Int) := by
  unfold octet_Bad_string.f
  have := Span_str_ev c s 0 hs (by omega)
  unfold spanI at this
  rw [if_neg (by omega), Int.toNat_zero, List.drop_zero, Int.zero_add] at this
  exact Ev.same this

end Go.Proofs.YtfljmojiglkckaaDoor.I
