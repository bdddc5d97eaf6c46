/- The reference's runes: which bytes are those of a rune (arithmetic). -/
import Derived.Test.YtabjfpjmiiiecaaBadP
import Derived.Test.YtabjfpjmiiiecaaD5
import Derived.Test.YtabjfpjmiiiecaaD6
namespace Go.Proofs.Ytabjfpjmiiiecaa.CK
set_option linter.unusedVariables false
set_option linter.unusedSimpArgs false
open Go.RowKit Go.Proofs.YtabjfpjmiiiecaaW.PrintWords Go.Proofs.Ytabjfpjmiiiecaa.B Go.Proofs.Ytabjfpjmiiiecaa.D
def isV (x : Int) : Bool := decide (0 ≤ x) && decide (x ≤ 1114111) && (decide (x < 55296) || decide (x > 57343))
theorem isV_iff (x : Int) : isV x = true ↔ 0 ≤ x ∧ x ≤ 1114111 ∧ (x < 55296 ∨ x > 57343) := by
  unfold isV
  simp only [Bool.and_eq_true, Bool.or_eq_true, decide_eq_true_eq]
  omega
theorem is_f (x : Int) : posthornref05_Is.f x = some (isV x) := by
  unfold posthornref05_Is.f
  by_cases h1 : x ≥ 0
  · rw [if_pos h1]
    by_cases h2 : x ≤ 1114111
    · rw [if_pos h2]
      unfold isV
      rw [decide_eq_true (show 0 ≤ x from h1), decide_eq_true h2]
      by_cases h3 : x < 55296
      · rw [if_pos h3, decide_eq_true h3]; rfl
      · rw [if_neg h3, decide_eq_false h3]; rfl
    · rw [if_neg h2]
      unfold isV
      rw [decide_eq_false h2]
      simp
  · rw [if_neg h1]
    unfold isV
    rw [decide_eq_false (show ¬ 0 ≤ x from h1)]
    rfl
def wrV (x : Int) : List Int :=
  if x < 128 then [x] else if x < 2048 then [192 + x / 64, 128 + x % 64]
  else if x < 65536 then [224 + x / 4096, 128 + x / 64 % 64, 128 + x % 64]
  else [240 + x / 262144, 128 + x / 4096 % 64, 128 + x / 64 % 64, 128 + x % 64]
theorem write_f (x : Int) (h0 : 0 ≤ x) (h1 : x ≤ 1114111) : posthornref05_Write.f x = some (wrV x) := by
  unfold posthornref05_Write.f wrV
  rw [wrap_id x (by omega) (by omega)]
  have d64 : Int.tdiv x 64 = x / 64 := Int.tdiv_eq_ediv_of_nonneg h0
  have d4096 : Int.tdiv x 4096 = x / 4096 := Int.tdiv_eq_ediv_of_nonneg h0
  have d26 : Int.tdiv x 262144 = x / 262144 := Int.tdiv_eq_ediv_of_nonneg h0
  have m64 : Int.tmod x 64 = x % 64 := Int.tmod_eq_emod_of_nonneg h0
  rw [d64, d4096, d26, m64]
  have n1 : 0 ≤ x / 64 := by omega
  have n2 : 0 ≤ x / 4096 := by omega
  rw [wrap_id (x / 64) (by omega) (by omega), wrap_id (x / 4096) (by omega) (by omega), wrap_id (x / 262144) (by omega) (by omega), Int.tmod_eq_emod_of_nonneg n1, Int.tmod_eq_emod_of_nonneg n2]
  by_cases c1 : x < 128
  · rw [if_pos c1, if_pos c1, show x % 256 = x from by omega]
  rw [if_neg c1, if_neg c1]
  by_cases c2 : x < 2048
  · rw [if_pos c2, if_pos c2, wrap_id (192 + x / 64) (by omega) (by omega), wrap_id (128 + x % 64) (by omega) (by omega), show (192 + x / 64) % 256 = 192 + x / 64 from by omega, show (128 + x % 64) % 256 = 128 + x % 64 from by omega]
  rw [if_neg c2, if_neg c2]
  by_cases c3 : x < 65536
  · rw [if_pos c3, if_pos c3, wrap_id (224 + x / 4096) (by omega) (by omega), wrap_id (128 + x / 64 % 64) (by omega) (by omega), wrap_id (128 + x % 64) (by omega) (by omega), show (224 + x / 4096) % 256 = 224 + x / 4096 from by omega, show (128 + x / 64 % 64) % 256 = 128 + x / 64 % 64 from by omega, show (128 + x % 64) % 256 = 128 + x % 64 from by omega]
  rw [if_neg c3, if_neg c3, wrap_id (240 + x / 262144) (by omega) (by omega), wrap_id (128 + x / 4096 % 64) (by omega) (by omega), wrap_id (128 + x / 64 % 64) (by omega) (by omega), wrap_id (128 + x % 64) (by omega) (by omega), show (240 + x / 262144) % 256 = 240 + x / 262144 from by omega, show (128 + x / 4096 % 64) % 256 = 128 + x / 4096 % 64 from by omega, show (128 + x / 64 % 64) % 256 = 128 + x / 64 % 64 from by omega, show (128 + x % 64) % 256 = 128 + x % 64 from by omega]
/-- The number that bytes would be a rune's of. -/
def numV : List Int → Int
  | [a] => a
  | [a, b] => 64 * (a - 192) + b - 128
  | [a, b, c] => 64 * (64 * (a - 224) + b - 128) + c - 128
  | [a, b, c, d] => 64 * (64 * (64 * (a - 240) + b - 128) + c - 128) + d - 128
  | _ => -1
theorem ldL_or (a : Int) : (a = 224 ∧ ldL a = 160) ∨ (a = 240 ∧ ldL a = 144) ∨ (a ≠ 224 ∧ a ≠ 240 ∧ ldL a = 128) := by
  unfold ldL
  split
  · omega
  · split <;> omega
theorem ldH_or (a : Int) : (a = 237 ∧ ldH a = 159) ∨ (a = 244 ∧ ldH a = 143) ∨ (a ≠ 237 ∧ a ≠ 244 ∧ ldH a = 191) := by
  unfold ldH
  split
  · omega
  · split <;> omega
theorem ok1 (a : Int) (ha : 0 ≤ a ∧ a ≤ 255) : (isV (numV [a]) = true ∧ wrV (numV [a]) = [a]) ↔ a < 128 := by
  rw [isV_iff, show numV [a] = a from rfl]
  unfold wrV
  constructor
  · rintro ⟨h1, h2⟩
    split at h2
    · assumption
    · split at h2
      · simp at h2
      · split at h2 <;> simp at h2
  · intro h
    rw [if_pos h]
    exact ⟨by omega, rfl⟩
theorem ok2 (a b : Int) (ha : 0 ≤ a ∧ a ≤ 255) (hb : 0 ≤ b ∧ b ≤ 255) : (isV (numV [a, b]) = true ∧ wrV (numV [a, b]) = [a, b]) ↔ (194 ≤ a ∧ a ≤ 223 ∧ 128 ≤ b ∧ b ≤ 191) := by
  rw [isV_iff, show numV [a, b] = 64 * (a - 192) + b - 128 from rfl]
  unfold wrV
  generalize hx : 64 * (a - 192) + b - 128 = x
  constructor
  · rintro ⟨h1, h2⟩
    split at h2
    · simp at h2
    · split at h2
      · simp only [List.cons.injEq, and_true] at h2
        omega
      · split at h2 <;> simp at h2
  · intro h
    rw [if_neg (by omega), if_pos (by omega)]
    exact ⟨by omega, by simp only [List.cons.injEq, and_true]; omega⟩
theorem ok3 (a b c : Int) (ha : 0 ≤ a ∧ a ≤ 255) (hb : 0 ≤ b ∧ b ≤ 255) (hc : 0 ≤ c ∧ c ≤ 255) : (isV (numV [a, b, c]) = true ∧ wrV (numV [a, b, c]) = [a, b, c]) ↔ (224 ≤ a ∧ a ≤ 239 ∧ ldL a ≤ b ∧ b ≤ ldH a ∧ 128 ≤ c ∧ c ≤ 191) := by
  rw [isV_iff, show numV [a, b, c] = 64 * (64 * (a - 224) + b - 128) + c - 128 from rfl]
  unfold wrV
  generalize hx : 64 * (64 * (a - 224) + b - 128) + c - 128 = x
  have hl : (a = 224 ∧ ldL a = 160) ∨ (a = 240 ∧ ldL a = 144) ∨ (a ≠ 224 ∧ a ≠ 240 ∧ ldL a = 128) := ldL_or a
  have hh : (a = 237 ∧ ldH a = 159) ∨ (a = 244 ∧ ldH a = 143) ∨ (a ≠ 237 ∧ a ≠ 244 ∧ ldH a = 191) := ldH_or a
  generalize ldL a = lo at *
  generalize ldH a = hi at *
  constructor
  · rintro ⟨h1, h2⟩
    split at h2
    · simp at h2
    · split at h2
      · simp at h2
      · split at h2
        · simp only [List.cons.injEq, and_true] at h2
          omega
        · simp at h2
  · intro h
    rw [if_neg (by omega), if_neg (by omega), if_pos (by omega)]
    exact ⟨by omega, by simp only [List.cons.injEq, and_true]; omega⟩
theorem ok4 (a b c d : Int) (ha : 0 ≤ a ∧ a ≤ 255) (hb : 0 ≤ b ∧ b ≤ 255) (hc : 0 ≤ c ∧ c ≤ 255) (hd : 0 ≤ d ∧ d ≤ 255) : (isV (numV [a, b, c, d]) = true ∧ wrV (numV [a, b, c, d]) = [a, b, c, d]) ↔ (240 ≤ a ∧ a ≤ 244 ∧ ldL a ≤ b ∧ b ≤ ldH a ∧ 128 ≤ c ∧ c ≤ 191 ∧ 128 ≤ d ∧ d ≤ 191) := by
  rw [isV_iff, show numV [a, b, c, d] = 64 * (64 * (64 * (a - 240) + b - 128) + c - 128) + d - 128 from rfl]
  unfold wrV
  generalize hx : 64 * (64 * (64 * (a - 240) + b - 128) + c - 128) + d - 128 = x
  have hl : (a = 224 ∧ ldL a = 160) ∨ (a = 240 ∧ ldL a = 144) ∨ (a ≠ 224 ∧ a ≠ 240 ∧ ldL a = 128) := ldL_or a
  have hh : (a = 237 ∧ ldH a = 159) ∨ (a = 244 ∧ ldH a = 143) ∨ (a ≠ 237 ∧ a ≠ 244 ∧ ldH a = 191) := ldH_or a
  generalize ldL a = lo at *
  generalize ldH a = hi at *
  constructor
  · rintro ⟨h1, h2⟩
    split at h2
    · simp at h2
    · split at h2
      · simp at h2
      · split at h2
        · simp at h2
        · simp only [List.cons.injEq, and_true] at h2
          omega
  · intro h
    rw [if_neg (by omega), if_neg (by omega), if_neg (by omega)]
    exact ⟨by omega, by simp only [List.cons.injEq, and_true]; omega⟩
end Go.Proofs.Ytabjfpjmiiiecaa.CK
