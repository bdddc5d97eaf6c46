/- The reference's One tells what the automaton tells. -/
import Derived.Test.YtabjfpjmiiiecaaMadeP
import Derived.Test.YtabjfpjmiiiecaaD6
import Derived.Test.YtabjfpjmiiiecaaD5
namespace Go.Proofs.Ytabjfpjmiiiecaa.CK
set_option linter.unusedVariables false
set_option linter.unusedSimpArgs false
open Go.RowKit Go.Proofs.YtabjfpjmiiiecaaW.PrintWords Go.Proofs.Ytabjfpjmiiiecaa.B Go.Proofs.Ytabjfpjmiiiecaa.D
def madeB (l : List Int) : Bool := isV (numV l) && decide (wrV (numV l) = l)
theorem madeB_iff (l : List Int) : madeB l = true ↔ isV (numV l) = true ∧ wrV (numV l) = l := by
  unfold madeB
  rw [Bool.and_eq_true, decide_eq_true_eq]
theorem one_rng (a : Int) (r : List Int) : (a < 128 ∧ oneV (a :: r) = 1) ∨ (128 ≤ a ∧ (a < 194 ∨ 244 < a) ∧ oneV (a :: r) = 0) ∨ (194 ≤ a ∧ a ≤ 223 ∧ oneV (a :: r) = if contV 1 128 191 r = true then 2 else 0) ∨
    (224 ≤ a ∧ a ≤ 239 ∧ oneV (a :: r) = if contV 2 (ldL a) (ldH a) r = true then 3 else 0) ∨ (240 ≤ a ∧ a ≤ 244 ∧ oneV (a :: r) = if contV 3 (ldL a) (ldH a) r = true then 4 else 0) := by
  rw [one_cons]
  by_cases h1 : a < 128
  · exact .inl ⟨h1, if_pos h1⟩
  rw [if_neg h1]
  by_cases h2 : a < 194
  · exact .inr (.inl ⟨by omega, .inl h2, if_pos h2⟩)
  rw [if_neg h2]
  by_cases h3 : a > 244
  · exact .inr (.inl ⟨by omega, .inr h3, if_pos h3⟩)
  rw [if_neg h3]
  by_cases h4 : a < 224
  · refine .inr (.inr (.inl ⟨by omega, by omega, ?_⟩))
    rw [show ldN a = 1 from if_pos h4, show ldL a = 128 from by unfold ldL; rw [if_neg (by omega), if_neg (by omega)], show ldH a = 191 from by unfold ldH; rw [if_neg (by omega), if_neg (by omega)]]
  by_cases h5 : a < 240
  · refine .inr (.inr (.inr (.inl ⟨by omega, by omega, ?_⟩)))
    rw [show ldN a = 2 from by unfold ldN; rw [if_neg h4, if_pos h5]]
  · refine .inr (.inr (.inr (.inr ⟨by omega, by omega, ?_⟩)))
    rw [show ldN a = 3 from by unfold ldN; rw [if_neg h4, if_neg h5]]
theorem cont1 (lo hi b : Int) (r : List Int) : contV 1 lo hi (b :: r) = true ↔ lo ≤ b ∧ b ≤ hi := by
  rw [cont_cons, show contV 0 128 191 r = true from rfl]
  simp
theorem cont2 (lo hi b c : Int) (r : List Int) : contV 2 lo hi (b :: c :: r) = true ↔ lo ≤ b ∧ b ≤ hi ∧ 128 ≤ c ∧ c ≤ 191 := by
  rw [cont_cons, Bool.and_eq_true, cont1]
  simp
  omega
theorem cont3 (lo hi b c d : Int) (r : List Int) : contV 3 lo hi (b :: c :: d :: r) = true ↔ lo ≤ b ∧ b ≤ hi ∧ 128 ≤ c ∧ c ≤ 191 ∧ 128 ≤ d ∧ d ≤ 191 := by
  rw [cont_cons, Bool.and_eq_true, cont2]
  simp
  omega
theorem cont_len : ∀ (m : Nat) (lo hi : Int) (r : List Int), contV m lo hi r = true → m ≤ r.length
  | 0, _, _, _, _ => Nat.zero_le _
  | m + 1, _, _, [], h => by cases h
  | m + 1, _, _, y :: r, h => by
    rw [cont_cons, Bool.and_eq_true] at h
    have := cont_len m _ _ r h.2
    rw [List.length_cons]
    omega
theorem one_le (q : List Int) : oneV q ≤ q.length ∧ oneV q ≤ 4 := by
  cases q with
  | nil => exact ⟨Nat.le_refl _, by decide⟩
  | cons a r =>
    rw [List.length_cons]
    rcases one_rng a r with ⟨_, h⟩ | ⟨_, _, h⟩ | ⟨_, _, h⟩ | ⟨_, _, h⟩ | ⟨_, _, h⟩
    · omega
    · omega
    all_goals
      split at h
      · rename_i hc
        have := cont_len _ _ _ _ hc
        omega
      · omega
theorem made_one (q : List Int) (hq : InB q) (n : Nat) (h1 : 1 ≤ n) (h4 : n ≤ 4) (hn : n ≤ q.length) : madeB (q.take n) = true ↔ oneV q = n := by
  rw [madeB_iff]
  have hn' : n = 1 ∨ n = 2 ∨ n = 3 ∨ n = 4 := by omega
  rcases hn' with rfl | rfl | rfl | rfl
  · match q, hn with
    | a :: r, _ =>
      have ha := hq a (by simp)
      rw [show (a :: r).take 1 = [a] from rfl, ok1 a ha]
      rcases one_rng a r with ⟨_, h⟩ | ⟨_, _, h⟩ | ⟨_, _, h⟩ | ⟨_, _, h⟩ | ⟨_, _, h⟩
      · omega
      · omega
      all_goals (split at h <;> omega)
  · match q, hn with
    | a :: b :: r, _ =>
      have ha := hq a (by simp)
      have hb := hq b (by simp)
      rw [show (a :: b :: r).take 2 = [a, b] from rfl, ok2 a b ha hb]
      have hc := cont1 128 191 b r
      rcases one_rng a (b :: r) with ⟨_, h⟩ | ⟨_, _, h⟩ | ⟨_, _, h⟩ | ⟨_, _, h⟩ | ⟨_, _, h⟩
      · omega
      · omega
      · split at h
        · rename_i k; have := hc.1 k; omega
        · rename_i k; have k2 : ¬ (128 ≤ b ∧ b ≤ 191) := fun e => k (hc.2 e); omega
      all_goals (split at h <;> omega)
  · match q, hn with
    | a :: b :: c :: r, _ =>
      have ha := hq a (by simp)
      have hb := hq b (by simp)
      have hc0 := hq c (by simp)
      rw [show (a :: b :: c :: r).take 3 = [a, b, c] from rfl, ok3 a b c ha hb hc0]
      have hc := cont2 (ldL a) (ldH a) b c r
      rcases one_rng a (b :: c :: r) with ⟨_, h⟩ | ⟨_, _, h⟩ | ⟨_, _, h⟩ | ⟨_, _, h⟩ | ⟨_, _, h⟩
      · omega
      · omega
      · split at h <;> omega
      · split at h
        · rename_i k; have := hc.1 k; omega
        · rename_i k; have k2 : ¬ (ldL a ≤ b ∧ b ≤ ldH a ∧ 128 ≤ c ∧ c ≤ 191) := fun e => k (hc.2 e); omega
      · split at h <;> omega
  · match q, hn with
    | a :: b :: c :: d :: r, _ =>
      have ha := hq a (by simp)
      have hb := hq b (by simp)
      have hc0 := hq c (by simp)
      have hd0 := hq d (by simp)
      rw [show (a :: b :: c :: d :: r).take 4 = [a, b, c, d] from rfl, ok4 a b c d ha hb hc0 hd0]
      have hc := cont3 (ldL a) (ldH a) b c d r
      rcases one_rng a (b :: c :: d :: r) with ⟨_, h⟩ | ⟨_, _, h⟩ | ⟨_, _, h⟩ | ⟨_, _, h⟩ | ⟨_, _, h⟩
      · omega
      · omega
      · split at h <;> omega
      · split at h <;> omega
      · split at h
        · rename_i k; have := hc.1 k; omega
        · rename_i k; have k2 : ¬ (ldL a ≤ b ∧ b ≤ ldH a ∧ 128 ≤ c ∧ c ≤ 191 ∧ 128 ≤ d ∧ d ≤ 191) := fun e => k (hc.2 e); omega
end Go.Proofs.Ytabjfpjmiiiecaa.CK
