/- Where a reader stands, and what the reference's Begins says of it. -/
import Derived.Test.YtabjfpjmiiiecaaBegunP
namespace Go.Proofs.Ytabjfpjmiiiecaa.BG
set_option linter.unusedVariables false
set_option linter.unusedSimpArgs false
open Go.RowKit Go.Proofs.YtabjfpjmiiiecaaW.PrintWords Go.Proofs.YtabjfpjmiiiecaaW.PrintLast Go.Proofs.YtabjfpjmiiiecaaW.PrintMore Go.Proofs.Ytabjfpjmiiiecaa.B Go.Proofs.Ytabjfpjmiiiecaa.CK Go.Proofs.Ytabjfpjmiiiecaa.D
abbrev fd (l : List Int) : Bool × Int × Int × Int := feedV l (false, 0, 0, 0)
theorem feed_cons (x : Int) (r : List Int) (n l h : Int) : feedV (x :: r) (false, n, l, h) = feedV r (!(takeV n l h x).1, (takeV n l h x).2) := by
  rw [feedV, if_neg (by decide)]
theorem feed_app : ∀ (xs ys : List Int) (s : Bool × Int × Int × Int), feedV (xs ++ ys) s = feedV ys (feedV xs s)
  | [], _, _ => rfl
  | x :: r, ys, (B, n, l, h) => by
    cases B with
    | true => rw [feedV_bad, feedV_bad, feedV_bad]
    | false => rw [List.cons_append, feed_cons, feed_cons, feed_app r ys]
theorem fd_app (xs ys : List Int) : fd (xs ++ ys) = feedV ys (fd xs) := feed_app xs ys _
theorem take_in (m : Nat) (lo hi y : Int) (hm : m ≤ 2) (h : lo ≤ y ∧ y ≤ hi) : takeV ((m + 1 : Nat) : Int) lo hi y = (true, (m : Int), 128, 191) := by
  unfold takeV
  rw [if_pos (by omega), if_neg (by omega), if_neg (by omega), show (((m + 1 : Nat) : Int) - 1) % 256 = (m : Int) from by omega]
theorem take_out (m : Nat) (lo hi y : Int) (h : ¬ (lo ≤ y ∧ y ≤ hi)) : (takeV ((m + 1 : Nat) : Int) lo hi y).1 = false := by
  unfold takeV
  rw [if_pos (by omega)]
  by_cases c : y < lo
  · rw [if_pos c]
  · rw [if_neg c, if_pos (by omega)]
theorem take_lead (p q a : Int) (h : 194 ≤ a ∧ a ≤ 244) : takeV 0 p q a = (true, ((ldN a : Nat) : Int), ldL a, ldH a) := by
  unfold takeV
  rw [if_neg (by omega), if_neg (by omega), if_neg (by omega), if_neg (by omega), ldN_int]
  rfl
theorem take_zero (p q a : Int) : takeV 0 p q a = takeV 0 0 0 a := by
  unfold takeV
  rw [if_neg (show ¬ (0 : Int) > 0 by omega), if_neg (show ¬ (0 : Int) > 0 by omega)]
theorem feed_zero (l : List Int) (p q : Int) : (feedV l (false, 0, p, q)).1 = (fd l).1 ∧ (feedV l (false, 0, p, q)).2.1 = (fd l).2.1 := by
  cases l with
  | nil => exact ⟨rfl, rfl⟩
  | cons x r => unfold fd; rw [feed_cons, feed_cons, take_zero]; exact ⟨rfl, rfl⟩
theorem bad1 (r : List Int) (t : Bool) (s : Int × Int × Int) (h : t = false) : (feedV r (!t, s)).1 = true := by
  subst h
  rw [show (!false) = true from rfl, feedV_bad]
theorem feed_cont : ∀ (m : Nat) (lo hi : Int) (r : List Int), m ≤ 3 → contV m lo hi r = true → ∃ p q, feedV (r.take m) (false, (m : Int), lo, hi) = (false, 0, p, q)
  | 0, lo, hi, r, _, _ => ⟨lo, hi, rfl⟩
  | m + 1, lo, hi, [], _, h => by cases h
  | m + 1, lo, hi, y :: r, hm, h => by
    rw [cont_cons, Bool.and_eq_true, Bool.and_eq_true, decide_eq_true_eq, decide_eq_true_eq] at h
    obtain ⟨p, q, e⟩ := feed_cont m 128 191 r (by omega) h.2
    refine ⟨p, q, ?_⟩
    rw [List.take_succ_cons, feed_cons, take_in m lo hi y (by omega) h.1]
    exact e
theorem cont_of : ∀ (m : Nat) (lo hi : Int) (r : List Int), m ≤ 3 → m ≤ r.length → (feedV r (false, (m : Int), lo, hi)).1 = false → contV m lo hi r = true
  | 0, _, _, _, _, _, _ => by unfold contV; rfl
  | m + 1, lo, hi, [], _, h, _ => by simp at h
  | m + 1, lo, hi, y :: r, hm, hl, h => by
    rw [feed_cons] at h
    by_cases c : lo ≤ y ∧ y ≤ hi
    · rw [take_in m lo hi y (by omega) c] at h
      rw [cont_cons, decide_eq_true c.1, decide_eq_true c.2, Bool.true_and, Bool.true_and]
      exact cont_of m 128 191 r (by omega) (by simp at hl; omega) h
    · rw [bad1 _ _ _ (take_out m lo hi y c)] at h
      cases h
theorem feed1 (m : Nat) (lo hi b : Int) (hm : m ≤ 2) : (feedV [b] (false, ((m + 1 : Nat) : Int), lo, hi)).1 = false ↔ lo ≤ b ∧ b ≤ hi := by
  rw [feed_cons]
  by_cases c : lo ≤ b ∧ b ≤ hi
  · rw [take_in m lo hi b hm c]
    exact ⟨fun _ => c, fun _ => rfl⟩
  · rw [bad1 _ _ _ (take_out m lo hi b c)]
    exact ⟨fun h => (by cases h), fun h => absurd h c⟩
theorem feed2 (lo hi b c : Int) : (feedV [b, c] (false, ((3 : Nat) : Int), lo, hi)).1 = false ↔ lo ≤ b ∧ b ≤ hi ∧ 128 ≤ c ∧ c ≤ 191 := by
  rw [feed_cons]
  by_cases d : lo ≤ b ∧ b ≤ hi
  · rw [take_in 2 lo hi b (by omega) d]
    exact (feed1 1 128 191 c (by omega)).trans ⟨fun h => ⟨d.1, d.2, h.1, h.2⟩, fun h => ⟨h.2.2.1, h.2.2.2⟩⟩
  · rw [bad1 _ _ _ (take_out 2 lo hi b d)]
    exact ⟨fun h => (by cases h), fun h => absurd ⟨h.1, h.2.1⟩ d⟩
/-- One rune's bytes: the reader stands between runes again. -/
theorem feed_one (l : List Int) (p q : Int) (h : oneV l ≠ 0) : ∃ p' q', feedV (l.take (oneV l)) (false, 0, p, q) = (false, 0, p', q') := by
  cases l with
  | nil => exact absurd rfl h
  | cons a r =>
    rcases one_rng a r with ⟨ha, e⟩ | ⟨ha, hb, e⟩ | hlead
    · rw [e]
      refine ⟨128, 191, ?_⟩
      rw [show (a :: r).take 1 = [a] from rfl, feed_cons]
      have : takeV 0 p q a = (true, 0, 128, 191) := by unfold takeV; rw [if_neg (by omega), if_pos ha]
      rw [this]; rfl
    · exact absurd e h
    · have hr : 194 ≤ a ∧ a ≤ 244 := by omega
      have e : oneV (a :: r) = if contV (ldN a) (ldL a) (ldH a) r = true then ldN a + 1 else 0 := by rw [one_cons, if_neg (by omega), if_neg (by omega), if_neg (by omega)]
      cases hc : contV (ldN a) (ldL a) (ldH a) r with
      | false => rw [e, hc, if_neg (by decide)] at h; exact absurd rfl h
      | true =>
        rw [e, hc, if_pos rfl, List.take_succ_cons, feed_cons, take_lead p q a hr]
        exact feed_cont _ _ _ _ (ldN_le a).2 hc
/-- Behind the well-formed beginning. -/
theorem bad_rest : ∀ (f : Nat) (l : List Int) (p q : Int), l.length ≤ f → badV f l ≤ l.length ∧ oneV (l.drop (badV f l)) = 0 ∧ ∃ p' q', feedV (l.take (badV f l)) (false, 0, p, q) = (false, 0, p', q')
  | 0, l, p, q, h => by
    obtain rfl : l = [] := List.eq_nil_of_length_eq_zero (by omega)
    exact ⟨Nat.le_refl _, rfl, p, q, rfl⟩
  | f + 1, l, p, q, h => by
    rw [bad_succ]
    by_cases c : oneV l = 0
    · rw [if_pos c]
      exact ⟨Nat.zero_le _, c, p, q, rfl⟩
    · rw [if_neg c]
      have h1 := (one_le l).1
      obtain ⟨p', q', e⟩ := feed_one l p q c
      obtain ⟨k1, k2, p2, q2, k3⟩ := bad_rest f (l.drop (oneV l)) p' q' (by rw [List.length_drop]; omega)
      rw [List.length_drop] at k1
      refine ⟨by omega, by rw [← List.drop_drop]; exact k2, p2, q2, ?_⟩
      rw [List.take_add, feed_app, e]
      exact k3
theorem fd_rest (l : List Int) : (fd l).1 = (fd (l.drop (badV l.length l))).1 ∧ (fd l).2.1 = (fd (l.drop (badV l.length l))).2.1 := by
  obtain ⟨h1, h2, p, q, e⟩ := bad_rest l.length l 0 0 (Nat.le_refl _)
  have e2 : fd l = feedV (l.drop (badV l.length l)) (false, 0, p, q) := by
    conv => lhs; rw [← List.take_append_drop (badV l.length l) l]
    rw [fd_app, fd, e]
  rw [e2]
  exact feed_zero _ p q
theorem bv_none (l : List Int) (n : Nat) (h : 3 < l.length) : bv l n = false := by
  match l, h with
  | a :: b :: c :: d :: r, _ => rfl
theorem bv_iff (l : List Int) (h0 : oneV l = 0) (h1 : 0 < l.length) : (∃ n, l.length < n ∧ n ≤ 4 ∧ bv l n = true) ↔ (fd l).1 = false := by
  cases l with
  | nil => simp at h1
  | cons a r =>
    clear h1
    by_cases hr : 194 ≤ a ∧ a ≤ 244
    · have e : oneV (a :: r) = if contV (ldN a) (ldL a) (ldH a) r = true then ldN a + 1 else 0 := by rw [one_cons, if_neg (by omega), if_neg (by omega), if_neg (by omega)]
      have hc : contV (ldN a) (ldL a) (ldH a) r = false := by
        cases hc : contV (ldN a) (ldL a) (ldH a) r with
        | false => rfl
        | true => rw [e, hc, if_pos rfl] at h0; cases h0
      have ef : fd (a :: r) = feedV r (false, ((ldN a : Nat) : Int), ldL a, ldH a) := by rw [fd, feed_cons, take_lead 0 0 a hr]; rfl
      rw [ef]
      by_cases hl : ldN a ≤ r.length
      · have hf : (feedV r (false, ((ldN a : Nat) : Int), ldL a, ldH a)).1 = true := by
          cases hf : (feedV r (false, ((ldN a : Nat) : Int), ldL a, ldH a)).1 with
          | true => rfl
          | false => rw [cont_of _ _ _ _ (ldN_le a).2 hl hf] at hc; cases hc
        rw [hf]
        refine ⟨fun ⟨n, k1, k2, k3⟩ => ?_, fun h => by cases h⟩
        exfalso
        unfold ldN at hl
        match r, n, k1, k2, k3 with
        | [], n, _, _, _ => simp at hl; split at hl <;> (try split at hl) <;> omega
        | [b], 3, _, _, k3 =>
          have := of_decide_eq_true k3
          rw [if_neg (by omega), if_pos (by omega)] at hl; simp at hl
        | [b], 4, _, _, k3 =>
          have := of_decide_eq_true k3
          rw [if_neg (by omega), if_neg (by omega)] at hl; simp at hl
        | [b, c], 4, _, _, k3 =>
          have := of_decide_eq_true k3
          rw [if_neg (by omega), if_neg (by omega)] at hl; simp at hl
        | b :: c :: d :: r, n, _, _, k3 => rw [bv_none _ _ (by simp)] at k3; cases k3
      · match r, hl with
        | [], hl =>
          refine ⟨fun _ => rfl, fun _ => ?_⟩
          by_cases c1 : a ≤ 223
          · exact ⟨2, by simp, by omega, decide_eq_true ⟨hr.1, c1⟩⟩
          · by_cases c2 : a ≤ 239
            · exact ⟨3, by simp, by omega, decide_eq_true ⟨by omega, c2⟩⟩
            · exact ⟨4, by simp, by omega, decide_eq_true ⟨by omega, hr.2⟩⟩
        | [b], hl =>
          by_cases c1 : a ≤ 223
          · exfalso; unfold ldN at hl; rw [if_pos (by omega)] at hl; simp at hl
          · by_cases c2 : a ≤ 239
            · have e2 : ldN a = 1 + 1 := by unfold ldN; rw [if_neg (by omega), if_pos (by omega)]
              rw [e2, feed1 1 _ _ b (by omega)]
              refine ⟨fun ⟨n, k1, k2, k3⟩ => ?_, fun h => ⟨3, by simp, by omega, decide_eq_true ⟨by omega, c2, h.1, h.2⟩⟩⟩
              match n, k1, k2, k3 with
              | 3, _, _, k3 => exact (of_decide_eq_true k3).2.2
              | 4, _, _, k3 => exact (of_decide_eq_true k3).2.2
            · have e2 : ldN a = 2 + 1 := by unfold ldN; rw [if_neg (by omega), if_neg (by omega)]
              rw [e2, feed1 2 _ _ b (by omega)]
              refine ⟨fun ⟨n, k1, k2, k3⟩ => ?_, fun h => ⟨4, by simp, by omega, decide_eq_true ⟨by omega, hr.2, h.1, h.2⟩⟩⟩
              match n, k1, k2, k3 with
              | 3, _, _, k3 => exact (of_decide_eq_true k3).2.2
              | 4, _, _, k3 => exact (of_decide_eq_true k3).2.2
        | [b, c], hl =>
          by_cases c1 : a ≤ 239
          · exfalso; unfold ldN at hl; split at hl <;> (try split at hl) <;> simp at hl <;> omega
          · have e2 : ldN a = 3 := by unfold ldN; rw [if_neg (by omega), if_neg (by omega)]
            rw [e2, feed2]
            refine ⟨fun ⟨n, k1, k2, k3⟩ => ?_, fun h => ⟨4, by simp, by omega, decide_eq_true ⟨by omega, hr.2, h.1, h.2.1, h.2.2.1, h.2.2.2⟩⟩⟩
            match n, k1, k2, k3 with
            | 4, _, _, k3 => exact (of_decide_eq_true k3).2.2
        | b :: c :: d :: r, hl => exfalso; have := (ldN_le a).2; simp at hl; omega
    · have ht : (takeV 0 0 0 a).1 = false := by
        rcases one_rng a r with ⟨ha, e⟩ | ⟨ha, hb, e⟩ | hlead
        · rw [e] at h0; cases h0
        · unfold takeV
          rw [if_neg (by omega), if_neg (by omega)]
          by_cases c : a < 194
          · rw [if_pos c]
          · rw [if_neg c, if_pos (by omega)]
        · omega
      have ef : (fd (a :: r)).1 = true := by rw [fd, feed_cons]; exact bad1 _ _ _ ht
      rw [ef]
      refine ⟨fun ⟨n, k1, k2, k3⟩ => ?_, fun h => by cases h⟩
      exfalso
      match r, n, k1, k2, k3 with
      | [], 2, _, _, k3 => have := of_decide_eq_true k3; omega
      | [], 3, _, _, k3 => have := of_decide_eq_true k3; omega
      | [], 4, _, _, k3 => have := of_decide_eq_true k3; omega
      | [b], 3, _, _, k3 => have := of_decide_eq_true k3; omega
      | [b], 4, _, _, k3 => have := of_decide_eq_true k3; omega
      | [b, c], 4, _, _, k3 => have := of_decide_eq_true k3; omega
      | b :: c :: d :: r, n, _, _, k3 => rw [bv_none _ _ (by simp)] at k3; cases k3
/-- All of it is well-formed: no byte is refused, none is awaited. -/
theorem whole_iff (l : List Int) : badV l.length l = l.length ↔ (fd l).1 = false ∧ (fd l).2.1 = 0 := by
  obtain ⟨h1, h2, p, q, e⟩ := bad_rest l.length l 0 0 (Nat.le_refl _)
  obtain ⟨e1, e2⟩ := fd_rest l
  rw [e1, e2]
  obtain ⟨t, ht⟩ : ∃ t, badV l.length l = t := ⟨_, rfl⟩
  rw [ht] at h1 h2 ⊢
  obtain ⟨d, hd⟩ : ∃ d, l.drop t = d := ⟨_, rfl⟩
  have hl : d.length = l.length - t := by rw [← hd, List.length_drop]
  rw [hd] at h2 ⊢
  cases d with
  | nil =>
    simp at hl
    exact ⟨fun _ => ⟨rfl, rfl⟩, fun _ => by omega⟩
  | cons a r =>
    simp at hl
    refine ⟨fun h => by omega, fun ⟨k1, k2⟩ => ?_⟩
    exfalso
    by_cases hr : 194 ≤ a ∧ a ≤ 244
    · have e : oneV (a :: r) = if contV (ldN a) (ldL a) (ldH a) r = true then ldN a + 1 else 0 := by rw [one_cons, if_neg (by omega), if_neg (by omega), if_neg (by omega)]
      have ef : fd (a :: r) = feedV r (false, ((ldN a : Nat) : Int), ldL a, ldH a) := by rw [fd, feed_cons, take_lead 0 0 a hr]; rfl
      rw [ef] at k1 k2
      by_cases hl : ldN a ≤ r.length
      · rw [e, cont_of _ _ _ _ (ldN_le a).2 hl k1, if_pos rfl] at h2
        cases h2
      · exact absurd k2 (short (ldN a) (ldL a) (ldH a) r (by omega) (ldN_le a).2 k1)
    · rcases one_rng a r with ⟨ha, e⟩ | ⟨ha, hb, e⟩ | hlead
      · rw [e] at h2; cases h2
      · rw [fd, feed_cons] at k1
        rw [bad1] at k1
        · cases k1
        · unfold takeV
          rw [if_neg (by omega), if_neg (by omega)]
          by_cases c : a < 194
          · rw [if_pos c]
          · rw [if_neg c, if_pos (by omega)]
      · omega
where
  short : ∀ (m : Nat) (lo hi : Int) (r : List Int), r.length < m → m ≤ 3 → (feedV r (false, (m : Int), lo, hi)).1 = false → (feedV r (false, (m : Int), lo, hi)).2.1 ≠ 0
    | 0, _, _, _, h, _, _ => by omega
    | m + 1, lo, hi, [], _, _, _ => by show ((m + 1 : Nat) : Int) ≠ 0; omega
    | m + 1, lo, hi, y :: r, h, hm, hf => by
      rw [feed_cons] at hf ⊢
      by_cases c : lo ≤ y ∧ y ≤ hi
      · rw [take_in m lo hi y (by omega) c] at hf ⊢
        exact short m 128 191 r (by simp at h; omega) (by omega) hf
      · rw [bad1 _ _ _ (take_out m lo hi y c)] at hf
        cases hf
end Go.Proofs.Ytabjfpjmiiiecaa.BG
