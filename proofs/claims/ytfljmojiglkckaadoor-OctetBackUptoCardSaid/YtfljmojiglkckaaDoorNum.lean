/- Number and Decimal, the program's and the reference's, as plain functions on lists. -/
import Derived.Test.YtfljmojiglkckaaDoorSpan
import Derived.Test.YtfljmojiglkckaaDoorDec
import Derived.Test.YtfljmojiglkckaaDoorWakes
import Derived.Test.YtfljmojiglkckaaDoorG4
namespace Go.Proofs.YtfljmojiglkckaaDoor.Nm
set_option linter.unusedVariables false
set_option linter.unusedSimpArgs false
open Go.RowKit Go.Proofs.YtfljmojiglkckaaDoorW.PrintWords Go.Proofs.YtfljmojiglkckaaDoor.B Go.Proofs.YtfljmojiglkckaaDoor.Glob Go.Proofs.YtfljmojiglkckaaDoor.I Go.Proofs.YtfljmojiglkckaaDoor.Dec Go.Proofs.YtfljmojiglkckaaDoor.G

/-- A row of digits, behind a number. -/
def foldD (a : Int) : List Int → Int
  | [] => a
  | x :: r => foldD (10 * a + (x - 48)) r
def isD (xs : List Int) : Prop := ∀ x ∈ xs, 48 ≤ x ∧ x ≤ 57
theorem isD_tail {x : Int} {r : List Int} (h : isD (x :: r)) : isD r := fun y hy => h y (List.mem_cons_of_mem _ hy)
theorem isD_head {x : Int} {r : List Int} (h : isD (x :: r)) : 48 ≤ x ∧ x ≤ 57 := h x List.mem_cons_self
theorem foldD_ge : ∀ (xs : List Int) (a : Int), 0 ≤ a → isD xs → a ≤ foldD a xs
  | [], a, _, _ => Int.le_refl _
  | x :: r, a, ha, h => by
    have hx := isD_head h
    rw [foldD]
    exact Int.le_trans (by omega) (foldD_ge r (10 * a + (x - 48)) (by omega) (isD_tail h))
theorem class_two : ∀ c : Fin 256, isB 2 (c.val : Int) = true → 48 ≤ (c.val : Int) ∧ (c.val : Int) ≤ 57 := by decide +kernel
theorem isD_of {xs : List Int} (hi : InB xs) (h : ∀ x ∈ xs, isB 2 x = true) : isD xs := by
  intro x hx
  have r := hi x hx
  have := class_two ⟨x.toNat, by omega⟩
  simp only at this
  rw [Int.toNat_of_nonneg r.1] at this
  exact this (h x hx)

theorem run_all' {c : Int} : ∀ {xs : List Int}, run c xs = xs.length → ∀ x ∈ xs, isB c x = true
  | [], _, x, hx => by cases hx
  | y :: ys, h, x, hx => by
    rw [run_cons] at h
    by_cases hy : isB c y = true
    · rw [if_pos hy] at h
      rcases List.mem_cons.1 hx with rfl | hx
      · exact hy
      · exact run_all' (by simpa using h) x hx
    · rw [if_neg hy] at h
      simp at h

/-- What Number tells. -/
def numR (s : ByteArray) (most : Int) : Int × Int :=
  if s.size < 1 ∨ 20 < s.size ∨ run 2 (bytesOf s) < s.size then (0, 10)
  else if foldD 0 (bytesOf s) > most then (0, 5) else (foldD 0 (bytesOf s), 0)

theorem u64_id (n : Int) (h0 : 0 ≤ n) (h1 : n ≤ 18446744073709551615) : IntKind.u64.wrap n = n := by
  unfold IntKind.wrap
  have e : (2 ^ IntKind.u64.bits : Int) = 18446744073709551616 := rfl
  have s : IntKind.u64.signed = false := rfl
  simp only [e, s, Bool.false_and, Bool.false_eq_true, if_false]
  exact Int.emod_eq_of_lt h0 (by omega)

theorem Number_loop (s : ByteArray) (most : Int) (hs : s.size ≤ 140737488351232) (hm : 0 ≤ most ∧ most ≤ 18446744073709551615) (hd : isD (bytesOf s)) (d : Nat) : ∀ (i : Nat) (n : Int), i ≤ s.size → s.size - i = d → 0 ≤ n → n ≤ most →
    Ev (fun k => octet_Number.l0 k s most n (s.size : Int) (i : Int)) (if foldD n ((bytesOf s).drop i) > most then (0, 5) else (foldD n ((bytesOf s).drop i), 0)) := by
  induction d with
  | zero =>
    intro i n h1 he h0 hn
    obtain rfl : i = s.size := by omega
    refine Ev.last fun k => ?_
    simp only [octet_Number.l0]
    rw [if_neg (by omega), List.drop_eq_nil_of_le (by rw [bytesOf_len]; exact Nat.le_refl _), foldD, if_neg (by omega)]
  | succ d ih =>
    intro i n h1 he h0 hn
    have hb : i < (bytesOf s).length := by rw [bytesOf_len]; omega
    have hx := hd _ (List.getElem_mem hb)
    have hrest : isD ((bytesOf s).drop (i + 1)) := fun x hx => hd x (List.mem_of_mem_drop hx)
    rw [drop_cons _ i hb, foldD]
    rw [← bt_bytes s i hb] at hx ⊢
    have hq : IntKind.u64.wrap (Int.tdiv most 10) = most / 10 := by
      rw [Int.tdiv_eq_ediv_of_nonneg hm.1, u64_id _ (by omega) (by omega)]
    by_cases c1 : n > most / 10
    · have hge := foldD_ge _ (10 * n + (bt s (i : Int) - 48)) (by omega) hrest
      rw [if_pos (by omega)]
      refine Ev.last fun k => ?_
      simp only [octet_Number.l0]
      rw [if_pos (by omega), if_pos (by omega), if_pos (by omega), hq, if_pos c1]
    · have h10 : IntKind.u64.wrap (10 * n) = 10 * n := u64_id _ (by omega) (by omega)
      have hsub : IntKind.u64.wrap (most - 10 * n) = most - 10 * n := u64_id _ (by omega) (by omega)
      have hdg : (bt s (i : Int) - 48) % 256 = bt s (i : Int) - 48 := Int.emod_eq_of_lt (by omega) (by omega)
      by_cases c2 : bt s (i : Int) - 48 > most - 10 * n
      · have hge := foldD_ge _ (10 * n + (bt s (i : Int) - 48)) (by omega) hrest
        rw [if_pos (by omega)]
        refine Ev.last fun k => ?_
        simp only [octet_Number.l0]
        rw [if_pos (by omega), if_pos (by omega), if_pos (by omega), hq, if_neg c1, h10, hsub, hdg, if_pos c2]
      · have key := ih (i + 1) (10 * n + (bt s (i : Int) - 48)) (by omega) (by omega) (by omega) (by omega)
        refine Ev.round (f := fun k => octet_Number.l0 k s most (10 * n + (bt s (i : Int) - 48)) (s.size : Int) ((i + 1 : Nat) : Int)) (fun k => ?_) key
        simp only [octet_Number.l0]
        rw [if_pos (by omega), if_pos (by omega), if_pos (by omega), hq, if_neg c1, h10, hsub, hdg, if_neg c2, u64_id _ (by omega) (by omega), wrap_id _ (by omega) (by omega)]
        rfl

theorem Number_ev (s : ByteArray) (most : Int) (hs : s.size ≤ 140737488351232) (hm : 0 ≤ most ∧ most ≤ 18446744073709551615) : Ev (fun k => octet_Number.f k s most) (numR s most) := by
  unfold octet_Number.f numR
  have hr := run_le 2 (bytesOf s)
  rw [bytesOf_len] at hr
  have j0t : Ev (fun k => octet_Number.j0 k s most true) (0, 10) := Ev.last fun k => by simp only [octet_Number.j0]; rfl
  by_cases c1 : s.size < 1
  · rw [if_pos (Or.inl c1)]
    exact Ev.congr (fun k => by rw [if_pos (by omega)]) j0t
  by_cases c2 : 20 < s.size
  · rw [if_pos (Or.inr (Or.inl c2))]
    exact Ev.congr (fun k => by rw [if_neg (by omega), if_pos (by omega)]) j0t
  refine Ev.congr (f := fun k => (octet_Bad_string.f k 2 s).bind fun t => octet_Number.j0 k s most (decide (t < (s.size : Int)))) (fun k => by rw [if_neg (by omega), if_neg (by omega)]) (Ev.bind (Bad_str_ev 2 s hs) ?_)
  by_cases c3 : run 2 (bytesOf s) < s.size
  · rw [if_pos (Or.inr (Or.inr c3)), decide_eq_true (by omega)]
    exact j0t
  · rw [if_neg (by omega), decide_eq_false (by omega)]
    have hd := isD_of (bytesOf_in s) (run_all' (by rw [bytesOf_len]; omega))
    have key := Number_loop s most hs hm hd s.size 0 0 (by omega) (by omega) (by omega) hm.1
    rw [List.drop_zero] at key
    refine Ev.round (fun k => ?_) key
    simp only [octet_Number.j0]
    rw [if_neg (by decide)]
    rfl

theorem foldD_append : ∀ (xs ys : List Int) (a : Int), foldD a (xs ++ ys) = foldD (foldD a xs) ys
  | [], _, _ => rfl
  | x :: r, ys, a => foldD_append r ys (10 * a + (x - 48))
theorem foldD_dec (n : Nat) : foldD 0 (decN n) = (n : Int) := by
  induction n using Nat.strongRecOn with
  | _ n ih =>
    by_cases h : n < 10
    · rw [decN_small h]; simp only [foldD]; omega
    · rw [decN_big h, foldD_append, ih (n / 10) (by omega)]; simp only [foldD]; omega
theorem decS_bytes (n : Nat) : bytesOf (decS n) = decN n := bytesOf_strOfNums _ fun x hx => by have := decN_in n x hx; omega
theorem decS_size (n : Nat) : (decS n).size = (decN n).length := strOfNums_len _
theorem digit_two : ∀ c : Fin 10, isB 2 (48 + (c.val : Int)) = true := by decide +kernel
theorem isB_two {x : Int} (h : 48 ≤ x ∧ x ≤ 57) : isB 2 x = true := by
  have := digit_two ⟨(x - 48).toNat, by omega⟩
  simp only at this
  rwa [Int.toNat_of_nonneg (by omega), show 48 + (x - 48) = x from by omega] at this
theorem run_of_all' {c : Int} : ∀ {xs : List Int}, (∀ x ∈ xs, isB c x = true) → run c xs = xs.length
  | [], _ => rfl
  | y :: ys, h => by
    rw [run_cons, if_pos (h y List.mem_cons_self), run_of_all' (fun x hx => h x (List.mem_cons_of_mem _ hx)), List.length_cons]
/-- A number's digits are read as that number, within the bound; above it as out of range. -/
theorem numR_dec (n : Nat) (hn : n < 18446744073709551616) (most : Int) : numR (decS n) most = if (n : Int) > most then (0, 5) else ((n : Int), 0) := by
  unfold numR
  have hl := decN_len 19 n (by omega)
  have hp := decN_pos n
  rw [decS_bytes, decS_size, run_of_all' (fun x hx => isB_two (decN_in n x hx)), if_neg (by omega), foldD_dec]
end Go.Proofs.YtfljmojiglkckaaDoor.Nm
