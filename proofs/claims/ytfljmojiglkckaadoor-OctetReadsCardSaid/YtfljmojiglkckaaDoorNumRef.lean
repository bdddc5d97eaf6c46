/- The reference's Number and Decimal tell the same. -/
import Derived.Test.YtfljmojiglkckaaDoorNum
import Derived.Test.YtfljmojiglkckaaDoorG5
import Derived.Test.YtfljmojiglkckaaDoorG4
namespace Go.Proofs.YtfljmojiglkckaaDoor.Nm
set_option linter.unusedVariables false
set_option linter.unusedSimpArgs false
open Go.RowKit Go.Proofs.YtfljmojiglkckaaDoorW.PrintWords Go.Proofs.YtfljmojiglkckaaDoor.B Go.Proofs.YtfljmojiglkckaaDoor.Glob Go.Proofs.YtfljmojiglkckaaDoor.I Go.Proofs.YtfljmojiglkckaaDoor.Dec Go.Proofs.YtfljmojiglkckaaDoor.G

/-! ### Decimal -/
abbrev digT : ByteArray := ⟨#[48, 49, 50, 51, 52, 53, 54, 55, 56, 57]⟩
theorem dig_cut : ∀ i : Fin 10, digT.extract i.val (i.val + 1) = strOfNums [48 + (i.val : Int)] := by decide
theorem strOfNums_append (xs ys : List Int) : strOfNums (xs ++ ys) = strOfNums xs ++ strOfNums ys := by
  unfold strOfNums
  apply ByteArray.ext
  simp [ByteArray.data_append]

theorem refDecimal_loop : ∀ (n : Nat), n < 18446744073709551616 → ∀ (ys : List Int), ys.length + (decN n).length ≤ 1000 →
    Ev (fun k => posthornref01_Decimal.l0 k (n : Int) (strOfNums ys)) (strOfNums (decN n ++ ys)) := by
  intro n
  induction n using Nat.strongRecOn with
  | _ n ih =>
    intro hn ys hy
    by_cases h : n < 10
    · rw [decN_small h] at hy ⊢
      have hc := dig_cut ⟨n, h⟩
      simp only at hc
      have hsz : (strOfNums [48 + (n : Int)]).size = 1 := strOfNums_len _
      have hsy : (strOfNums ys).size = ys.length := strOfNums_len _
      refine Ev.last fun k => ?_
      simp only [posthornref01_Decimal.l0]
      rw [if_neg (by omega), if_pos (by omega), show IntKind.u64.wrap ((n : Int) + 1) = ((n + 1 : Nat) : Int) from (u64_id _ (by omega) (by omega)), if_pos (by omega), if_pos (by omega), Int.toNat_natCast, Int.toNat_natCast, hc, if_pos (by rw [hsz, hsy]; omega), strOfNums_append]
    · have h1 : n / 10 < n := by omega
      rw [decN_big h, List.length_append, List.length_singleton] at hy
      have key := ih (n / 10) h1 (by omega) ([48 + ((n % 10 : Nat) : Int)] ++ ys) (by simp; omega)
      have hc := dig_cut ⟨n % 10, by omega⟩
      simp only at hc
      have hsz : (strOfNums [48 + ((n % 10 : Nat) : Int)]).size = 1 := strOfNums_len _
      have hsy : (strOfNums ys).size = ys.length := strOfNums_len _
      rw [decN_big h, List.append_assoc]
      refine Ev.round (f := fun k => posthornref01_Decimal.l0 k ((n / 10 : Nat) : Int) (strOfNums ([48 + ((n % 10 : Nat) : Int)] ++ ys))) (fun k => ?_) key
      simp only [posthornref01_Decimal.l0]
      have t1 : Int.tmod (n : Int) 10 = ((n % 10 : Nat) : Int) := by rw [Int.tmod_eq_emod_of_nonneg (by omega)]; omega
      have t2 : IntKind.u64.wrap (Int.tdiv (n : Int) 10) = ((n / 10 : Nat) : Int) := by rw [Int.tdiv_eq_ediv_of_nonneg (by omega), u64_id _ (by omega) (by omega)]; omega
      rw [if_pos (by omega), t1, t2, show IntKind.u64.wrap (((n % 10 : Nat) : Int) + 1) = ((n % 10 + 1 : Nat) : Int) from (u64_id _ (by omega) (by omega)), if_pos (by omega), if_pos (by omega), if_pos (by omega), Int.toNat_natCast, Int.toNat_natCast, hc, if_pos (by rw [hsz, hsy]; omega), strOfNums_append]

theorem refDecimal_ev (n : Nat) (hn : n < 18446744073709551616) : Ev (fun k => posthornref01_Decimal.f k (n : Int)) (decS n) := by
  have key := refDecimal_loop n hn [] (by have := decN_len 19 n (by omega); simp; omega)
  rw [List.append_nil] at key
  exact key

/-! ### The order of digits -/
def lessL : List Int → List Int → Bool
  | _, [] => false
  | [], _ :: _ => true
  | a :: x, b :: y => decide (a < b) || (a == b && lessL x y)
theorem less_bytes : ∀ (x y : List UInt8), Op.bytesLess x y = lessL (x.map fun b => (b.toNat : Int)) (y.map fun b => (b.toNat : Int))
  | [], [] => rfl
  | _ :: _, [] => rfl
  | [], _ :: _ => rfl
  | a :: x, b :: y => by
    rw [Op.bytesLess, List.map_cons, List.map_cons, lessL, less_bytes x y]
    congr 1
    · by_cases h : a < b
      · rw [decide_eq_true h, decide_eq_true (by have := UInt8.lt_iff_toNat_lt.1 h; omega)]
      · rw [decide_eq_false h, decide_eq_false (fun e => h (UInt8.lt_iff_toNat_lt.2 (by omega)))]
    · congr 1
      by_cases h : a = b
      · subst h; simp
      · rw [beq_eq_false_iff_ne.2 h, beq_eq_false_iff_ne.2 (fun e => h (UInt8.toNat_inj.1 (by omega)))]

theorem foldD_pow : ∀ (xs : List Int) (a : Int), foldD a xs = a * 10 ^ xs.length + foldD 0 xs
  | [], a => by simp [foldD]
  | x :: r, a => by
    rw [foldD, foldD_pow r, foldD, foldD_pow r (10 * 0 + (x - 48)), List.length_cons, Int.pow_succ, Int.mul_zero, Int.zero_add, ← Int.add_assoc, Int.add_mul]
    congr 2
    rw [Int.mul_comm 10 a, Int.mul_assoc, Int.mul_comm 10]
theorem pow_pos' (n : Nat) : (0 : Int) < 10 ^ n := Int.pow_pos (by omega)
theorem foldD_lt : ∀ (xs : List Int), isD xs → 0 ≤ foldD 0 xs ∧ foldD 0 xs < 10 ^ xs.length
  | [], _ => by simp [foldD]
  | x :: r, h => by
    have hx := isD_head h
    obtain ⟨i0, i1⟩ := foldD_lt r (isD_tail h)
    have hp := pow_pos' r.length
    rw [foldD, foldD_pow, List.length_cons, Int.pow_succ]
    generalize (10 : Int) ^ r.length = p at *
    have e : (10 * 0 + (x - 48)) * p ≤ 9 * p := Int.mul_le_mul_of_nonneg_right (by omega) (by omega)
    have e0 : 0 ≤ (10 * 0 + (x - 48)) * p := Int.mul_nonneg (by omega) (by omega)
    omega
/-- Digits in rows of one length: the order of the texts is that of the numbers. -/
theorem less_digits : ∀ (xs ys : List Int), xs.length = ys.length → isD xs → isD ys → (lessL xs ys = true ↔ foldD 0 xs < foldD 0 ys)
  | [], [], _, _, _ => by simp [lessL, foldD]
  | x :: r, y :: q, hl, hx, hy => by
    have ih := less_digits r q (by simpa using hl) (isD_tail hx) (isD_tail hy)
    have bx := foldD_lt r (isD_tail hx)
    have by_ := foldD_lt q (isD_tail hy)
    have hl' : r.length = q.length := by simpa using hl
    rw [← hl'] at by_
    have hp := pow_pos' r.length
    rw [foldD, foldD, foldD_pow r, foldD_pow q, ← hl', lessL]
    simp only [Bool.or_eq_true, decide_eq_true_eq, Bool.and_eq_true, beq_iff_eq, ih]
    generalize (10 : Int) ^ r.length = p at *
    generalize foldD 0 r = u at *
    generalize foldD 0 q = v at *
    rcases Int.lt_trichotomy x y with h | h | h
    · have : (10 * 0 + (x - 48)) * p + p ≤ (10 * 0 + (y - 48)) * p := by
        have e := Int.mul_le_mul_of_nonneg_right (show (10 * 0 + (x - 48)) + 1 ≤ 10 * 0 + (y - 48) by omega) (show 0 ≤ p by omega)
        rw [Int.add_mul, Int.one_mul] at e
        exact e
      constructor
      · intro _; omega
      · intro _; exact Or.inl h
    · subst h
      constructor
      · rintro (h | ⟨_, h⟩)
        · omega
        · omega
      · intro h
        exact Or.inr ⟨rfl, by omega⟩
    · have : (10 * 0 + (y - 48)) * p + p ≤ (10 * 0 + (x - 48)) * p := by
        have e := Int.mul_le_mul_of_nonneg_right (show (10 * 0 + (y - 48)) + 1 ≤ 10 * 0 + (x - 48) by omega) (show 0 ≤ p by omega)
        rw [Int.add_mul, Int.one_mul] at e
        exact e
      constructor
      · rintro (h' | ⟨h', _⟩) <;> omega
      · intro h'; omega
theorem less_total : ∀ (xs ys : List Int), xs.length = ys.length → (lessL xs ys || xs == ys) = !lessL ys xs
  | [], [], _ => rfl
  | x :: r, y :: q, hl => by
    have ih := less_total r q (by simpa using hl)
    rw [lessL, lessL]
    rcases Int.lt_trichotomy x y with h | h | h
    · rw [decide_eq_true h, decide_eq_false (by omega), show (y == x) = false from beq_eq_false_iff_ne.2 (by omega)]; rfl
    · subst h
      rw [decide_eq_false (by omega), beq_self_eq_true, Bool.false_or, Bool.true_and, Bool.false_or, Bool.true_and, ← ih]
      simp
    · rw [decide_eq_false (by omega), decide_eq_true h, show (x == y) = false from beq_eq_false_iff_ne.2 (by omega)]
      simp only [Bool.false_and, Bool.or_self, Bool.true_or, Bool.not_true, Bool.false_or]
      exact beq_eq_false_iff_ne.2 (fun e => by simp at e; omega)

/-- No nought ahead, unless it stands alone. -/
def canon : List Int → Prop
  | [] => False
  | [_] => True
  | x :: _ => x ≠ 48
theorem canon_low : ∀ (xs : List Int), isD xs → canon xs → 2 ≤ xs.length → 10 ^ (xs.length - 1) ≤ foldD 0 xs
  | [], _, h, _ => by cases h
  | [_], _, _, h => by simp at h
  | x :: y :: r, hd, hc, _ => by
    have hx := isD_head hd
    have hx' : x ≠ 48 := hc
    have b := foldD_lt (y :: r) (isD_tail hd)
    rw [foldD, foldD_pow, show (x :: y :: r).length - 1 = (y :: r).length from rfl]
    have hp := pow_pos' (y :: r).length
    generalize (10 : Int) ^ (y :: r).length = p at *
    have : 1 * p ≤ (10 * 0 + (x - 48)) * p := Int.mul_le_mul_of_nonneg_right (by omega) (by omega)
    omega
theorem pow_mono {a b : Nat} (h : a ≤ b) : (10 : Int) ^ a ≤ 10 ^ b := by
  obtain ⟨c, rfl⟩ := Nat.exists_eq_add_of_le h
  rw [Int.pow_add]
  have h1 := pow_pos' a
  have h2 := pow_pos' c
  have : (10 : Int) ^ a * 1 ≤ 10 ^ a * 10 ^ c := Int.mul_le_mul_of_nonneg_left (by omega) (by omega)
  omega
/-- The longer one of two rows without noughts ahead says the greater number. -/
theorem longer {xs ys : List Int} (hx : isD xs) (hy : isD ys) (cx : canon xs) (hl : ys.length < xs.length) (hp : 0 < ys.length) : foldD 0 ys < foldD 0 xs := by
  have h1 := canon_low xs hx cx (by omega)
  have h2 := (foldD_lt ys hy).2
  have h3 := pow_mono (show ys.length ≤ xs.length - 1 by omega)
  omega
theorem dec_canon (n : Nat) : canon (decN n) ∧ isD (decN n) := by
  refine ⟨?_, fun x hx => decN_in n x hx⟩
  have key : ∀ n, 10 ≤ n → ∃ x y r, decN n = x :: y :: r ∧ x ≠ 48 := by
    intro n
    induction n using Nat.strongRecOn with
    | _ n ih =>
      intro h
      rw [decN_big (by omega)]
      by_cases h2 : n / 10 < 10
      · rw [decN_small h2]
        exact ⟨_, _, [], rfl, by omega⟩
      · obtain ⟨x, y, r, e, hx⟩ := ih (n / 10) (by omega) (by omega)
        rw [e]
        exact ⟨x, y, _, rfl, hx⟩
  by_cases h : n < 10
  · rw [decN_small h]; trivial
  · obtain ⟨x, y, r, e, hx⟩ := key n (by omega)
    rw [e]
    exact hx

/-! ### The reference's Number -/
theorem refNum_sum (s : ByteArray) (hs : s.size ≤ 140737488351232) (hd : isD (bytesOf s)) (hf : foldD 0 (bytesOf s) ≤ 18446744073709551615) (d : Nat) : ∀ (i : Nat) (n : Int), i ≤ s.size → s.size - i = d → 0 ≤ n → foldD n ((bytesOf s).drop i) = foldD 0 (bytesOf s) →
    Ev (fun k => posthornref01_Number.l1 k s n (i : Int)) (foldD 0 (bytesOf s), 0) := by
  induction d with
  | zero =>
    intro i n h1 he h0 hn
    obtain rfl : i = s.size := by omega
    refine Ev.last fun k => ?_
    simp only [posthornref01_Number.l1]
    rw [List.drop_eq_nil_of_le (by rw [bytesOf_len]; exact Nat.le_refl _), foldD] at hn
    rw [if_neg (by omega), hn]
  | succ d ih =>
    intro i n h1 he h0 hn
    have hb : i < (bytesOf s).length := by rw [bytesOf_len]; omega
    have hx := hd _ (List.getElem_mem hb)
    have hrest : isD ((bytesOf s).drop (i + 1)) := fun x hx => hd x (List.mem_of_mem_drop hx)
    rw [drop_cons _ i hb, foldD] at hn
    rw [← bt_bytes s i hb] at hx hn
    have hge := foldD_ge _ (10 * n + (bt s (i : Int) - 48)) (by omega) hrest
    have key := ih (i + 1) (10 * n + (bt s (i : Int) - 48)) (by omega) (by omega) (by omega) hn
    refine Ev.round (f := fun k => posthornref01_Number.l1 k s (10 * n + (bt s (i : Int) - 48)) ((i + 1 : Nat) : Int)) (fun k => ?_) key
    simp only [posthornref01_Number.l1]
    rw [if_pos (by omega), if_pos (by omega), Int.emod_eq_of_lt (show 0 ≤ bt s (i : Int) - 48 by omega) (by omega), u64_id (10 * n) (by omega) (by omega), u64_id _ (by omega) (by omega), wrap_id _ (by omega) (by omega)]
    rfl

/-- Behind the noughts: the answer, of a row that has none ahead. -/
theorem refNum_j2 (s : ByteArray) (m : Nat) (hs : s.size ≤ 140737488351232) (hm : m < 18446744073709551616) (hd : isD (bytesOf s)) (hc : canon (bytesOf s)) :
    Ev (fun k => posthornref01_Number.j2 k s (m : Int)) (if foldD 0 (bytesOf s) > (m : Int) then (0, 5) else (foldD 0 (bytesOf s), 0)) := by
  obtain ⟨mc, md⟩ := dec_canon m
  have hpos : 0 < s.size := by
    rw [← bytesOf_len]
    cases h : bytesOf s with
    | nil => rw [h] at hc; cases hc
    | cons => simp
  have hml := decN_pos m
  have j3t : Ev (fun k => posthornref01_Number.j3 k s true) (0, 5) := Ev.last fun k => by simp only [posthornref01_Number.j3]; rfl
  have j3f : foldD 0 (bytesOf s) ≤ m → Ev (fun k => posthornref01_Number.j3 k s false) (foldD 0 (bytesOf s), 0) := fun h => by
    refine Ev.round (fun k => ?_) (refNum_sum s hs hd (by omega) s.size 0 0 (by omega) (by omega) (by omega) (by rw [List.drop_zero]))
    simp only [posthornref01_Number.j3]
    rw [if_neg (by decide)]
    rfl
  refine Ev.round (f := fun k => (posthornref01_Decimal.f k (m : Int)).bind fun t => if (s.size : Int) > (t.size : Int) then posthornref01_Number.j3 k s true else if (s.size : Int) = (t.size : Int) then posthornref01_Number.j3 k s (!(Op.bytesLess s.toList t.toList || s.toList == t.toList)) else posthornref01_Number.j3 k s false) (fun k => by simp only [posthornref01_Number.j2]) (Ev.bind (refDecimal_ev m hm) ?_)
  rw [decS_size]
  by_cases c1 : (decN m).length < s.size
  · have := longer hd md hc (by rw [bytesOf_len]; exact c1) hml
    rw [foldD_dec] at this
    rw [if_pos (by omega)]
    exact Ev.congr (fun k => by rw [if_pos (by omega)]) j3t
  by_cases c2 : s.size = (decN m).length
  · have hl : (bytesOf s).length = (decN m).length := by rw [bytesOf_len]; exact c2
    have hless := less_digits (decN m) (bytesOf s) hl.symm md hd
    rw [foldD_dec] at hless
    have hb : (!(Op.bytesLess s.toList (decS m).toList || s.toList == (decS m).toList)) = lessL (decN m) (bytesOf s) := by
      have e1 : s.data.toList.map (fun b : UInt8 => (b.toNat : Int)) = bytesOf s := rfl
      have e2 : (decS m).data.toList.map (fun b : UInt8 => (b.toNat : Int)) = decN m := decS_bytes m
      rw [beq_toList, toList_data, toList_data, less_bytes, e1, e2]
      rw [show decide (s = decS m) = (bytesOf s == decN m) from ?_, less_total _ _ hl, Bool.not_not]
      by_cases h : s = decS m
      · rw [decide_eq_true h, h, decS_bytes, beq_self_eq_true]
      · rw [decide_eq_false h]
        exact (beq_eq_false_iff_ne.2 fun e => h (bytesOf_inj (by rw [e, decS_bytes]))).symm
    by_cases h : lessL (decN m) (bytesOf s) = true
    · rw [if_pos (hless.1 h)]
      refine Ev.congr (fun k => ?_) j3t
      rw [if_neg (by omega), if_pos (by omega), hb, h]
    · have h' : lessL (decN m) (bytesOf s) = false := by simpa using h
      have hle : ¬ (m : Int) < foldD 0 (bytesOf s) := fun e => h (hless.2 e)
      rw [if_neg hle]
      refine Ev.congr (fun k => ?_) (j3f (by omega))
      rw [if_neg (by omega), if_pos (by omega), hb, h']
  · have hl := longer md hd mc (by rw [bytesOf_len]; omega) (by rw [bytesOf_len]; exact hpos)
    rw [foldD_dec] at hl
    rw [if_neg (by omega)]
    exact Ev.congr (fun k => by rw [if_neg (by omega), if_neg (by omega)]) (j3f (by omega))

theorem refNum_l0 (m : Nat) (hm : m < 18446744073709551616) : ∀ (n : Nat) (s : ByteArray), s.size = n → s.size ≤ 140737488351232 → 0 < s.size → isD (bytesOf s) →
    Ev (fun k => posthornref01_Number.l0 k s (m : Int)) (if foldD 0 (bytesOf s) > (m : Int) then (0, 5) else (foldD 0 (bytesOf s), 0)) := by
  intro n
  induction n with
  | zero => intro s he _ hp; omega
  | succ n ih =>
    intro s he hs hp hd
    have hb : 0 < (bytesOf s).length := by rw [bytesOf_len]; exact hp
    obtain ⟨x, r, hxr⟩ : ∃ x r, bytesOf s = x :: r := by
      cases h : bytesOf s with
      | nil => rw [h] at hb; cases hb
      | cons x r => exact ⟨x, r, rfl⟩
    have hx0 : bt s 0 = x := by
      have := bt_bytes s 0 hb
      rw [show ((0 : Nat) : Int) = 0 from rfl] at this
      rw [this]
      simp [hxr]
    by_cases c1 : s.size = 1
    · have hc : canon (bytesOf s) := by
        have hl : (bytesOf s).length = 1 := by rw [bytesOf_len]; exact c1
        rw [hxr] at hl ⊢
        obtain rfl : r = [] := List.eq_nil_of_length_eq_zero (by simpa using hl)
        trivial
      refine Ev.round (fun k => ?_) (refNum_j2 s m hs hm hd hc)
      simp only [posthornref01_Number.l0]
      rw [if_neg (by omega)]
    · by_cases c2 : x = 48
      · have hsz : (s.extract 1 s.size).size = n := by simp; omega
        have hbs : bytesOf (s.extract 1 s.size) = r := by
          rw [extract_bytes, hxr, List.drop_one, List.tail_cons, List.take_of_length_le]
          have := bytesOf_len s
          rw [hxr, List.length_cons] at this
          omega
        have key := ih (s.extract 1 s.size) hsz (by omega) (by omega) (by rw [hbs]; rw [hxr] at hd; exact isD_tail hd)
        rw [hbs] at key
        have hf : foldD 0 (bytesOf s) = foldD 0 r := by rw [hxr, foldD, c2]; rfl
        rw [hf]
        refine Ev.round (fun k => ?_) key
        simp only [posthornref01_Number.l0]
        rw [if_pos (by omega), if_pos (by omega), hx0, if_pos c2, if_pos (by omega)]
      · have hc : canon (bytesOf s) := by
          rw [hxr]
          cases r with
          | nil => trivial
          | cons => exact c2
        refine Ev.round (fun k => ?_) (refNum_j2 s m hs hm hd hc)
        simp only [posthornref01_Number.l0]
        rw [if_pos (by omega), if_pos (by omega), hx0, if_neg c2]

theorem refNumber_ev (s : ByteArray) (m : Nat) (hs : s.size ≤ 140737488351232) (hm : m < 18446744073709551616) : Ev (fun k => posthornref01_Number.f k s (m : Int)) (numR s (m : Int)) := by
  unfold posthornref01_Number.f numR
  have hr := run_le 2 (bytesOf s)
  rw [bytesOf_len] at hr
  have j0t : Ev (fun k => posthornref01_Number.j0 k s (m : Int) true) (0, 10) := Ev.last fun k => by simp only [posthornref01_Number.j0]; rfl
  by_cases c1 : s.size < 1
  · rw [if_pos (Or.inl c1)]
    exact Ev.congr (fun k => by rw [if_pos (by omega)]) j0t
  by_cases c2 : 20 < s.size
  · rw [if_pos (Or.inr (Or.inl c2))]
    exact Ev.congr (fun k => by rw [if_neg (by omega), if_pos (by omega)]) j0t
  refine Ev.congr (f := fun k => (posthornref01_Bad.f k 2 s).bind fun t => posthornref01_Number.j0 k s (m : Int) (decide (t < (s.size : Int)))) (fun k => by rw [if_neg (by omega), if_neg (by omega)]) (Ev.bind (refBad_ev 2 s hs) ?_)
  by_cases c3 : run 2 (bytesOf s) < s.size
  · rw [if_pos (Or.inr (Or.inr c3)), decide_eq_true (by omega)]
    exact j0t
  · rw [if_neg (by omega), decide_eq_false (by omega)]
    have hd := isD_of (bytesOf_in s) (run_all' (by rw [bytesOf_len]; omega))
    refine Ev.round (fun k => ?_) (refNum_l0 m hm s.size s rfl hs (by omega) hd)
    simp only [posthornref01_Number.j0]
    rw [if_neg (by decide)]
end Go.Proofs.YtfljmojiglkckaaDoor.Nm
